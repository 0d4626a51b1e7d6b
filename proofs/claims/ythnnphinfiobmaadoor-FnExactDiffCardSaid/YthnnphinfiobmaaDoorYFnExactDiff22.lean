/- Own texts, joined. -/
import Derived.Test.YthnnphinfiobmaaDoorYFnExactDiff27
import Derived.Test.YthnnphinfiobmaaDoorYFnExactDiff28
import Derived.Test.YthnnphinfiobmaaDoorYFnExactDiff21
import Derived.Deep.AppendSrc
import Derived.Test.YthnnphinfiobmaaDoorYFnExactDiff19
import Derived.Lib.BufferOwn
import Derived.Lib.BufferWrite
import Derived.Laws.Rows
import Derived.StillTailTactics
import Derived.IntWalk
import Derived.Laws.NewBlocks
import Derived.Deep.LoopGhost
import Derived.Lib.Builder
import Derived.Lib.AppendStr
import Derived.Lib.UnsafeStr
import Derived.Lib.Walk
import Derived.Laws.Externs
import Derived.Deep.RegionHeld3
import Derived.Lib.SliceRun
import Derived.Maps.OwnSet
import Derived.DeepKeys4
section
namespace Go.Proofs.YthnnphinfiobmaaDoor.Z
open RowKit YthnnphinfiobmaaDoor YthnnphinfiobmaaDoorW.PrintWords YthnnphinfiobmaaDoorW.PrintLast
set_option linter.all false
def zerosN (n : Nat) : Nat := (119 - n % 64) % 64
theorem zerosN_lt (n : Nat) : zerosN n < 64 := by unfold zerosN; omega
theorem zerosN_mod (n : Nat) : (n + 1 + zerosN n) % 64 = 56 := by unfold zerosN; omega
def lenByte (n j : Nat) : UInt8 := UInt8.ofNat (8 * n / 2 ^ (8 * (7 - j)))
def lenB (n m : Nat) : List UInt8 := (List.range m).map (lenByte n)
theorem lenB_succ (n m : Nat) : lenB n (m + 1) = lenB n m ++ [lenByte n m] := by simp [lenB, List.range_succ]
theorem lenB_length (n m : Nat) : (lenB n m).length = m := by simp [lenB]
def padZ (l : List UInt8) (j : Nat) : List UInt8 := l ++ [128] ++ List.replicate j 0
theorem padZ_length (l : List UInt8) (j : Nat) : (padZ l j).length = l.length + 1 + j := by simp [padZ]; omega
theorem padZ_succ (l : List UInt8) (j : Nat) : padZ l (j + 1) = padZ l j ++ [0] := by simp [padZ, List.replicate_succ']
def padP (l : List UInt8) : List UInt8 := padZ l (zerosN l.length) ++ lenB l.length 8
theorem padP_length (l : List UInt8) : (padP l).length = 64 * ((l.length + 72) / 64) := by
 rw [padP, List.length_append, padZ_length, lenB_length]; unfold zerosN; omega
theorem infoU8 : (Tryd.prog.info? 5).map (fun i => (i.zero, i.size, i.bytes)) = some (some (.int .u8 0), 1, 1) := by kernel_rfl
theorem len_byte_eq (n i : Nat) (hi : i ≤ 7) (hn : n ≤ 4294967296) : (((8 * n : Nat) : Int) / 2 ^ (8 * i)) % 256 = ((lenByte n (7 - i)).toNat : Int) := by
 unfold lenByte; rw [show 7 - (7 - i) = i by omega, UInt8.toNat_ofNat']; rw [show ((2 : Int) ^ (8 * i)) = ((2 ^ (8 * i) : Nat) : Int) by rw [Int.natCast_pow]; rfl]; rw [← Int.natCast_ediv]; generalize 8 * n / 2 ^ (8 * i) = q; omega
set_option maxHeartbeats 1000000 in
theorem padded_any (s : ByteArray) (w : World) (hs : s.size ≤ 4294967296) :
  Calls Tryd.prog 110 #[.string s] w fun e w' => ∃ v, e = .returned v ∧ OwnB w' w.heap.size v (padP s.data.toList) ∧ Below w.heap.size w w' := by
 have hl : s.data.toList.length = s.size := rfl; have hzl := zerosN_lt s.size; have hzm := zerosN_mod s.size; have HL := Lib.hid hl; clear hl; have HZM := Lib.hid hzm; clear hzm
 go_enter Tryd.func110, Tryd.ntmps110
 go_wp2_with (first | ((with_reducible refine gate_dst (N := 7) rfl ?_); refine wpList_bytes w.heap.size rfl 9 133 5 _ rfl Tryd.underlying9 Tryd.underlying133 Tryd.underlying5 s rfl (by first | assumption | (simp; omega) | omega) (by unfold maxLen; omega) ?_; rintro v_wb wb ho_wb hv_wb hb_wb; obtain ⟨hc_wb, hf_wb⟩ := bcell hb_wb; have hz_wb := hb_wb.size; (try simp only [World.size_alloc, World.size_setCell, World.size_drew] at hz_wb); (try simp only [World.size_alloc, World.size_setCell, World.size_drew] at hc_wb); (try simp only [World.size_alloc, World.size_setCell, World.size_drew] at hf_wb); skip) | ((with_reducible refine gate_dst (N := 10) rfl ?_); refine wpList_appB1 (w0 := wb) w.heap.size rfl _ _ 133 5 rfl Tryd.underlying133 infoU8 rfl 128 rfl rfl ho_wb (by have := HL.out; omega) (by omega) ?_; rintro v1 w1 ho1 hb1))
 go_loopw [3] (fun v wr => ∃ j : Nat, j ≤ zerosN s.size ∧ OwnB wr w.heap.size v (padZ s.data.toList j) ∧ Below w.heap.size w wr) (fun v _ => match v with | .slice _ n _ => s.size + 1 + zerosN s.size - n | _ => 0)
 case atStart => exact ⟨0, Nat.zero_le _, by simpa [padZ] using ho1, hb_wb.trans hb1⟩
 case round =>
  obtain ⟨j, hj, hO, hB⟩ := hrel; obtain ⟨A5, c5, rfl⟩ := hO.form; have hz := hB.size; have hpl := padZ_length s.data.toList j; rw [HL.out] at hpl; rw [hpl] at hO ⊢; have HPL := Lib.hid hpl; clear hpl
  by_cases hlt : j < zerosN s.size
  ·have hne : (((s.size : Int) + 1 + (j : Int)) % 64 != 56) = true := by rw [bne_iff_ne]; have := HZM.out; unfold zerosN at *; omega
   go_wp2_with ((with_reducible refine gate_dst (N := 17) rfl ?_); refine wpList_appB1 (w0 := wr) w.heap.size rfl _ _ 133 5 rfl Tryd.underlying133 infoU8 rfl 0 rfl rfl hO (by have := HPL.out; omega) (by omega) ?_; rintro v2 w2 ho2 hb2)
   obtain ⟨A6, c6, hv6⟩ := ho2.form; subst hv6
   go_roundw
   case rel => exact ⟨j + 1, by omega, by rw [padZ_succ]; exact ho2, hB.trans hb2⟩
   case measure => rw [List.length_append, HPL.out]; simp; omega
  ·obtain rfl : j = zerosN s.size := by omega
   have hne : (((s.size : Int) + 1 + (zerosN s.size : Int)) % 64 != 56) = false := by rw [bne_eq_false_iff_eq]; have := HZM.out; omega
   generalize hzz : zerosN s.size = zz at *; have HZZ := Lib.hid hzz; clear hzz
   go_wp2
   go_loopw [3, 5] (fun v i wr2 => ∃ m : Nat, m ≤ 8 ∧ i = .int .i64 (7 - (m : Int)) ∧ OwnB wr2 w.heap.size v (padZ s.data.toList zz ++ lenB s.size m) ∧ Below w.heap.size w wr2) (fun _ i _ => (intOf i + 1).toNat)
   case atStart => exact ⟨0, by omega, rfl, by simpa [lenB] using hO, hB⟩
   case round =>
    obtain ⟨m, hm, rfl, hO2, hB2⟩ := hrel; have hz2 := hB2.size; obtain ⟨A7, c7, rfl⟩ := hO2.form; have hl2 : (padZ s.data.toList zz ++ lenB s.size m).length = s.size + 1 + zz + m := by rw [List.length_append, HPL.out, lenB_length]
    rw [hl2] at hO2 ⊢; have HL2 := Lib.hid hl2; clear hl2
    by_cases h8 : m < 8
    ·have t0 : (0 : Int) ≤ 7 - (m : Int) := by omega
     have hbyte : (s.size : Int) * 8 / 2 ^ (8 * (7 - m)) % 256 = ((lenByte s.size m).toNat : Int) := by
      have := len_byte_eq s.size (7 - m) (by omega) hs; rw [show 7 - (7 - m) = m by omega, show ((8 * s.size : Nat) : Int) = (s.size : Int) * 8 by omega] at this; exact this
     go_wp2_with ((with_reducible refine gate_dst (N := 34) rfl ?_); refine wpList_appB1 (w0 := wr) w.heap.size rfl _ _ 133 5 rfl Tryd.underlying133 infoU8 rfl (lenByte s.size m) rfl rfl hO2 (by have := HL2.out; omega) (by omega) ?_; rintro v3 w3 ho3 hb3)
     obtain ⟨A8, c8, hv8⟩ := ho3.form; subst hv8; clear hbyte
     go_roundw
     case rel => exact ⟨m + 1, by omega, by go_num, by rw [lenB_succ, ← List.append_assoc]; exact ho3, hB2.trans hb3⟩
     case measure => simp [intOf]; omega
    ·obtain rfl : m = 8 := by omega
     go_wp2
     go_ret
     refine ⟨_, rfl, ?_, hB2⟩; have := HZZ.out; rw [padP, HL.out, this]; exact hO2
def ints (l : List UInt8) : List Int := l.map fun b => (b.toNat : Int)
theorem ints_length (l : List UInt8) : (ints l).length = l.length := by simp [ints]
def RB (w : World) (v : Value) (xs : List Int) : Prop := ∃ base l, OwnB w base v l ∧ xs = ints l
section
variable {w w1 : World} {v : Value} {xs : List Int}
theorem RB.below (h : RB w v xs) (hb : Below w.heap.size w w1) : RB w1 v xs := by
 obtain ⟨b, l, h1, h2⟩ := h; exact ⟨b, l, h1.below hb, h2⟩
theorem RB.alloc (h : RB w v xs) (o : Obj) : RB (w.alloc o) v xs := h.below (below_alloc (Below.refl _ _) o)
theorem RB.drew (h : RB w v xs) : RB w.drew v xs := h.below (below_drew (Below.refl _ _))
theorem RB.drewN (h : RB w v xs) (m : Nat) : RB (w.drewN m) v xs := h.below (pw_below_drewN (Below.refl _ _) m)
theorem RB.lower {a b : Nat} (h : RB w v xs) (_ : a ≤ b) : RB w v xs := h
theorem RB.slice (h : RB w v xs) : ∃ A c, v = .slice A xs.length c := by
 obtain ⟨b, l, h1, rfl⟩ := h; obtain ⟨A, c, rfl⟩ := h1.form; exact ⟨A, c, by rw [ints_length]⟩
theorem RB.reads {A : Option Addr} {n c : Nat} (h : RB w (.slice A n c) xs) : n = xs.length ∧ n ≤ c ∧ Kd.C (Kd.int .u8) w A xs.length xs := by
 obtain ⟨b, l, h1, rfl⟩ := h
 rcases h1.2 with ⟨hv, h0⟩ | ⟨g, cap, hv, h1', h2, h3, h4, h5, h6⟩
 ·cases hv
  rw [ints_length]; refine ⟨by omega, Nat.le_refl _, ?_⟩; have : l = [] := List.eq_nil_of_length_eq_zero h0; subst this; exact Kd.C_of_reads (d := (0 : Int)) (h1 := fun _ => rfl) (show ReadsInt w .u8 none 0 [] from ⟨rfl, by omega, fun h => by omega⟩)
 ·cases hv
  rw [ints_length]; refine ⟨rfl, h3, ?_⟩; refine Kd.C_of_reads (d := (0 : Int)) (h1 := fun _ => rfl) (show ReadsInt w .u8 (some ⟨g, 0, none⟩) l.length (ints l) from ⟨ints_length l, by unfold maxLen at h4; omega, fun _ => ⟨_, rfl, fun i hi => ?_⟩⟩); have h5' := h5 i (by omega); rw [bcs_get l i hi] at h5'; have e : (⟨g, 0, none⟩ : Addr).add i = ⟨g, i, none⟩ := by simp [Addr.add]; omega
  rw [e, h5']; simp [ints, List.getD_eq_getElem?_getD, hi]
end
def spec_l1Padded.f (a0 : ByteArray) : Option (List Int) := if a0.size ≤ 4294967296 then some (ints (padP a0.data.toList)) else none
theorem spec_l1Padded.calls (a0 : ByteArray) (r : List Int) (w : World) (h : spec_l1Padded.f a0 = some r) :
  Calls Tryd.prog 110 #[.string a0] w fun e w' => ∃ v0_ : Value, e = .returned (v0_) ∧ RB w' v0_ r ∧ Below w.heap.size w w' := by
 unfold spec_l1Padded.f at h
 split at h
 ·obtain rfl := Option.some.inj h; refine (padded_any a0 w (by assumption)).mono ?_; rintro e w' ⟨v, rfl, ho, hb⟩; exact ⟨v, rfl, ⟨_, _, ho, rfl⟩, hb⟩
 ·cases h
end Go.Proofs.YthnnphinfiobmaaDoor.Z
end
section
namespace Go.Proofs.YthnnphinfiobmaaDoor.Z
open RowKit YthnnphinfiobmaaDoorW.PrintWords YthnnphinfiobmaaDoorW.PrintLast YthnnphinfiobmaaDoorW.PrintMore
attribute [local go_sem] max2_int min2_int max_two min_two max_three min_three max_four min_four
set_option linter.all false
mutual
def spec_Sha256.l0 : Nat → List Int → List Int → List Int → Int → Option (ByteArray)
 | 0, _, _, _, _ => none
 | k + 1, x3, x4, x5, x6 => if x6 < (x5.length : Int) then ((spec_l1Block.f k x3 x4 x5 x6).bind fun t900010 => (spec_Sha256.l0 k t900010 x4 x5 (wrap64 (x6 + 64)))) else (spec_Sha256.l1 k x3 (([] : List Int)) 0)
def spec_Sha256.l1 : Nat → List Int → List Int → Int → Option (ByteArray)
 | 0, _, _, _ => none
 | k + 1, x3, x7, x8 => if x8 < 8 then (if 0 ≤ x8 then (if x8 < (x3.length : Int) then ((some (([((rd x3 x8) / 16777216) % 256, ((rd x3 x8) / 65536) % 256, ((rd x3 x8) / 256) % 256, (rd x3 x8) % 256] : List Int) : List Int)).bind fun y900020 => (if x7.length + y900020.length < 140737488355328 then (spec_Sha256.l1 k x3 (x7 ++ y900020) (wrap64 (x8 + 1))) else (none))) else (none)) else (none)) else (some (strOfNums x7))
end
def spec_Sha256.f (k : Nat) (a0 : ByteArray) : Option (ByteArray) := (spec_l1K.f).bind fun t900004 => ((spec_l1Padded.f a0).bind fun t900007 => (spec_Sha256.l0 k (([1779033703, 3144134277, 1013904242, 2773480762, 1359893119, 2600822924, 528734635, 1541459225] : List Int)) t900004 t900007 0))
def spec_Sha256.T12 : Bool × List (List Nat × List Nat) := (true, [([], []), ([], []), ([], []), ([1, 2], [1, 2]), ([3], [3]), ([4], [4]), ([5], [5]), ([], []), ([], []), ([7, 8], [7, 8]), ([9], [9]), ([10], [10]), ([11], [11]), ([], []), ([], []), ([13, 14], [13, 14]), ([15], [15]), ([16], [16]), ([17], [17]), ([], []), ([], []), ([19, 20], [19, 20]), ([21], [21]), ([22], [22]), ([6, 12, 18, 23], [6, 12, 18, 23]), ([0, 24], [0, 24]), ([25, 25, 0, 1, 2, 3, 4, 5, 6, 7, 8, 9, 10, 11, 12, 13, 14, 15, 16, 17, 18, 19, 20, 21, 22, 23, 24, 25], [0, 25])])
def spec_Sha256.B12 : List Nat := [0, 0, 0, 6, 14, 30, 62, 0, 0, 384, 896, 1920, 3968, 0, 0, 24576, 57344, 122880, 253952, 0, 0, 1572864, 3670016, 7864320, 16777214, 33554431, 67108863]
theorem spec_Sha256.tab12 : rtab .any (opsOf Tryd.f90 12) = spec_Sha256.T12 := by kernel_rfl
theorem spec_Sha256.bits12 : waitsOk spec_Sha256.T12.2 spec_Sha256.B12 = true := by kernel_rfl
set_option maxHeartbeats 8000000 in
set_option maxRecDepth 100000 in
theorem spec_Sha256.calls (k : Nat) (a0 : ByteArray) (r : ByteArray) (w : World) (h : spec_Sha256.f k a0 = some r) :
  Calls Tryd.prog 90 #[.string a0] w fun e w' => e = .returned (.string r) ∧ Below w.heap.size w w' := by
 have HB := Aside0.mk (Below.refl w.heap.size w); have H : ((spec_l1K.f).bind fun t900004 => ((spec_l1Padded.f a0).bind fun t900007 => (spec_Sha256.l0 k (([1779033703, 3144134277, 1013904242, 2773480762, 1359893119, 2600822924, 528734635, 1541459225] : List Int)) t900004 t900007 0))) = some r := h; clear h; obtain ⟨y900001, hy900001⟩ : ∃ y_ : List Int, y_ = (([1779033703, 3144134277, 1013904242, 2773480762, 1359893119, 2600822924, 528734635, 1541459225] : List Int)) := ⟨_, rfl⟩
 replace H : ((spec_l1K.f).bind fun t900004 => ((spec_l1Padded.f a0).bind fun t900007 => (spec_Sha256.l0 k y900001 t900004 t900007 0))) = some r := by first | (rw [hy900001]; with_reducible exact H) | (have H2_ := (Option.bind_some _ _).symm.trans H; rw [hy900001]; with_reducible exact H2_) | (have H2_ := (Option.bind_some _ _).symm.trans H; with_reducible exact H2_) | with_reducible exact H | (rw [hy900001]; exact H) | exact H
 have Ny900001 := Aside0.mk hy900001; clear hy900001; replace H := Option.bind_eq_some_iff.mp H; obtain ⟨t900004, A20, H⟩ := H; (try dsimp only at H); have A2 := Aside0.mk A20; clear A20; replace H := Option.bind_eq_some_iff.mp H; obtain ⟨t900007, A30, H⟩ := H; (try dsimp only at H); have A3 := Aside0.mk A30; clear A30; have H' := Aside0.mk H; clear H
 go_enter Tryd.func90, Tryd.ntmps90
 go_wp2_with (first | ((with_reducible refine gate_dst (N := 9) rfl ?_); refine Kd.R_lit (Kd.int .u32) _ 142 ?hg (N := 9) ?hd (xs := ([1779033703, 3144134277, 1013904242, 2773480762, 1359893119, 2600822924, 528734635, 1541459225] : List Int)) (inner := [.int .u32 1779033703, .int .u32 3144134277, .int .u32 1013904242, .int .u32 2773480762, .int .u32 1359893119, .int .u32 2600822924, .int .u32 528734635, .int .u32 1541459225]) (ok := fun _ => True) (okp := fun _ => True) ?hr ?hp (fun _ hk => hk) trivial (Below.refl _ _) (Nat.le_refl _) (by simp) ?_; (case hd => rfl); (case hg => rfl); (case hr => exact zq_13); (case hp => exact (Reps.one (show Kd.M (Kd.int .u32) _ _ _ 1779033703 [.int .u32 1779033703] from rfl) (Reps.one (show Kd.M (Kd.int .u32) _ _ _ 3144134277 [.int .u32 3144134277] from rfl) (Reps.one (show Kd.M (Kd.int .u32) _ _ _ 1013904242 [.int .u32 1013904242] from rfl) (Reps.one (show Kd.M (Kd.int .u32) _ _ _ 2773480762 [.int .u32 2773480762] from rfl) (Reps.one (show Kd.M (Kd.int .u32) _ _ _ 1359893119 [.int .u32 1359893119] from rfl) (Reps.one (show Kd.M (Kd.int .u32) _ _ _ 2600822924 [.int .u32 2600822924] from rfl) (Reps.one (show Kd.M (Kd.int .u32) _ _ _ 528734635 [.int .u32 528734635] from rfl) (Reps.one (show Kd.M (Kd.int .u32) _ _ _ 1541459225 [.int .u32 1541459225] from rfl) (Reps.none _ _)))))))))); intro v900002 w4 ho5 hb hg_ hnew_; clear hg_ hnew_; (first | rw [← Ny900001.out] at ho5 | (simp only [Int.reduceToNat] at ho5; rw [← Ny900001.out] at ho5)); have n0_ := Aside0.mk (Kd.R_lower ho5 (below_size zq_0)); have n1_ := Aside0.mk (below_step zq_0 hb); clear HB; have HO900003 := n0_; have HB := n1_; clear n0_ n1_; clear hb ho5) | ((with_reducible refine gate_callee (f := 109) rfl ?_); refine goesL_ (some 10) rfl rfl Tryd.func109 (by kernel_rfl) rfl #[] rfl zq_1 ?_; (with_reducible refine (spec_l1K.calls  t900004 _ A2.out).mono ?_); rintro e w6 ⟨v900005, rfl, ho0, hb⟩; refine ⟨_, rfl, ?_⟩; have n0_ := Aside0.mk (Kd.R_elder' zq_63 (Kd.R_base ho0) hb); have n1_ := Aside0.mk (Kd.R_lower (Kd.R_new' ho0 (Kd.R_lt zq_63)) (below_size zq_0)); have n2_ := Aside0.mk (below_step zq_0 hb); clear HO900003; clear HB; have HO900003 := n0_; have HO900006 := n1_; have HB := n2_; clear n0_ n1_ n2_; (try clear hb); (try clear hb2); (try clear hk); (try clear hi); (try clear ho0)) | ((with_reducible refine gate_callee (f := 110) rfl ?_); refine goesL_ (some 12) rfl rfl Tryd.func110 (by kernel_rfl) rfl #[.string a0] rfl zq_1 ?_; (with_reducible refine (spec_l1Padded.calls a0 t900007 _ A3.out).mono ?_); rintro e w7 ⟨v900008, rfl, ho0, hb⟩; refine ⟨_, rfl, ?_⟩; have n0_ := Aside0.mk (Kd.R_below zq_63 hb); have n1_ := Aside0.mk (Kd.R_below (by (with_reducible repeat (first | apply RB.alloc | apply RB.drewN | apply RB.drew | apply Kd.R_alloc | apply Kd.R_drewN | apply Kd.R_drew)); exact HO900006.out) hb); have n2_ := Aside0.mk (RB.lower ho0 (below_size zq_0)); have n3_ := Aside0.mk (below_step zq_0 hb); clear HO900003; clear HO900006; clear HB; have HO900003 := n0_; have HO900006 := n1_; have HO900009 := n2_; have HB := n3_; clear n0_ n1_ n2_ n3_; (try clear hb); (try clear hb2); (try clear hk); (try clear hi); (try clear ho0)))
 go_loopg [3, 6] k (fun kq v3 v6 w' => ∃ (x3_1 : List Int) (x6_1 : Int), v6 = .int .i64 x6_1 ∧ Aside0 (spec_Sha256.l0 kq x3_1 t900004 t900007 x6_1 = some r) ∧ Aside0 (kq ≤ k) ∧ Aside0 (Kd.R (Kd.int .u32) 142 w' w.heap.size (fun k_ => some k_ ≠ (v900005 : Value).ownBlock) v3 x3_1) ∧ Aside0 (Kd.R (Kd.int .u32) 142 w' w.heap.size (fun k_ => some k_ ≠ (v3 : Value).ownBlock) v900005 t900004) ∧ Aside0 (RB w' v900008 t900007) ∧ Aside0 (Below w.heap.size w w'))
 case atStart => exact ⟨(y900001), (0), zq_6, H', ⟨Nat.le_refl _⟩, ⟨by (with_reducible repeat (first | apply RB.alloc | apply RB.drewN | apply RB.drew | apply Kd.R_alloc | apply Kd.R_drewN | apply Kd.R_drew)); exact Kd.R_mono HO900003.out (fun _ hk => hk.2)⟩, ⟨by (with_reducible repeat (first | apply RB.alloc | apply RB.drewN | apply RB.drew | apply Kd.R_alloc | apply Kd.R_drewN | apply Kd.R_drew)); exact Kd.R_mono HO900006.out (fun _ hk => hk.2)⟩, ⟨by (with_reducible repeat (first | apply RB.alloc | apply RB.drewN | apply RB.drew | apply Kd.R_alloc | apply Kd.R_drewN | apply Kd.R_drew)); exact HO900009.out⟩, ⟨by repeat (first | (with_reducible first | exact HB.out | apply below_alloc | apply pw_below_drewN | apply below_drew1) | exact HB.out)⟩⟩
 case round =>
  clear H'
  try clear c1
  try clear p2
  obtain ⟨x3_1, x6_1, rfl, HA, HK1, HO_3, HO_4, HO_5, HB⟩ := hrel
  cases gk with
  | zero => exact absurd HA.out (by simp [spec_Sha256.l0])
  | succ k1 =>
   have H := HA.out; clear HA; simp only [spec_Sha256.l0] at H
   by_cases c8 : x6_1 < (t900007.length : Int)
   ·rw [if_pos c8] at H; have c8b0 : decide (x6_1 < (t900007.length : Int)) = true := decide_eq_true c8; clear c8; replace H := Option.bind_eq_some_iff.mp H; obtain ⟨t900010, A90, H⟩ := H; (try dsimp only at H); have A9 := Aside0.mk A90; clear A90; have H' := Aside0.mk H; clear H; obtain ⟨Ao10, co10, eo10⟩ := RB.slice HO_5.out; subst eo10; obtain ⟨Ao11, co11, eo11⟩ := Kd.R_slice HO_3.out; subst eo11; obtain ⟨Ao12, co12, eo12⟩ := Kd.R_slice HO_4.out; subst eo12
    go_wp2_with (first | ((with_reducible refine gate_callee (f := 111) rfl ?_); refine goesL_ (some 23) rfl rfl Tryd.func111 (by kernel_rfl) rfl #[.slice Ao11 x3_1.length co11, .slice Ao12 t900004.length co12, .slice Ao10 t900007.length co10, .int .i64 x6_1] rfl zq_1 ?_; (with_reducible refine (spec_l1Block.calls k1 _ _ x3_1 _ _ t900004 _ _ t900007 x6_1 t900010 _ ?side1 ?side2 ?side3 ?side4 ?side5 ?side6 A9.out).mono ?_); (case side1 => repeat (first | exact (Kd.R_reads' HO_3.out).2.2 | (with_reducible refine Kd.C_alloc ?_ _) | (with_reducible refine Kd.C_drewN ?_ _) | (with_reducible refine Kd.C_drew ?_))); (case side2 => exact (Kd.R_reads' HO_3.out).2.1); (case side3 => repeat (first | exact (Kd.R_reads' HO_4.out).2.2 | (with_reducible refine Kd.C_alloc ?_ _) | (with_reducible refine Kd.C_drewN ?_ _) | (with_reducible refine Kd.C_drew ?_))); (case side4 => exact (Kd.R_reads' HO_4.out).2.1); (case side5 => repeat (first | exact (RB.reads HO_5.out).2.2 | (with_reducible refine Kd.C_alloc ?_ _) | (with_reducible refine Kd.C_drewN ?_ _) | (with_reducible refine Kd.C_drew ?_))); (case side6 => exact (RB.reads HO_5.out).2.1); rintro e w13 ⟨v900011, rfl, ho0, hb⟩; refine ⟨_, rfl, ?_⟩; have n0_ := Aside0.mk (Kd.R_elder' zq_39 (Kd.R_base ho0) hb); have n1_ := Aside0.mk (Kd.R_elder' zq_64 (Kd.R_base ho0) hb); have n2_ := Aside0.mk (RB.below (by (with_reducible repeat (first | apply RB.alloc | apply RB.drewN | apply RB.drew | apply Kd.R_alloc | apply Kd.R_drewN | apply Kd.R_drew)); exact HO_5.out) hb); have n3_ := Aside0.mk (Kd.R_lower (Kd.R_new' (Kd.R_new' ho0 (Kd.R_lt zq_39)) (Kd.R_lt zq_64)) (below_size zq_0)); have n4_ := Aside0.mk (below_step zq_0 hb); clear HO_3; clear HO_4; clear HO_5; clear HB; have HO_3 := n0_; have HO_4 := n1_; have HO_5 := n2_; have HO900012 := n3_; have HB := n4_; clear n0_ n1_ n2_ n3_ n4_; (try clear hb); (try clear hb2); (try clear hk); (try clear hi); (try clear ho0)))
    go_roundg k1
    case measure => have := HK1.out; omega
    case rel => exact ⟨(t900010), (wrap64 (x6_1 + 64)), zq_6, H', ⟨by have := HK1.out; omega⟩, ⟨by (with_reducible repeat (first | apply RB.alloc | apply RB.drewN | apply RB.drew | apply Kd.R_alloc | apply Kd.R_drewN | apply Kd.R_drew)); exact Kd.R_mono HO900012.out (fun _ hk => hk.2)⟩, ⟨by (with_reducible repeat (first | apply RB.alloc | apply RB.drewN | apply RB.drew | apply Kd.R_alloc | apply Kd.R_drewN | apply Kd.R_drew)); exact Kd.R_mono HO_4.out (fun _ hk => hk.2)⟩, ⟨by (with_reducible repeat (first | apply RB.alloc | apply RB.drewN | apply RB.drew | apply Kd.R_alloc | apply Kd.R_drewN | apply Kd.R_drew)); exact HO_5.out⟩, ⟨by repeat (first | (with_reducible first | exact HB.out | apply below_alloc | apply pw_below_drewN | apply below_drew1) | exact HB.out)⟩⟩
   ·rw [if_neg c8] at H; have c8b0 : decide (x6_1 < (t900007.length : Int)) = false := decide_eq_false c8; clear c8; obtain ⟨y900013, hy900013⟩ : ∃ y_ : List Int, y_ = (([] : List Int)) := ⟨_, rfl⟩
    replace H : (spec_Sha256.l1 k1 x3_1 y900013 0) = some r := by first | (rw [hy900013]; with_reducible exact H) | (have H2_ := (Option.bind_some _ _).symm.trans H; rw [hy900013]; with_reducible exact H2_) | (have H2_ := (Option.bind_some _ _).symm.trans H; with_reducible exact H2_) | with_reducible exact H | (rw [hy900013]; exact H) | exact H
    have Ny900013 := Aside0.mk hy900013; clear hy900013; have H' := Aside0.mk H; clear H; obtain ⟨Ao14, co14, eo14⟩ := RB.slice HO_5.out; subst eo14
    go_wp2_with (first | ((with_reducible refine gate_dst (N := 24) rfl ?_); refine Kd.R_lit (Kd.int .u8) _ 5 ?hg (N := 24) ?hd (xs := ([] : List Int)) (inner := []) (ok := fun _ => True) (okp := fun _ => True) ?hr ?hp (fun _ hk => hk) trivial (Below.refl _ _) (Nat.le_refl _) (by simp) ?_; (case hd => rfl); (case hg => rfl); (case hr => exact zq_13); (case hp => exact (Reps.none _ _)); intro v900014 w15 ho16 hb hg_ hnew_; clear hg_ hnew_; (first | rw [← Ny900013.out] at ho16 | (simp only [Int.reduceToNat] at ho16; rw [← Ny900013.out] at ho16)); have n0_ := Aside0.mk (Kd.R_below zq_39 hb); have n1_ := Aside0.mk (Kd.R_below zq_64 hb); have n2_ := Aside0.mk (RB.below (by (with_reducible repeat (first | apply RB.alloc | apply RB.drewN | apply RB.drew | apply Kd.R_alloc | apply Kd.R_drewN | apply Kd.R_drew)); exact HO_5.out) hb); have n3_ := Aside0.mk (Kd.R_lower ho16 (below_size zq_0)); have n4_ := Aside0.mk (below_step zq_0 hb); clear HO_3; clear HO_4; clear HO_5; clear HB; have HO_3 := n0_; have HO_4 := n1_; have HO_5 := n2_; have HO900015 := n3_; have HB := n4_; clear n0_ n1_ n2_ n3_ n4_; clear hb ho16))
    go_loopg [7, 8] k1 (fun kq v7 v8 w' => ∃ (x7_2 : List Int) (x8_2 : Int), v8 = .int .i64 x8_2 ∧ Aside0 (spec_Sha256.l1 kq x3_1 x7_2 x8_2 = some r) ∧ Aside0 (kq ≤ k1) ∧ Aside0 (Kd.R (Kd.int .u32) 142 w' w.heap.size (fun _ => True) u3 x3_1) ∧ Aside0 (Kd.R (Kd.int .u8) 5 w' w.heap.size (fun _ => True) v7 x7_2) ∧ Aside0 (Below w.heap.size w w'))
    case atStart => exact ⟨(y900013), (0), zq_6, H', ⟨Nat.le_refl _⟩, ⟨by (with_reducible repeat (first | apply RB.alloc | apply RB.drewN | apply RB.drew | apply Kd.R_alloc | apply Kd.R_drewN | apply Kd.R_drew)); exact Kd.R_mono HO_3.out (fun _ hk => trivial)⟩, ⟨by (with_reducible repeat (first | apply RB.alloc | apply RB.drewN | apply RB.drew | apply Kd.R_alloc | apply Kd.R_drewN | apply Kd.R_drew)); exact Kd.R_mono HO900015.out (fun _ hk => trivial)⟩, ⟨by repeat (first | (with_reducible first | exact HB.out | apply below_alloc | apply pw_below_drewN | apply below_drew1) | exact HB.out)⟩⟩
    case round =>
     clear H'
     try clear c1
     try clear p2
     try clear p6
     try clear c8
     try clear c8b0
     try clear c9
     try clear c10
     try clear c11
     try clear p2
     obtain ⟨x7_2, x8_2, rfl, HA, HK2, HO_3, HO_7, HB⟩ := hrel
     cases gk with
     | zero => exact absurd HA.out (by simp [spec_Sha256.l1])
     | succ k2 =>
      have H := HA.out; clear HA; simp only [spec_Sha256.l1] at H
      by_cases c17 : x8_2 < 8
      ·rw [if_pos c17] at H; have c17b0 : decide (x8_2 < 8) = true := decide_eq_true c17; clear c17
       by_cases c18 : 0 ≤ x8_2
       ·rw [if_pos c18] at H; have c18b0 : decide (0 ≤ x8_2) = true := decide_eq_true c18; clear c18
        by_cases c19 : x8_2 < (x3_1.length : Int)
        ·rw [if_pos c19] at H; have c19b0 : decide (x8_2 < (x3_1.length : Int)) = true := decide_eq_true c19; clear c19; obtain ⟨y900020, hy900020⟩ : ∃ y_ : List Int, y_ = (([((rd x3_1 x8_2) / 16777216) % 256, ((rd x3_1 x8_2) / 65536) % 256, ((rd x3_1 x8_2) / 256) % 256, (rd x3_1 x8_2) % 256] : List Int)) := ⟨_, rfl⟩
         replace H : (if x7_2.length + y900020.length < 140737488355328 then (spec_Sha256.l1 k2 x3_1 (x7_2 ++ y900020) (wrap64 (x8_2 + 1))) else (none)) = some r := by first | (rw [hy900020]; with_reducible exact H) | (have H2_ := (Option.bind_some _ _).symm.trans H; rw [hy900020]; with_reducible exact H2_) | (have H2_ := (Option.bind_some _ _).symm.trans H; with_reducible exact H2_) | with_reducible exact H | (rw [hy900020]; exact H) | exact H
         have Ny900020 := Aside0.mk hy900020; clear hy900020
         by_cases c20 : x7_2.length + y900020.length < 140737488355328
         ·rw [if_pos c20] at H; have LMc20 := Aside0.mk c20; clear c20; obtain ⟨y900023, hy900023⟩ : ∃ y_ : List Int, y_ = (x7_2 ++ y900020) := ⟨_, rfl⟩
          replace H : (spec_Sha256.l1 k2 x3_1 y900023 (wrap64 (x8_2 + 1))) = some r := by first | (rw [hy900023]; with_reducible exact H) | (have H2_ := (Option.bind_some _ _).symm.trans H; rw [hy900023]; with_reducible exact H2_) | (have H2_ := (Option.bind_some _ _).symm.trans H; with_reducible exact H2_) | with_reducible exact H | (rw [hy900023]; exact H) | exact H
          have Ny900023 := Aside0.mk hy900023; clear hy900023; have H' := Aside0.mk H; clear H
          try go_wp2
          have n0_ := Aside0.mk (Kd.R_drew HO_3.out); have n1_ := Aside0.mk (Kd.R_drew HO_7.out); have n2_ := Aside0.mk (below_drew1 HB.out); clear HO_3; clear HO_7; clear HB; have HO_3 := n0_; have HO_7 := n1_; have HB := n2_; clear n0_ n1_ n2_; obtain ⟨Ao22, co22, eo22⟩ := Kd.R_slice HO_3.out; (first | subst eo22 | (injection eo22 with f1_ f2_ f3_; have f4_ := f1_.symm; have f5_ := f3_.symm; clear f1_ f2_ f3_; subst f4_; subst f5_)); have p900016 : 0 ≤ (x8_2 : Int) := of_decide_eq_true zq_2; have q900016 : x8_2 < (x3_1.length : Int) := of_decide_eq_true zq_2; obtain ⟨ad900016, e900016, hx900016_0⟩ := Kd.at_int (Kd.R_reads' HO_3.out).2.2 x8_2 p900016 q900016
          cases e900016
          replace p900016 := eq_true p900016; replace q900016 := eq_true q900016; have p900017 : 0 ≤ (x8_2 : Int) := of_decide_eq_true zq_2; have q900017 : x8_2 < (x3_1.length : Int) := of_decide_eq_true zq_2; obtain ⟨ad900017, e900017, hx900017_0⟩ := Kd.at_int (Kd.R_reads' HO_3.out).2.2 x8_2 p900017 q900017; obtain rfl : ad900016 = ad900017 := (by injection e900017)
          replace p900017 := eq_true p900017; replace q900017 := eq_true q900017; have p900018 : 0 ≤ (x8_2 : Int) := of_decide_eq_true zq_2; have q900018 : x8_2 < (x3_1.length : Int) := of_decide_eq_true zq_2; obtain ⟨ad900018, e900018, hx900018_0⟩ := Kd.at_int (Kd.R_reads' HO_3.out).2.2 x8_2 p900018 q900018; obtain rfl : ad900016 = ad900018 := (by injection e900018)
          replace p900018 := eq_true p900018; replace q900018 := eq_true q900018; have p900019 : 0 ≤ (x8_2 : Int) := of_decide_eq_true zq_2; have q900019 : x8_2 < (x3_1.length : Int) := of_decide_eq_true zq_2; obtain ⟨ad900019, e900019, hx900019_0⟩ := Kd.at_int (Kd.R_reads' HO_3.out).2.2 x8_2 p900019 q900019; obtain rfl : ad900016 = ad900019 := (by injection e900019)
          replace p900019 := eq_true p900019; replace q900019 := eq_true q900019; refine start_ (n := 27) (S := fun w' => w'.cell? (ad900016.add (x8_2).toNat) = some (.int .u32 (rd x3_1 x8_2)) ∧ w'.cell? (ad900016.add (x8_2).toNat) = some (.int .u32 (rd x3_1 x8_2)) ∧ w'.cell? (ad900016.add (x8_2).toNat) = some (.int .u32 (rd x3_1 x8_2)) ∧ w'.cell? (ad900016.add (x8_2).toNat) = some (.int .u32 (rd x3_1 x8_2))) (ds := [25]) #[false, false, false, false, false, false, false, false, false, false, false, false, false, false, false, false, false, false, false, false, false, false, false, false, false, false, false] (by kernel_rfl) rfl rfl ⟨hx900016_0, hx900017_0, hx900018_0, hx900019_0⟩ (fun hHeld => ?_); refine with_tabW spec_Sha256.tab12 spec_Sha256.bits12 (fun HT_ HW_ => ?_); generalize wr.drew = w21 at HO_3 HO_7 HB hx900016_0 hx900017_0 hx900018_0 hx900019_0 hHeld ⊢; refine pq_ (i := 0) (N := some 29) HT_.out ?_; refine pq_ (i := 1) (N := some 30) HT_.out ?_; refine pq_ (i := 2) (N := some 31) HT_.out ?_; refine pq_ (i := 3) (N := some 32) HT_.out ?_; refine pq_ (i := 7) (N := some 36) HT_.out ?_; refine pq_ (i := 8) (N := some 37) HT_.out ?_; refine pq_ (i := 9) (N := some 38) HT_.out ?_; refine pq_ (i := 13) (N := some 42) HT_.out ?_; refine pq_ (i := 14) (N := some 43) HT_.out ?_; refine pq_ (i := 15) (N := some 44) HT_.out ?_; refine pq_ (i := 19) (N := some 48) HT_.out ?_; refine pq_ (i := 20) (N := some 49) HT_.out ?_; refine pq_ (i := 21) (N := some 50) HT_.out ?_; refine tq_ (i := 4) (N := some 33) HT_.out HW_.out hHeld (hy := by rintro w' ⟨s0, s1, s2, s3⟩; go_simp; with_reducible rfl) (h := ?_); refine pq_ (i := 5) (N := some 34) HT_.out ?_; refine pq_ (i := 6) (N := some 35) HT_.out ?_; refine tq_ (i := 10) (N := some 39) HT_.out HW_.out hHeld (hy := by rintro w' ⟨s0, s1, s2, s3⟩; go_simp; with_reducible rfl) (h := ?_); refine pq_ (i := 11) (N := some 40) HT_.out ?_; refine pq_ (i := 12) (N := some 41) HT_.out ?_; refine tq_ (i := 16) (N := some 45) HT_.out HW_.out hHeld (hy := by rintro w' ⟨s0, s1, s2, s3⟩; go_simp; with_reducible rfl) (h := ?_); refine pq_ (i := 17) (N := some 46) HT_.out ?_; refine pq_ (i := 18) (N := some 47) HT_.out ?_; refine tq_ (i := 22) (N := some 51) HT_.out HW_.out hHeld (hy := by rintro w' ⟨s0, s1, s2, s3⟩; go_simp; with_reducible rfl) (h := ?_); refine pq_ (i := 23) (N := some 52) HT_.out ?_
          refine one_ (i := 24) (N := some 53) #[true, true, true, true, true, true, true, true, true, true, true, true, true, true, true, true, true, true, true, true, true, true, true, true, true, false, false] rfl rfl (one_of HT_.out (by kernel_rfl)) (by decide) (fun K hK => ?_); refine Kd.R_lit_step (Kd.int .u8) _ 5 ?hg (N := 53) ?hd (xs := ([((rd x3_1 x8_2) / 16777216) % 256, ((rd x3_1 x8_2) / 65536) % 256, ((rd x3_1 x8_2) / 256) % 256, (rd x3_1 x8_2) % 256] : List Int)) (inner := [.int .u8 (((rd x3_1 x8_2) / 16777216) % 256), .int .u8 (((rd x3_1 x8_2) / 65536) % 256), .int .u8 (((rd x3_1 x8_2) / 256) % 256), .int .u8 ((rd x3_1 x8_2) % 256)]) (ok := fun _ => True) (okp := fun _ => True) ?hr ?hp (fun _ hk => hk) trivial (Below.refl _ _) (Nat.le_refl _) (by simp) ?_; (case hd => rfl); (case hg => rfl); (case hr => exact zq_13); (case hp => exact (Reps.one (show Kd.M (Kd.int .u8) _ _ _ (((rd x3_1 x8_2) / 16777216) % 256) [.int .u8 (((rd x3_1 x8_2) / 16777216) % 256)] from rfl) (Reps.one (show Kd.M (Kd.int .u8) _ _ _ (((rd x3_1 x8_2) / 65536) % 256) [.int .u8 (((rd x3_1 x8_2) / 65536) % 256)] from rfl) (Reps.one (show Kd.M (Kd.int .u8) _ _ _ (((rd x3_1 x8_2) / 256) % 256) [.int .u8 (((rd x3_1 x8_2) / 256) % 256)] from rfl) (Reps.one (show Kd.M (Kd.int .u8) _ _ _ ((rd x3_1 x8_2) % 256) [.int .u8 ((rd x3_1 x8_2) % 256)] from rfl) (Reps.none _ _)))))); intro v900021 w23 ho24 hb hg_ hnew_; have HS0_ := (hb.cell (World.block_lt_of_cell? _ _ (hHeld.1))).trans (hHeld.1); have HS1_ := (hb.cell (World.block_lt_of_cell? _ _ (hHeld.2.1))).trans (hHeld.2.1); have HS2_ := (hb.cell (World.block_lt_of_cell? _ _ (hHeld.2.2.1))).trans (hHeld.2.2.1); have HS3_ := (hb.cell (World.block_lt_of_cell? _ _ (hHeld.2.2.2))).trans (hHeld.2.2.2); clear hg_ hnew_; (first | rw [← Ny900020.out] at ho24 | (simp only [Int.reduceToNat] at ho24; rw [← Ny900020.out] at ho24)); have n0_ := Aside0.mk (Kd.R_below zq_39 hb); have n1_ := Aside0.mk (Kd.R_elder' zq_65 (Kd.R_base ho24) hb)
          have n2_ := Aside0.mk (Kd.R_lower (Kd.R_new' ho24 (Kd.R_lt zq_65)) (below_size zq_0)); have n3_ := Aside0.mk (below_step zq_0 hb); clear HO_3; clear HO_7; clear HB; have HO_3 := n0_; have HO_7 := n1_; have HO900022 := n2_; have HB := n3_; clear n0_ n1_ n2_ n3_; clear hb ho24; obtain ⟨Ao26, co26, eo26⟩ := Kd.R_slice HO900022.out; (first | subst eo26 | (injection eo26 with f1_ f2_ f3_; have f4_ := f1_.symm; have f5_ := f3_.symm; clear f1_ f2_ f3_; subst f4_; subst f5_)); refine hK.out _ _ ⟨HS0_, HS1_, HS2_, HS3_⟩ (fun hHeld => ?_); clear hK K; refine norm_ (a' := ?_) ?_ ?_; rotate_left
          ·show Act.put _ (some 53) _ = _; simp only [Act.put, List.setIfInBounds_toArray, List.set_cons_zero, List.set_cons_succ, i64_w, i32_w]; rfl
          refine last_ (i := 25) (N := some 54) #[true, true, true, true, true, true, true, true, true, true, true, true, true, true, true, true, true, true, true, true, true, true, true, true, true, true, false] rfl rfl (one_of HT_.out (by kernel_rfl)) (by decide) (fun K hK => ?_); refine Kd.R_append_rows_step (Kd.int .u8) (w0 := w) w.heap.size (by rfl) (.tmp 29) (.tmp 53) 133 5 (.int .u8 0) 1 rfl Tryd.underlying133 info5 rfl (by decide) (by omega) u7 x7_2 y900020 _ _ _ (fun k_ => some k_ ≠ (.slice Ao26 y900020.length co26 : Value).ownBlock) (fun _ => False) rfl rfl ?aO ?aR (fun _ _ h => h) (fun _ h => h.elim) ?aF ?aB ?aS ?aL ?_; (case aR => repeat (first | exact (Kd.R_reads' HO900022.out).2.2 | (with_reducible refine Kd.C_alloc ?_ _) | (with_reducible refine Kd.C_drewN ?_ _) | (with_reducible refine Kd.C_drew ?_))); (case aB => exact zq_0); (case aF => exact (fun k_ hk => Kd.fresh' (Kd.R_lt (by (with_reducible repeat (first | apply RB.alloc | apply RB.drewN | apply RB.drew | apply Kd.R_alloc | apply Kd.R_drewN | apply Kd.R_drew)); exact HO900022.out)) k_ hk)); (case aO => exact (by (with_reducible repeat (first | apply RB.alloc | apply RB.drewN | apply RB.drew | apply Kd.R_alloc | apply Kd.R_drewN | apply Kd.R_drew)); exact Kd.R_mono HO_7.out (fun _ hk => hk.2))); (case aS => exact (below_size zq_0)); (case aL => have := LMc20.out; omega); intro v900024 w25 ho hb hg hat; rw [← Ny900023.out] at ho; have n0_ := Aside0.mk (Kd.R_over' zq_39 (Kd.R_typed zq_65) (by decide) hg); have n1_ := Aside0.mk (Kd.R_after (ok := (fun _ => True)) (by (with_reducible repeat (first | apply RB.alloc | apply RB.drewN | apply RB.drew | apply Kd.R_alloc | apply Kd.R_drewN | apply Kd.R_drew)); exact HO900022.out) hg hat); have n2_ := Aside0.mk (hb); have n3_ := Aside0.mk (ho); clear HO_3; clear HO900022; clear HB; clear HO_7; have HO_3 := n0_; have HO900022 := n1_; have HB := n2_; have HO900025 := n3_; clear n0_ n1_ n2_ n3_
          clear ho hb hg hat; refine hK.out _ _ ?_; clear hK K; refine norm_ (a' := ?_) ?_ ?_; rotate_left
          ·show Act.put _ (some 54) _ = _; simp only [Act.put, List.setIfInBounds_toArray, List.set_cons_zero, List.set_cons_succ, i64_w, i32_w]; rfl
          refine pq_ (i := 26) (N := some 7) HT_.out ?_; refine done_ (done_of HT_.out (by kernel_rfl)) ?_
          try go_wp2
          go_roundg k2
          case measure => have := HK1.out; have := HK2.out; omega
          case rel => exact ⟨(y900023), (wrap64 (x8_2 + 1)), zq_6, H', ⟨by have := HK1.out; have := HK2.out; omega⟩, ⟨by (with_reducible repeat (first | apply RB.alloc | apply RB.drewN | apply RB.drew | apply Kd.R_alloc | apply Kd.R_drewN | apply Kd.R_drew)); exact HO_3.out⟩, ⟨by (with_reducible repeat (first | apply RB.alloc | apply RB.drewN | apply RB.drew | apply Kd.R_alloc | apply Kd.R_drewN | apply Kd.R_drew)); exact Kd.R_mono HO900025.out (fun _ hk => trivial)⟩, ⟨by repeat (first | (with_reducible first | exact HB.out | apply below_alloc | apply pw_below_drewN | apply below_drew1) | exact HB.out)⟩⟩
         ·rw [if_neg c20] at H; exact absurd H (by simp)
        ·rw [if_neg c19] at H; exact absurd H (by simp)
       ·rw [if_neg c18] at H; exact absurd H (by simp)
      ·rw [if_neg c17] at H; have c17b0 : decide (x8_2 < 8) = false := decide_eq_false c17; clear c17; obtain rfl := Option.some.inj H; have hcv27 := own_string (P := Tryd.prog) Tryd.underlying133 Tryd.underlying5 Tryd.underlying9 (Kd.own_of_R HO_7.out)
       go_wp2
       go_ret
       exact ⟨by first | rfl | (simp [errW_none, errW_some] <;> rfl) | (simp [*, errW_none, errW_some] <;> rfl), by repeat (first | (with_reducible first | exact HB.out | apply below_alloc | apply pw_below_drewN | apply below_drew1) | exact HB.out)⟩
end Go.Proofs.YthnnphinfiobmaaDoor.Z
end
section
namespace Go.Proofs.YthnnphinfiobmaaDoor.Z
open RowKit YthnnphinfiobmaaDoor YthnnphinfiobmaaDoorW.PrintWords YthnnphinfiobmaaDoorW.PrintLast
set_option linter.all false
def h0P : List Int := [1779033703, 3144134277, 1013904242, 2773480762, 1359893119, 2600822924, 528734635, 1541459225]
def stateP (m : List Int) : Nat → List Int
 | 0 => h0P
 | n + 1 => compP (stateP m n) (blockAt m (64 * n))
theorem compP_length (h b : List Int) : (compP h b).length = 8 := rfl
theorem stateP_length (m : List Int) : ∀ n, (stateP m n).length = 8
 | 0 => rfl
 | n + 1 => compP_length _ _
def wordB (x : Int) : List Int := [x / 16777216 % 256, x / 65536 % 256, x / 256 % 256, x % 256]
def outB (h : List Int) : Nat → List Int
 | 0 => []
 | n + 1 => outB h n ++ wordB (rdN h n)
theorem outB_length (h : List Int) : ∀ n, (outB h n).length = 4 * n
 | 0 => rfl
 | n + 1 => by rw [outB, List.length_append, outB_length h n]; simp [wordB]; omega
def shaL (l : List UInt8) : List Int := outB (stateP (ints (padP l)) ((l.length + 72) / 64)) 8
theorem shaL_length (l : List UInt8) : (shaL l).length = 32 := outB_length _ _
def shaV (s : ByteArray) : ByteArray := strOfNums (shaL s.data.toList)
theorem strOfNums_size (l : List Int) : (strOfNums l).size = l.length := by simp [strOfNums, ByteArray.size]
theorem shaV_size (s : ByteArray) : (shaV s).size = 32 := by rw [shaV, strOfNums_size, shaL_length]
theorem sha_l1 (h : List Int) (hh : h.length = 8) : ∀ (d n k : Nat), n + d = 8 → d < k → spec_Sha256.l1 k h (outB h n) (n : Int) = some (strOfNums (outB h 8)) := by
 intro d
 induction d with
 | zero =>
  intro n k hn hk; obtain ⟨k, rfl⟩ : ∃ j, k = j + 1 := ⟨k - 1, by omega⟩
  obtain rfl : n = 8 := by omega
  simp only [spec_Sha256.l1]; rw [if_neg (by omega)]
 | succ d ih =>
  intro n k hn hk; obtain ⟨k, rfl⟩ : ∃ j, k = j + 1 := ⟨k - 1, by omega⟩
  have hl := outB_length h n; simp only [spec_Sha256.l1]; have e1 : wrap64 ((n : Int) + 1) = ((n + 1 : Nat) : Int) := by rw [w64 (by omega) (by omega)]; omega
  rw [e1, hh, hl]; clear e1; simp only [rd_nat, Option.bind_some]; rw [if_pos (by omega), if_pos (by omega), if_pos (by omega), if_pos (by simp; omega)]; exact ih (n + 1) k (by omega) (by omega)
theorem sha_l0 (m : List Int) (N : Nat) (hm : m.length = 64 * N) (hb : m.length ≤ 1099511627776) : ∀ (d n k : Nat), n + d = N → d + 80 < k →
  spec_Sha256.l0 k (stateP m n) kTab m ((64 * n : Nat) : Int) = some (strOfNums (outB (stateP m N) 8)) := by
 intro d
 induction d with
 | zero =>
  intro n k hn hk; obtain ⟨k, rfl⟩ : ∃ j, k = j + 1 := ⟨k - 1, by omega⟩
  obtain rfl : n = N := by omega
  simp only [spec_Sha256.l0]; rw [if_neg (by omega)]; exact sha_l1 _ (stateP_length _ _) 8 0 k rfl (by omega)
 | succ d ih =>
  intro n k hn hk; obtain ⟨k, rfl⟩ : ∃ j, k = j + 1 := ⟨k - 1, by omega⟩
  simp only [spec_Sha256.l0]; rw [if_pos (by omega), l1Block_f _ m (64 * n) k (stateP_length _ _) (by omega) hb (by omega)]; simp only [Option.bind_some]; have e1 : wrap64 (((64 * n : Nat) : Int) + 64) = ((64 * (n + 1) : Nat) : Int) := by rw [w64 (by omega) (by omega)]; omega
  rw [e1]; clear e1; exact ih (n + 1) k (by omega) (by omega)
theorem spec_Sha256_f (a0 : ByteArray) (ha : a0.size ≤ 4294967296) (k : Nat) (hk : a0.size + 100 < k) : spec_Sha256.f k a0 = some (shaV a0) := by
 unfold spec_Sha256.f; rw [kTab_f]; simp only [Option.bind_some]; unfold spec_l1Padded.f; rw [if_pos ha]; simp only [Option.bind_some]; have hl : a0.data.toList.length = a0.size := rfl; have hp : (ints (padP a0.data.toList)).length = 64 * ((a0.data.toList.length + 72) / 64) := by rw [ints_length, padP_length]
 exact sha_l0 (ints (padP a0.data.toList)) _ hp (by rw [hp, hl]; omega) ((a0.data.toList.length + 72) / 64) 0 k (by omega) (by rw [hl]; omega)
end Go.Proofs.YthnnphinfiobmaaDoor.Z
end
section
namespace Go.Proofs.YthnnphinfiobmaaDoor.Z
open RowKit YthnnphinfiobmaaDoor YthnnphinfiobmaaDoorW.PrintWords YthnnphinfiobmaaDoorW.PrintLast
set_option linter.all false
def hCells (st blk : List Int) (fill tot : Int) : List Value := st.map (.int .u32) ++ blk.map (.int .u8) ++ [.int .i64 fill, .int .u64 tot]
structure Hsh (b : Nat) (st blk : List Int) (fill tot : Int) (w : World) : Prop where
 heap : w.heap[b]? = some (.cells (hCells st blk fill tot).toArray 155 (0, 0))
 st8 : st.length = 8
 blk64 : blk.length = 64
section
variable {b : Nat} {st blk : List Int} {fill tot : Int} {w w1 : World}
theorem Hsh.lt (h : Hsh b st blk fill tot w) : b < w.heap.size := lt_of_block h.heap
theorem Hsh.f (h : Hsh b st blk fill tot w) (i : Nat) : w.frozen? ⟨b, i, none⟩ = false := frozen_of_row _ _ _ _ _ h.heap
theorem Hsh.cS (h : Hsh b st blk fill tot w) (i : Nat) (hi : i < 8) : w.cell? ⟨b, i, none⟩ = some (.int .u32 (rdN st i)) := by
 rw [cell_of_row _ _ _ _ _ _ h.heap]; have h8 := h.st8; simp only [List.getElem?_toArray, hCells]; rw [List.append_assoc, List.getElem?_append_left (by simp; omega)]; simp [rdN, List.getD_eq_getElem?_getD, h8, hi]
theorem Hsh.cB (h : Hsh b st blk fill tot w) (j : Nat) (hj : j < 64) : w.cell? ⟨b, 8 + j, none⟩ = some (.int .u8 (rdN blk j)) := by
 rw [cell_of_row _ _ _ _ _ _ h.heap]; have h8 := h.st8; have h64 := h.blk64; simp only [List.getElem?_toArray, hCells]; rw [List.append_assoc, List.getElem?_append_right (by simp; omega), List.getElem?_append_left (by simp; omega)]; simp [rdN, List.getD_eq_getElem?_getD, h8, h64, hj]
theorem Hsh.cF (h : Hsh b st blk fill tot w) : w.cell? ⟨b, 72, none⟩ = some (.int .i64 fill) := by
 rw [cell_of_row _ _ _ _ _ _ h.heap]; have h8 := h.st8; have h64 := h.blk64; simp only [List.getElem?_toArray, hCells]; rw [List.getElem?_append_right (by simp; omega)]; simp [h8, h64]
theorem Hsh.cT (h : Hsh b st blk fill tot w) : w.cell? ⟨b, 73, none⟩ = some (.int .u64 tot) := by
 rw [cell_of_row _ _ _ _ _ _ h.heap]; have h8 := h.st8; have h64 := h.blk64; simp only [List.getElem?_toArray, hCells]; rw [List.getElem?_append_right (by simp; omega)]; simp [h8, h64]
theorem hset {cs ds : List Value} {T : TypeId} {i : Nat} {v : Value} (h : w.heap[b]? = some (.cells cs.toArray T (0, 0))) (he : cs.set i v = ds) :
  (w.setCell ⟨b, i, none⟩ v).heap[b]? = some (.cells ds.toArray T (0, 0)) := by
 have := heap_setCell_same w b i cs.toArray T v h; rw [this, ← he]; simp
theorem Hsh.setS (h : Hsh b st blk fill tot w) (i : Nat) (hi : i < 8) (x : Int) : Hsh b (st.set i x) blk fill tot (w.setCell ⟨b, i, none⟩ (.int .u32 x)) := by
 have h8 := h.st8; refine ⟨hset h.heap ?_, by rw [List.length_set]; exact h8, h.blk64⟩; simp only [hCells]; rw [List.append_assoc, List.set_append_left _ _ (by simp; omega), ← List.map_set, List.append_assoc]
theorem Hsh.setB (h : Hsh b st blk fill tot w) (j : Nat) (hj : j < 64) (x : Int) : Hsh b st (blk.set j x) fill tot (w.setCell ⟨b, 8 + j, none⟩ (.int .u8 x)) := by
 have h8 := h.st8; have h64 := h.blk64; refine ⟨hset h.heap ?_, h8, by rw [List.length_set]; exact h64⟩; simp only [hCells]; rw [List.append_assoc, List.set_append_right _ _ (by simp; omega), List.set_append_left _ _ (by simp; omega), ← List.map_set, List.append_assoc]; simp [h8]
theorem Hsh.setF (h : Hsh b st blk fill tot w) (x : Int) : Hsh b st blk x tot (w.setCell ⟨b, 72, none⟩ (.int .i64 x)) := by
 have h8 := h.st8; have h64 := h.blk64; refine ⟨hset h.heap ?_, h8, h64⟩; simp only [hCells]; rw [List.set_append_right _ _ (by simp; omega)]; simp [h8, h64]
theorem Hsh.setT (h : Hsh b st blk fill tot w) (x : Int) : Hsh b st blk fill x (w.setCell ⟨b, 73, none⟩ (.int .u64 x)) := by
 have h8 := h.st8; have h64 := h.blk64; refine ⟨hset h.heap ?_, h8, h64⟩; simp only [hCells]; rw [List.set_append_right _ _ (by simp; omega)]; simp [h8, h64]
theorem Hsh.keep (h : Hsh b st blk fill tot w) (hb : w1.heap[b]? = w.heap[b]?) : Hsh b st blk fill tot w1 := ⟨hb.trans h.heap, h.st8, h.blk64⟩
theorem Hsh.below (h : Hsh b st blk fill tot w) (hb : Below w.heap.size w w1) : Hsh b st blk fill tot w1 := h.keep (hb.block b h.lt)
theorem Hsh.grown (h : Hsh b st blk fill tot w) {row : Option Nat} (hb : w.grownBy w1 row) (hn : some b ≠ row) : Hsh b st blk fill tot w1 := h.keep (hb.block b h.lt hn)
theorem Hsh.drew (h : Hsh b st blk fill tot w) : Hsh b st blk fill tot w.drew := h.keep rfl
theorem Hsh.alloc (h : Hsh b st blk fill tot w) (o : Obj) : Hsh b st blk fill tot (w.alloc o) := h.keep (Below.heap_alloc _ _ _ h.lt)
theorem Hsh.setOther (h : Hsh b st blk fill tot w) (a : Addr) (v : Value) (hn : b ≠ a.block) : Hsh b st blk fill tot (w.setCell a v) := h.keep (heap_setCell_other _ _ _ _ hn)
end
set_option maxRecDepth 100000 in
set_option maxHeartbeats 1000000 in
theorem newHasher_any (w : World) : Calls Tryd.prog 104 #[] w fun e w' => e = .returned (.pointer (some ⟨w.heap.size, 0, none⟩)) ∧ Hsh w.heap.size h0P (List.replicate 64 0) 0 0 w' ∧ w.heap.size < w'.heap.size ∧ Below w.heap.size w w' := by
 have hz : ∀ w : World, Sem.run Tryd.prog (zeroValue 155) w = .ok (.agg #[.int .u32 0, .int .u32 0, .int .u32 0, .int .u32 0, .int .u32 0, .int .u32 0, .int .u32 0, .int .u32 0, .int .u8 0, .int .u8 0, .int .u8 0, .int .u8 0, .int .u8 0, .int .u8 0, .int .u8 0, .int .u8 0, .int .u8 0, .int .u8 0, .int .u8 0, .int .u8 0, .int .u8 0, .int .u8 0, .int .u8 0, .int .u8 0, .int .u8 0, .int .u8 0, .int .u8 0, .int .u8 0, .int .u8 0, .int .u8 0, .int .u8 0, .int .u8 0, .int .u8 0, .int .u8 0, .int .u8 0, .int .u8 0, .int .u8 0, .int .u8 0, .int .u8 0, .int .u8 0, .int .u8 0, .int .u8 0, .int .u8 0, .int .u8 0, .int .u8 0, .int .u8 0, .int .u8 0, .int .u8 0, .int .u8 0, .int .u8 0, .int .u8 0, .int .u8 0, .int .u8 0, .int .u8 0, .int .u8 0, .int .u8 0, .int .u8 0, .int .u8 0, .int .u8 0, .int .u8 0, .int .u8 0, .int .u8 0, .int .u8 0, .int .u8 0, .int .u8 0, .int .u8 0, .int .u8 0, .int .u8 0, .int .u8 0, .int .u8 0, .int .u8 0, .int .u8 0, .int .i64 0, .int .u64 0]) w := fun _ => by kernel_rfl
 go_enter Tryd.func104, Tryd.ntmps104
 go_wp2
 go_ret
 refine ⟨rfl, ⟨?_, rfl, by simp⟩, by simp, by (repeat' (first | exact Below.refl _ _ | (with_reducible assumption) | (with_reducible refine Below.setCell ?_ zq_16 _) | refine below_then ?_ (by assumption) | (with_reducible refine below_new2 ?_ _) | (with_reducible refine Below.drew ?_) | (with_reducible refine bdrewN ?_ _)))⟩; exact (heap_alloc_new _ _).trans rfl
end Go.Proofs.YthnnphinfiobmaaDoor.Z
end
section
namespace Go.Proofs.YthnnphinfiobmaaDoor.Z
open RowKit YthnnphinfiobmaaDoor YthnnphinfiobmaaDoorW.PrintWords YthnnphinfiobmaaDoorW.PrintLast
set_option linter.all false
def Tab (w : World) : Prop := ∀ i, i < 64 → w.cell? ⟨0, i, none⟩ = some (.int .u32 (rdN kTab i))
def Wds (g : Nat) (T : TypeId) (l : List Int) (w : World) : Prop := w.heap[g]? = some (.cells (l.map (Value.int .u32)).toArray T (0, 0))
section
variable {g : Nat} {T : TypeId} {l : List Int} {w w1 : World}
theorem Wds.lt (h : Wds g T l w) : g < w.heap.size := lt_of_block h
theorem Wds.f (h : Wds g T l w) (i : Nat) : w.frozen? ⟨g, i, none⟩ = false := frozen_of_row _ _ _ _ _ h
theorem Wds.c (h : Wds g T l w) (i : Nat) (hi : i < l.length) : w.cell? ⟨g, i, none⟩ = some (.int .u32 (rdN l i)) := by
 rw [cell_of_row _ _ _ _ _ _ h]; simp [rdN, List.getD_eq_getElem?_getD, hi]
theorem Wds.set (h : Wds g T l w) (i : Nat) (x : Int) : Wds g T (l.set i x) (w.setCell ⟨g, i, none⟩ (.int .u32 x)) := by
 refine hset h ?_; rw [List.map_set]
theorem Wds.keep (h : Wds g T l w) (hb : w1.heap[g]? = w.heap[g]?) : Wds g T l w1 := Eq.trans hb h
theorem Wds.drew (h : Wds g T l w) : Wds g T l w.drew := h
theorem Wds.below (h : Wds g T l w) (hb : Below w.heap.size w w1) : Wds g T l w1 := h.keep (hb.block g h.lt)
theorem Wds.setOther (h : Wds g T l w) (a : Addr) (v : Value) (hn : g ≠ a.block) : Wds g T l (w.setCell a v) := h.keep (heap_setCell_other _ _ _ _ hn)
theorem Wds.alloc (h : Wds g T l w) (o : Obj) : Wds g T l (w.alloc o) := h.keep (Below.heap_alloc _ _ _ h.lt)
end
theorem rot_any (x y : Int) (w : World) (hy : y ∈ [(-2 : Int), -6, -7, -11, -13, -17, -18, -19, -22, -25]) :
  Calls Tryd.prog 132 #[.int .u32 x, .int .i64 y] w fun e w' => e = .returned (.int .u32 (turn x (-y))) ∧ ∃ n, w' = w.drewN n := by
 have h : bits_RotateLeft32.f x y = some (turn x (-y)) := by
  simp only [List.mem_cons, List.not_mem_nil, or_false] at hy
  rcases hy with rfl | rfl | rfl | rfl | rfl | rfl | rfl | rfl | rfl | rfl
  ·exact rot_f x 2 (by decide)
  ·exact rot_f x 6 (by decide)
  ·exact rot_f x 7 (by decide)
  ·exact rot_f x 11 (by decide)
  ·exact rot_f x 13 (by decide)
  ·exact rot_f x 17 (by decide)
  ·exact rot_f x 18 (by decide)
  ·exact rot_f x 19 (by decide)
  ·exact rot_f x 22 (by decide)
  ·exact rot_f x 25 (by decide)
 refine (bits_RotateLeft32.calls x y _ w h).mono ?_; rintro e w' ⟨h1, ⟨n, h2⟩⟩; exact ⟨h1, n, h2⟩
theorem next_eq (w : List Int) (n : Nat) : nextP w n = (rdN w (n - 16) + Go.bits .xor .u32 (Go.bits .xor .u32 (turn (rdN w (n - 15)) 7) (turn (rdN w (n - 15)) 18)) (rdN w (n - 15) / 8) + rdN w (n - 7) + Go.bits .xor .u32 (Go.bits .xor .u32 (turn (rdN w (n - 2)) 17) (turn (rdN w (n - 2)) 19)) (rdN w (n - 2) / 1024)) % 4294967296 := by
 unfold nextP; generalize rdN w (n - 16) = a; generalize Go.bits .xor .u32 (Go.bits .xor .u32 (turn (rdN w (n - 15)) 7) (turn (rdN w (n - 15)) 18)) (rdN w (n - 15) / 8) = s; generalize rdN w (n - 7) = c; generalize Go.bits .xor .u32 (Go.bits .xor .u32 (turn (rdN w (n - 2)) 17) (turn (rdN w (n - 2)) 19)) (rdN w (n - 2) / 1024) = l; omega
theorem rnd_list (s : St) (k w : Int) : (s.rnd k w).list = [(s.z + Go.bits .xor .u32 (Go.bits .xor .u32 (turn s.e 6) (turn s.e 11)) (turn s.e 25) + Go.bits .xor .u32 (Go.bits .and .u32 s.e s.f) (Go.bits .and .u32 (Go.bits .xor .u32 IntKind.u32.max s.e) s.g) + k + w + Go.bits .xor .u32 (Go.bits .xor .u32 (turn s.a 2) (turn s.a 13)) (turn s.a 22) + Go.bits .xor .u32 (Go.bits .xor .u32 (Go.bits .and .u32 s.a s.b) (Go.bits .and .u32 s.a s.c)) (Go.bits .and .u32 s.b s.c)) % 4294967296, s.a, s.b, s.c, (s.d + (s.z + Go.bits .xor .u32 (Go.bits .xor .u32 (turn s.e 6) (turn s.e 11)) (turn s.e 25) + Go.bits .xor .u32 (Go.bits .and .u32 s.e s.f) (Go.bits .and .u32 (Go.bits .xor .u32 IntKind.u32.max s.e) s.g) + k + w)) % 4294967296, s.e, s.f, s.g] := by
 unfold St.rnd St.list St.t1 St.s0 St.maj; simp only [List.cons.injEq, and_true, true_and]; generalize Go.bits .xor .u32 (Go.bits .xor .u32 (turn s.e 6) (turn s.e 11)) (turn s.e 25) = p; generalize Go.bits .xor .u32 (Go.bits .and .u32 s.e s.f) (Go.bits .and .u32 (Go.bits .xor .u32 IntKind.u32.max s.e) s.g) = q; generalize Go.bits .xor .u32 (Go.bits .xor .u32 (turn s.a 2) (turn s.a 13)) (turn s.a 22) = r; generalize Go.bits .xor .u32 (Go.bits .xor .u32 (Go.bits .and .u32 s.a s.b) (Go.bits .and .u32 s.a s.c)) (Go.bits .and .u32 s.b s.c) = m
 constructor <;> omega
def addP (st v : List Int) : Nat → List Int
 | 0 => st
 | n + 1 => (addP st v n).set n ((rdN st n + rdN v n) % 4294967296)
theorem addP_get (st v : List Int) (j : Nat) : ∀ n, n ≤ j → rdN (addP st v n) j = rdN st j
 | 0, _ => rfl
 | n + 1, h => by
  rw [addP, rdN, List.getD_eq_getElem?_getD, List.getElem?_set_ne (by omega), ← List.getD_eq_getElem?_getD]; exact addP_get st v j n (by omega)
theorem addP_list (st : List Int) (h : st.length = 8) (s : St) : addP st s.list 8 = [(rdN st 0 + s.a) % 4294967296, (rdN st 1 + s.b) % 4294967296, (rdN st 2 + s.c) % 4294967296, (rdN st 3 + s.d) % 4294967296, (rdN st 4 + s.e) % 4294967296, (rdN st 5 + s.f) % 4294967296, (rdN st 6 + s.g) % 4294967296, (rdN st 7 + s.z) % 4294967296] := by
 match st, h with
 | [a, b, c, d, e, f, g, z], _ => rfl
theorem addP_all (st blk : List Int) (h : st.length = 8) (s : St) (hs : (St.of st).run (schedP blk 64) 64 = s) : addP st s.list 8 = compP st blk := by
 rw [addP_list st h s, compP, hs]
theorem set_sched (b : List Int) (n : Nat) (hn : n < 64) : (schedP b n ++ List.replicate (64 - n) 0).set n (if n < 16 then wordP b n else nextP (schedP b n) n) = schedP b (n + 1) ++ List.replicate (64 - (n + 1)) 0 := by
 rw [List.set_append_right _ _ (by rw [schedP_length]; omega), schedP_length, Nat.sub_self, show 64 - n = (64 - (n + 1)) + 1 by omega, List.replicate_succ, List.set_cons_zero, schedP, List.append_assoc]; rfl
theorem blk_slice (b n : Nat) (hn : n < 16) (w : World) :
  (Instr.sliceAt 152 (.pointer (some ⟨b, 8, none⟩)) (some (.int .i64 (4 * (n : Int)))) none none).run Tryd.prog w = .ok (.slice (some ⟨b, 8 + 4 * n, none⟩) (64 - 4 * n) (64 - 4 * n)) w := by
 have hT : Tryd.prog.underlying 152 = some (.array (Tryd.prog.arrayLen 152) (Tryd.prog.elem 152)) := by kernel_rfl
 have hL : Tryd.prog.arrayLen 152 = 64 := by kernel_rfl
 have hs : ∀ w : World, (sizeOf (Tryd.prog.elem 152)).run Tryd.prog w = .ok 1 w := fun _ => by kernel_rfl
 rw [run_sliceAt_array_l w 152 ⟨b, 8, none⟩ hT .i64 (4 * (n : Int)) (by omega) (by rw [hL]; omega), hs, hL]; simp only [Result.andThen, slicedAt]; rw [if_neg (by omega), show (4 * (n : Int)).toNat = 4 * n by omega]; simp [Addr.add]
set_option maxRecDepth 100000 in
set_option maxHeartbeats 1000000 in
theorem mix_any (b : Nat) (st blk : List Int) (fill tot : Int) (w : World) (h : Hsh b st blk fill tot w) (ht : Tab w) :
  Calls Tryd.prog 127 #[.pointer (some ⟨b, 0, none⟩)] w fun e w' => e = .returned (.tuple #[]) ∧ Hsh b (compP st blk) blk fill tot w' ∧ w.grownBy w' (some b) := by
 have HH := Lib.hid h; clear h; have HT := Lib.hid ht; clear ht
 go_enter Tryd.func127, Tryd.ntmps127
 go_wp2
 go_loopw [18] (fun i wr => ∃ n : Nat, n ≤ 16 ∧ i = .int .i64 n ∧ Wds w.heap.size 181 (schedP blk n ++ List.replicate (64 - n) 0) wr ∧ Below w.heap.size w wr) (fun i _ => 16 - (intOf i).toNat)
 case atStart => exact ⟨0, by omega, rfl, (heap_alloc_new _ _).trans rfl, by (repeat' (first | exact Below.refl _ _ | (with_reducible assumption) | (with_reducible refine Below.setCell ?_ zq_16 _) | refine below_then ?_ (by assumption) | (with_reducible refine below_new2 ?_ _) | (with_reducible refine Below.drew ?_) | (with_reducible refine bdrewN ?_ _)))⟩
 case round =>
  obtain ⟨n, hn, rfl, hW, hB⟩ := hrel; have hlt : b < w.heap.size := HH.out.lt; have hHr := HH.out.below hB; have HHr := Lib.hid hHr; clear hHr; have HW := Lib.hid hW; clear hW; have hz := hB.size
  by_cases hl : n < 16
  ·have hsl := blk_slice b n hl; have d0 : wr.cell? ⟨b, 8 + 4 * n, none⟩ = some (.int .u8 (rdN blk (4 * n))) := HHr.out.cB (4 * n) (by omega); have d1 : wr.cell? ⟨b, 8 + 4 * n + 1, none⟩ = some (.int .u8 (rdN blk (4 * n + 1))) := HHr.out.cB (4 * n + 1) (by omega); have d2 : wr.cell? ⟨b, 8 + 4 * n + 2, none⟩ = some (.int .u8 (rdN blk (4 * n + 2))) := HHr.out.cB (4 * n + 2) (by omega); have d3 : wr.cell? ⟨b, 8 + 4 * n + 3, none⟩ = some (.int .u8 (rdN blk (4 * n + 3))) := HHr.out.cB (4 * n + 3) (by omega); have hll : (schedP blk n ++ List.replicate (64 - n) 0).length = 64 := by rw [List.length_append, schedP_length, List.length_replicate]; omega
   have dw := HW.out.c n (by rw [hll]; omega); have fw := HW.out.f n; have HLL := Lib.hid hll; clear hll; have l3 : 3 < 64 - 4 * n := by omega
   have l2 : 2 < 64 - 4 * n := by omega
   have l1 : 1 < 64 - 4 * n := by omega
   have l0 : 0 < 64 - 4 * n := by omega
   have n64 : (n : Int) < 64 := by omega
   have n0 : (0 : Int) ≤ (n : Int) := by omega
   have m3 : (3 : Int) < ((64 - 4 * n : Nat) : Int) := by omega
   have m2 : (2 : Int) < ((64 - 4 * n : Nat) : Int) := by omega
   have m1 : (1 : Int) < ((64 - 4 * n : Nat) : Int) := by omega
   have m0 : (0 : Int) < ((64 - 4 * n : Nat) : Int) := by omega
   go_wp2
   go_still_tail 24, (by kernel_rfl)
   change wpList _ _ _ _ _ wr.drew
   go_wp2
   go_roundw
   case rel =>
    refine ⟨n + 1, by omega, by go_num, ?_, ?_⟩
    ·have h := (HW.out.set n (if n < 16 then wordP blk n else nextP (schedP blk n) n)).drew; rw [set_sched _ _ (by omega), if_pos hl] at h; exact h
    ·exact (hB.setCell (p := ⟨w.heap.size, n, none⟩) (Nat.le_refl _) _).drew
   case measure => simp [intOf]; omega
  ·obtain rfl : n = 16 := by omega
   rw [show ((16 : Nat) : Int) = 16 from rfl]
   go_wp2
   go_loopw [5] (fun i wr => ∃ n : Nat, 16 ≤ n ∧ n ≤ 64 ∧ i = .int .i64 n ∧ Wds w.heap.size 181 (schedP blk n ++ List.replicate (64 - n) 0) wr ∧ Below w.heap.size w wr) (fun i _ => 64 - (intOf i).toNat)
   case atStart => exact ⟨16, by omega, by omega, rfl, HW.out, hB⟩
   case round =>
    clear HW HHr hB hz hn hl; obtain ⟨n, h16, hn, rfl, hW, hB⟩ := hrel; have HW := Lib.hid hW; clear hW; have hz := hB.size
    by_cases hl : n < 64
    ·have hll : (schedP blk n ++ List.replicate (64 - n) 0).length = 64 := by rw [List.length_append, schedP_length, List.length_replicate]; omega
     have rdl : ∀ j, j < n → rdN (schedP blk n ++ List.replicate (64 - n) 0) j = rdN (schedP blk n) j := by
      intro j hj; unfold rdN; rw [List.getD_eq_getElem?_getD, List.getD_eq_getElem?_getD, List.getElem?_append_left (by rw [schedP_length]; exact hj)]
     have d15 := HW.out.c (n - 15) (by rw [hll]; omega); have d2 := HW.out.c (n - 2) (by rw [hll]; omega); have d16 := HW.out.c (n - 16) (by rw [hll]; omega); have d7 := HW.out.c (n - 7) (by rw [hll]; omega); have dn := HW.out.c n (by rw [hll]; omega); rw [rdl _ (by omega)] at d15 d2 d16 d7; have fw := HW.out.f n; clear hll rdl; have n64 : (n : Int) < 64 := by omega
     have n0 : (0 : Int) ≤ (n : Int) := by omega
     go_wp2
     go_quiet (fail)
     go_wp2_with (go_at_call 132; refine (rot_any _ _ _ (by decide)).mono ?_; rintro e w' ⟨rfl, nd, hw⟩; (obtain ⟨N, rfl⟩ : ∃ N, w' = wr.drewN N := ⟨_, hw.trans (World.drewN_drewN _ _ _)⟩); clear hw)
     have w16 : IntKind.i64.wrap ((n : Int) - 16) = (n : Int) - 16 := IntWalk.i64_in _ (by omega); have w7 : IntKind.i64.wrap ((n : Int) - 7) = (n : Int) - 7 := IntWalk.i64_in _ (by omega); have p16 : (0 : Int) ≤ (n : Int) - 16 := by clear w16 w7; omega
     have p7 : (0 : Int) ≤ (n : Int) - 7 := by clear w16 w7; omega
     have q16 : (n : Int) - 16 < 64 := by clear w16 w7; omega
     have q7 : (n : Int) - 7 < 64 := by clear w16 w7; omega
     have t16 : ((n : Int) - 16).toNat = n - 16 := by clear w16 w7; omega
     have t7 : ((n : Int) - 7).toNat = n - 7 := by clear w16 w7; omega
     have r16 : (16 : Int) ≤ (n : Int) := by clear w16 w7; omega
     have r7 : (7 : Int) ≤ (n : Int) := by clear w16 w7; omega
     have e16 : (wr.drewN N).cell? ⟨w.heap.size, n - 16, none⟩ = some (.int .u32 (rdN (schedP blk n) (n - 16))) := d16; have e7 : (wr.drewN N).cell? ⟨w.heap.size, n - 7, none⟩ = some (.int .u32 (rdN (schedP blk n) (n - 7))) := d7; have en : (wr.drewN N).cell? ⟨w.heap.size, n, none⟩ = some (.int .u32 (rdN (schedP blk n ++ List.replicate (64 - n) 0) n)) := dn; have fx : (wr.drewN N).frozen? ⟨w.heap.size, n, none⟩ = false := fw; have HWx : Hid (Wds w.heap.size 181 (schedP blk n ++ List.replicate (64 - n) 0) (wr.drewN N)) := HW; have hBx : Below w.heap.size w (wr.drewN N) := bdrewN hB N; clear d16 d7 dn fw d15 d2 HW hB; generalize wr.drewN N = wx at e16 e7 en fx HWx hBx ⊢
     go_still_tail 15, (by kernel_rfl)
     change wpList _ _ _ _ _ wx.drew
     clear w16 w7 t16 t7
     go_wp2
     go_roundw
     case rel =>
      refine ⟨n + 1, by omega, by omega, by go_num, ?_, ?_⟩
      ·have h := (HWx.out.set n (if n < 16 then wordP blk n else nextP (schedP blk n) n)).drew; rw [set_sched _ _ (by omega), if_neg (by omega), next_eq] at h; exact h
      ·exact (hBx.setCell (p := ⟨w.heap.size, n, none⟩) (Nat.le_refl _) _).drew
     case measure => simp [intOf]; omega
    ·obtain rfl : n = 64 := by omega
     have hlt : b < w.heap.size := HH.out.lt; have hHr := HH.out.below hB; have HHr := Lib.hid hHr; clear hHr; rw [show ((64 : Nat) : Int) = 64 from rfl]; have g0 := HHr.out.cS 0 (by omega); have g1 := HHr.out.cS 1 (by omega); have g2 := HHr.out.cS 2 (by omega); have g3 := HHr.out.cS 3 (by omega); have g4 := HHr.out.cS 4 (by omega); have g5 := HHr.out.cS 5 (by omega); have g6 := HHr.out.cS 6 (by omega); have g7 := HHr.out.cS 7 (by omega); have hWl := HW.out.lt
     go_wp2
     clear g0 g1 g2 g3 g4 g5 g6 g7; obtain ⟨wo, hwo⟩ : ∃ wo : World, wo = wr := ⟨_, rfl⟩
     rw [← hwo]; subst hwo
     go_loopw [99] (fun i wr => ∃ n : Nat, n ≤ 64 ∧ i = .int .i64 n ∧ Wds wo.heap.size 151 (((St.of st).run (schedP blk 64) n).list) wr ∧ Wds w.heap.size 181 (schedP blk 64) wr ∧ Below w.heap.size w wr) (fun i _ => 64 - (intOf i).toNat)
     case atStart => exact ⟨0, by omega, rfl, (heap_alloc_new _ _).trans rfl, by simpa using HW.out.alloc _, hB.alloc hz _⟩
     case round =>
      clear HW HHr hB hl hn h16 hz; obtain ⟨n, hn, rfl, hV, hW, hB⟩ := hrel; have HV := Lib.hid hV; clear hV; have HW := Lib.hid hW; clear hW; have hz := hB.size
      by_cases hl : n < 64
      ·obtain ⟨s, hs⟩ : ∃ s, (St.of st).run (schedP blk 64) n = s := ⟨_, rfl⟩
       have HS := Lib.hid hs; rw [hs] at HV; clear hs
       (have v0 : wr.cell? ⟨wo.heap.size, 0, none⟩ = some (.int .u32 s.a) := HV.out.c 0 (by simp [St.list]); have v1 : wr.cell? ⟨wo.heap.size, 1, none⟩ = some (.int .u32 s.b) := HV.out.c 1 (by simp [St.list]); have v2 : wr.cell? ⟨wo.heap.size, 2, none⟩ = some (.int .u32 s.c) := HV.out.c 2 (by simp [St.list]); have v3 : wr.cell? ⟨wo.heap.size, 3, none⟩ = some (.int .u32 s.d) := HV.out.c 3 (by simp [St.list]); have v4 : wr.cell? ⟨wo.heap.size, 4, none⟩ = some (.int .u32 s.e) := HV.out.c 4 (by simp [St.list]); have v5 : wr.cell? ⟨wo.heap.size, 5, none⟩ = some (.int .u32 s.f) := HV.out.c 5 (by simp [St.list]); have v6 : wr.cell? ⟨wo.heap.size, 6, none⟩ = some (.int .u32 s.g) := HV.out.c 6 (by simp [St.list]); have v7 : wr.cell? ⟨wo.heap.size, 7, none⟩ = some (.int .u32 s.z) := HV.out.c 7 (by simp [St.list]); have fv := HV.out.f; have vw := HW.out.c n (by rw [schedP_length]; omega); have vt : wr.cell? ⟨0, n, none⟩ = some (.int .u32 (rdN kTab n)) := (hB.cell (World.block_lt_of_cell? _ _ (HT.out n hl))).trans (HT.out n hl))
       have n64 : (n : Int) < 64 := by omega
       have n0 : (0 : Int) ≤ (n : Int) := by omega
       go_wp2
       go_quiet ((go_at_call 132; exact Calls.quiet_of (rot_any _ _ _ (by decide))))
       (have HVx : Hid (Wds wo.heap.size 151 s.list (wr.drewN nq)) := HV; have HWx : Hid (Wds w.heap.size 181 (schedP blk 64) (wr.drewN nq)) := HW; have hBx : Below w.heap.size w (wr.drewN nq) := bdrewN hB nq; clear v0 v1 v2 v3 v4 v5 v6 v7 fv vw vt HV HW hB; generalize wr.drewN nq = wx at HVx HWx hBx ⊢; have HV := HVx; clear HVx; have HW := HWx; clear HWx; have hB := hBx; clear hBx)
       (have v0 : wx.cell? ⟨wo.heap.size, 0, none⟩ = some (.int .u32 s.a) := HV.out.c 0 (by simp [St.list]); have v1 : wx.cell? ⟨wo.heap.size, 1, none⟩ = some (.int .u32 s.b) := HV.out.c 1 (by simp [St.list]); have v2 : wx.cell? ⟨wo.heap.size, 2, none⟩ = some (.int .u32 s.c) := HV.out.c 2 (by simp [St.list]); have v3 : wx.cell? ⟨wo.heap.size, 3, none⟩ = some (.int .u32 s.d) := HV.out.c 3 (by simp [St.list]); have v4 : wx.cell? ⟨wo.heap.size, 4, none⟩ = some (.int .u32 s.e) := HV.out.c 4 (by simp [St.list]); have v5 : wx.cell? ⟨wo.heap.size, 5, none⟩ = some (.int .u32 s.f) := HV.out.c 5 (by simp [St.list]); have v6 : wx.cell? ⟨wo.heap.size, 6, none⟩ = some (.int .u32 s.g) := HV.out.c 6 (by simp [St.list]); have v7 : wx.cell? ⟨wo.heap.size, 7, none⟩ = some (.int .u32 s.z) := HV.out.c 7 (by simp [St.list]); have fv := HV.out.f; have vw := HW.out.c n (by rw [schedP_length]; omega); have vt : wx.cell? ⟨0, n, none⟩ = some (.int .u32 (rdN kTab n)) := (hB.cell (World.block_lt_of_cell? _ _ (HT.out n hl))).trans (HT.out n hl))
       go_wp2
       go_quiet (fail)
       (have HVx : Hid (Wds wo.heap.size 151 s.list (wx.drewN nq)) := HV; have HWx : Hid (Wds w.heap.size 181 (schedP blk 64) (wx.drewN nq)) := HW; have hBx : Below w.heap.size w (wx.drewN nq) := bdrewN hB nq; clear v0 v1 v2 v3 v4 v5 v6 v7 fv vw vt HV HW hB; generalize wx.drewN nq = wy at HVx HWx hBx ⊢; have HV := HVx; clear HVx; have HW := HWx; clear HWx; have hB := hBx; clear hBx)
       (have v0 : wy.cell? ⟨wo.heap.size, 0, none⟩ = some (.int .u32 s.a) := HV.out.c 0 (by simp [St.list]); have v1 : wy.cell? ⟨wo.heap.size, 1, none⟩ = some (.int .u32 s.b) := HV.out.c 1 (by simp [St.list]); have v2 : wy.cell? ⟨wo.heap.size, 2, none⟩ = some (.int .u32 s.c) := HV.out.c 2 (by simp [St.list]); have v3 : wy.cell? ⟨wo.heap.size, 3, none⟩ = some (.int .u32 s.d) := HV.out.c 3 (by simp [St.list]); have v4 : wy.cell? ⟨wo.heap.size, 4, none⟩ = some (.int .u32 s.e) := HV.out.c 4 (by simp [St.list]); have v5 : wy.cell? ⟨wo.heap.size, 5, none⟩ = some (.int .u32 s.f) := HV.out.c 5 (by simp [St.list]); have v6 : wy.cell? ⟨wo.heap.size, 6, none⟩ = some (.int .u32 s.g) := HV.out.c 6 (by simp [St.list]); have v7 : wy.cell? ⟨wo.heap.size, 7, none⟩ = some (.int .u32 s.z) := HV.out.c 7 (by simp [St.list]); have fv := HV.out.f; have vw := HW.out.c n (by rw [schedP_length]; omega); have vt : wy.cell? ⟨0, n, none⟩ = some (.int .u32 (rdN kTab n)) := (hB.cell (World.block_lt_of_cell? _ _ (HT.out n hl))).trans (HT.out n hl))
       go_wp2
       go_quiet ((go_at_call 132; exact Calls.quiet_of (rot_any _ _ _ (by decide))))
       (have HVx : Hid (Wds wo.heap.size 151 s.list (wy.drewN nq)) := HV; have HWx : Hid (Wds w.heap.size 181 (schedP blk 64) (wy.drewN nq)) := HW; have hBx : Below w.heap.size w (wy.drewN nq) := bdrewN hB nq; clear v0 v1 v2 v3 v4 v5 v6 v7 fv vw vt HV HW hB; generalize wy.drewN nq = wz at HVx HWx hBx ⊢; have HV := HVx; clear HVx; have HW := HWx; clear HWx; have hB := hBx; clear hBx)
       (have v0 : wz.cell? ⟨wo.heap.size, 0, none⟩ = some (.int .u32 s.a) := HV.out.c 0 (by simp [St.list]); have v1 : wz.cell? ⟨wo.heap.size, 1, none⟩ = some (.int .u32 s.b) := HV.out.c 1 (by simp [St.list]); have v2 : wz.cell? ⟨wo.heap.size, 2, none⟩ = some (.int .u32 s.c) := HV.out.c 2 (by simp [St.list]); have v3 : wz.cell? ⟨wo.heap.size, 3, none⟩ = some (.int .u32 s.d) := HV.out.c 3 (by simp [St.list]); have v4 : wz.cell? ⟨wo.heap.size, 4, none⟩ = some (.int .u32 s.e) := HV.out.c 4 (by simp [St.list]); have v5 : wz.cell? ⟨wo.heap.size, 5, none⟩ = some (.int .u32 s.f) := HV.out.c 5 (by simp [St.list]); have v6 : wz.cell? ⟨wo.heap.size, 6, none⟩ = some (.int .u32 s.g) := HV.out.c 6 (by simp [St.list]); have v7 : wz.cell? ⟨wo.heap.size, 7, none⟩ = some (.int .u32 s.z) := HV.out.c 7 (by simp [St.list]); have fv := HV.out.f; have vw := HW.out.c n (by rw [schedP_length]; omega); have vt : wz.cell? ⟨0, n, none⟩ = some (.int .u32 (rdN kTab n)) := (hB.cell (World.block_lt_of_cell? _ _ (HT.out n hl))).trans (HT.out n hl))
       go_wp2
       go_roundw
       case rel =>
        refine ⟨n + 1, by omega, by go_num, ?_, ?_, ?_⟩
        ·rw [St.run, HS.out, rnd_list]; exact (((((((HV.out.set 0 _).set 1 _).set 2 _).set 3 _).set 4 _).set 5 _).set 6 _).set 7 _
        ·have hne : w.heap.size ≠ wo.heap.size := by omega
         exact (((((((HW.out.setOther _ _ hne).setOther _ _ hne).setOther _ _ hne).setOther _ _ hne).setOther _ _ hne).setOther _ _ hne).setOther _ _ hne).setOther _ _ hne
        ·have hle : w.heap.size ≤ wo.heap.size := by omega
         exact (((((((hB.setCell hle _).setCell hle _).setCell hle _).setCell hle _).setCell hle _).setCell hle _).setCell hle _).setCell hle _
       case measure => simp [intOf]; omega
      ·obtain rfl : n = 64 := by omega
       have hHr := HH.out.below hB; have HHr := Lib.hid hHr; clear hHr; rw [show ((64 : Nat) : Int) = 64 from rfl]; obtain ⟨s, hs⟩ : ∃ s, (St.of st).run (schedP blk 64) 64 = s := ⟨_, rfl⟩
       rw [hs] at HV; have HS := Lib.hid hs; clear hs
       go_wp2
       go_loopw [190] (fun i wr => ∃ n : Nat, n ≤ 8 ∧ i = .int .i64 n ∧ Hsh b (addP st s.list n) blk fill tot wr ∧ Wds wo.heap.size 151 s.list wr ∧ w.grownBy wr (some b)) (fun i _ => 8 - (intOf i).toNat)
       case atStart => exact ⟨0, by omega, rfl, HHr.out, HV.out, ⟨hB.os, hB.tape, hB.output, hB.size, fun k hk _ => hB.block k hk⟩⟩
       case round =>
        clear HV HW HHr hB hl hn hz; obtain ⟨n, hn, rfl, hH, hV, hG⟩ := hrel; have HHr := Lib.hid hH; clear hH; have HV := Lib.hid hV; clear hV; have hz := hG.size
        by_cases hl : n < 8
        ·have c1 := HHr.out.cS n hl; rw [addP_get _ _ _ _ (Nat.le_refl _)] at c1; have c2 := HV.out.c n (by simp [St.list]; omega); have c3 := HHr.out.f n; have n8 : (n : Int) < 8 := by omega
         have n0 : (0 : Int) ≤ (n : Int) := by omega
         go_wp2
         go_still_tail 13, (by kernel_rfl)
         change wpList _ _ _ _ _ wr.drew
         go_wp2
         go_roundw
         case rel =>
          refine ⟨n + 1, by omega, by go_num, ?_, ?_, ?_⟩
          ·have h := (HHr.out.setS n hl ((rdN st n + rdN s.list n) % 4294967296)).drew; exact h
          ·exact (HV.out.setOther _ _ (by show wo.heap.size ≠ b; omega)).drew
          ·have g := Lib.grownBy_setB hG n (.int .u32 ((rdN st n + rdN s.list n) % 4294967296)); exact ⟨g.os, g.tape, g.output, g.size, g.block⟩
         case measure => simp [intOf]; omega
        ·obtain rfl : n = 8 := by omega
         rw [show ((8 : Nat) : Int) = 8 from rfl]; have h8 := HH.out.st8; have hH := HHr.out; rw [addP_all st blk h8 s HS.out] at hH; have HHf := Lib.hid hH; clear hH h8
         go_wp2
         go_end0
         exact ⟨rfl, HHf.out, hG⟩
end Go.Proofs.YthnnphinfiobmaaDoor.Z
end
section
namespace Go.Proofs.YthnnphinfiobmaaDoor.Z
open RowKit YthnnphinfiobmaaDoor YthnnphinfiobmaaDoorW.PrintWords YthnnphinfiobmaaDoorW.PrintLast
set_option linter.all false
set_option maxRecDepth 100000
theorem blockAt_app (l m : List Int) (fr : Nat) (h : fr + 64 ≤ l.length) : blockAt (l ++ m) fr = blockAt l fr := by
 unfold blockAt; rw [List.drop_append_of_le_length (by omega), List.take_append_of_le_length (by rw [List.length_drop]; omega)]
theorem stateP_app (l m : List Int) : ∀ n, 64 * n ≤ l.length → stateP (l ++ m) n = stateP l n
 | 0, _ => rfl
 | n + 1, h => by rw [stateP, stateP, stateP_app l m n (by omega), blockAt_app l m _ (by omega)]
theorem rdN_app_lt (l m : List Int) (j : Nat) (h : j < l.length) : rdN (l ++ m) j = rdN l j := by
 unfold rdN; rw [List.getD_eq_getElem?_getD, List.getD_eq_getElem?_getD, List.getElem?_append_left h]
theorem rdN_app_at (l : List Int) (x : Int) : rdN (l ++ [x]) l.length = x := by
 unfold rdN; rw [List.getD_eq_getElem?_getD, List.getElem?_append_right (Nat.le_refl _)]; simp
theorem rdN_set_ne (l : List Int) (i j : Nat) (x : Int) (h : i ≠ j) : rdN (l.set i x) j = rdN l j := by
 unfold rdN; rw [List.getD_eq_getElem?_getD, List.getD_eq_getElem?_getD, List.getElem?_set_ne h]
theorem rdN_set_eq (l : List Int) (i : Nat) (x : Int) (h : i < l.length) : rdN (l.set i x) i = x := by
 unfold rdN; rw [List.getD_eq_getElem?_getD, List.getElem?_set_self h]; rfl
theorem list_eq_of_rdN (l m : List Int) (h : l.length = m.length) (he : ∀ j, j < l.length → rdN l j = rdN m j) : l = m := by
 apply List.ext_getElem h
 intro j h1 h2; have := he j h1; unfold rdN at this; rw [List.getD_eq_getElem?_getD, List.getD_eq_getElem?_getD, List.getElem?_eq_getElem h1, List.getElem?_eq_getElem h2] at this; exact this
structure Fed (b : Nat) (l : List Int) (tot : Int) (w : World) : Prop where
 out : ∃ blk, Hsh b (stateP l (l.length / 64)) blk ((l.length % 64 : Nat) : Int) tot w ∧ ∀ j, j < l.length % 64 → rdN blk j = rdN l (64 * (l.length / 64) + j)
section
variable {b : Nat} {l : List Int} {tot : Int} {w w1 : World}
theorem Fed.lt (h : Fed b l tot w) : b < w.heap.size := by obtain ⟨blk, h1, _⟩ := h.out; exact h1.lt
theorem Fed.f (h : Fed b l tot w) (i : Nat) : w.frozen? ⟨b, i, none⟩ = false := by obtain ⟨blk, h1, _⟩ := h.out; exact h1.f i
theorem Fed.cF (h : Fed b l tot w) : w.cell? ⟨b, 72, none⟩ = some (.int .i64 ((l.length % 64 : Nat) : Int)) := by obtain ⟨blk, h1, _⟩ := h.out; exact h1.cF
theorem Fed.cT (h : Fed b l tot w) : w.cell? ⟨b, 73, none⟩ = some (.int .u64 tot) := by obtain ⟨blk, h1, _⟩ := h.out; exact h1.cT
theorem Fed.keep (h : Fed b l tot w) (hb : w1.heap[b]? = w.heap[b]?) : Fed b l tot w1 := by obtain ⟨blk, h1, h2⟩ := h.out; exact ⟨blk, h1.keep hb, h2⟩
theorem Fed.below (h : Fed b l tot w) (hb : Below w.heap.size w w1) : Fed b l tot w1 := h.keep (hb.block b h.lt)
theorem Fed.setT (h : Fed b l tot w) (x : Int) : Fed b l x (w.setCell ⟨b, 73, none⟩ (.int .u64 x)) := by obtain ⟨blk, h1, h2⟩ := h.out; exact ⟨blk, h1.setT x, h2⟩
theorem Tab.grown (h : Tab w) {row : Option Nat} (hb : w.grownBy w1 row) (hn : some 0 ≠ row) : Tab w1 := by
 intro i hi; exact hb.cell (h i hi) hn
theorem Tab.below (h : Tab w) (hb : Below w.heap.size w w1) : Tab w1 := by
 intro i hi; exact (hb.cell (World.block_lt_of_cell? _ _ (h i hi))).trans (h i hi)
theorem Tab.lt (h : Tab w) : 0 < w.heap.size := World.block_lt_of_cell? _ _ (h 0 (by omega))
end
theorem grown_drew {a w : World} {row : Option Nat} (h : a.grownBy w row) : a.grownBy w.drew row := ⟨h.os, h.tape, h.output, h.size, h.block⟩
theorem grown_refl (a : World) (row : Option Nat) : a.grownBy a row := ⟨rfl, rfl, rfl, Nat.le_refl _, fun _ _ _ => rfl⟩
set_option maxHeartbeats 1000000 in
theorem add_any (b : Nat) (l : List Int) (tot x : Int) (w : World) (h : Fed b l tot w) (ht : Tab w) (hbg : 0 < b) :
  Calls Tryd.prog 115 #[.pointer (some ⟨b, 0, none⟩), .int .u8 x] w fun e w' => e = .returned (.tuple #[]) ∧ Fed b (l ++ [x]) tot w' ∧ w.grownBy w' (some b) := by
 obtain ⟨blk, hH, hblk⟩ := h.out; have HB := Lib.hid hblk; clear hblk h; obtain ⟨f, hf⟩ : ∃ f, l.length % 64 = f := ⟨_, rfl⟩
 rw [hf] at hH HB; have hf64 : f < 64 := by omega
 have HF := Lib.hid hf; clear hf; have c1 := hH.cF; have c2 := hH.cB f hf64; have f1 := hH.f (8 + f); have f2 := hH.f 72; have HH := Lib.hid hH; clear hH; have HT := Lib.hid ht; clear ht; have n64 : (f : Int) < 64 := by omega
 have n0 : (0 : Int) ≤ (f : Int) := by omega
 have hgb : some 0 ≠ some b := by intro e; have := Option.some.inj e; omega
 have hlen : (l ++ [x]).length = l.length + 1 := by simp
 have HLEN := Lib.hid hlen; clear hlen
 by_cases h63 : f = 63
 ·have heq : (((f : Int) + 1) == 64) = true := by rw [beq_iff_eq]; omega
  have hG : w.grownBy ((w.setCell ⟨b, 8 + f, none⟩ (.int .u8 x)).setCell ⟨b, 72, none⟩ (.int .i64 ((f : Int) + 1))).drew (some b) := grown_drew (Lib.grownBy_setB (Lib.grownBy_setCell _ _ _ _) _ _); have hT2 := HT.out.grown hG hgb; have HT2 := Lib.hid hT2; clear hT2; have hH3 := ((HH.out.setB f hf64 x).setF ((f : Int) + 1)).drew; have HH3 := Lib.hid hH3; clear hH3; have HG := Lib.hid hG; clear hG; have H63 := Lib.hid h63; clear h63
  go_enter Tryd.func115, Tryd.ntmps115
  go_wp2
  go_still_tail 9, (by kernel_rfl)
  change wpList _ _ _ _ _ w.drew
  go_wp2_with (go_at_call 127; go_loud (refine (mix_any b _ _ _ _ _ HH3.out HT2.out).mono ?_; rintro e w1 ⟨rfl, h1, hg⟩; have k1 := h1.cF; have k2 := h1.f 72; have H1 := Lib.hid h1; clear h1))
  go_end0
  refine ⟨rfl, ⟨blk.set f x, ?_, ?_⟩, ?_⟩
  ·have h := H1.out.setF 0; have e1 : (l ++ [x]).length / 64 = l.length / 64 + 1 := by rw [HLEN.out]; have := HF.out; have := H63.out; omega
   have e2 : (l ++ [x]).length % 64 = 0 := by rw [HLEN.out]; have := HF.out; have := H63.out; omega
   have e3 : blk.set f x = blockAt (l ++ [x]) (64 * (l.length / 64)) := by
    have hb64 := HH.out.blk64; have hbl : (blockAt (l ++ [x]) (64 * (l.length / 64))).length = 64 := by unfold blockAt; rw [List.length_take, List.length_drop, HLEN.out]; have := HF.out; have := H63.out; omega
    refine list_eq_of_rdN _ _ (by rw [List.length_set, hb64, hbl]) fun j hj => ?_
    rw [List.length_set, hb64] at hj; rw [rd_blockAt _ _ _ hj]
    by_cases hjf : f = j
    ·subst hjf; rw [rdN_set_eq _ _ _ (by omega)]; have : 64 * (l.length / 64) + f = l.length := by have := HF.out; omega
     rw [this, rdN_app_at]
    ·rw [rdN_set_ne _ _ _ _ hjf, HB.out j (by have := H63.out; omega), rdN_app_lt _ _ _ (by have := HF.out; have := H63.out; omega)]
   rw [e1, e2, stateP, stateP_app l [x] _ (by omega), ← e3]; exact h
  ·intro j hj; have e2 : (l ++ [x]).length % 64 = 0 := by rw [HLEN.out]; have := HF.out; have := H63.out; omega
   omega
  ·exact Lib.grownBy_setB (Lib.grownBy_trans HG.out hg) _ _
 ·have hne : (((f : Int) + 1) == 64) = false := by rw [beq_eq_false_iff_ne]; omega
  go_enter Tryd.func115, Tryd.ntmps115
  go_wp2
  go_still_tail 9, (by kernel_rfl)
  change wpList _ _ _ _ _ w.drew
  go_wp2
  go_end0
  refine ⟨rfl, ⟨blk.set f x, ?_, ?_⟩, ?_⟩
  ·have h := ((HH.out.setB f hf64 x).setF ((f : Int) + 1)).drew; have e1 : (l ++ [x]).length / 64 = l.length / 64 := by rw [HLEN.out]; have := HF.out; omega
   have e2 : (((l ++ [x]).length % 64 : Nat) : Int) = (f : Int) + 1 := by rw [HLEN.out]; have := HF.out; omega
   rw [e1, e2, stateP_app l [x] _ (by omega)]; exact h
  ·intro j hj; have e1 : (l ++ [x]).length / 64 = l.length / 64 := by rw [HLEN.out]; have := HF.out; omega
   have hj' : j < f + 1 := by rw [HLEN.out] at hj; have := HF.out; omega
   have hb64 := HH.out.blk64; rw [e1]
   by_cases hjf : f = j
   ·subst hjf; rw [rdN_set_eq _ _ _ (by omega)]; have : 64 * (l.length / 64) + f = l.length := by have := HF.out; omega
    rw [this, rdN_app_at]
   ·rw [rdN_set_ne _ _ _ _ hjf, HB.out j (by omega), rdN_app_lt _ _ _ (by have := HF.out; omega)]
  ·exact grown_drew (Lib.grownBy_setB (Lib.grownBy_setCell _ _ _ _) _ _)
end Go.Proofs.YthnnphinfiobmaaDoor.Z
end
section
namespace Go.Proofs.YthnnphinfiobmaaDoor.Z
open RowKit YthnnphinfiobmaaDoor YthnnphinfiobmaaDoorW.PrintWords YthnnphinfiobmaaDoorW.PrintLast
set_option linter.all false
set_option maxRecDepth 100000
theorem ints_app (l m : List UInt8) : ints (l ++ m) = ints l ++ ints m := by simp [ints]
theorem ints_one (c : UInt8) : ints [c] = [(c.toNat : Int)] := rfl
theorem take_snoc (s : ByteArray) (k : Nat) (h : k < s.size) : s.data.toList.take (k + 1) = s.data.toList.take k ++ [s[k]] := by
 rw [List.take_succ_eq_append_getElem (by simpa using h)]; rfl
set_option maxHeartbeats 1000000 in
theorem feed_any (b : Nat) (l : List Int) (tot : Nat) (s : ByteArray) (w : World) (h : Fed b l tot w) (ht : Tab w) (hbg : 0 < b) (hs : s.size ≤ 8589934592) (htot : tot ≤ 8589934592) :
  Calls Tryd.prog 105 #[.pointer (some ⟨b, 0, none⟩), .string s] w fun e w' => e = .returned (.pointer (some ⟨b, 0, none⟩)) ∧ Fed b (l ++ ints s.data.toList) ((tot + s.size : Nat) : Int) w' ∧ w.grownBy w' (some b) := by
 have hgb : some 0 ≠ some b := by intro e; have := Option.some.inj e; omega
 have HH := Lib.hid h; clear h; have HT := Lib.hid ht; clear ht
 go_enter Tryd.func105, Tryd.ntmps105
 go_wp2
 go_loopw [8] (fun i wr => ∃ n : Nat, n ≤ s.size ∧ i = .int .i64 n ∧ Fed b (l ++ ints (s.data.toList.take n)) tot wr ∧ w.grownBy wr (some b)) (fun i _ => s.size - (intOf i).toNat)
 case atStart => exact ⟨0, by omega, rfl, by simpa [ints] using HH.out, grown_refl _ _⟩
 case round =>
  obtain ⟨n, hn, rfl, hF, hG⟩ := hrel; have hT := HT.out.grown hG hgb; have HTr := Lib.hid hT; clear hT; have HF := Lib.hid hF; clear hF
  by_cases hl : n < s.size
  ·go_wp2_with (go_at_call 115; refine (add_any b _ _ _ _ HF.out HTr.out hbg).mono ?_; rintro e w1 ⟨rfl, h1, hg⟩; have H1 := Lib.hid h1; clear h1)
   go_roundw
   case rel =>
    refine ⟨n + 1, by omega, by go_num, ?_, Lib.grownBy_trans hG hg⟩; rw [take_snoc s n hl, ints_app, ints_one, ← List.append_assoc]; exact H1.out
   case measure => simp [intOf]; omega
  ·obtain rfl : n = s.size := by omega
   have c1 := HF.out.cT; have f1 := HF.out.f 73; have e1 : s.data.toList.take s.size = s.data.toList := List.take_of_length_le (Nat.le_refl _); have HE := Lib.hid e1; clear e1
   go_wp2
   go_ret
   refine ⟨rfl, ?_, Lib.grownBy_setB hG _ _⟩; have h := HF.out.setT ((tot + s.size : Nat) : Int); rw [HE.out] at h; rw [show ((tot + s.size : Nat) : Int) = (tot : Int) + (s.size : Int) by omega] at h ⊢; exact h
theorem len_byte_eq2 (n i : Nat) (hi : i ≤ 7) (hn : n ≤ 8589934592) : (((8 * n : Nat) : Int) / 2 ^ (8 * i)) % 256 = ((lenByte n (7 - i)).toNat : Int) := by
 unfold lenByte; rw [show 7 - (7 - i) = i by omega, UInt8.toNat_ofNat']; rw [show ((2 : Int) ^ (8 * i)) = ((2 ^ (8 * i) : Nat) : Int) by rw [Int.natCast_pow]; rfl]; rw [← Int.natCast_ediv]; generalize 8 * n / 2 ^ (8 * i) = q; omega
def Wby (g : Nat) (T : TypeId) (l : List Int) (w : World) : Prop := w.heap[g]? = some (.cells (l.map (Value.int .u8)).toArray T (0, 0))
section
variable {g : Nat} {T : TypeId} {l : List Int} {w w1 : World}
theorem Wby.lt (h : Wby g T l w) : g < w.heap.size := lt_of_block h
theorem Wby.f (h : Wby g T l w) (i : Nat) : w.frozen? ⟨g, i, none⟩ = false := frozen_of_row _ _ _ _ _ h
theorem Wby.c (h : Wby g T l w) (i : Nat) (hi : i < l.length) : w.cell? ⟨g, i, none⟩ = some (.int .u8 (rdN l i)) := by
 rw [cell_of_row _ _ _ _ _ _ h]; simp [rdN, List.getD_eq_getElem?_getD, hi]
theorem Wby.set (h : Wby g T l w) (i : Nat) (x : Int) : Wby g T (l.set i x) (w.setCell ⟨g, i, none⟩ (.int .u8 x)) := by
 refine hset h ?_; rw [List.map_set]
end
theorem idx8_0 (a b c d e f g z : Int) (w : World) : (Instr.index 151 (.agg #[.int .u32 a, .int .u32 b, .int .u32 c, .int .u32 d, .int .u32 e, .int .u32 f, .int .u32 g, .int .u32 z]) (.int .i64 0)).run Tryd.prog w = .ok (.int .u32 a) w := by kernel_rfl
theorem idx8_1 (a b c d e f g z : Int) (w : World) : (Instr.index 151 (.agg #[.int .u32 a, .int .u32 b, .int .u32 c, .int .u32 d, .int .u32 e, .int .u32 f, .int .u32 g, .int .u32 z]) (.int .i64 1)).run Tryd.prog w = .ok (.int .u32 b) w := by kernel_rfl
theorem idx8_2 (a b c d e f g z : Int) (w : World) : (Instr.index 151 (.agg #[.int .u32 a, .int .u32 b, .int .u32 c, .int .u32 d, .int .u32 e, .int .u32 f, .int .u32 g, .int .u32 z]) (.int .i64 2)).run Tryd.prog w = .ok (.int .u32 c) w := by kernel_rfl
theorem idx8_3 (a b c d e f g z : Int) (w : World) : (Instr.index 151 (.agg #[.int .u32 a, .int .u32 b, .int .u32 c, .int .u32 d, .int .u32 e, .int .u32 f, .int .u32 g, .int .u32 z]) (.int .i64 3)).run Tryd.prog w = .ok (.int .u32 d) w := by kernel_rfl
theorem idx8_4 (a b c d e f g z : Int) (w : World) : (Instr.index 151 (.agg #[.int .u32 a, .int .u32 b, .int .u32 c, .int .u32 d, .int .u32 e, .int .u32 f, .int .u32 g, .int .u32 z]) (.int .i64 4)).run Tryd.prog w = .ok (.int .u32 e) w := by kernel_rfl
theorem idx8_5 (a b c d e f g z : Int) (w : World) : (Instr.index 151 (.agg #[.int .u32 a, .int .u32 b, .int .u32 c, .int .u32 d, .int .u32 e, .int .u32 f, .int .u32 g, .int .u32 z]) (.int .i64 5)).run Tryd.prog w = .ok (.int .u32 f) w := by kernel_rfl
theorem idx8_6 (a b c d e f g z : Int) (w : World) : (Instr.index 151 (.agg #[.int .u32 a, .int .u32 b, .int .u32 c, .int .u32 d, .int .u32 e, .int .u32 f, .int .u32 g, .int .u32 z]) (.int .i64 6)).run Tryd.prog w = .ok (.int .u32 g) w := by kernel_rfl
theorem idx8_7 (a b c d e f g z : Int) (w : World) : (Instr.index 151 (.agg #[.int .u32 a, .int .u32 b, .int .u32 c, .int .u32 d, .int .u32 e, .int .u32 f, .int .u32 g, .int .u32 z]) (.int .i64 7)).run Tryd.prog w = .ok (.int .u32 z) w := by kernel_rfl
theorem idx8 (st : List Int) (n : Nat) (hn : n < 8) (w : World) : (Instr.index 151 (.agg #[.int .u32 (rdN st 0), .int .u32 (rdN st 1), .int .u32 (rdN st 2), .int .u32 (rdN st 3), .int .u32 (rdN st 4), .int .u32 (rdN st 5), .int .u32 (rdN st 6), .int .u32 (rdN st 7)]) (.int .i64 (n : Int))).run Tryd.prog w = .ok (.int .u32 (rdN st n)) w := by
 have h : n = 0 ∨ n = 1 ∨ n = 2 ∨ n = 3 ∨ n = 4 ∨ n = 5 ∨ n = 6 ∨ n = 7 := by omega
 rcases h with rfl | rfl | rfl | rfl | rfl | rfl | rfl | rfl
 ·exact idx8_0 _ _ _ _ _ _ _ _ w
 ·exact idx8_1 _ _ _ _ _ _ _ _ w
 ·exact idx8_2 _ _ _ _ _ _ _ _ w
 ·exact idx8_3 _ _ _ _ _ _ _ _ w
 ·exact idx8_4 _ _ _ _ _ _ _ _ w
 ·exact idx8_5 _ _ _ _ _ _ _ _ w
 ·exact idx8_6 _ _ _ _ _ _ _ _ w
 ·exact idx8_7 _ _ _ _ _ _ _ _ w
theorem set_out (st : List Int) (n : Nat) (hn : n < 8) :
  ((((outB st n ++ List.replicate (32 - 4 * n) 0).set (4 * n) (rdN st n / 16777216 % 256)).set (4 * n + 1) (rdN st n / 65536 % 256)).set (4 * n + 2) (rdN st n / 256 % 256)).set (4 * n + 3) (rdN st n % 256) = outB st (n + 1) ++ List.replicate (32 - 4 * (n + 1)) 0 := by
 have hl := outB_length st n; rw [show 32 - 4 * n = (32 - 4 * (n + 1)) + 4 by omega]; rw [List.set_append_right _ _ (by omega), List.set_append_right _ _ (by omega), List.set_append_right _ _ (by omega), List.set_append_right _ _ (by omega), hl]; rw [show 4 * n - 4 * n = 0 by omega, show 4 * n + 1 - 4 * n = 1 by omega, show 4 * n + 2 - 4 * n = 2 by omega, show 4 * n + 3 - 4 * n = 3 by omega]; rw [List.replicate_succ, List.replicate_succ, List.replicate_succ, List.replicate_succ, outB, List.append_assoc]; rfl
set_option maxHeartbeats 1000000 in
theorem finish_any (b : Nat) (l : List UInt8) (w : World) (h : Fed b (ints l) (l.length : Nat) w) (ht : Tab w) (hbg : 0 < b) (hs : l.length ≤ 8589934592) :
  Calls Tryd.prog 106 #[.pointer (some ⟨b, 0, none⟩)] w fun e w' => e = .returned (.agg ((shaL l).map (Value.int .u8)).toArray) ∧ w.grownBy w' (some b) := by
 have hgb : some 0 ≠ some b := by intro e; have := Option.some.inj e; omega
 have hlt := h.lt; have hzm := zerosN_mod l.length; have hzl := zerosN_lt l.length; have c0 := h.cT; have HZM := Lib.hid hzm; clear hzm; have HH := Lib.hid h; clear h; have HT := Lib.hid ht; clear ht
 go_enter Tryd.func106, Tryd.ntmps106
 go_wp2_with fail
 refine (add_any b (ints l) _ 128 _ (HH.out.keep (Below.heap_alloc _ _ _ hlt)) (HT.out.below zq_25) hbg).mono ?_; rintro e w1 ⟨rfl, h1, hg1⟩; have hT1 := HT.out.below (w1 := w.alloc (.cells ((List.replicate 32 (Value.int .u8 0)).toArray) 74)) zq_25; have HT1 := Lib.hid (Tab.grown hT1 hg1 hgb); clear hT1; have H1 := Lib.hid h1; clear h1; have gW1 : w.grownBy w1 (some b) := Lib.grownBy_trans (World.grownBy_alloc w _ _) hg1; have hz1 := hg1.size; simp only [World.size_alloc] at hz1; have hR1 : w1.heap[w.heap.size]? = some (.cells ((List.replicate 32 (Value.int .u8 0)).toArray) 74 (0, 0)) := by
  rw [hg1.block w.heap.size (by simp) (by intro e; have := Option.some.inj e; omega)]; exact heap_alloc_new _ _
 have HR1 := Lib.hid hR1; clear hR1; rw [show ints l ++ [128] = ints (padZ l 0) by simp [padZ, ints]] at H1
 go_wp2
 go_loopg [15] (zerosN l.length) (fun kq v w' => ∃ j : Nat, j + kq = zerosN l.length ∧ Fed b (ints (padZ l j)) (l.length : Nat) w' ∧ w1.grownBy w' (some b))
 case atStart => exact ⟨0, by omega, H1.out, grown_refl _ _⟩
 case round =>
  clear c0; obtain ⟨j, hj, hF, hG⟩ := hrel; have HTr := Lib.hid (Tab.grown HT1.out hG hgb); have c2 := hF.cF; have HF := Lib.hid hF; clear hF; obtain ⟨q, hq⟩ : ∃ q, (ints (padZ l j)).length % 64 = q := ⟨_, rfl⟩
  rw [hq] at c2; rw [ints_length, padZ_length] at hq
  cases gk with
  | zero =>
   obtain rfl : j = zerosN l.length := by omega
   have h56 : ((q : Int) != 56) = false := by rw [bne_eq_false_iff_eq]; have := HZM.out; omega
   clear hq
   go_wp2
   go_loopw [4] (fun i w' => ∃ m : Nat, m ≤ 8 ∧ i = .int .i64 (7 - (m : Int)) ∧ Fed b (ints (padZ l (zerosN l.length) ++ lenB l.length m)) (l.length : Nat) w' ∧ w1.grownBy w' (some b)) (fun i _ => (intOf i + 1).toNat)
   case atStart => exact ⟨0, by omega, rfl, by simpa [lenB] using HF.out, hG⟩
   case round =>
    clear HF HTr c2 h56 hG; obtain ⟨m, hm, rfl, hF, hG⟩ := hrel; have HTr := Lib.hid (Tab.grown HT1.out hG hgb); have HF := Lib.hid hF; clear hF
    by_cases h8 : m < 8
    ·have t0 : (0 : Int) ≤ 7 - (m : Int) := by omega
     have hbyte : (l.length : Int) * 8 / 2 ^ (8 * (7 - m)) % 256 = ((lenByte l.length m).toNat : Int) := by
      have := len_byte_eq2 l.length (7 - m) (by omega) hs; rw [show 7 - (7 - m) = m by omega, show ((8 * l.length : Nat) : Int) = (l.length : Int) * 8 by omega] at this; exact this
     go_wp2_with (go_at_call 115; refine (add_any b _ _ ((lenByte l.length m).toNat : Int) _ HF.out HTr.out hbg).mono ?_; rintro e w2 ⟨rfl, h2, hg2⟩; have H2 := Lib.hid h2; clear h2)
     clear hbyte
     go_roundw
     case rel =>
      refine ⟨m + 1, by omega, by go_num, ?_, Lib.grownBy_trans hG hg2⟩; rw [lenB_succ, ← List.append_assoc, ints_app]; exact H2.out
     case measure => simp [intOf]; omega
    ·obtain rfl : m = 8 := by omega
     rw [show padZ l (zerosN l.length) ++ lenB l.length 8 = padP l from rfl] at HF; obtain ⟨blk, hH, _⟩ := HF.out.out; have hst : stateP (ints (padP l)) ((ints (padP l)).length / 64) = stateP (ints (padP l)) ((l.length + 72) / 64) := by
      rw [ints_length, padP_length]; congr 1; omega
     rw [hst] at hH; have hst8 := hH.st8; obtain ⟨st, hs2⟩ : ∃ st, stateP (ints (padP l)) ((l.length + 72) / 64) = st := ⟨_, rfl⟩
     rw [hs2] at hH hst8; have HS2 := Lib.hid hs2; clear hs2 hst; have g0 := hH.cS 0 (by omega); have g1 := hH.cS 1 (by omega); have g2 := hH.cS 2 (by omega); have g3 := hH.cS 3 (by omega); have g4 := hH.cS 4 (by omega); have g5 := hH.cS 5 (by omega); have g6 := hH.cS 6 (by omega); have g7 := hH.cS 7 (by omega); have hbl := hH.lt; have hz := hG.size; have hz0 := hz; clear hH; rw [show (7 : Int) - ((8 : Nat) : Int) = -1 from rfl]
     go_wp2
     clear g0 g1 g2 g3 g4 g5 g6 g7; obtain ⟨wo, hwo⟩ : ∃ wo : World, wo = wr := ⟨_, rfl⟩
     rw [← hwo]; subst hwo
     go_loopw [37] (fun i w' => ∃ n : Nat, n ≤ 8 ∧ i = .int .i64 n ∧ Wby wo.heap.size 74 (outB st n ++ List.replicate (32 - 4 * n) 0) w' ∧ w1.grownBy w' (some b)) (fun i _ => 8 - (intOf i).toNat)
     case atStart => exact ⟨0, by omega, rfl, (heap_alloc_new _ _).trans rfl, Lib.grownBy_allocR hG _⟩
     case round =>
      clear hG hz; obtain ⟨n, hn, rfl, hO, hG⟩ := hrel; have HO := Lib.hid hO; clear hO; have hz := hG.size; have hll : (outB st n ++ List.replicate (32 - 4 * n) 0).length = 32 := by rw [List.length_append, outB_length, List.length_replicate]; omega
      by_cases hl : n < 8
      ·have hidx := idx8 st n hl; have d0 := HO.out.c (4 * n) (by omega); have d1 := HO.out.c (4 * n + 1) (by omega); have d2 := HO.out.c (4 * n + 2) (by omega); have d3 := HO.out.c (4 * n + 3) (by omega); have fo := HO.out.f; have n8 : (n : Int) < 8 := by omega
       have n0 : (0 : Int) ≤ (n : Int) := by omega
       clear hll
       go_wp2
       go_roundw
       case rel =>
        refine ⟨n + 1, by omega, by go_num, ?_, ?_⟩
        ·rw [← set_out st n hl]; exact (((HO.out.set (4 * n) _).set (4 * n + 1) _).set (4 * n + 2) _).set (4 * n + 3) _
        ·have ho : w1.heap.size ≤ wo.heap.size := hz0; have h := fun (a : World) (g : w1.grownBy a (some b)) (i : Nat) (v : Value) => (⟨g.os, g.tape, g.output, by simpa using g.size, fun k hk hne => (heap_setCell_other _ _ _ _ (by show k ≠ wo.heap.size; omega)).trans (g.block k hk hne)⟩ : w1.grownBy (a.setCell ⟨wo.heap.size, i, none⟩ v) (some b))
         exact h _ (h _ (h _ (h _ hG _ _) _ _) _ _) _ _
       case measure => simp [intOf]; omega
      ·obtain rfl : n = 8 := by omega
       rw [show ((8 : Nat) : Int) = 8 from rfl]; rw [show List.replicate (32 - 4 * 8) (0 : Int) = [] from rfl, List.append_nil] at HO hll; have hRr : wr.heap[w.heap.size]? = some (.cells ((List.replicate 32 (Value.int .u8 0)).toArray) 74 (0, 0)) := (hG.block w.heap.size (by omega) (by intro e; have := Option.some.inj e; omega)).trans HR1.out; have HRr := Lib.hid hRr; clear hRr; have hsz : ((outB st 8).map (Value.int .u8)).toArray.size = 32 := by simp [hll]
       have hi : (Tryd.prog.info? 74).map (·.size) = some (((outB st 8).map (Value.int .u8)).toArray.size) := by rw [hsz]; kernel_rfl
       have h1c : (((outB st 8).map (Value.int .u8)).toArray).all (·.oneCell') = true := by simp [Value.oneCell']
       have HI := Lib.hid hi; clear hi; have HSZ := Lib.hid hsz; clear hsz; have H1C := Lib.hid h1c; clear h1c hll; obtain ⟨cs, hcs⟩ : ∃ cs, ((outB st 8).map (Value.int .u8)).toArray = cs := ⟨_, rfl⟩
       have hOo : wr.heap[wo.heap.size]? = some (.cells cs 74 (0, 0)) := by rw [← hcs]; exact HO.out
       rw [hcs] at HI HSZ H1C; have HCS := Lib.hid hcs; have HOo := Lib.hid hOo; clear hcs hOo HO
       go_wp2_with (first | ((with_reducible refine gate_dst (N := 68) rfl ?_); refine wpList_load_row rfl 74 _ rfl wo.heap.size rfl _ _ _ _ HOo.out Tryd.underlying74 rfl HI.out ?_) | refine wpList_store_row rfl 74 _ _ rfl w.heap.size cs rfl rfl _ _ HRr.out HI.out (by rw [HSZ.out]; rfl) H1C.out ?_)
       refine bodyPost_ret (v := .agg cs) (results_cell_row Tryd.results106 _ _ w.heap.size 74 cs (0, 0) _ rfl (setRow_heap _ _ _ _ _ _ HRr.out) Tryd.underlying74 rfl HI.out) rfl ⟨?_, ?_⟩
       ·rw [← HCS.out, ← HS2.out]; rfl
       ·have g := Lib.grownBy_trans gW1 hG; exact ⟨g.os, g.tape, g.output, by rw [setRow_size]; exact g.size, fun k hk hne => (setRow_other _ _ _ _ (by omega)).trans (g.block k hk hne)⟩
  | succ gk =>
   have h56 : ((q : Int) != 56) = true := by rw [bne_iff_ne]; have := HZM.out; omega
   clear hq
   go_wp2_with (go_at_call 115; refine (add_any b _ _ 0 _ HF.out HTr.out hbg).mono ?_; rintro e w2 ⟨rfl, h2, hg2⟩; have H2 := Lib.hid h2; clear h2)
   go_roundg gk
   case measure => omega
   case rel =>
    refine ⟨j + 1, by omega, ?_, Lib.grownBy_trans hG hg2⟩; rw [padZ_succ, ints_app]; exact H2.out
end Go.Proofs.YthnnphinfiobmaaDoor.Z
end
section
namespace Go.Proofs.YthnnphinfiobmaaDoor.Z
open RowKit YthnnphinfiobmaaDoor YthnnphinfiobmaaDoorW.PrintWords YthnnphinfiobmaaDoorW.PrintLast
set_option linter.all false
set_option maxRecDepth 100000
def catL (ps : List ByteArray) : List UInt8 := ps.flatMap fun s => s.data.toList
theorem catL_snoc (ps : List ByteArray) (s : ByteArray) : catL (ps ++ [s]) = catL ps ++ s.data.toList := by simp [catL]
theorem catL_take_le (ps : List ByteArray) (n : Nat) : (catL (ps.take n)).length ≤ (catL ps).length := by
 have h : catL ps = catL (ps.take n) ++ catL (ps.drop n) := by
  unfold catL; rw [← List.flatMap_append, List.take_append_drop]
 rw [h, List.length_append]; omega
def hashV (l : List Int) : Value := .agg (l.map (Value.int .u8)).toArray
set_option maxHeartbeats 1000000 in
theorem hashOf_any (g : Nat) (ps : List ByteArray) (w : World) (hc : ∀ j p, ps[j]? = some p → w.cell? ⟨g, j, none⟩ = some (.string p)) (ht : Tab w) (hsz : (catL ps).length ≤ 4294967296) (hn : ps.length ≤ 4294967296) (hg : g < w.heap.size) :
  Calls Tryd.prog 86 #[.slice (some ⟨g, 0, none⟩) ps.length ps.length] w fun e w' => e = .returned (hashV (shaL (catL ps))) ∧ Below w.heap.size w w' := by
 have HC := Lib.hid hc; clear hc; have HT := Lib.hid ht; clear ht
 go_enter Tryd.func86, Tryd.ntmps86
 go_wp2_with (go_at_call 104; refine (newHasher_any _).mono ?_; rintro e w1 ⟨rfl, h1, hz1, hb1⟩; have H1 := Lib.hid h1; clear h1)
 have hz2 := hz1; simp only [World.size_alloc] at hz2; have hR1 : w1.heap[w.heap.size]? = some (.cells ((List.replicate 32 (Value.int .u8 0)).toArray) 74 (0, 0)) := (hb1.block _ (by simp)).trans (heap_alloc_new _ _); have HR1 := Lib.hid hR1; clear hR1; have hF1 : Fed (w.heap.size + 1) (ints (catL (ps.take 0))) ((catL (ps.take 0)).length : Nat) w1 := by
  refine ⟨_, by simpa [ints, catL, stateP] using H1.out, fun j hj => by simp [catL, ints] at hj⟩
 have HF1 := Lib.hid hF1; clear hF1; have hB1 : Below w.heap.size w w1 := ((Below.refl _ _).alloc (Nat.le_refl _) _).trans (hb1.mono (by simp))
 go_wp2
 go_loopw [9] (fun i wr => ∃ n : Nat, n ≤ ps.length ∧ i = .int .i64 n ∧ Fed (w.heap.size + 1) (ints (catL (ps.take n))) ((catL (ps.take n)).length : Nat) wr ∧ w1.grownBy wr (some (w.heap.size + 1))) (fun i _ => ps.length - (intOf i).toNat)
 case atStart => exact ⟨0, by omega, rfl, HF1.out, grown_refl _ _⟩
 case round =>
  obtain ⟨n, hn1, rfl, hF, hG⟩ := hrel; have hBr : Below w.heap.size w wr := hB1.grown hG (by omega) (by intro k hk; have := Option.some.inj hk; omega); have HTr := Lib.hid (HT.out.below hBr); have hbg : 0 < w.heap.size + 1 := by have := HT.out.lt; omega
  have HF := Lib.hid hF; clear hF
  by_cases hl : n < ps.length
  ·have hcn := HC.out n ps[n] (List.getElem?_eq_getElem hl); have hcr := (hBr.cell (p := ⟨g, n, none⟩) hg).trans hcn; clear hcn; have hle := catL_take_le ps n; have hle1 : ps[n].size ≤ (catL ps).length := by
    have := catL_take_le ps (n + 1); rw [List.take_succ_eq_append_getElem hl, catL_snoc, List.length_append] at this; have e : ps[n].data.toList.length = ps[n].size := rfl; omega
   obtain ⟨p, hp⟩ : ∃ p, ps[n] = p := ⟨_, rfl⟩
   rw [hp] at hcr hle1; have HP := Lib.hid hp; clear hp; have n0 : (0 : Int) ≤ (n : Int) := by omega
   go_wp2_with (go_at_call 105; refine (feed_any _ _ _ _ _ HF.out HTr.out hbg (by omega) (by omega)).mono ?_; rintro e w2 ⟨rfl, h2, hg2⟩; have H2 := Lib.hid h2; clear h2)
   go_roundw
   case rel =>
    refine ⟨n + 1, by omega, by go_num, ?_, Lib.grownBy_trans hG hg2⟩; rw [List.take_succ_eq_append_getElem hl, catL_snoc, HP.out, ints_app, List.length_append]; exact H2.out
   case measure => simp [intOf]; omega
  ·obtain rfl : n = ps.length := by omega
   rw [List.take_length] at HF; have hRr : wr.heap[w.heap.size]? = some (.cells ((List.replicate 32 (Value.int .u8 0)).toArray) 74 (0, 0)) := (hG.block w.heap.size (by omega) (by intro e; have := Option.some.inj e; omega)).trans HR1.out; have HRr := Lib.hid hRr; clear hRr; have hz3 := hG.size; have hi : (Tryd.prog.info? 74).map (·.size) = some (((shaL (catL ps)).map (Value.int .u8)).toArray.size) := by
    rw [show (((shaL (catL ps)).map (Value.int .u8)).toArray.size) = 32 by simp [shaL_length]]; kernel_rfl
   have h1c : (((shaL (catL ps)).map (Value.int .u8)).toArray).all (·.oneCell') = true := by simp [Value.oneCell']
   have hsz : ((List.replicate 32 (Value.int .u8 0)).toArray).size = ((shaL (catL ps)).map (Value.int .u8)).toArray.size := by simp [shaL_length]
   have HI := Lib.hid hi; clear hi; have H1C := Lib.hid h1c; clear h1c; have HSZ2 := Lib.hid hsz; clear hsz
   go_wp2_with (first | (go_at_call 106; refine (finish_any _ _ _ HF.out HTr.out hbg (by omega)).mono ?_; rintro e w2 ⟨rfl, hg2⟩; have HR2 := Lib.hid ((hg2.block w.heap.size (by omega) (by intro e; have := Option.some.inj e; omega)).trans HRr.out)) | refine wpList_store_row rfl 74 _ _ rfl w.heap.size _ rfl rfl _ _ HR2.out HI.out HSZ2.out H1C.out ?_)
   refine bodyPost_ret (v := hashV (shaL (catL ps))) (results_cell_row Tryd.results86 _ _ w.heap.size 74 _ (0, 0) _ rfl (setRow_heap _ _ _ _ _ _ HR2.out) Tryd.underlying74 rfl HI.out) rfl ⟨rfl, ?_⟩; have hb : Below w.heap.size w w2 := hBr.grown hg2 (by have := hBr.size; omega) (by intro k hk; have := Option.some.inj hk; omega); exact ⟨hb.os, hb.tape, hb.output, by rw [setRow_size]; exact hb.size, fun k hk => (setRow_other _ _ _ _ (by omega)).trans (hb.block k hk)⟩
theorem part_u8 (l : List Int) (i : Nat) (hi : i < l.length) (w : World) : (Go.part 5 (l.map (Value.int .u8)).toArray (i * 1)).run Tryd.prog w = .ok (.int .u8 (rdN l i)) w := by
 have hA : ∀ w : World, (Go.isAgg 5).run Tryd.prog w = .ok false w := fun _ => by kernel_rfl
 unfold Go.part; simp only [Sem.run_bind, hA, Result.andThen_ok, Bool.false_eq_true, if_false, Nat.mul_one]; have : ((l.map (Value.int .u8)).toArray)[i]? = some (.int .u8 (rdN l i)) := by simp [rdN, List.getD_eq_getElem?_getD, hi]
 rw [this]; rfl
theorem eq_loop (l m : List Int) (hl : l.length = 32) (hm : m.length = 32) (w : World) : ∀ (k j : Nat), j + k = 32 →
  (forIn (List.range' j k) ((none, ()) : Option Bool × Unit) (fun i _ => (do
   let a ← Go.part 5 (l.map (Value.int .u8)).toArray (i * 1)
   let b ← Go.part 5 (m.map (Value.int .u8)).toArray (i * 1)
   let c ← Op.equalIn 9999 5 a b
   if (!c) = true then pure (ForInStep.done (some false, ())) else pure (ForInStep.yield (none, ())) : Sem (ForInStep (Option Bool × Unit))))).run Tryd.prog w = .ok (if l.drop j = m.drop j then (none, ()) else (some false, ())) w := by
 intro k
 induction k with
 | zero =>
  intro j hj; rw [List.drop_eq_nil_of_le (by omega), List.drop_eq_nil_of_le (by omega)]; simp
 | succ k ih =>
  intro j hj; have e1 : l.drop j = rdN l j :: l.drop (j + 1) := by
   rw [List.drop_eq_getElem_cons (by omega)]; simp [rdN, List.getD_eq_getElem?_getD, show j < l.length by omega]
  have e2 : m.drop j = rdN m j :: m.drop (j + 1) := by
   rw [List.drop_eq_getElem_cons (by omega)]; simp [rdN, List.getD_eq_getElem?_getD, show j < m.length by omega]
  have h := ih (j + 1) (by omega); rw [List.range'_succ, List.forIn_cons]; simp only [Sem.run_bind]; rw [part_u8 l j (by omega), e1, e2]; simp only [Result.andThen_ok]; rw [part_u8 m j (by omega)]; simp only [Result.andThen_ok]; rw [show (9999 : Nat) = 9998 + 1 from rfl, run_equalIn_int w 9998 5 .u8 .u8 _ _ Tryd.underlying5]; simp only [Result.andThen_ok]
  by_cases hc : rdN l j = rdN m j
  ·rw [hc, beq_self_eq_true]; simp only [Bool.not_true, Bool.false_eq_true, if_false, Sem.run_pure, Result.andThen_ok, List.cons.injEq, true_and]; exact h
  ·rw [beq_eq_false_iff_ne.2 hc]; simp [hc]
theorem eq_arr (l m : List Int) (hl : l.length = 32) (hm : m.length = 32) (w : World) :
  (Op.equalIn 10000 74 (hashV l) (hashV m)).run Tryd.prog w = .ok (decide (l = m)) w := by
 have hT : Tryd.prog.underlying 74 = some (.array 32 5) := by kernel_rfl
 have hs : ∀ w : World, (sizeOf 5).run Tryd.prog w = .ok 1 w := fun _ => by kernel_rfl
 unfold hashV; show (Op.equalIn (9999 + 1) 74 _ _).run Tryd.prog w = _; unfold Op.equalIn; simp only [Sem.run_bind, run_underlying hT, Result.andThen_ok, hs]; rw [Std.Legacy.Range.forIn_eq_forIn_range']; have h := eq_loop l m hl hm w 32 0 rfl; refine (congrArg (fun r => Result.andThen r _) h).trans ?_; simp only [Result.andThen_ok, List.drop_zero]
 by_cases hc : l = m
 ·simp [hc]
 ·simp [hc]
theorem run_neq_hash (l m : List Int) (hl : l.length = 32) (hm : m.length = 32) (w : World) :
  (binOp .neq 74 (hashV l) (hashV m)).run Tryd.prog w = .ok (.bool (!decide (l = m))) w := by
 unfold hashV; rw [run_neq_struct]; have h := eq_arr l m hl hm w; unfold hashV at h; rw [h]; rfl
theorem strOfNums_take (l : List Int) (n : Nat) : strOfNums (l.take n) = (strOfNums l).extract 0 n := by
 apply ByteArray.ext
 unfold strOfNums; simp [ByteArray.data_extract]
def widB (x : Int) : Bool := decide (1 ≤ x ∧ x ≤ 32)
theorem isWidth_any (x : Int) (w : World) : Calls Tryd.prog 42 #[.int .i64 x] w fun e w' => e = .returned (.bool (widB x)) ∧ w = w' := by
 go_enter Tryd.func42, Tryd.ntmps42
 go_wp2
 all_goals
  go_ret
  refine ⟨ret_bool ?_, rfl⟩; unfold widB
  grind
theorem hash_str (l : List Int) (hl : l.length = 32) (g : Nat) (W : World) (hg : W.heap[g]? = some (.cells (l.map (Value.int .u8)).toArray 74 (0, 0))) :
  (convert 133 9 (.slice (some ⟨g, 0, none⟩) 32 32)).run Tryd.prog W = .ok (.string (strOfNums l)) W := by
 refine run_convert_bytes_arg (P := Tryd.prog) _ 133 5 Tryd.underlying133 Tryd.underlying5 g 0 32 32 l (by omega) (fun i hi => ?_) 9 Tryd.underlying9; rw [Nat.zero_add, cell_of_row _ _ _ _ _ _ hg]; simp [List.getD_eq_getElem?_getD, hl, show i < 32 by omega]
def aboveB (x y : List Int) (a b : ByteArray) : Bool := if x = y then Op.bytesLess a.toList b.toList else (!Op.bytesLess (strOfNums x).toList (strOfNums y).toList && !((strOfNums x).toList == (strOfNums y).toList))
set_option maxHeartbeats 1000000 in
set_option maxRecDepth 10000 in
theorem above_any (x y : List Int) (hx : x.length = 32) (hy : y.length = 32) (a b : ByteArray) (w : World) :
  Calls Tryd.prog 87 #[hashV x, .string a, hashV y, .string b] w fun e w' => e = .returned (.bool (aboveB x y a b)) ∧ Below w.heap.size w w' := by
 have hne := fun w => run_neq_hash x y hx hy w
 have hA : ((w.alloc (.cells (x.map (Value.int .u8)).toArray 74)).alloc (.cells (y.map (Value.int .u8)).toArray 74)).heap[w.heap.size]? = some (.cells (x.map (Value.int .u8)).toArray 74 (0, 0)) := heap_alloc2_old _ _ _; have hB : ((w.alloc (.cells (x.map (Value.int .u8)).toArray 74)).alloc (.cells (y.map (Value.int .u8)).toArray 74)).heap[w.heap.size + 1]? = some (.cells (y.map (Value.int .u8)).toArray 74 (0, 0)) := heap_alloc2_new _ _ _; have hi : (Tryd.prog.info? 74).map (·.size) = some ((x.map (Value.int .u8)).toArray.size) := by
  rw [show ((x.map (Value.int .u8)).toArray.size) = 32 by simp [hx]]; kernel_rfl
 have hj : (Tryd.prog.info? 74).map (·.size) = some ((y.map (Value.int .u8)).toArray.size) := by
  rw [show ((y.map (Value.int .u8)).toArray.size) = 32 by simp [hy]]; kernel_rfl
 have HA := Lib.hid hA; have HB := Lib.hid hB; have HI := Lib.hid hi; have HJ := Lib.hid hj; have HX := Lib.hid hx; have HY := Lib.hid hy; clear hA hB hi hj hx hy; unfold hashV at *
 by_cases hxy : x = y
 ·have hd : decide (x = y) = true := decide_eq_true hxy; have HD : Hid (aboveB x y a b = Op.bytesLess a.toList b.toList) := Lib.hid (by unfold aboveB; rw [if_pos hxy]); clear hxy
  go_enter Tryd.func87, Tryd.ntmps87
  go_wp2_with (first | ((with_reducible refine gate_dst (N := 9) rfl ?_); refine wpList_load_row rfl 74 _ rfl w.heap.size rfl _ _ _ _ HA.out Tryd.underlying74 rfl HI.out ?_) | ((with_reducible refine gate_dst (N := 10) rfl ?_); refine wpList_load_row rfl 74 _ rfl (w.heap.size + 1) rfl _ _ _ _ HB.out Tryd.underlying74 rfl HJ.out ?_))
  go_ret
  exact ⟨by rw [HD.out]; rfl, by (repeat' (first | exact Below.refl _ _ | (with_reducible assumption) | (with_reducible refine Below.setCell ?_ zq_16 _) | refine below_then ?_ (by assumption) | (with_reducible refine below_new2 ?_ _) | (with_reducible refine Below.drew ?_) | (with_reducible refine bdrewN ?_ _)))⟩
 ·have hd : decide (x = y) = false := decide_eq_false hxy; have HD : Hid (aboveB x y a b = (!Op.bytesLess (strOfNums x).toList (strOfNums y).toList && !((strOfNums x).toList == (strOfNums y).toList))) := Lib.hid (by unfold aboveB; rw [if_neg hxy]); clear hxy
  go_enter Tryd.func87, Tryd.ntmps87
  go_wp2_with (first | ((with_reducible refine gate_dst (N := 9) rfl ?_); refine wpList_load_row rfl 74 _ rfl w.heap.size rfl _ _ _ _ HA.out Tryd.underlying74 rfl HI.out ?_) | ((with_reducible refine gate_dst (N := 10) rfl ?_); refine wpList_load_row rfl 74 _ rfl (w.heap.size + 1) rfl _ _ _ _ HB.out Tryd.underlying74 rfl HJ.out ?_))
  have hBel : Below w.heap.size w ((w.alloc (.cells (x.map (Value.int .u8)).toArray 74)).alloc (.cells (y.map (Value.int .u8)).toArray 74)) := by (repeat' (first | exact Below.refl _ _ | (with_reducible assumption) | (with_reducible refine Below.setCell ?_ zq_16 _) | refine below_then ?_ (by assumption) | (with_reducible refine below_new2 ?_ _) | (with_reducible refine Below.drew ?_) | (with_reducible refine bdrewN ?_ _)))
  generalize (w.alloc (.cells (x.map (Value.int .u8)).toArray 74)).alloc (.cells (y.map (Value.int .u8)).toArray 74) = W at HA HB hBel ⊢; have kx := fun n => hash_str x HX.out w.heap.size (W.drewN n) HA.out
  have ky := fun n => hash_str y HY.out (w.heap.size + 1) (W.drewN n) HB.out
  have kx0 := hash_str x HX.out w.heap.size W HA.out; have ky0 := hash_str y HY.out (w.heap.size + 1) W HB.out; clear hne
  go_quiet (fail)
  go_wp2
  go_ret
  exact ⟨by rw [HD.out]; rfl, bdrewN hBel nq⟩
theorem catL_one (s : ByteArray) : catL [s] = s.data.toList := by simp [catL]
theorem hashOne_any (s : ByteArray) (W w : World) (hW : W = w.alloc (.cells #[.string s] 9)) (ht : Tab w) (hs : s.size ≤ 4294967296) :
  Calls Tryd.prog 86 #[.slice (some ⟨w.heap.size, 0, none⟩) 1 1] W fun e w' => e = .returned (hashV (shaL s.data.toList)) ∧ Below w.heap.size w w' := by
 subst hW; have h := hashOf_any w.heap.size [s] (w.alloc (.cells #[.string s] 9)) (fun j p hj => by
  match j, hj with
  | 0, hj =>
   simp only [List.getElem?_cons_zero, Option.some.injEq] at hj; subst hj; rw [cell_of_row _ _ _ _ _ _ (heap_alloc_new _ _)]; rfl) (ht.below zq_25) (by rw [catL_one]; exact hs) (by simp) (by simp)
 rw [catL_one] at h; refine h.mono ?_; rintro e w' ⟨h1, hb⟩; exact ⟨h1, ((Below.refl _ _).alloc (Nat.le_refl _) _).trans (hb.mono (by simp))⟩
def digV (s : ByteArray) (n : Int) : ByteArray := if widB n then (shaV s).extract 0 n.toNat else ⟨#[]⟩
theorem digV_yes {s : ByteArray} {n : Int} (h : widB n = true) : digV s n = (shaV s).extract 0 n.toNat := by unfold digV; rw [h]; rfl
theorem digV_no {s : ByteArray} {n : Int} (h : widB n = false) : digV s n = ⟨#[]⟩ := by unfold digV; rw [h]; rfl
def highB (a b : ByteArray) : Bool := aboveB (shaL a.data.toList) (shaL b.data.toList) a b
def impl_Higher.f (a0 a1 : ByteArray) : Option Bool := if a0.size ≤ 4294967296 ∧ a1.size ≤ 4294967296 then some (highB a0 a1) else none
theorem impl_Higher.calls (a0 a1 : ByteArray) (r : Bool) (w : World) (h : impl_Higher.f a0 a1 = some r) (hTab : Tab w := by exact Tab.below (by assumption) zq_46) :
  Calls Tryd.prog 97 #[.string a0, .string a1] w fun e w' => e = .returned (.bool r) ∧ Below w.heap.size w w' := by
 unfold impl_Higher.f at h
 split at h
 ·rename_i hs
  obtain rfl := Option.some.inj h; have HT := Lib.hid hTab; clear hTab
  go_enter Tryd.func97, Tryd.ntmps97
  go_wp2_with fail
  refine (hashOne_any a0 _ w rfl HT.out hs.1).mono ?_; rintro e w1 ⟨rfl, hb1⟩
  go_wp2_with fail
  refine (hashOne_any a1 _ w1 rfl (HT.out.below hb1) hs.2).mono ?_; rintro e w2 ⟨rfl, hb2⟩
  go_wp2_with fail
  refine (above_any _ _ (shaL_length _) (shaL_length _) a0 a1 _).mono ?_; rintro e w3 ⟨rfl, hb3⟩
  go_wp2
  go_ret
  exact ⟨rfl, (hb1.trans (hb2.mono hb1.size)).trans (hb3.mono (Nat.le_trans hb1.size hb2.size))⟩
 ·cases h
end Go.Proofs.YthnnphinfiobmaaDoor.Z
end
section
namespace Go.Proofs.YthnnphinfiobmaaDoor
open RowKit
set_option linter.all false
set_option maxRecDepth 100000
structure LiesB (T : TypeId) : Prop where
 lies : liesAt Tryd.prog Tryd.prog.depth T (2 / Tryd.prog.cellsOf T) 0 161 1 = true
 ne : T ≠ 5
def Bld (T : TypeId) (B b : Nat) (l : List UInt8) (w : World) : Prop := Lib.IsBuilder T 5 B b (bcs l) w
theorem Bld.fresh (T : TypeId) (w : World) : Bld T w.heap.size w.heap.size [] (w.alloc (.cells #[.pointer none, .slice none 0 0] T)) := Lib.fresh_isBuilder T 5 w
theorem Bld.keep {T : TypeId} {B b : Nat} {l : List UInt8} {w w1 : World} (h : Bld T B b l w) (hs : w.heap.size ≤ w1.heap.size) (hb : ∀ k, k < w.heap.size → w1.heap[k]? = w.heap[k]?) : Bld T B b l w1 := by
 have one : ∀ p, Lib.BuilderAt T 5 B b p (bcs l) w → Lib.BuilderAt T 5 B b p (bcs l) w1 := by
  rintro p ⟨hB, v, hbk, hown, hne⟩; have hlt : b < w.heap.size := by
   rcases Nat.lt_or_ge b w.heap.size with h' | h'
   ·exact h'
   ·simp [Array.getElem?_eq_none h'] at hbk
  refine ⟨hB, v, (hb b hlt).trans hbk, ⟨hown.1, ?_⟩, hne⟩
  rcases hown.2 with h2 | ⟨g, cap, cur, hv, h1, h2, h3⟩
  ·exact .inl h2
  ·refine .inr ⟨g, cap, cur, hv, h1, (hb g ?_).trans h2, h3⟩
   rcases Nat.lt_or_ge g w.heap.size with h' | h'
   ·exact h'
   ·simp [Array.getElem?_eq_none h'] at h2
 rcases h with h | h
 ·exact .inl (one _ h)
 ·exact .inr (one _ h)
theorem Bld.below {T : TypeId} {B b : Nat} {l : List UInt8} {w w1 : World} (h : Bld T B b l w) (hb : Below w.heap.size w w1) : Bld T B b l w1 := h.keep hb.size fun k hk => hb.block k hk
theorem Bld.base {T : TypeId} {B b : Nat} {l : List UInt8} {w : World} (h : Bld T B b l w) : B ≤ b ∧ b < w.heap.size := by
 rcases h with h | h
 ·exact ⟨h.1, h.lt⟩
 ·exact ⟨h.1, h.lt⟩

end Go.Proofs.YthnnphinfiobmaaDoor
end
section
namespace Go.Proofs.YthnnphinfiobmaaDoor
open RowKit
set_option linter.all false
def isW (w : Int) : Bool := decide (1 ≤ w) && decide (w ≤ 32)
def hOk (h : ByteArray) (w : Int) : Bool := decide (h.size = 0) || decide ((h.size : Int) = w)
def nodeOk (k v l r : ByteArray) (w : Int) : Bool := isW w && decide (1 ≤ k.size) && decide (k.size ≤ 256) && decide (v.size ≤ 2000) && hOk l w && hOk r w
def byteS (x : Int) : ByteArray := ⟨#[UInt8.ofNat x.toNat]⟩
theorem byteS_size (x : Int) : (byteS x).size = 1 := rfl
def sizedS (s : ByteArray) : ByteArray := byteS (s.size / 256) ++ byteS (s.size % 256) ++ s
theorem sizedS_size (s : ByteArray) : (sizedS s).size = 2 + s.size := by simp [sizedS, byteS_size]
def flagsOf (l r : ByteArray) : Int := (if l.size = 0 then 0 else 1) + (if r.size = 0 then 0 else 2)
def encNode (k v l r : ByteArray) (w : Int) : ByteArray := if nodeOk k v l r w = true then sizedS k ++ sizedS v ++ byteS (flagsOf l r) ++ l ++ r else ⟨#[]⟩
set_option maxHeartbeats 400000 in
theorem isWidth_any (x : Int) (w : World) : Calls Tryd.prog 42 #[.int .i64 x] w fun e w' => e = .returned (.bool (isW x)) ∧ w = w' := by
 go_enter Tryd.func42, Tryd.ntmps42
 go_wp2
 all_goals
  go_ret
  refine ⟨ret_bool ?_, rfl⟩
  go_light
  unfold isW
  grind
set_option maxHeartbeats 400000 in
theorem l1Width_any (x : Int) (w : World) : Calls Tryd.prog 38 #[.int .i64 x] w fun e w' => e = .returned (.bool (isW x)) ∧ w = w' := by
 go_enter Tryd.func38, Tryd.ntmps38
 go_wp2
 all_goals
  go_ret
  refine ⟨ret_bool ?_, rfl⟩
  go_light
  unfold isW
  grind
theorem size_zero (s : ByteArray) : s = ByteArray.empty ↔ s.size = 0 := by
 constructor
 ·intro h; rw [h]; rfl
 ·intro h; exact ByteArray.ext (Array.size_eq_zero_iff.mp h)
set_option maxHeartbeats 400000 in
theorem l2HashOk_any (h : ByteArray) (x : Int) (w : World) : Calls Tryd.prog 55 #[.string h, .int .i64 x] w fun e w' => e = .returned (.bool (hOk h x)) ∧ w = w' := by
 go_enter Tryd.func55, Tryd.ntmps55
 go_wp2
 all_goals
  go_ret
  refine ⟨ret_bool ?_, rfl⟩
  go_light
  have := size_zero h; unfold hOk
  grind
theorem byte1_str (w : World) (y : Int) (T : TypeId) (g c : Nat) (hg : g = w.heap.size) :
  (convert 133 9 (.slice (some ⟨g, 0, none⟩) 1 c)).run Tryd.prog (w.alloc (.cells #[.int .u8 y] T)) = .ok (.string ⟨#[UInt8.ofNat y.toNat]⟩) (w.alloc (.cells #[.int .u8 y] T)) := by
 subst hg; have h := run_convert_bytes_arg (P := Tryd.prog) (w.alloc (.cells #[.int .u8 y] T)) 133 5 Tryd.underlying133 Tryd.underlying5 w.heap.size 0 1 c [y] rfl (fun i hi => by
  obtain rfl : i = 0 := by omega
  rw [World.cell?_alloc_new w _ _ (0 + 0)]; rfl) 9 Tryd.underlying9
 exact h
theorem byteS_mod (x : Int) (h : 0 ≤ x) : (⟨#[UInt8.ofNat (x % 256).toNat]⟩ : ByteArray) = byteS x := by
 unfold byteS
 congr 3
 apply UInt8.toNat_inj.mp
 rw [UInt8.toNat_ofNat', UInt8.toNat_ofNat']; omega
set_option maxHeartbeats 400000 in
theorem l2Byte_any (x : Int) (hx : 0 ≤ x) (w : World) : Calls Tryd.prog 103 #[.int .i64 x] w fun e w' => e = .returned (.string (byteS x)) ∧ Below w.heap.size w w' := by
 go_enter Tryd.func103, Tryd.ntmps103
 go_wp2_with ((with_reducible refine gate_dst (N := 6) rfl ?_); refine wpList_convert rfl 133 9 _ rfl rfl (byte1_str _ _ _ _ _ rfl) ?_)
 go_ret
 refine ⟨ret_str ?_, by (repeat' (first | exact Below.refl _ _ | (with_reducible assumption) | (with_reducible refine Below.setCell ?_ zq_16 _) | refine below_then ?_ (by assumption) | (with_reducible refine below_new2 ?_ _) | (with_reducible refine Below.drew ?_) | (with_reducible refine bdrewN ?_ _)))⟩; exact byteS_mod x hx
set_option maxHeartbeats 400000 in
theorem l2Sized_any (s : ByteArray) (hs : s.size ≤ 4294967296) (w : World) : Calls Tryd.prog 102 #[.string s] w fun e w' => e = .returned (.string (sizedS s)) ∧ Below w.heap.size w w' := by
 have z1 : (byteS (s.size / 256)).size + (byteS (s.size % 256)).size ≤ 9223372036854775807 := by rw [byteS_size, byteS_size]; omega
 have z2 : (byteS (s.size / 256)).size + (byteS (s.size % 256)).size + s.size ≤ 9223372036854775807 := by rw [byteS_size, byteS_size]; omega
 go_enter Tryd.func102, Tryd.ntmps102
 go_wp2_with fail
 (go_at_call 103; refine (l2Byte_any _ (by omega) _).mono ?_; rintro e wa ⟨rfl, hb_wa⟩; obtain ⟨hc_wa, hf_wa⟩ := bcell hb_wa; have hz_wa := hb_wa.size; (try simp only [World.size_alloc, World.size_setCell, World.size_drew] at hz_wa); (try simp only [World.size_alloc, World.size_setCell, World.size_drew] at hc_wa); (try simp only [World.size_alloc, World.size_setCell, World.size_drew] at hf_wa); skip)
 go_wp2_with fail
 (go_at_call 103; refine (l2Byte_any _ (by omega) _).mono ?_; rintro e wb ⟨rfl, hb_wb⟩; obtain ⟨hc_wb, hf_wb⟩ := bcell hb_wb; have hz_wb := hb_wb.size; (try simp only [World.size_alloc, World.size_setCell, World.size_drew] at hz_wb); (try simp only [World.size_alloc, World.size_setCell, World.size_drew] at hc_wb); (try simp only [World.size_alloc, World.size_setCell, World.size_drew] at hf_wb); skip)
 go_wp2
 go_ret
 exact ⟨rfl, by (repeat' (first | exact Below.refl _ _ | (with_reducible assumption) | (with_reducible refine Below.setCell ?_ zq_16 _) | refine below_then ?_ (by assumption) | (with_reducible refine below_new2 ?_ _) | (with_reducible refine Below.drew ?_) | (with_reducible refine bdrewN ?_ _)))⟩
set_option maxHeartbeats 400000 in
theorem l2NodeOk_any (a b c d : ByteArray) (x : Int) (w : World) :
  Calls Tryd.prog 101 #[.agg #[.string a, .string b, .string c, .string d], .int .i64 x] w fun e w' => e = .returned (.bool (nodeOk a b c d x)) ∧ Below w.heap.size w w' := by
 unfold nodeOk
 by_cases hw : isW x = true
 ·by_cases h2 : hOk c x = true
  all_goals
   go_enter Tryd.func101, Tryd.ntmps101
   go_wp2_with (first | (go_at_call 38; refine (l1Width_any _ _).mono ?_; rintro e wq ⟨rfl, rfl⟩) | (go_at_call 55; refine (l2HashOk_any _ _ _).mono ?_; rintro e wq ⟨rfl, rfl⟩))
   all_goals
    go_ret
    refine ⟨ret_bool ?_, by (repeat' (first | exact Below.refl _ _ | (with_reducible assumption) | (with_reducible refine Below.setCell ?_ zq_16 _) | refine below_then ?_ (by assumption) | (with_reducible refine below_new2 ?_ _) | (with_reducible refine Below.drew ?_) | (with_reducible refine bdrewN ?_ _)))⟩
    go_light
    grind
 ·go_enter Tryd.func101, Tryd.ntmps101
  go_wp2_with (first | (go_at_call 38; refine (l1Width_any _ _).mono ?_; rintro e wq ⟨rfl, rfl⟩) | (go_at_call 55; refine (l2HashOk_any _ _ _).mono ?_; rintro e wq ⟨rfl, rfl⟩))
  all_goals
   go_ret
   refine ⟨ret_bool ?_, by (repeat' (first | exact Below.refl _ _ | (with_reducible assumption) | (with_reducible refine Below.setCell ?_ zq_16 _) | refine below_then ?_ (by assumption) | (with_reducible refine below_new2 ?_ _) | (with_reducible refine Below.drew ?_) | (with_reducible refine bdrewN ?_ _)))⟩
   go_light
   grind
set_option maxHeartbeats 400000 in
theorem fits_any (h : ByteArray) (x : Int) (p : Addr) (w : World) (hp : w.cell? p = some (.int .i64 x)) :
  Calls Tryd.prog 128 #[.string h, .pointer (some p)] w fun e w' => e = .returned (.bool (hOk h x)) ∧ w = w' := by
 have he : h.toList.isEmpty = decide (h.size = 0) := by
  rw [Bool.eq_iff_iff, decide_eq_true_eq, ← size_zero, ← toList_nil_iff_emptyBytes, List.isEmpty_iff]
 unfold hOk; rw [← he]; clear he
 go_enter Tryd.func128, Tryd.ntmps128
 go_wp2
 all_goals
  go_ret
  refine ⟨ret_bool ?_, rfl⟩
  go_light
  clear hp
  grind
set_option maxHeartbeats 400000 in
theorem nodeValid_any (a b c d : ByteArray) (x : Int) (w : World) :
  Calls Tryd.prog 116 #[.agg #[.string a, .string b, .string c, .string d], .int .i64 x] w fun e w' => e = .returned (.bool (nodeOk a b c d x)) ∧ Below w.heap.size w w' := by
 unfold nodeOk
 by_cases hw : isW x = true
 ·by_cases h2 : hOk c x = true
  all_goals
   go_enter Tryd.func116, Tryd.ntmps116
   go_wp2_with (first | (go_at_call 42; refine (isWidth_any _ _).mono ?_; rintro e wq ⟨rfl, rfl⟩) | (go_at_call 128; refine (fits_any _ x _ _ (by simp [go_sem])).mono ?_; rintro e wq ⟨rfl, rfl⟩))
   all_goals
    go_ret
    refine ⟨ret_bool ?_, by (repeat' (first | exact Below.refl _ _ | (with_reducible assumption) | (with_reducible refine Below.setCell ?_ zq_16 _) | refine below_then ?_ (by assumption) | (with_reducible refine below_new2 ?_ _) | (with_reducible refine Below.drew ?_) | (with_reducible refine bdrewN ?_ _)))⟩
    go_light
    grind
 ·go_enter Tryd.func116, Tryd.ntmps116
  go_wp2_with (first | (go_at_call 42; refine (isWidth_any _ _).mono ?_; rintro e wq ⟨rfl, rfl⟩) | (go_at_call 128; refine (fits_any _ x _ _ (by simp [go_sem])).mono ?_; rintro e wq ⟨rfl, rfl⟩))
  all_goals
   go_ret
   refine ⟨ret_bool ?_, by (repeat' (first | exact Below.refl _ _ | (with_reducible assumption) | (with_reducible refine Below.setCell ?_ zq_16 _) | refine below_then ?_ (by assumption) | (with_reducible refine below_new2 ?_ _) | (with_reducible refine Below.drew ?_) | (with_reducible refine bdrewN ?_ _)))⟩
   go_light
   grind
set_option maxHeartbeats 400000 in
theorem specEncodeNode_any (a b c d : ByteArray) (x : Int) (w : World) :
  Calls Tryd.prog 83 #[.agg #[.string a, .string b, .string c, .string d], .int .i64 x] w fun e w' => e = .returned (.string (encNode a b c d x)) ∧ Below w.heap.size w w' := by
 by_cases hok : nodeOk a b c d x = true
 ·have hsz : a.size ≤ 256 ∧ b.size ≤ 2000 ∧ c.size ≤ 32 ∧ d.size ≤ 32 := by
   unfold nodeOk hOk isW at hok; simp only [Bool.and_eq_true, Bool.or_eq_true, decide_eq_true_eq] at hok; omega
  obtain ⟨h1, h2, h3, h4⟩ := hsz; have he : encNode a b c d x = sizedS a ++ sizedS b ++ byteS (flagsOf c d) ++ c ++ d := by unfold encNode; rw [if_pos hok]
  have HE := Lib.hid he; clear he; have h1b : a.size ≤ 4294967296 := by omega
  have h2b : b.size ≤ 4294967296 := by omega
  have z0 := fun x => byteS_size x
  have z1 : ¬ (9223372036854775807 < (sizedS a).size + (sizedS b).size) := by rw [sizedS_size, sizedS_size]; omega
  have z20 : ¬ (9223372036854775807 < (sizedS a).size + (sizedS b).size + (byteS 0).size) := by simp only [ByteArray.size_append, sizedS_size, byteS_size]; omega
  have z30 : ¬ (9223372036854775807 < (sizedS a).size + (sizedS b).size + (byteS 0).size + c.size) := by simp only [ByteArray.size_append, sizedS_size, byteS_size]; omega
  have z40 : ¬ (9223372036854775807 < (sizedS a).size + (sizedS b).size + (byteS 0).size + c.size + d.size) := by simp only [ByteArray.size_append, sizedS_size, byteS_size]; omega
  have z21 : ¬ (9223372036854775807 < (sizedS a).size + (sizedS b).size + (byteS 1).size) := by simp only [ByteArray.size_append, sizedS_size, byteS_size]; omega
  have z31 : ¬ (9223372036854775807 < (sizedS a).size + (sizedS b).size + (byteS 1).size + c.size) := by simp only [ByteArray.size_append, sizedS_size, byteS_size]; omega
  have z41 : ¬ (9223372036854775807 < (sizedS a).size + (sizedS b).size + (byteS 1).size + c.size + d.size) := by simp only [ByteArray.size_append, sizedS_size, byteS_size]; omega
  have z22 : ¬ (9223372036854775807 < (sizedS a).size + (sizedS b).size + (byteS 2).size) := by simp only [ByteArray.size_append, sizedS_size, byteS_size]; omega
  have z32 : ¬ (9223372036854775807 < (sizedS a).size + (sizedS b).size + (byteS 2).size + c.size) := by simp only [ByteArray.size_append, sizedS_size, byteS_size]; omega
  have z42 : ¬ (9223372036854775807 < (sizedS a).size + (sizedS b).size + (byteS 2).size + c.size + d.size) := by simp only [ByteArray.size_append, sizedS_size, byteS_size]; omega
  have z23 : ¬ (9223372036854775807 < (sizedS a).size + (sizedS b).size + (byteS 3).size) := by simp only [ByteArray.size_append, sizedS_size, byteS_size]; omega
  have z33 : ¬ (9223372036854775807 < (sizedS a).size + (sizedS b).size + (byteS 3).size + c.size) := by simp only [ByteArray.size_append, sizedS_size, byteS_size]; omega
  have z43 : ¬ (9223372036854775807 < (sizedS a).size + (sizedS b).size + (byteS 3).size + c.size + d.size) := by simp only [ByteArray.size_append, sizedS_size, byteS_size]; omega
  have z50 : ¬ (9223372036854775807 < (sizedS a).size + (sizedS b).size + (byteS 0).size + d.size) := by simp only [ByteArray.size_append, sizedS_size, byteS_size]; omega
  have z51 : ¬ (9223372036854775807 < (sizedS a).size + (sizedS b).size + (byteS 1).size + d.size) := by simp only [ByteArray.size_append, sizedS_size, byteS_size]; omega
  have z52 : ¬ (9223372036854775807 < (sizedS a).size + (sizedS b).size + (byteS 2).size + d.size) := by simp only [ByteArray.size_append, sizedS_size, byteS_size]; omega
  have z53 : ¬ (9223372036854775807 < (sizedS a).size + (sizedS b).size + (byteS 3).size + d.size) := by simp only [ByteArray.size_append, sizedS_size, byteS_size]; omega
  clear z0
  by_cases hc : c.size = 0
  all_goals
   by_cases hd : d.size = 0
   all_goals
    go_enter Tryd.func83, Tryd.ntmps83
    go_wp2_with (first | (go_at_call 101; refine (l2NodeOk_any _ _ _ _ _ _).mono ?_; rintro e wa ⟨rfl, hb_wa⟩; obtain ⟨hc_wa, hf_wa⟩ := bcell hb_wa; have hz_wa := hb_wa.size; (try simp only [World.size_alloc, World.size_setCell, World.size_drew] at hz_wa); (try simp only [World.size_alloc, World.size_setCell, World.size_drew] at hc_wa); (try simp only [World.size_alloc, World.size_setCell, World.size_drew] at hf_wa); (try have q_w_0_wa : w.heap.size < wa.heap.size := by omega)))
    have hS : wa.cell? ⟨w.heap.size, 0, none⟩ = some (.string a) ∧ wa.cell? ⟨w.heap.size, 1, none⟩ = some (.string b) ∧ wa.cell? ⟨w.heap.size, 2, none⟩ = some (.string c) ∧ wa.cell? ⟨w.heap.size, 3, none⟩ = some (.string d) := by
     refine ⟨?_, ?_, ?_, ?_⟩ <;> (rw [hc_wa _ _ (by omega)]; simp [go_sem])
    obtain ⟨e0, e1, e2, e3⟩ := hS; clear hc_wa hf_wa
    go_region_held3 (fun w' => w'.cell? ⟨w.heap.size, 0, none⟩ = some (.string a) ∧ w'.cell? ⟨w.heap.size, 1, none⟩ = some (.string b) ∧ w'.cell? ⟨w.heap.size, 2, none⟩ = some (.string c) ∧ w'.cell? ⟨w.heap.size, 3, none⟩ = some (.string d))
     (first
      | exact held4B (by assumption) (by assumption)
      | assumption
      | (simp [*]; done))
     (first
      | (go_at_call 103; refine (l2Byte_any _ (by decide) _).mono ?_; rintro e wx ⟨rfl, hbx⟩)
      | (go_at_call_of 102 (Value.string a); refine (l2Sized_any a h1b _).mono ?_; rintro e wx ⟨rfl, hbx⟩)
      | (go_at_call_of 102 (Value.string b); refine (l2Sized_any b h2b _).mono ?_; rintro e wx ⟨rfl, hbx⟩))
    go_wp2
    all_goals
     go_ret
     refine ⟨?_, by (repeat' (first | exact Below.refl _ _ | (with_reducible assumption) | (with_reducible refine Below.setCell ?_ zq_16 _) | refine below_then ?_ (by assumption) | (with_reducible refine below_new2 ?_ _) | (with_reducible refine Below.drew ?_) | (with_reducible refine bdrewN ?_ _)))⟩; rw [HE.out]; simp [flagsOf, hc, hd]
 ·have he : encNode a b c d x = ⟨#[]⟩ := by unfold encNode; rw [if_neg hok]
  have HE := Lib.hid he; clear he
  go_enter Tryd.func83, Tryd.ntmps83
  go_wp2_with (first | (go_at_call 101; refine (l2NodeOk_any _ _ _ _ _ _).mono ?_; rintro e wa ⟨rfl, hb_wa⟩; obtain ⟨hc_wa, hf_wa⟩ := bcell hb_wa; have hz_wa := hb_wa.size; (try simp only [World.size_alloc, World.size_setCell, World.size_drew] at hz_wa); (try simp only [World.size_alloc, World.size_setCell, World.size_drew] at hc_wa); (try simp only [World.size_alloc, World.size_setCell, World.size_drew] at hf_wa); skip))
  all_goals
   go_ret
   exact ⟨by rw [HE.out]; rfl, by (repeat' (first | exact Below.refl _ _ | (with_reducible assumption) | (with_reducible refine Below.setCell ?_ zq_16 _) | refine below_then ?_ (by assumption) | (with_reducible refine below_new2 ?_ _) | (with_reducible refine Below.drew ?_) | (with_reducible refine bdrewN ?_ _)))⟩
theorem isEmpty_size (h : ByteArray) : h.toList.isEmpty = decide (h.size = 0) := by
 rw [Bool.eq_iff_iff, decide_eq_true_eq, ← size_zero, ← toList_nil_iff_emptyBytes, List.isEmpty_iff]
theorem byteS_list (n : Nat) : byteS n = ⟨[UInt8.ofNat n].toArray⟩ := rfl
theorem bitsOr1 : bits .or .u32 0 1 = 1 := by decide
theorem bitsOr2 : bits .or .u32 0 2 = 2 := by decide
theorem bitsOr3 : bits .or .u32 1 2 = 3 := by decide
attribute [go_sem] bitsOr1 bitsOr2 bitsOr3
end Go.Proofs.YthnnphinfiobmaaDoor
end
section
namespace Go.Proofs.YthnnphinfiobmaaDoor.Z
open RowKit YthnnphinfiobmaaDoor
set_option linter.all false

end Go.Proofs.YthnnphinfiobmaaDoor.Z
end
section
namespace Go.Proofs.YthnnphinfiobmaaDoor.Z
open RowKit YthnnphinfiobmaaDoor YthnnphinfiobmaaDoorW.PrintWords YthnnphinfiobmaaDoorW.PrintLast
set_option linter.all false
def nText (s : ByteArray) : ByteArray := (⟨#[78]⟩ : ByteArray) ++ s
theorem catL_n (s : ByteArray) : catL [⟨#[78]⟩, s] = (nText s).data.toList := by simp [catL, nText, ByteArray.data_append]
theorem hashN_any (s : ByteArray) (W w : World) (hW : W = w.alloc (.cells #[.string ⟨#[78]⟩, .string s] 9)) (ht : Tab w) (hs : s.size ≤ 4294967200) :
  Calls Tryd.prog 86 #[.slice (some ⟨w.heap.size, 0, none⟩) 2 2] W fun e w' => e = .returned (hashV (shaL (nText s).data.toList)) ∧ Below w.heap.size w w' := by
 subst hW; have h := hashOf_any w.heap.size [⟨#[78]⟩, s] (w.alloc (.cells #[.string ⟨#[78]⟩, .string s] 9)) (fun j p hj => by
  rw [cell_of_row _ _ _ _ _ _ (heap_alloc_new _ _)]
  match j, hj with
  | 0, hj => simp only [List.getElem?_cons_zero, Option.some.injEq] at hj; subst hj; rfl
  | 1, hj => simp only [List.getElem?_cons_succ, List.getElem?_cons_zero, Option.some.injEq] at hj; subst hj; rfl) (ht.below zq_25) (by rw [catL_n, nText, ByteArray.data_append]; simp only [Array.toList_append, List.length_append]; show 1 + s.size ≤ _; omega) (by simp) (by simp)
 rw [catL_n] at h; refine h.mono ?_; rintro e w' ⟨h1, hb⟩; exact ⟨h1, ((Below.refl _ _).alloc (Nat.le_refl _) _).trans (hb.mono (by simp))⟩
end Go.Proofs.YthnnphinfiobmaaDoor.Z
end
section
namespace Go.Proofs.YthnnphinfiobmaaDoor.Z
open RowKit YthnnphinfiobmaaDoor YthnnphinfiobmaaDoorW.PrintWords YthnnphinfiobmaaDoorW.PrintLast
set_option linter.all false
set_option maxRecDepth 100000
def cutL (s : ByteArray) (n : Nat) : List Int := (shaL (nText s).data.toList).take n ++ List.replicate (32 - n) 0
theorem cutL_length (s : ByteArray) (n : Nat) (h : n ≤ 32) : (cutL s n).length = 32 := by
 unfold cutL; rw [List.length_append, List.length_take, shaL_length, List.length_replicate]; omega
def setL (cs : List Value) (o : Nat) : List Value → List Value
 | [] => cs
 | v :: r => setL (cs.set o v) (o + 1) r
theorem setL_all (z : Value) : ∀ (k : Nat) (cs : List Value) (o : Nat), o + k = cs.length → setL cs o (List.replicate k z) = cs.take o ++ List.replicate k z
 | 0, cs, o, h => by rw [List.replicate_zero, List.append_nil, setL, List.take_of_length_le (by omega)]
 | k + 1, cs, o, h => by
  rw [List.replicate_succ, setL, setL_all z k _ (o + 1) (by rw [List.length_set]; omega), List.take_succ_eq_append_getElem (by rw [List.length_set]; omega), List.getElem_set_self, List.take_set_of_le (Nat.le_refl _), List.append_assoc]; rfl
theorem setCells_row {b : Nat} {T : TypeId} : ∀ (vs cs : List Value) (o : Nat) (w : World), w.heap[b]? = some (.cells cs.toArray T (0, 0)) → (w.setCells b o vs).heap[b]? = some (.cells (setL cs o vs).toArray T (0, 0))
 | [], cs, o, w, h => h
 | v :: r, cs, o, w, h => by
  rw [World.setCells, setL]; exact setCells_row r (cs.set o v) (o + 1) _ (hset h rfl)
theorem setCells_other {b k : Nat} (hk : k ≠ b) : ∀ (vs : List Value) (o : Nat) (w : World), (w.setCells b o vs).heap[k]? = w.heap[k]?
 | [], _, _ => rfl
 | v :: r, o, w => by
  rw [World.setCells, setCells_other hk r (o + 1), heap_setCell_other _ _ _ _ hk]
theorem setCells_size (b : Nat) : ∀ (vs : List Value) (o : Nat) (w : World), (w.setCells b o vs).heap.size = w.heap.size
 | [], _, _ => rfl
 | v :: r, o, w => by rw [World.setCells, setCells_size b r (o + 1)]; simp
theorem setCells_outer (b : Nat) : ∀ (vs : List Value) (o : Nat) (w : World), (w.setCells b o vs).os = w.os ∧ (w.setCells b o vs).tape = w.tape ∧ (w.setCells b o vs).output = w.output
 | [], _, _ => ⟨rfl, rfl, rfl⟩
 | v :: r, o, w => by rw [World.setCells]; exact setCells_outer b r (o + 1) _
theorem below_setCells {B b : Nat} {w0 w : World} (h : Below B w0 w) (hb : B ≤ b) (vs : List Value) (o : Nat) : Below B w0 (w.setCells b o vs) := by
 obtain ⟨h1, h2, h3⟩ := setCells_outer b vs o w; exact ⟨h1.trans h.os, h2.trans h.tape, h3.trans h.output, by rw [setCells_size]; exact h.size, fun k hk => (setCells_other (by omega) vs o w).trans (h.block k hk)⟩
theorem below_setRow {B b : Nat} {w0 w : World} (h : Below B w0 w) (hb : B ≤ b) (cs : Array Value) : Below B w0 (w.setRow b cs) :=
 ⟨h.os, h.tape, h.output, by rw [setRow_size]; exact h.size, fun k hk => (setRow_other _ _ _ _ (by omega)).trans (h.block k hk)⟩
section
variable {P : Program} {w : World} {ops : Array Oper} {rest : List Oper} {o : Oper} {a : Act} {Q : Exit → Act → World → Prop}
theorem wpList_clear (hgd : o.guard = none) (x : Operand) (t : TypeId) (ho : o.op = .call { callee := .builtin .clear, args := #[x], argTypes := #[t] }) {v u : Value} {w1 : World} (hx : a.eval x = v) (hr : (Builtin.clear_ #[t] o.type #[v]).run P w = .ok u w1)
  (hK : wpList P ops Q rest (a.put o.dst u) w1) : wpList P ops Q (o :: rest) a w := by
 refine wpList_plain hgd fun K hK' => ?_
 unfold Oper.wp execOp; simp only [ho, resolve, invoke, builtin, Sem.run_bind, Sem.run_pure, Result.andThen_ok, List.map_toArray, List.map_cons, List.map_nil, hx, hr]; exact hK' _ _ hK
end
theorem hash_cells32 (l : List Int) (h : l.length = 32) : (Tryd.prog.info? 74).map (·.size) = some ((l.map (Value.int .u8)).toArray.size) := by
 rw [show ((l.map (Value.int .u8)).toArray.size) = 32 by simp [h]]; kernel_rfl
theorem hash_one (l : List Int) : ((l.map (Value.int .u8)).toArray).all (·.oneCell') = true := by simp [Value.oneCell']
theorem hashN_at (s : ByteArray) (g : Nat) (W w : World) (hg : g = w.heap.size) (hW : W = w.alloc (.cells #[.string ⟨#[78]⟩, .string s] 9)) (ht : Tab w) (hs : s.size ≤ 4294967200) :
  Calls Tryd.prog 86 #[.slice (some ⟨g, 0, none⟩) 2 2] W fun e w' => e = .returned (hashV (shaL (nText s).data.toList)) ∧ Below w.heap.size w w' := by
 subst hg; exact hashN_any s W w hW ht hs
def hashTail (g n : Nat) : Value := .slice (some (if 32 = n then ⟨g, 0, none⟩ else ⟨g, n, none⟩)) (32 - n) (32 - n)
theorem hash_slice (g n : Nat) (hn0 : 1 ≤ n) (hn : n ≤ 32) (W : World) : (Instr.sliceAt 74 (.pointer (some ⟨g, 0, none⟩)) (some (.int .i64 (n : Int))) none none).run Tryd.prog W = .ok (hashTail g n) W := by
 have hT : Tryd.prog.underlying 74 = some (.array (Tryd.prog.arrayLen 74) (Tryd.prog.elem 74)) := by kernel_rfl
 have hL : Tryd.prog.arrayLen 74 = 32 := by kernel_rfl
 have hZ : (sizeOf (Tryd.prog.elem 74)).run Tryd.prog W = .ok 1 W := by kernel_rfl
 rw [run_sliceAt_array_l W _ _ hT .i64 (n : Int) (by omega) (by rw [hL]; omega), hZ, hL]; have h0 : n ≠ 0 := by omega
 simp [slicedAt, hashTail, Addr.add, h0]
theorem hash_clear (g n : Nat) (hn : n ≤ 32) (l : List Int) (hl : l.length = 32) (W : World) (hW : W.heap[g]? = some (.cells (l.map (Value.int .u8)).toArray 74 (0, 0))) (ty : TypeId) :
  (Builtin.clear_ #[133] ty #[hashTail g n]).run Tryd.prog W = .ok (.tuple #[]) (W.setCells g n (List.replicate (32 - n) (.int .u8 0))) := by
 have hz : ∀ w, (zeroValue 5).run Tryd.prog w = .ok (.int .u8 0) w := fun _ => by kernel_rfl
 by_cases h : 32 = n
 ·subst h; have h1 := run_underlying (w := W) (P := Tryd.prog) Tryd.underlying133; simp [hashTail, Builtin.clear_, h1, hz, Builtin.zeroCells, World.setCells]
 ·unfold hashTail; rw [if_neg h]; exact Lib.run_clear_slice W 133 5 ty _ Tryd.underlying133 hz rfl rfl g n (32 - n) (32 - n) (by omega)
   (fun j hj => by rw [cell_of_row _ _ _ _ _ _ hW]; simp [hl]; omega) (fun j hj => frozen_of_row _ _ _ _ _ hW)
set_option maxHeartbeats 1000000 in
theorem cut_any (s : ByteArray) (n : Nat) (hn : 1 ≤ n) (hn2 : n ≤ 32) (hs : s.size ≤ 4294967200) (w : World) (ht : Tab w) :
  Calls Tryd.prog 74 #[.string s, .int .i64 n] w fun e w' => e = .returned (hashV (cutL s n)) ∧ Below w.heap.size w w' := by
 have HT := Lib.hid ht; clear ht
 go_enter Tryd.func74, Tryd.ntmps74
 go_wp2_with fail
 refine (hashN_at s _ _ _ (by simp) rfl (HT.out.below zq_25) hs).mono ?_; rintro e w1 ⟨rfl, hb1⟩; have hz1 := hb1.size; simp only [World.size_alloc] at hz1; have hR4 : w1.heap[w.heap.size]? = some (.cells ((List.replicate 32 (Value.int .u8 0)).toArray) 74 (0, 0)) := (hb1.block _ (by simp)).trans (heap_alloc_new _ _); have hB1 : Below w.heap.size w w1 := ((Below.refl _ _).alloc (Nat.le_refl _) _).trans (hb1.mono (by simp)); obtain ⟨S, hS⟩ : ∃ S, shaL (nText s).data.toList = S := ⟨_, rfl⟩
 have hSl : S.length = 32 := by rw [← hS]; exact shaL_length _
 have hcut : cutL s n = S.take n ++ List.replicate (32 - n) 0 := by unfold cutL; rw [hS]
 rw [hS]; have HS := Lib.hid hS; clear hS; have HCUT := Lib.hid hcut; clear hcut; have HI := Lib.hid (hash_cells32 S hSl); have H1 := Lib.hid (hash_one S); have HSL := Lib.hid hSl; clear hSl; have HR4 := Lib.hid hR4; clear hR4; have hR5 : (w1.alloc (.cells ((List.replicate 32 (Value.int .u8 0)).toArray) 74)).heap[w1.heap.size]? = some (.cells ((List.replicate 32 (Value.int .u8 0)).toArray) 74 (0, 0)) := heap_alloc_new _ _; have HR5 := Lib.hid hR5; clear hR5; have hsz : ((List.replicate 32 (Value.int .u8 0)).toArray).size = ((S.map (Value.int .u8)).toArray).size := by have := HSL.out; simp [this]
 have HSZ := Lib.hid hsz; clear hsz; have hsl := hash_slice w1.heap.size n hn hn2; have hrow := setRow_heap _ _ _ ((S.map (Value.int .u8)).toArray) _ _ HR5.out; have HCL := Lib.hid (hash_clear w1.heap.size n hn2 S HSL.out _ hrow 0); obtain ⟨C, hC⟩ : ∃ C, cutL s n = C := ⟨_, rfl⟩
 have hCl : C.length = 32 := by rw [← hC]; exact cutL_length s n hn2
 have hCm : setL (S.map (Value.int .u8)) n (List.replicate (32 - n) (.int .u8 0)) = C.map (Value.int .u8) := by
  rw [setL_all _ _ _ _ (by rw [List.length_map, HSL.out]; omega), ← hC, HCUT.out]; simp
 have hR6 := setCells_row (List.replicate (32 - n) (.int .u8 0)) (S.map (Value.int .u8)) n _ hrow; rw [hCm] at hR6; have hR7 := (setCells_other (show w.heap.size ≠ w1.heap.size by omega) (List.replicate (32 - n) (Value.int .u8 0)) n ((w1.alloc (.cells ((List.replicate 32 (Value.int .u8 0)).toArray) 74)).setRow w1.heap.size (S.map (Value.int .u8)).toArray)).trans ((setRow_other _ _ _ _ (show w.heap.size ≠ w1.heap.size by omega)).trans ((heap_alloc_old w1 _ (by omega)).trans HR4.out)); have HR6 := Lib.hid hR6; have HR7 := Lib.hid hR7; have HJ := Lib.hid (hash_cells32 C hCl); have H2 := Lib.hid (hash_one C); have hsz2 : ((List.replicate 32 (Value.int .u8 0)).toArray).size = ((C.map (Value.int .u8)).toArray).size := by simp [hCl]
 have HSZ2 := Lib.hid hsz2; have hBx : Below w.heap.size w (((w1.alloc (.cells ((List.replicate 32 (Value.int .u8 0)).toArray) 74)).setRow w1.heap.size (S.map (Value.int .u8)).toArray).setCells w1.heap.size n (List.replicate (32 - n) (.int .u8 0))) :=
  below_setCells (below_setRow (hB1.alloc (by omega) _) (by omega) _) (by omega) _ _
 have HBX := Lib.hid hBx; have HCC := Lib.hid hC; clear hrow hC hCm hR6 hR7 hsz2 hBx hCl
 go_wp2_with (first | refine wpList_store_row rfl 74 _ _ rfl w1.heap.size _ rfl rfl _ _ HR5.out HI.out HSZ.out H1.out ?_ | refine wpList_clear rfl _ 133 rfl rfl HCL.out ?_ | refine wpList_load_row rfl 74 _ rfl w1.heap.size rfl _ _ _ _ HR6.out Tryd.underlying74 rfl HJ.out ?_ | refine wpList_store_row rfl 74 _ _ rfl w.heap.size _ rfl rfl _ _ HR7.out HJ.out HSZ2.out H2.out ?_)
 refine bodyPost_ret (v := hashV C) (results_cell_row Tryd.results74 _ _ w.heap.size 74 _ (0, 0) _ rfl (setRow_heap _ _ _ _ _ _ HR7.out) Tryd.underlying74 rfl HJ.out) rfl ⟨?_, ?_⟩
 ·rw [HCC.out]
 ·exact below_setRow HBX.out (Nat.le_refl _) _
end Go.Proofs.YthnnphinfiobmaaDoor.Z
end
section
namespace Go.Proofs.YthnnphinfiobmaaDoor.Z
open RowKit YthnnphinfiobmaaDoor YthnnphinfiobmaaDoorW.PrintWords YthnnphinfiobmaaDoorW.PrintLast
set_option linter.all false
set_option maxRecDepth 100000
def H32 (l : List Int) : Prop := l.length = 32 ∧ ∀ x ∈ l, 0 ≤ x ∧ x < 256
theorem ints_mem (l : List UInt8) : ∀ x ∈ ints l, 0 ≤ x ∧ x < 256 := by
 intro x hx; obtain ⟨b, _, rfl⟩ := List.mem_map.1 hx; have := UInt8.toNat_lt b; omega
def firstAt : List (List Int) → List Int → Option Nat
 | [], _ => none
 | c :: r, l => if c = l then some 0 else (firstAt r l).map (· + 1)
theorem firstAt_lt : ∀ (C : List (List Int)) (l : List Int) (i : Nat), firstAt C l = some i → i < C.length
 | [], _, _, h => by cases h
 | c :: r, l, i, h => by
  unfold firstAt at h
  split at h
  ·obtain rfl := Option.some.inj h; simp
  ·obtain ⟨j, hj, rfl⟩ := Option.map_eq_some_iff.1 h; have := firstAt_lt r l j hj; simp; omega
theorem firstAt_snoc (C : List (List Int)) (c l : List Int) : firstAt (C ++ [c]) l = match firstAt C l with
  | some i => some i
  | none => if c = l then some C.length else none := by
 induction C with
 | nil => simp [firstAt]
 | cons d r ih =>
  simp only [List.cons_append, firstAt]
  by_cases h : d = l
  ·rw [if_pos h, if_pos h]
  ·rw [if_neg h, if_neg h, ih]
   cases firstAt r l with
   | some i => rfl
   | none =>
    dsimp only
    by_cases h2 : c = l
    ·simp [h2]
    ·simp [h2]
theorem laidOutX : laidOutB Tryd.prog = true := by kernel_rfl
theorem hashLaw : Maps.Keyed Tryd.prog 74 := Maps.Keyed.of_law (deep_law_laid laidOutX (m := 2) (by omega) (of_decide_eq_true (by kernel_rfl)) (by kernel_rfl) (by kernel_rfl))
theorem lit_u8 (x : Int) (h : 0 ≤ x ∧ x < 256) : (Lit.int .u8 x).wf = true := by
 have hmin : IntKind.u8.min = 0 := rfl; have hmax : IntKind.u8.max = 255 := rfl; simp only [Lit.wf, Bool.and_eq_true, decide_eq_true_eq, hmin, hmax]; omega
theorem mapM_one (P : Program) (d : Nat) (e : TypeId) (l : List Int) (he : P.underlying e = some (.int .u8)) (hc : P.cellsOf e = 1) (hb : ∀ x ∈ l, 0 ≤ x ∧ x < 256) : ∀ (k j : Nat), j + k = l.length →
  ((List.range' j k).mapM fun i => P.keyLits (d + 1) e (((l.map (Value.int .u8)).drop (i * P.cellsOf e)).take (P.cellsOf e))) = some ((l.drop j).map fun x => [Lit.int .u8 x])
 | 0, j, h => by
  rw [List.drop_of_length_le (by omega)]; rfl
 | k + 1, j, h => by
  have h1 := mapM_one P d e l he hc hb k (j + 1) (by omega); have hd : l.drop j = l[j] :: l.drop (j + 1) := List.drop_eq_getElem_cons (by omega); rw [List.range'_succ, List.mapM_cons, h1, hd]; have : P.keyLits (d + 1) e (((l.map (Value.int .u8)).drop (j * P.cellsOf e)).take (P.cellsOf e)) = some [Lit.int .u8 l[j]] := by
   rw [hc, Nat.mul_one, ← List.map_drop, hd, List.map_cons, List.take_succ_cons, List.take_zero]; unfold Program.keyLits; rw [he]; simp [lit_u8 _ (hb l[j] (List.getElem_mem _))]
  rw [this]; rfl
theorem flat_one {α β : Type} (f : α → β) : ∀ l : List α, l.flatMap (fun x => [f x]) = l.map f
 | [] => rfl
 | a :: r => by rw [List.flatMap_cons, flat_one f r]; rfl
theorem hash_key (l : List Int) (h : H32 l) : ∃ kl, keyOf Tryd.prog 74 (hashV l) = some kl := by
 have hT : Tryd.prog.underlying 74 = some (.array 32 5) := by kernel_rfl
 have hE : Tryd.prog.underlying 5 = some (.int .u8) := by kernel_rfl
 have hcT : Tryd.prog.cellsOf 74 = 32 := by kernel_rfl
 have hcE : Tryd.prog.cellsOf 5 = 1 := by kernel_rfl
 have hk : Tryd.prog.keyType 74 = true := by kernel_rfl
 have hsz : ∃ n, Tryd.prog.types.size = n + 1 := ⟨Tryd.prog.types.size - 1, by have : 0 < Tryd.prog.types.size := of_decide_eq_true (by kernel_rfl); omega⟩
 obtain ⟨n, hn⟩ := hsz; have hf : (hashV l).formed Tryd.prog 74 = true := by
  unfold hashV Value.formed; rw [hT, hcT]; simp [h.1]
 have hL : Tryd.prog.keyLits (Tryd.prog.types.size + 1) 74 ((hashV l).cells.toList) = some (l.map (Lit.int .u8)) := by
  have hcs : (hashV l).cells.toList = l.map (Value.int .u8) := by simp [hashV, Value.cells]
  rw [hcs, hn]; unfold Program.keyLits; rw [hT]; dsimp only; rw [if_pos (by rw [List.length_map, hcT, h.1]), List.range_eq_range', mapM_one Tryd.prog n 5 l hE hcE h.2 32 0 (by rw [h.1]), List.drop_zero]; rw [Option.map_some, ← List.flatMap_def, flat_one]
 unfold keyOf; rw [hT]; dsimp only; rw [hk, hf, hL]; exact ⟨_, rfl⟩
theorem hash_key_ne {l m : List Int} {kl km : Lit} (h : keyOf Tryd.prog 74 (hashV l) = some kl) (h2 : keyOf Tryd.prog 74 (hashV m) = some km) (hne : l ≠ m) : kl ≠ km := by
 rintro rfl; have h3 := hashLaw.inj h h2; unfold hashV at h3; injection h3 with h4
 refine hne ?_; have h5 : l.map (Value.int .u8) = m.map (Value.int .u8) := by simpa using h4
 exact (List.map_inj_right (fun a b hab => by injection hab)).1 h5
def PlaceIs (C : List (List Int)) (D : DataW Unit) : Prop := Maps.IsMap D ∧ ∀ l kl, keyOf Tryd.prog 74 (hashV l) = some kl → Maps.has D kl = (firstAt C l).isSome ∧ D.atKey kl (.lit (.int .i64 0)) = .lit (.int .i64 (((firstAt C l).getD 0 : Nat) : Int))
theorem PlaceIs.start : PlaceIs [] (.map []) := ⟨Maps.isMap_empty, fun l kl h => ⟨rfl, rfl⟩⟩
theorem PlaceIs.same {C : List (List Int)} {D : DataW Unit} (h : PlaceIs C D) {c : List Int} {i : Nat} (hc : firstAt C c = some i) : PlaceIs (C ++ [c]) D := by
 refine ⟨h.1, fun l kl hk => ?_⟩; have := h.2 l kl hk; rw [firstAt_snoc]
 cases hl : firstAt C l with
 | some j => rw [hl] at this; exact this
 | none =>
  rw [hl] at this; dsimp only; rw [if_neg (fun e => by rw [e, hl] at hc; cases hc)]; exact this
theorem PlaceIs.new {C : List (List Int)} {D : DataW Unit} (h : PlaceIs C D) {c : List Int} {kc : Lit} (hkc : keyOf Tryd.prog 74 (hashV c) = some kc) (hc : firstAt C c = none) : PlaceIs (C ++ [c]) (D.put kc (.lit (.int .i64 (C.length : Int)))) := by
 refine ⟨h.1.put _ _, fun l kl hk => ?_⟩; have := h.2 l kl hk; rw [firstAt_snoc]
 by_cases e : c = l
 ·subst e; obtain rfl : kc = kl := by rw [hkc] at hk; exact Option.some.inj hk
  rw [hc]; dsimp only; rw [if_pos rfl]; exact ⟨Maps.has_put_same h.1 (hashLaw.key hkc) _, Maps.atKey_put_same h.1 (hashLaw.key hkc) _ _⟩
 ·have hne := hash_key_ne hk hkc (fun e' => e e'.symm); rw [Maps.has_put_other hne, Maps.atKey_put_other hne]
  cases hl : firstAt C l with
  | some j => rw [hl] at this; exact this
  | none => rw [hl] at this; dsimp only; rw [if_neg e]; exact this
end Go.Proofs.YthnnphinfiobmaaDoor.Z
end
section
namespace Go.Proofs.YthnnphinfiobmaaDoor.Z
open RowKit YthnnphinfiobmaaDoor YthnnphinfiobmaaDoorW.PrintWords YthnnphinfiobmaaDoorW.PrintLast
set_option linter.all false
set_option maxRecDepth 100000
def strs (l : List ByteArray) : List Value := l.map Value.string
theorem strs_app (l m : List ByteArray) : strs (l ++ m) = strs l ++ strs m := by simp [strs]
structure Idx (base b m : Nat) (v : Value) (W : Int) (encs : List ByteArray) (C : List (List Int)) (w : World) : Prop where
 row : w.heap[b]? = some (.cells #[.int .i64 W, v, .map (some m)] 113 (0, 0))
 own : Own w base 1 v encs.length (strs encs)
 map : ∃ D : DataW Unit, w.ownsMap Tryd.prog 74 (plainElem Tryd.prog 3) m encs.length D ∧ PlaceIs C D
 hb : base ≤ b
 hm : base ≤ m
 nm : m ≠ b
 vb : v.ownBlock ≠ some b
 vm : v.ownBlock ≠ some m
 len : C.length = encs.length
section
variable {base b m : Nat} {v : Value} {W : Int} {encs : List ByteArray} {C : List (List Int)} {w w1 : World}
theorem Idx.lt (h : Idx base b m v W encs C w) : b < w.heap.size := lt_of_block h.row
theorem Idx.ltm (h : Idx base b m v W encs C w) : m < w.heap.size := by obtain ⟨D, h1, _⟩ := h.map; exact h1.lt
theorem Idx.below (h : Idx base b m v W encs C w) (hB : Below w.heap.size w w1) : Idx base b m v W encs C w1 := by
 obtain ⟨D, h1, h2⟩ := h.map; exact { h with
  row := (hB.block b h.lt).trans h.row
  own := h.own.below hB
  map := ⟨D, h1.kept (row := none) ⟨hB.os, hB.tape, hB.output, hB.size, fun k hk _ => hB.block k hk⟩ (by simp), h2⟩ }
theorem Idx.c0 (h : Idx base b m v W encs C w) : w.cell? ⟨b, 0, none⟩ = some (.int .i64 W) := (cell_of_row _ _ _ _ _ _ h.row).trans rfl
theorem Idx.c1 (h : Idx base b m v W encs C w) : w.cell? ⟨b, 1, none⟩ = some v := (cell_of_row _ _ _ _ _ _ h.row).trans rfl
theorem Idx.c2 (h : Idx base b m v W encs C w) : w.cell? ⟨b, 2, none⟩ = some (.map (some m)) := (cell_of_row _ _ _ _ _ _ h.row).trans rfl
theorem Idx.f (h : Idx base b m v W encs C w) (i : Nat) : w.frozen? ⟨b, i, none⟩ = false := frozen_of_row _ _ _ _ _ h.row
end
theorem Idx.app {base b m : Nat} {v v' : Value} {W : Int} {encs : List ByteArray} {C : List (List Int)} {c : List Int} {s : ByteArray} {w0 w w' : World} (h : Idx base b m v W encs C w0) (hrow : w.heap[b]? = some (.cells #[.int .i64 W, v, .map (some m)] 113 (0, 0)))
  (hmap : ∃ D : DataW Unit, w.ownsMap Tryd.prog 74 (plainElem Tryd.prog 3) m (encs.length + 1) D ∧ PlaceIs (C ++ [c]) D) (hg : w.grownBy w' v.ownBlock) (ho : Own w' base 1 v' (encs.length + 1) (strs encs ++ [Value.string s]))
  (hv : v'.ownBlock = v.ownBlock ∨ ∀ k, v'.ownBlock = some k → w.heap.size ≤ k) : Idx base b m v' W (encs ++ [s]) (C ++ [c]) (w'.setCell ⟨b, 1, none⟩ v') := by
 have hbl := lt_of_block hrow; obtain ⟨D, hm1, hm2⟩ := hmap; have hml := hm1.lt; have vb : v'.ownBlock ≠ some b := by
  rcases hv with e | e
  ·rw [e]; exact h.vb
  ·intro e2; have := e b e2; omega
 have vm : v'.ownBlock ≠ some m := by
  rcases hv with e | e
  ·rw [e]; exact h.vm
  ·intro e2; have := e m e2; omega
 have hr1 : w'.heap[b]? = some (.cells #[.int .i64 W, v, .map (some m)] 113 (0, 0)) := (hg.block b hbl (fun e => h.vb e.symm)).trans hrow; refine ⟨?_, ?_, ⟨D, ?_, hm2⟩, h.hb, h.hm, h.nm, vb, vm, by rw [List.length_append, List.length_append, h.len]; rfl⟩
 ·have := heap_setCell_same w' b 1 _ _ v' hr1; rw [this]; rfl
 ·rw [List.length_append, strs_app]; exact ho.set vb _
 ·have h2 : w'.ownsMap Tryd.prog 74 (plainElem Tryd.prog 3) m (encs.length + 1) D := hm1.kept hg (fun e => h.vm e.symm); rw [show (encs ++ [s]).length = encs.length + 1 by simp]; exact h2.setCell (by exact h.nm) _
theorem Idx.slot {base b m : Nat} {v : Value} {W : Int} {encs : List ByteArray} {C : List (List Int)} {w0 w w' : World} (h : Idx base b m v W encs C w0) (hrow : w.heap[b]? = some (.cells #[.int .i64 W, v, .map (some m)] 113 (0, 0))) (hg : w.grownBy w' v.ownBlock) :
  w'.cell? ⟨b, 1, none⟩ = some v ∧ w'.frozen? ⟨b, 1, none⟩ = false := by
 have hr1 : w'.heap[b]? = some (.cells #[.int .i64 W, v, .map (some m)] 113 (0, 0)) := (hg.block b (lt_of_block hrow) (fun e => h.vb e.symm)).trans hrow; exact ⟨(cell_of_row _ _ _ _ _ _ hr1).trans rfl, frozen_of_row _ _ _ _ _ hr1⟩
theorem infoStr : (Tryd.prog.info? 9).map (fun i => (i.zero, i.size, i.bytes)) = some (some (.string ⟨#[]⟩), 1, 16) := by kernel_rfl
theorem zeroInt (w : World) : (zeroValue 3).run Tryd.prog w = .ok (.int .i64 0) w := by kernel_rfl
theorem wpQuiet_load {P : Program} {ops : Array Oper} {C : World → Prop} {Q : Act → Prop} {a : Act} {o : Oper} {rest : List Oper} (hg : o.guard = none) (ty : TypeId) (x : Operand) (ho : o.op = .load ty x) (p v : Value) (hx : a.eval x = p)
  (hrun : ∀ w, C w → (Instr.loadAt ty p).run P w = .ok v w) (h : wpQuiet P ops C Q rest (a.put o.dst v)) : wpQuiet P ops C Q (o :: rest) a := by
 unfold wpQuiet; rw [if_pos (by simp [Region.wanted, hg])]; refine ⟨v, fun w hw => ?_, h⟩; unfold Oper.quietAt execOp; simp only [ho, hx, Sem.run_bind, hrun w hw, Result.andThen_ok, Sem.run_pure]; exact ⟨rfl, rfl⟩
theorem wpStill_load {P : Program} {ops : Array Oper} {w : World} {Q : Act → Prop} {a : Act} {o : Oper} {rest : List Oper} (hg : o.guard = none) (ty : TypeId) (x : Operand) (ho : o.op = .load ty x) (p v : Value) (hx : a.eval x = p)
  (hrun : (Instr.loadAt ty p).run P w = .ok v w) (h : wpStill P ops w Q rest (a.put o.dst v)) : wpStill P ops w Q (o :: rest) a := by
 unfold wpStill; rw [if_pos (by simp [Region.wanted, hg])]; unfold Oper.still execOp; simp only [ho, hx, Sem.run_bind, hrun, Result.andThen_ok, Sem.run_pure]; exact ⟨rfl, h⟩
theorem hash_load (c : List Int) (hl : c.length = 32) (g : Nat) (W : World) (hg : W.heap[g]? = some (.cells (c.map (Value.int .u8)).toArray 74 (0, 0))) :
  (Instr.loadAt 74 (.pointer (some ⟨g, 0, none⟩))).run Tryd.prog W = .ok (hashV c) W := by
 simp only [Instr.loadAt, Instr.sureAddr, Sem.run_bind, Sem.run_pure, Result.andThen_ok]; exact run_loadVar_row W g _ _ _ _ _ hg Tryd.underlying74 rfl (hash_cells32 c hl)
theorem place_look {m n : Nat} {D : DataW Unit} {C : List (List Int)} {w : World} (h : w.ownsMap Tryd.prog 74 (plainElem Tryd.prog 3) m n D) (hp : PlaceIs C D) (c : List Int) (hc : H32 c) :
  (Instr.lookup 111 (.map (some m)) (hashV c) true).run Tryd.prog w = .ok (.tuple #[.int .i64 (((firstAt C c).getD 0 : Nat) : Int), .bool (firstAt C c).isSome]) w := by
 obtain ⟨kl, hk⟩ := hash_key c hc; obtain ⟨h1, h2⟩ := hp.2 c kl hk; obtain ⟨v, ps, hrun, hv⟩ := h.look_ok hashLaw Tryd.underlying111 (zeroInt w) (plainElem_int Tryd.underlying3 (by decide)) hk; obtain ⟨x, rfl, hx, _⟩ := plainElem_int_inv Tryd.underlying3 hv; rw [hrun, h1]; rw [h2] at hx; have h3 := congrArg Prod.fst hx; simp only [DataW.lit.injEq, Lit.int.injEq, true_and] at h3; rw [← h3]
set_option maxHeartbeats 2000000 in
theorem idxAdd_old (base b m : Nat) (v : Value) (W : Int) (encs : List ByteArray) (C : List (List Int)) (c : List Int) (s : ByteArray) (i : Nat) (w : World) (h : Idx base b m v W encs C w) (hc : H32 c) (hi : firstAt C c = some i) (hn : encs.length ≤ 1073741824) (hbase : base ≤ w.heap.size) :
  Calls Tryd.prog 75 #[.pointer (some ⟨b, 0, none⟩), hashV c, .string s] w fun e w' => e = .returned (.tuple #[]) ∧ (∃ v', Idx base b m v' W (encs ++ [s]) (C ++ [c]) w') ∧ Below base w w' := by
 obtain ⟨VA, VC, rfl⟩ := h.own.form; obtain ⟨D, hown, hpl⟩ := h.map; have hw1 : (w.alloc (.cells (c.map (Value.int .u8)).toArray 74)).heap[w.heap.size]? = some (.cells (c.map (Value.int .u8)).toArray 74 (0, 0)) := heap_alloc_new _ _; have HX := Lib.hid (h.below ((Below.refl _ _).alloc (Nat.le_refl _) (.cells (c.map (Value.int .u8)).toArray 74))); have kl := fun n => hash_load c hc.1 w.heap.size ((w.alloc (.cells (c.map (Value.int .u8)).toArray 74)).drewN n) hw1
 have kp := fun n => place_look (w := (w.alloc (.cells (c.map (Value.int .u8)).toArray 74)).drewN n) (hown.alloc _) hpl c hc
 rw [hi] at kp; have h0 := h.c0; have h1 := h.c1; have h2 := h.c2; have hf := h.f; have hlt := h.lt; have HI := Lib.hid hi; have HC := Lib.hid hc; have HH := Lib.hid h; clear hi hc h hown hpl hw1; unfold hashV at kl kp ⊢
 go_enter Tryd.func75, Tryd.ntmps75
 go_wp2_with fail
 refine wp_region_quiet_lit (by kernel_rfl) (by kernel_rfl) ?_
 iterate 4 (quiet_step (fail))
 refine wpQuiet_load rfl 74 _ rfl _ _ rfl (fun w' ⟨n, hn⟩ => by subst hn; exact kl n) ?_
 repeat (quiet_step (fail))
 refine wpQuiet_nil ?_; intro _ hw'; obtain ⟨nq, hw''⟩ := hw'; subst hw''; have hrow : (((w.alloc (.cells (c.map (Value.int .u8)).toArray 74)).drewN nq).alloc (.cells #[Value.string s] 9)).heap[b]? = some (.cells #[.int .i64 W, .slice VA encs.length VC, .map (some m)] 113 (0, 0)) :=
  (HX.out.below ((Below.refl _ _).alloc (Nat.le_refl _) (.cells #[Value.string s] 9))).row
 have hown : Own (((w.alloc (.cells (c.map (Value.int .u8)).toArray 74)).drewN nq).alloc (.cells #[Value.string s] 9)) base 1 (.slice VA encs.length VC) encs.length (strs encs) :=
  (HX.out.below ((Below.refl _ _).alloc (Nat.le_refl _) (.cells #[Value.string s] 9))).own
 have hsrc := src_one ((w.alloc (.cells (c.map (Value.int .u8)).toArray 74)).drewN nq) 32 9 9 Tryd.underlying32 (.string s) rfl; rw [show ((w.alloc (.cells (c.map (Value.int .u8)).toArray 74)).drewN nq).heap.size = w.heap.size + 1 by simp] at hsrc; have HROW := Lib.hid hrow; have HOWN := Lib.hid hown; have HSRC := Lib.hid hsrc; have hbel : Below base w (((w.alloc (.cells (c.map (Value.int .u8)).toArray 74)).drewN nq).alloc (.cells #[Value.string s] 9)) := (bdrewN ((Below.refl _ _).alloc hbase _) nq).alloc (by simp; omega) _; have hmp : ∃ D : DataW Unit, (((w.alloc (.cells (c.map (Value.int .u8)).toArray 74)).drewN nq).alloc (.cells #[Value.string s] 9)).ownsMap Tryd.prog 74 (plainElem Tryd.prog 3) m (encs.length + 1) D ∧ PlaceIs (C ++ [c]) D := by
  obtain ⟨D, h1, h2⟩ := (HX.out.below ((Below.refl _ _).alloc (Nat.le_refl _) (.cells #[Value.string s] 9))).map; exact ⟨D, h1.mono (by omega), h2.same HI.out⟩
 have HMP := Lib.hid hmp; have HBEL := Lib.hid hbel; clear hrow hown hsrc hbel hmp kl kp hf
 go_wp2_with (at_builtin; go_loud (refine wpList_app base rfl _ _ 32 32 rfl 9 (.string ⟨#[]⟩) 1 16 Tryd.underlying32 infoStr rfl rfl HOWN.out _ 1 [Value.string s] rfl HSRC.out (by unfold maxLen; omega) (by omega) (by simp; omega) ?_; intro v' w' hown' hgrow hvv; obtain ⟨A', c', rfl⟩ := hown'.form; have HO' := Lib.hid hown'; have HG' := Lib.hid hgrow; have HV' := Lib.hid hvv; clear hown' hgrow hvv; have hs1 := (HH.out.slot HROW.out HG'.out).1; have hs2 := (HH.out.slot HROW.out HG'.out).2))
 go_end0
 refine ⟨rfl, ⟨_, HH.out.app HROW.out HMP.out HG'.out HO'.out HV'.out⟩, ?_⟩; have h5 : Below base w w' := HBEL.out.grown HG'.out (by simp; omega) (fun k hk => (HH.out.own.lt k hk).1); exact h5.setCell HH.out.hb _
set_option maxHeartbeats 2000000 in
theorem idxAdd_new (base b m : Nat) (v : Value) (W : Int) (encs : List ByteArray) (C : List (List Int)) (c : List Int) (s : ByteArray) (w : World) (h : Idx base b m v W encs C w) (hc : H32 c) (hi : firstAt C c = none) (hn : encs.length ≤ 1073741824) (hbase : base ≤ w.heap.size) :
  Calls Tryd.prog 75 #[.pointer (some ⟨b, 0, none⟩), hashV c, .string s] w fun e w' => e = .returned (.tuple #[]) ∧ (∃ v', Idx base b m v' W (encs ++ [s]) (C ++ [c]) w') ∧ Below base w w' := by
 obtain ⟨VA, VC, rfl⟩ := h.own.form; obtain ⟨D, hown, hpl⟩ := h.map; have hw1 : (w.alloc (.cells (c.map (Value.int .u8)).toArray 74)).heap[w.heap.size]? = some (.cells (c.map (Value.int .u8)).toArray 74 (0, 0)) := heap_alloc_new _ _; have HX := Lib.hid (h.below ((Below.refl _ _).alloc (Nat.le_refl _) (.cells (c.map (Value.int .u8)).toArray 74))); have kl := fun n => hash_load c hc.1 w.heap.size ((w.alloc (.cells (c.map (Value.int .u8)).toArray 74)).drewN n) hw1
 have kp := fun n => place_look (w := (w.alloc (.cells (c.map (Value.int .u8)).toArray 74)).drewN n) (hown.alloc _) hpl c hc
 rw [hi] at kp; have h0 := h.c0; have h1 := h.c1; have h2 := h.c2; have hf := h.f; have hlt := h.lt; have HI := Lib.hid hi; have HC := Lib.hid hc; have HH := Lib.hid h; clear hi hc h hown hpl hw1; unfold hashV at kl kp ⊢
 go_enter Tryd.func75, Tryd.ntmps75
 go_wp2_with fail
 refine wp_region_quiet_lit (by kernel_rfl) (by kernel_rfl) ?_
 iterate 4 (quiet_step (fail))
 refine wpQuiet_load rfl 74 _ rfl _ _ rfl (fun w' ⟨n, hn⟩ => by subst hn; exact kl n) ?_
 repeat (quiet_step (fail))
 refine wpQuiet_nil ?_; intro _ hw'; obtain ⟨nq, hw''⟩ := hw'; subst hw''
 go_wp2_with fail
 obtain ⟨W1, hW1⟩ : ∃ W1, W1 = (w.alloc (.cells (c.map (Value.int .u8)).toArray 74)).drewN nq := ⟨_, rfl⟩
 have hX1 : Idx base b m (.slice VA encs.length VC) W encs C W1 := by rw [hW1]; exact HX.out.below (bdrewN (Below.refl _ _) nq)
 have hr1 : W1.heap[w.heap.size]? = some (.cells (c.map (Value.int .u8)).toArray 74 (0, 0)) := by rw [hW1]; exact heap_alloc_new _ _
 have hz1 : W1.heap.size = w.heap.size + 1 := by rw [hW1]; simp
 have hB1 : Below base w W1 := by rw [hW1]; exact bdrewN ((Below.refl _ _).alloc hbase _) nq
 rw [← hW1]; clear kl kp h0 h1 h2 hf hW1 HX hlt; have h0 := hX1.c0; have h1 := hX1.c1; have h2 := hX1.c2; have hf := hX1.f; have kl := hash_load c HC.out.1 w.heap.size W1.drew hr1; have HX := Lib.hid hX1; have HZ := Lib.hid hz1; clear hX1 hz1
 go_still_tail 10, (by kernel_rfl)
 refine wpStill_load rfl 74 _ rfl _ (hashV c) rfl kl ?_
 repeat still_step
 try refine wpStill_nil ?_
 obtain ⟨D1, hm1, hp1⟩ := HX.out.map; obtain ⟨kc, hkc⟩ := hash_key c HC.out; have hm1' : W1.drew.ownsMap Tryd.prog 74 (plainElem Tryd.prog 3) m encs.length D1 := hm1; have HM1 := Lib.hid hm1'; have HP1 := Lib.hid hp1; have HKC := Lib.hid hkc; have HB1 := Lib.hid hB1; clear hm1 hm1' hp1 hkc hB1 kl hr1 h0 h1 h2 hf
 change wpList _ _ _ _ _ W1.drew
 go_wp2_with (first | (at_mapUpdate; go_loud (refine wpList_mapUpdate_own _ rfl _ _ _ 111 rfl 74 3 hashLaw Tryd.underlying111 (plainElem Tryd.prog 3) m encs.length D1 rfl HM1.out (by unfold maxLen; omega) _ _ kc rfl rfl HKC.out (.lit (.int .i64 (encs.length : Int))) [] (plainElem_int Tryd.underlying3 (by go_wf)) ?_; intro w2 hm2 hg2; have HM2 := Lib.hid hm2; have HG2 := Lib.hid hg2; clear hm2 hg2; have HR2 := Lib.hid ((HG2.out.block b HX.out.lt (fun e => HX.out.nm (Option.some.inj e).symm)).trans HX.out.row); have hc2 := (cell_of_row _ _ 1 _ _ _ HR2.out).trans rfl; have hf2 := frozen_of_row _ _ 1 _ _ HR2.out; have HZ2 := Lib.hid (show W1.heap.size ≤ w2.heap.size from HG2.out.size); have HO2 := Lib.hid (HX.out.own.drew.grown HG2.out (fun k hk e => HX.out.vm (hk.trans e))); have HSRC := Lib.hid (src_one w2 32 9 9 Tryd.underlying32 (.string s) rfl); have HOWN := Lib.hid (HO2.out.alloc (.cells #[Value.string s] 9)); have HROW := Lib.hid ((heap_alloc_old w2 (.cells #[Value.string s] 9) (lt_of_block HR2.out)).trans HR2.out))) | (at_builtin; go_loud (refine wpList_app base rfl _ _ 32 32 rfl 9 (.string ⟨#[]⟩) 1 16 Tryd.underlying32 infoStr rfl rfl HOWN.out _ 1 [Value.string s] rfl HSRC.out (by unfold maxLen; omega) (by omega) (by have := HZ2.out; have := HZ.out; simp at this ⊢; omega) ?_; intro v' w' hown' hgrow hvv; obtain ⟨A', c', rfl⟩ := hown'.form; have HO' := Lib.hid hown'; have HG' := Lib.hid hgrow; have HV' := Lib.hid hvv; clear hown' hgrow hvv; have hs1 := (HH.out.slot HROW.out HG'.out).1; have hs2 := (HH.out.slot HROW.out HG'.out).2)))
 go_end0
 have hz2 := HZ2.out; have hz := HZ.out; have hmp : ∃ D : DataW Unit, (w2.alloc (.cells #[Value.string s] 9)).ownsMap Tryd.prog 74 (plainElem Tryd.prog 3) m (encs.length + 1) D ∧ PlaceIs (C ++ [c]) D := by
  refine ⟨_, HM2.out.alloc _, ?_⟩; have := HP1.out.new HKC.out HI.out; rw [HH.out.len] at this; exact this
 refine ⟨rfl, ⟨_, HH.out.app HROW.out hmp HG'.out HO'.out HV'.out⟩, ?_⟩; have h4 : Below base w w2 := (HB1.out.drew).grown HG2.out (by show base ≤ W1.heap.size; omega) (fun k hk => by cases hk; exact HH.out.hm); have h6 : Below base w (w2.alloc (.cells #[Value.string s] 9)) := h4.alloc (Nat.le_trans hbase h4.size) _; have h5 : Below base w w' := h6.grown HG'.out (Nat.le_trans hbase h6.size) (fun k hk => (HH.out.own.lt k hk).1); exact h5.setCell HH.out.hb _
end Go.Proofs.YthnnphinfiobmaaDoor.Z
end
section
namespace Go.Proofs.YthnnphinfiobmaaDoor
open RowKit
set_option linter.all false
def Rdr (b : Nat) (r : ByteArray) (bad : Bool) (w : World) : Prop := w.heap[b]? = some (.cells #[.string r, .bool bad] 172)
section
variable {b : Nat} {r : ByteArray} {bad : Bool} {w w1 : World}
theorem Rdr.c0 (h : Rdr b r bad w) : w.cell? ⟨b, 0, none⟩ = some (.string r) := by
 unfold Rdr at h; simp [World.cell?, h]
theorem Rdr.c1 (h : Rdr b r bad w) : w.cell? ⟨b, 1, none⟩ = some (.bool bad) := by
 unfold Rdr at h; simp [World.cell?, h]
theorem Rdr.f (h : Rdr b r bad w) (i : Nat) : w.frozen? ⟨b, i, none⟩ = false := by
 unfold Rdr at h; simp [World.frozen?, h]
theorem Rdr.lt (h : Rdr b r bad w) : b < w.heap.size := by
 rcases Nat.lt_or_ge b w.heap.size with h' | h'
 ·exact h'
 ·unfold Rdr at h; simp [Array.getElem?_eq_none h'] at h
theorem Rdr.set0 (h : Rdr b r bad w) (s : ByteArray) : Rdr b s bad (w.setCell ⟨b, 0, none⟩ (.string s)) := by
 have hl := h.lt; unfold Rdr at h ⊢; rw [Array.getElem?_eq_getElem hl] at h; have h' := Option.some.inj h; simp [World.setCell, hl, Array.getElem_modify, h']
theorem Rdr.set1 (h : Rdr b r bad w) (s : Bool) : Rdr b r s (w.setCell ⟨b, 1, none⟩ (.bool s)) := by
 have hl := h.lt; unfold Rdr at h ⊢; rw [Array.getElem?_eq_getElem hl] at h; have h' := Option.some.inj h; simp [World.setCell, hl, Array.getElem_modify, h']
theorem Rdr.below (h : Rdr b r bad w) (hb : Below w.heap.size w w1) : Rdr b r bad w1 := (hb.block b h.lt).trans h
theorem Rdr.grown (h : Rdr b r bad w) {row : Option Nat} (hb : w.grownBy w1 row) (hn : some b ≠ row) : Rdr b r bad w1 := (hb.block b h.lt hn).trans h
theorem Rdr.fresh (s : ByteArray) (w : World) : Rdr w.heap.size s false (w.alloc (.cells #[.string s, .bool false] 172)) := by
 show (w.heap.push _)[w.heap.size]? = _; simp
end
def textR (r : ByteArray) (bad : Bool) (n : Int) : ByteArray × ByteArray × Bool :=
 if bad = true ∨ n < 0 ∨ (r.size : Int) < n then (⟨#[]⟩, r, true) else (r.extract 0 n.toNat, r.extract n.toNat r.size, false)
set_option maxHeartbeats 400000 in
theorem text_any (b : Nat) (r : ByteArray) (bad : Bool) (n : Int) (w : World) (h : Rdr b r bad w) :
  Calls Tryd.prog 126 #[.pointer (some ⟨b, 0, none⟩), .int .i64 n] w fun e w' => e = .returned (.string (textR r bad n).1) ∧ Rdr b (textR r bad n).2.1 (textR r bad n).2.2 w' ∧ w.grownBy w' (some b) := by
 have c0 := h.c0; have c1 := h.c1; have f0 := h.f 0; have f1 := h.f 1; have H := Lib.hid h; clear h
 by_cases hc : bad = true ∨ n < 0 ∨ (r.size : Int) < n
 ·have ht : textR r bad n = (⟨#[]⟩, r, true) := by unfold textR; rw [if_pos hc]
  rw [ht]; clear ht
  by_cases hb : bad = true
  ·subst hb
   go_enter Tryd.func126, Tryd.ntmps126
   go_wp2
   go_ret
   exact ⟨rfl, H.out.set1 true, Lib.grownBy_setCell _ _ _ _⟩
  ·obtain rfl : bad = false := by simpa using hb
   by_cases hn : n < 0
   ·go_enter Tryd.func126, Tryd.ntmps126
    go_wp2
    go_ret
    exact ⟨rfl, H.out.set1 true, Lib.grownBy_setCell _ _ _ _⟩
   ·have hn2 : (r.size : Int) < n := by simp at hc; omega
    go_enter Tryd.func126, Tryd.ntmps126
    go_wp2
    go_ret
    exact ⟨rfl, H.out.set1 true, Lib.grownBy_setCell _ _ _ _⟩
 ·have ht : textR r bad n = (r.extract 0 n.toNat, r.extract n.toNat r.size, false) := by unfold textR; rw [if_neg hc]
  rw [ht]; clear ht; simp only [not_or, Bool.not_eq_true] at hc; obtain ⟨rfl, hn0, hn1⟩ := hc; have hn2 : 0 ≤ n := by omega
  have hn3 : n ≤ r.size := by omega
  have hn4 : ¬ (r.size : Int) < n := by omega
  go_enter Tryd.func126, Tryd.ntmps126
  go_wp2
  go_ret
  exact ⟨rfl, H.out.set0 _, Lib.grownBy_setCell _ _ _ _⟩
theorem or_join (x y : Nat) (hy : y < 256) : (x * 256) ||| y = x * 256 + y := by
 have h := Nat.shiftLeft_add_eq_or_of_lt (i := 8) hy x; rw [Nat.shiftLeft_eq] at h; exact h.symm
theorem or_vec (n a b : Nat) : (BitVec.ofInt n (a : Int) ||| BitVec.ofInt n (b : Int)).toNat = (a % 2 ^ n) ||| (b % 2 ^ n) := by
 rw [BitVec.toNat_or, BitVec.ofInt_natCast, BitVec.ofInt_natCast, BitVec.toNat_ofNat, BitVec.toNat_ofNat]
theorem wrap_u32 (n : Nat) (h : n < 4294967296) : IntKind.u32.wrap (n : Int) = n := by
 simp [IntKind.wrap, IntKind.bits, IntKind.signed]; omega
theorem wrap_i64 (n : Nat) (h : n < 9223372036854775808) : IntKind.i64.wrap (n : Int) = n := by
 simp [IntKind.wrap, IntKind.bits, IntKind.signed]; omega
theorem bitsOrU32 (x y : Nat) (hx : x < 16777216) (hy : y < 256) : bits .or .u32 ((x : Int) * 256) (y : Int) = ((x * 256 + y : Nat) : Int) := by
 have e : ((x : Int) * 256) = ((x * 256 : Nat) : Int) := by simp
 rw [e]; show IntKind.u32.wrap (((BitVec.ofInt 32 ((x * 256 : Nat) : Int) ||| BitVec.ofInt 32 (y : Int)).toNat : Nat) : Int) = _; rw [or_vec, Nat.mod_eq_of_lt (by omega), Nat.mod_eq_of_lt (by omega), or_join x y hy, wrap_u32 _ (by omega)]
theorem bitsOrI64 (x y : Nat) (hx : x < 16777216) (hy : y < 256) : bits .or .i64 ((x : Int) * 256) (y : Int) = ((x * 256 + y : Nat) : Int) := by
 have e : ((x : Int) * 256) = ((x * 256 : Nat) : Int) := by simp
 rw [e]; show IntKind.i64.wrap (((BitVec.ofInt 64 ((x * 256 : Nat) : Int) ||| BitVec.ofInt 64 (y : Int)).toNat : Nat) : Int) = _; rw [or_vec, Nat.mod_eq_of_lt (by omega), Nat.mod_eq_of_lt (by omega), or_join x y hy, wrap_i64 _ (by omega)]
def numV (l : List UInt8) : Nat := l.foldl (fun a b => a * 256 + b.toNat) 0
theorem numV_snoc (l : List UInt8) (b : UInt8) : numV (l ++ [b]) = numV l * 256 + b.toNat := by simp [numV]
theorem numV_lt (l : List UInt8) : numV l < 256 ^ l.length := by
 have gen : ∀ (l : List UInt8) (a n : Nat), a < 256 ^ n → l.foldl (fun a b => a * 256 + b.toNat) a < 256 ^ (n + l.length) := by
  intro l
  induction l with
  | nil => intro a n h; simpa using h
  | cons x r ih =>
   intro a n h; have hx : x.toNat < 256 := x.toNat_lt; have h2 := ih (a * 256 + x.toNat) (n + 1) (by rw [Nat.pow_succ]; omega); rw [List.foldl_cons, List.length_cons, show n + (r.length + 1) = n + 1 + r.length by omega]; exact h2
 have h := gen l 0 0 (by decide)
 simpa [numV] using h
theorem numV_step (t : ByteArray) (m : Nat) (hm : m < t.size) (h2 : t.size ≤ 2) :
  numV (t.data.toList.take m) < 256 ∧ numV (t.data.toList.take (m + 1)) = numV (t.data.toList.take m) * 256 + (t.data[m]'hm).toNat := by
 constructor
 ·have h := numV_lt (t.data.toList.take m); have hl : (t.data.toList.take m).length ≤ 1 := by rw [List.length_take]; omega
  have := Nat.pow_le_pow_right (n := 256) (by decide) hl; omega
 ·rw [List.take_succ_eq_append_getElem (by simpa using hm), numV_snoc]; simp
theorem numU32_step (t : ByteArray) (m : Nat) (hm : m < t.size) (h2 : t.size ≤ 2) :
  bits .or .u32 ((numV (t.data.toList.take m) : Int) * 256 % 4294967296) (((t.data[m]'hm).toNat : Int) % 4294967296) = (numV (t.data.toList.take (m + 1)) : Int) := by
 obtain ⟨h1, h3⟩ := numV_step t m hm h2; have h4 := (t.data[m]'hm).toNat_lt; rw [Int.emod_eq_of_lt (by omega) (by omega), Int.emod_eq_of_lt (by omega) (by omega), bitsOrU32 _ _ (by omega) (by omega), h3]
set_option maxHeartbeats 1000000 in
theorem numFlag_any (b : Nat) (r : ByteArray) (bad : Bool) (k : Nat) (hk : k ≤ 2) (w : World) (h : Rdr b r bad w) :
  Calls Tryd.prog 125 #[.pointer (some ⟨b, 0, none⟩), .int .i64 k] w fun e w' => e = .returned (.int .u32 (numV (textR r bad k).1.data.toList)) ∧ Rdr b (textR r bad k).2.1 (textR r bad k).2.2 w' ∧ w.grownBy w' (some b) := by
 have hlt := h.lt; have hsz : (textR r bad k).1.size ≤ 2 := by
  unfold textR
  split
  ·exact Nat.zero_le _
  ·simp; omega
 have H := Lib.hid h; clear h; generalize ht : (textR r bad k).1 = t at hsz ⊢; have HT := Lib.hid ht; clear ht
 go_enter Tryd.func125, Tryd.ntmps125
 go_wp2_with (first | (go_at_call 126; refine (text_any b r bad k _ H.out).mono ?_; rintro e wa ⟨rfl, hRa, hga⟩; rw [HT.out]; have hza := hga.size) | (((with_reducible refine gate_dst (N := 11) rfl ?_); refine wpList_bytes wa.heap.size rfl 9 133 5 _ rfl Tryd.underlying9 Tryd.underlying133 Tryd.underlying5 t rfl (by first | assumption | (simp; omega) | omega) (by unfold maxLen; omega) ?_; rintro v_wb wb ho_wb hv_wb hb_wb; obtain ⟨hc_wb, hf_wb⟩ := bcell hb_wb; have hz_wb := hb_wb.size; (try simp only [World.size_alloc, World.size_setCell, World.size_drew] at hz_wb); (try simp only [World.size_alloc, World.size_setCell, World.size_drew] at hc_wb); (try simp only [World.size_alloc, World.size_setCell, World.size_drew] at hf_wb); skip); obtain ⟨A, c, rfl⟩ := ho_wb.form))
 have HO := Lib.hid ho_wb; clear ho_wb; have htl : t.data.toList.length = t.size := rfl; have HTL := Lib.hid htl; clear htl
 go_loopw [5, 13] (fun v i wr => ∃ m : Nat, m ≤ t.size ∧ i = .int .i64 m ∧ v = .int .u32 (numV (t.data.toList.take m)) ∧ wr = wb) (fun _ i _ => t.size - (intOf i).toNat)
 case atStart => exact ⟨0, Nat.zero_le _, rfl, rfl, rfl⟩
 case round =>
  obtain ⟨m, hm, rfl, rfl, rfl⟩ := hrel
  by_cases hlt2 : m < t.size
  ·obtain ⟨g, cap, hv, h1, h2, h3, hcell, hfr⟩ := (HO.out).at (by rw [HTL.out]; omega)
   cases hv
   have hc := hcell m (by rw [HTL.out]; omega); rw [bcs_get _ _ (by rw [HTL.out]; omega)] at hc; clear hcell hfr
   go_wp2
   refine ⟨⟨m + 1, by omega, by go_num, ?_, trivial⟩, by simp [intOf]; omega⟩; rw [numU32_step t m hlt2 hsz]
  ·have hm2 : m = t.size := by omega
   subst hm2; clear hlt2
   go_wp2
   go_ret
   refine ⟨?_, hRa.below hb_wb, Lib.grownBy_below hga hb_wb⟩; rw [List.take_of_length_le (by rw [HTL.out]; omega)]; rfl
theorem wrap64_small (n : Nat) (h : n < 9223372036854775808) : wrap64 (n : Int) = n := by unfold wrap64; omega
theorem numI64_step (t : ByteArray) (m : Nat) (hm : m < t.size) (h2 : t.size ≤ 2) :
  bits .or .i64 (wrap64 ((numV (t.data.toList.take m) : Int) * 256)) (wrap64 ((t.data[m]'hm).toNat : Int)) = (numV (t.data.toList.take (m + 1)) : Int) := by
 obtain ⟨h1, h3⟩ := numV_step t m hm h2; have h4 := (t.data[m]'hm).toNat_lt; rw [show ((numV (t.data.toList.take m) : Int) * 256) = ((numV (t.data.toList.take m) * 256 : Nat) : Int) by simp, wrap64_small _ (by omega), wrap64_small _ (by omega), Int.natCast_mul]; rw [show ((256 : Nat) : Int) = 256 from rfl, bitsOrI64 _ _ (by omega) (by omega), h3]
set_option maxHeartbeats 1000000 in
theorem numInt_any (b : Nat) (r : ByteArray) (bad : Bool) (k : Nat) (hk : k ≤ 2) (w : World) (h : Rdr b r bad w) :
  Calls Tryd.prog 131 #[.pointer (some ⟨b, 0, none⟩), .int .i64 k] w fun e w' => e = .returned (.int .i64 (numV (textR r bad k).1.data.toList)) ∧ Rdr b (textR r bad k).2.1 (textR r bad k).2.2 w' ∧ w.grownBy w' (some b) := by
 have hlt := h.lt; have hsz : (textR r bad k).1.size ≤ 2 := by
  unfold textR
  split
  ·exact Nat.zero_le _
  ·simp; omega
 have H := Lib.hid h; clear h; generalize ht : (textR r bad k).1 = t at hsz ⊢; have HT := Lib.hid ht; clear ht
 go_enter Tryd.func131, Tryd.ntmps131
 go_wp2_with (first | (go_at_call 126; refine (text_any b r bad k _ H.out).mono ?_; rintro e wa ⟨rfl, hRa, hga⟩; rw [HT.out]; have hza := hga.size) | (((with_reducible refine gate_dst (N := 11) rfl ?_); refine wpList_bytes wa.heap.size rfl 9 133 5 _ rfl Tryd.underlying9 Tryd.underlying133 Tryd.underlying5 t rfl (by first | assumption | (simp; omega) | omega) (by unfold maxLen; omega) ?_; rintro v_wb wb ho_wb hv_wb hb_wb; obtain ⟨hc_wb, hf_wb⟩ := bcell hb_wb; have hz_wb := hb_wb.size; (try simp only [World.size_alloc, World.size_setCell, World.size_drew] at hz_wb); (try simp only [World.size_alloc, World.size_setCell, World.size_drew] at hc_wb); (try simp only [World.size_alloc, World.size_setCell, World.size_drew] at hf_wb); skip); obtain ⟨A, c, rfl⟩ := ho_wb.form))
 have HO := Lib.hid ho_wb; clear ho_wb; have htl : t.data.toList.length = t.size := rfl; have HTL := Lib.hid htl; clear htl
 go_loopw [5, 13] (fun v i wr => ∃ m : Nat, m ≤ t.size ∧ i = .int .i64 m ∧ v = .int .i64 (numV (t.data.toList.take m)) ∧ wr = wb) (fun _ i _ => t.size - (intOf i).toNat)
 case atStart => exact ⟨0, Nat.zero_le _, rfl, rfl, rfl⟩
 case round =>
  obtain ⟨m, hm, rfl, rfl, rfl⟩ := hrel
  by_cases hlt2 : m < t.size
  ·obtain ⟨g, cap, hv, h1, h2, h3, hcell, hfr⟩ := (HO.out).at (by rw [HTL.out]; omega)
   cases hv
   have hc := hcell m (by rw [HTL.out]; omega); rw [bcs_get _ _ (by rw [HTL.out]; omega)] at hc; clear hcell hfr
   go_wp2
   refine ⟨⟨m + 1, by omega, by go_num, ?_, trivial⟩, by simp [intOf]; omega⟩; rw [numI64_step t m hlt2 hsz]
  ·have hm2 : m = t.size := by omega
   subst hm2; clear hlt2
   go_wp2
   go_ret
   refine ⟨?_, hRa.below hb_wb, Lib.grownBy_below hga hb_wb⟩; rw [List.take_of_length_le (by rw [HTL.out]; omega)]; rfl
def sizedR (r : ByteArray) (bad : Bool) : ByteArray × ByteArray × Bool :=
 textR (textR r bad 2).2.1 (textR r bad 2).2.2 (numV (textR r bad 2).1.data.toList)
set_option maxHeartbeats 400000 in
theorem rsized_any (b : Nat) (r : ByteArray) (bad : Bool) (w : World) (h : Rdr b r bad w) :
  Calls Tryd.prog 124 #[.pointer (some ⟨b, 0, none⟩)] w fun e w' => e = .returned (.string (sizedR r bad).1) ∧ Rdr b (sizedR r bad).2.1 (sizedR r bad).2.2 w' ∧ w.grownBy w' (some b) := by
 have H := Lib.hid h; clear h
 go_enter Tryd.func124, Tryd.ntmps124
 go_wp2_with (first | (go_at_call 131; refine (numInt_any b r bad 2 (by omega) _ H.out).mono ?_; rintro e wa ⟨rfl, hRa, hga⟩) | (go_at_call 126; refine (text_any b _ _ _ _ hRa).mono ?_; rintro e wc ⟨rfl, hRc, hgc⟩))
 go_ret
 exact ⟨rfl, hRc, hga.trans hgc⟩
end Go.Proofs.YthnnphinfiobmaaDoor
end
section
namespace Go.Proofs.YthnnphinfiobmaaDoor
open RowKit
set_option linter.all false
theorem gcell {b : Nat} {W w1 : World} (hg : W.grownBy w1 (some b)) : (∀ k o, k < W.heap.size → k ≠ b → w1.cell? ⟨k, o, none⟩ = W.cell? ⟨k, o, none⟩) ∧ (∀ k o, k < W.heap.size → k ≠ b → w1.frozen? ⟨k, o, none⟩ = W.frozen? ⟨k, o, none⟩) :=
 ⟨fun k o h hn => World.cell?_of_block (a := ⟨k, o, none⟩) (hg.block k h (by simpa using hn)), fun k o h hn => World.frozen?_of_block (a := ⟨k, o, none⟩) (hg.block k h (by simpa using hn))⟩
theorem below_rdr {b : Nat} {a w w' : World} (h : Below a.heap.size a w) (hg : w.grownBy w' (some b)) (hb : a.heap.size ≤ b) : Below a.heap.size a w' := h.grown hg h.size fun k hk => by cases hk; exact hb
def nodeV : Option (ByteArray × ByteArray × ByteArray × ByteArray) → Value
 | some (a, b, c, d) => .tuple #[.agg #[.string a, .string b, .string c, .string d], .bool true]
 | none => .tuple #[.agg #[.string ⟨#[]⟩, .string ⟨#[]⟩, .string ⟨#[]⟩, .string ⟨#[]⟩], .bool false]
def optText (p : Bool) (t : ByteArray × ByteArray × Bool) (x : Int) : ByteArray × ByteArray × Bool := if p = true then textR t.2.1 t.2.2 x else (⟨#[]⟩, t.2.1, t.2.2)
def decI (s : ByteArray) (x : Int) : Option (ByteArray × ByteArray × ByteArray × ByteArray) :=
 let K := sizedR s false
 let V := sizedR K.2.1 K.2.2
 let F := textR V.2.1 V.2.2 1
 let f := numV F.1.data.toList
 let L := optText (decide (f % 2 = 1)) F x
 let R := optText (decide (f / 2 % 2 = 1)) L x
 if isW x = true ∧ R.2.2 = false ∧ R.2.1.size = 0 ∧ f ≤ 3 ∧ nodeOk K.1 V.1 L.1 R.1 x = true then some (K.1, V.1, L.1, R.1) else none
theorem bitsAnd1 : ∀ f : Nat, f < 256 → bits .and .u32 (f : Int) 1 = ((f % 2 : Nat) : Int) := by decide +kernel
theorem bitsAnd2 : ∀ f : Nat, f < 256 → bits .and .u32 (f : Int) 2 = ((f / 2 % 2 * 2 : Nat) : Int) := by decide +kernel
theorem text1_lt (r : ByteArray) (bad : Bool) : numV (textR r bad 1).1.data.toList < 256 := by
 have h := numV_lt (textR r bad 1).1.data.toList; have h2 : (textR r bad 1).1.data.toList.length ≤ 1 := by
  unfold textR
  split
  ·exact Nat.zero_le _
  ·simp; omega
 have := Nat.pow_le_pow_right (n := 256) (by decide) h2; omega
theorem Rdr.fresh2 {b : Nat} (s : ByteArray) (w : World) (h : b = w.heap.size) : Rdr b s false (w.alloc (.cells #[.string s, .bool false] 172)) := by
 subst h; exact Rdr.fresh s w
theorem Rdr.alloc2 {b : Nat} {r : ByteArray} {bad : Bool} {w : World} (h : Rdr b r bad w) (o : Obj) : Rdr b r bad (w.alloc o) := h.below ((Below.refl _ _).alloc (Nat.le_refl _) o)
theorem Rdr.setFar {b : Nat} {r : ByteArray} {bad : Bool} {w : World} (h : Rdr b r bad w) (p : Addr) (v : Value) (hn : b ≠ p.block) : Rdr b r bad (w.setCell p v) := (Below.heap_setCell w p v b hn).trans h
theorem numFlag1_any (b : Nat) (r : ByteArray) (bad : Bool) (w : World) (h : Rdr b r bad w) :
  Calls Tryd.prog 125 #[.pointer (some ⟨b, 0, none⟩), .int .i64 1] w fun e w' => e = .returned (.int .u32 (numV (textR r bad 1).1.data.toList)) ∧ Rdr b (textR r bad 1).2.1 (textR r bad 1).2.2 w' ∧ w.grownBy w' (some b) := numFlag_any b r bad 1 (by omega) w h
set_option maxHeartbeats 16000000 in
theorem decodeNode_any (s : ByteArray) (x : Int) (w : World) :
  Calls Tryd.prog 113 #[.string s, .int .i64 x] w fun e w' => e = .returned (nodeV (decI s x)) ∧ Below w.heap.size w w' := by
 by_cases hw : isW x = true
 ·unfold decI; have hf := text1_lt (sizedR (sizedR s false).2.1 (sizedR s false).2.2).2.1 (sizedR (sizedR s false).2.1 (sizedR s false).2.2).2.2; obtain ⟨k, rk, bk, hk⟩ : ∃ k rk bk, sizedR s false = (k, rk, bk) := ⟨_, _, _, rfl⟩
  rw [hk] at hf ⊢; have HK := Lib.hid hk; clear hk; dsimp only at hf ⊢; obtain ⟨v, rv, bv, hv⟩ : ∃ v rv bv, sizedR rk bk = (v, rv, bv) := ⟨_, _, _, rfl⟩
  rw [hv] at hf ⊢; have HV := Lib.hid hv; clear hv; dsimp only at hf ⊢; generalize hfe : numV (textR rv bv 1).1.data.toList = f at hf ⊢; obtain ⟨ft, rf, bf, hft⟩ : ∃ ft rf bf, textR rv bv 1 = (ft, rf, bf) := ⟨_, _, _, rfl⟩
  rw [hft] at hfe ⊢; have HF := Lib.hid hft; clear hft; dsimp only at hfe; have HFE := Lib.hid hfe; clear hfe; have hb1 := bitsAnd1 f hf; have hb2 := bitsAnd2 f hf; clear hf; obtain ⟨l, rl, bl, hl⟩ : ∃ l rl bl, optText (decide (f % 2 = 1)) (ft, rf, bf) x = (l, rl, bl) := ⟨_, _, _, rfl⟩
  rw [hl]; obtain ⟨r, rr, br, hr⟩ : ∃ r rr br, optText (decide (f / 2 % 2 = 1)) (l, rl, bl) x = (r, rr, br) := ⟨_, _, _, rfl⟩
  rw [hr]; dsimp only; have hcase : br = true ∨ (br = false ∧ rr.toList.isEmpty = false) ∨ (br = false ∧ rr.toList.isEmpty = true ∧ 3 < (f : Int)) ∨ (br = false ∧ rr.toList.isEmpty = true ∧ ¬ 3 < (f : Int) ∧ nodeOk k v l r x = false) ∨ (br = false ∧ rr.toList.isEmpty = true ∧ ¬ 3 < (f : Int) ∧ nodeOk k v l r x = true) := by
   cases br <;> cases rr.toList.isEmpty <;> cases nodeOk k v l r x <;> simp <;> omega
  have hgoal : ∀ z, (if isW x = true ∧ br = false ∧ rr.size = 0 ∧ f ≤ 3 ∧ nodeOk k v l r x = true then some (k, v, l, r) else none) = z → (if isW x = true ∧ br = false ∧ rr.size = 0 ∧ f ≤ 3 ∧ nodeOk k v l r x = true then some (k, v, l, r) else none) = z := fun _ h => h
  clear hgoal; obtain ⟨z, hz⟩ : ∃ z, (if isW x = true ∧ br = false ∧ rr.size = 0 ∧ f ≤ 3 ∧ nodeOk k v l r x = true then some (k, v, l, r) else none) = z := ⟨_, rfl⟩
  rw [hz]; have HZ := Lib.hid hz; clear hz; have HSZ := Lib.hid (isEmpty_size rr); have h01 : f % 2 = 0 ∨ f % 2 = 1 := by omega
  have h02 : f / 2 % 2 = 0 ∨ f / 2 % 2 = 1 := by omega
  rcases h01 with h1 | h1
  all_goals
   rcases h02 with h2 | h2
   all_goals
    rw [h1] at hb1; rw [h2] at hb2; simp only [h1, h2, optText, decide_true, if_true, Nat.zero_ne_one, decide_false, Bool.false_eq_true, if_false, Prod.mk.injEq] at hl hr; have HL := Lib.hid hl; clear hl; have HR := Lib.hid hr; clear hr; clear h1 h2
  --CASES
  --CASES
  --CASES
  --CASES
  ·obtain ⟨rfl, rfl, rfl⟩ := HL.out; obtain ⟨rfl, rfl, rfl⟩ := HR.out
   rcases hcase with h | ⟨h, h3⟩ | ⟨h, h3, h4⟩ | ⟨h, h3, h4, h5⟩ | ⟨h, h3, h4, h5⟩
   all_goals
    subst h
    go_enter Tryd.func113, Tryd.ntmps113
    go_wp2_with (first | (go_at_call 42; refine (isWidth_any _ _).mono ?_; rintro e wq ⟨rfl, rfl⟩) | (go_at_call 124; refine (rsized_any _ _ _ _ zq_45).mono ?_; rintro e wr ⟨rfl, hR, hg⟩; (first | rw [HK.out] at hR ⊢ | rw [HV.out] at hR ⊢); dsimp only at hR ⊢; (have hz := hg.size; (try simp only [World.size_alloc, World.size_setCell, World.size_drew] at hz); obtain ⟨gc, gf⟩ := gcell hg; (try simp only [World.size_alloc, World.size_setCell, World.size_drew] at gc); (try simp only [World.size_alloc, World.size_setCell, World.size_drew] at gf); have rc := hR.c0; have rd := hR.c1; have rf := hR.f 0; have rg := hR.f 1); have q0 : w.heap.size < wr.heap.size := (by omega); have q1 : wr.heap.size ≠ w.heap.size + 1 := (by omega); have q3 : wr.heap.size ≠ w.heap.size := (by omega); have q4 : w.heap.size ≠ wr.heap.size := (by omega)) | (go_at_call 125; refine (numFlag1_any _ _ _ _ zq_28).mono ?_; rintro e wf ⟨rfl, hR, hg⟩; rw [HF.out] at hR ⊢; dsimp only at hR ⊢; rw [HFE.out]; (have hz := hg.size; (try simp only [World.size_alloc, World.size_setCell, World.size_drew] at hz); obtain ⟨gc, gf⟩ := gcell hg; (try simp only [World.size_alloc, World.size_setCell, World.size_drew] at gc); (try simp only [World.size_alloc, World.size_setCell, World.size_drew] at gf); have rc := hR.c0; have rd := hR.c1; have rf := hR.f 0; have rg := hR.f 1); have q0 : w.heap.size < wf.heap.size := (by omega); have q2 : wr.heap.size < wf.heap.size := (by omega)) | (go_at_call 126; refine (text_any _ _ _ _ _ zq_28).mono ?_; rintro e wt ⟨rfl, hR, hg⟩; (first | rw [HL.out] at hR ⊢ | rw [HR.out] at hR ⊢); dsimp only at hR ⊢; (have hz := hg.size; (try simp only [World.size_alloc, World.size_setCell, World.size_drew] at hz); obtain ⟨gc, gf⟩ := gcell hg; (try simp only [World.size_alloc, World.size_setCell, World.size_drew] at gc); (try simp only [World.size_alloc, World.size_setCell, World.size_drew] at gf); have rc := hR.c0; have rd := hR.c1; have rf := hR.f 0; have rg := hR.f 1); have q0 : w.heap.size < wt.heap.size := (by omega); have q2 : wr.heap.size < wt.heap.size := (by omega)) | (go_at_call 116; refine (nodeValid_any _ _ _ _ _ _).mono ?_; rintro e wy ⟨rfl, hby⟩; obtain ⟨hcy, hfy⟩ := bcell hby; have hzy := hby.size; (try simp only [World.size_alloc, World.size_setCell, World.size_drew] at hzy); (try simp only [World.size_alloc, World.size_setCell, World.size_drew] at hcy); (try simp only [World.size_alloc, World.size_setCell, World.size_drew] at hfy); have q0 : w.heap.size < wy.heap.size := (by omega); have q2 : wr.heap.size < wy.heap.size := (by omega)))
   ·all_goals
     have t0 : wf.cell? ⟨w.heap.size, 0, none⟩ = some (.string ⟨#[]⟩) := by go_simp
     have t1 : wf.cell? ⟨w.heap.size, 1, none⟩ = some (.string ⟨#[]⟩) := by go_simp
     have t2 : wf.cell? ⟨w.heap.size, 2, none⟩ = some (.string ⟨#[]⟩) := by go_simp
     have t3 : wf.cell? ⟨w.heap.size, 3, none⟩ = some (.string ⟨#[]⟩) := by go_simp
     refine bodyPost_ret (v := .tuple #[.agg #[.string ⟨#[]⟩, .string ⟨#[]⟩, .string ⟨#[]⟩, .string ⟨#[]⟩], .bool false]) zq_21 rfl ⟨?_, ?_⟩
     ·have e : z = none := by rw [← HZ.out]; exact if_neg (fun q => by simp at q)
      rw [e]; rfl
     ·(repeat' (first | exact Below.refl _ _ | (with_reducible assumption) | (with_reducible refine Below.setCell ?_ zq_16 _) | refine below_rdr ?_ (by assumption) (by omega) | refine below_then ?_ (by assumption) | (with_reducible refine below_new2 ?_ _)))
   ·all_goals
     have t0 : wf.cell? ⟨w.heap.size, 0, none⟩ = some (.string ⟨#[]⟩) := by go_simp
     have t1 : wf.cell? ⟨w.heap.size, 1, none⟩ = some (.string ⟨#[]⟩) := by go_simp
     have t2 : wf.cell? ⟨w.heap.size, 2, none⟩ = some (.string ⟨#[]⟩) := by go_simp
     have t3 : wf.cell? ⟨w.heap.size, 3, none⟩ = some (.string ⟨#[]⟩) := by go_simp
     refine bodyPost_ret (v := .tuple #[.agg #[.string ⟨#[]⟩, .string ⟨#[]⟩, .string ⟨#[]⟩, .string ⟨#[]⟩], .bool false]) zq_21 rfl ⟨?_, ?_⟩
     ·have e : z = none := by rw [← HZ.out]; exact if_neg (fun q => by have e := HSZ.out; rw [h3, q.2.2.1] at e; simp at e)
      rw [e]; rfl
     ·(repeat' (first | exact Below.refl _ _ | (with_reducible assumption) | (with_reducible refine Below.setCell ?_ zq_16 _) | refine below_rdr ?_ (by assumption) (by omega) | refine below_then ?_ (by assumption) | (with_reducible refine below_new2 ?_ _)))
   ·all_goals
     have t0 : wf.cell? ⟨w.heap.size, 0, none⟩ = some (.string ⟨#[]⟩) := by go_simp
     have t1 : wf.cell? ⟨w.heap.size, 1, none⟩ = some (.string ⟨#[]⟩) := by go_simp
     have t2 : wf.cell? ⟨w.heap.size, 2, none⟩ = some (.string ⟨#[]⟩) := by go_simp
     have t3 : wf.cell? ⟨w.heap.size, 3, none⟩ = some (.string ⟨#[]⟩) := by go_simp
     refine bodyPost_ret (v := .tuple #[.agg #[.string ⟨#[]⟩, .string ⟨#[]⟩, .string ⟨#[]⟩, .string ⟨#[]⟩], .bool false]) zq_21 rfl ⟨?_, ?_⟩
     ·have e : z = none := by rw [← HZ.out]; exact if_neg (fun q => by have := q.2.2.2.1; omega)
      rw [e]; rfl
     ·(repeat' (first | exact Below.refl _ _ | (with_reducible assumption) | (with_reducible refine Below.setCell ?_ zq_16 _) | refine below_rdr ?_ (by assumption) (by omega) | refine below_then ?_ (by assumption) | (with_reducible refine below_new2 ?_ _)))
   ·all_goals
     have t0 : wy.cell? ⟨w.heap.size, 0, none⟩ = some (.string ⟨#[]⟩) := by go_simp
     have t1 : wy.cell? ⟨w.heap.size, 1, none⟩ = some (.string ⟨#[]⟩) := by go_simp
     have t2 : wy.cell? ⟨w.heap.size, 2, none⟩ = some (.string ⟨#[]⟩) := by go_simp
     have t3 : wy.cell? ⟨w.heap.size, 3, none⟩ = some (.string ⟨#[]⟩) := by go_simp
     refine bodyPost_ret (v := .tuple #[.agg #[.string ⟨#[]⟩, .string ⟨#[]⟩, .string ⟨#[]⟩, .string ⟨#[]⟩], .bool false]) zq_21 rfl ⟨?_, ?_⟩
     ·have e : z = none := by rw [← HZ.out]; exact if_neg (fun q => by rw [h5] at q; simp at q)
      rw [e]; rfl
     ·(repeat' (first | exact Below.refl _ _ | (with_reducible assumption) | (with_reducible refine Below.setCell ?_ zq_16 _) | refine below_rdr ?_ (by assumption) (by omega) | refine below_then ?_ (by assumption) | (with_reducible refine below_new2 ?_ _)))
   ·all_goals
     have t0 : wy.cell? ⟨w.heap.size, 0, none⟩ = some (.string ⟨#[]⟩) := by go_simp
     have t1 : wy.cell? ⟨w.heap.size, 1, none⟩ = some (.string ⟨#[]⟩) := by go_simp
     have t2 : wy.cell? ⟨w.heap.size, 2, none⟩ = some (.string ⟨#[]⟩) := by go_simp
     have t3 : wy.cell? ⟨w.heap.size, 3, none⟩ = some (.string ⟨#[]⟩) := by go_simp
     refine bodyPost_ret (v := .tuple #[.agg #[.string k, .string v, .string ⟨#[]⟩, .string ⟨#[]⟩], .bool true]) zq_21 rfl ⟨?_, ?_⟩
     ·have e : z = some (k, v, ⟨#[]⟩, ⟨#[]⟩) := by rw [← HZ.out]; have e := HSZ.out; rw [h3] at e; have e2 := of_decide_eq_true e.symm; have e3 : f ≤ 3 := (by omega); exact if_pos (by simp [hw, e2, h5, e3])
      rw [e]; rfl
     ·(repeat' (first | exact Below.refl _ _ | (with_reducible assumption) | (with_reducible refine Below.setCell ?_ zq_16 _) | refine below_rdr ?_ (by assumption) (by omega) | refine below_then ?_ (by assumption) | (with_reducible refine below_new2 ?_ _)))
  ·obtain ⟨rfl, rfl, rfl⟩ := HL.out
   rcases hcase with h | ⟨h, h3⟩ | ⟨h, h3, h4⟩ | ⟨h, h3, h4, h5⟩ | ⟨h, h3, h4, h5⟩
   all_goals
    subst h
    go_enter Tryd.func113, Tryd.ntmps113
    go_wp2_with (first | (go_at_call 42; refine (isWidth_any _ _).mono ?_; rintro e wq ⟨rfl, rfl⟩) | (go_at_call 124; refine (rsized_any _ _ _ _ zq_45).mono ?_; rintro e wr ⟨rfl, hR, hg⟩; (first | rw [HK.out] at hR ⊢ | rw [HV.out] at hR ⊢); dsimp only at hR ⊢; (have hz := hg.size; (try simp only [World.size_alloc, World.size_setCell, World.size_drew] at hz); obtain ⟨gc, gf⟩ := gcell hg; (try simp only [World.size_alloc, World.size_setCell, World.size_drew] at gc); (try simp only [World.size_alloc, World.size_setCell, World.size_drew] at gf); have rc := hR.c0; have rd := hR.c1; have rf := hR.f 0; have rg := hR.f 1); have q0 : w.heap.size < wr.heap.size := (by omega); have q1 : wr.heap.size ≠ w.heap.size + 1 := (by omega); have q3 : wr.heap.size ≠ w.heap.size := (by omega); have q4 : w.heap.size ≠ wr.heap.size := (by omega)) | (go_at_call 125; refine (numFlag1_any _ _ _ _ zq_28).mono ?_; rintro e wf ⟨rfl, hR, hg⟩; rw [HF.out] at hR ⊢; dsimp only at hR ⊢; rw [HFE.out]; (have hz := hg.size; (try simp only [World.size_alloc, World.size_setCell, World.size_drew] at hz); obtain ⟨gc, gf⟩ := gcell hg; (try simp only [World.size_alloc, World.size_setCell, World.size_drew] at gc); (try simp only [World.size_alloc, World.size_setCell, World.size_drew] at gf); have rc := hR.c0; have rd := hR.c1; have rf := hR.f 0; have rg := hR.f 1); have q0 : w.heap.size < wf.heap.size := (by omega); have q2 : wr.heap.size < wf.heap.size := (by omega)) | (go_at_call 126; refine (text_any _ _ _ _ _ zq_28).mono ?_; rintro e wt ⟨rfl, hR, hg⟩; (first | rw [HL.out] at hR ⊢ | rw [HR.out] at hR ⊢); dsimp only at hR ⊢; (have hz := hg.size; (try simp only [World.size_alloc, World.size_setCell, World.size_drew] at hz); obtain ⟨gc, gf⟩ := gcell hg; (try simp only [World.size_alloc, World.size_setCell, World.size_drew] at gc); (try simp only [World.size_alloc, World.size_setCell, World.size_drew] at gf); have rc := hR.c0; have rd := hR.c1; have rf := hR.f 0; have rg := hR.f 1); have q0 : w.heap.size < wt.heap.size := (by omega); have q2 : wr.heap.size < wt.heap.size := (by omega)) | (go_at_call 116; refine (nodeValid_any _ _ _ _ _ _).mono ?_; rintro e wy ⟨rfl, hby⟩; obtain ⟨hcy, hfy⟩ := bcell hby; have hzy := hby.size; (try simp only [World.size_alloc, World.size_setCell, World.size_drew] at hzy); (try simp only [World.size_alloc, World.size_setCell, World.size_drew] at hcy); (try simp only [World.size_alloc, World.size_setCell, World.size_drew] at hfy); have q0 : w.heap.size < wy.heap.size := (by omega); have q2 : wr.heap.size < wy.heap.size := (by omega)))
   ·all_goals
     have t0 : wt.cell? ⟨w.heap.size, 0, none⟩ = some (.string ⟨#[]⟩) := by go_simp
     have t1 : wt.cell? ⟨w.heap.size, 1, none⟩ = some (.string ⟨#[]⟩) := by go_simp
     have t2 : wt.cell? ⟨w.heap.size, 2, none⟩ = some (.string ⟨#[]⟩) := by go_simp
     have t3 : wt.cell? ⟨w.heap.size, 3, none⟩ = some (.string ⟨#[]⟩) := by go_simp
     refine bodyPost_ret (v := .tuple #[.agg #[.string ⟨#[]⟩, .string ⟨#[]⟩, .string ⟨#[]⟩, .string ⟨#[]⟩], .bool false]) zq_21 rfl ⟨?_, ?_⟩
     ·have e : z = none := by rw [← HZ.out]; exact if_neg (fun q => by simp at q)
      rw [e]; rfl
     ·(repeat' (first | exact Below.refl _ _ | (with_reducible assumption) | (with_reducible refine Below.setCell ?_ zq_16 _) | refine below_rdr ?_ (by assumption) (by omega) | refine below_then ?_ (by assumption) | (with_reducible refine below_new2 ?_ _)))
   ·all_goals
     have t0 : wt.cell? ⟨w.heap.size, 0, none⟩ = some (.string ⟨#[]⟩) := by go_simp
     have t1 : wt.cell? ⟨w.heap.size, 1, none⟩ = some (.string ⟨#[]⟩) := by go_simp
     have t2 : wt.cell? ⟨w.heap.size, 2, none⟩ = some (.string ⟨#[]⟩) := by go_simp
     have t3 : wt.cell? ⟨w.heap.size, 3, none⟩ = some (.string ⟨#[]⟩) := by go_simp
     refine bodyPost_ret (v := .tuple #[.agg #[.string ⟨#[]⟩, .string ⟨#[]⟩, .string ⟨#[]⟩, .string ⟨#[]⟩], .bool false]) zq_21 rfl ⟨?_, ?_⟩
     ·have e : z = none := by rw [← HZ.out]; exact if_neg (fun q => by have e := HSZ.out; rw [h3, q.2.2.1] at e; simp at e)
      rw [e]; rfl
     ·(repeat' (first | exact Below.refl _ _ | (with_reducible assumption) | (with_reducible refine Below.setCell ?_ zq_16 _) | refine below_rdr ?_ (by assumption) (by omega) | refine below_then ?_ (by assumption) | (with_reducible refine below_new2 ?_ _)))
   ·all_goals
     have t0 : wt.cell? ⟨w.heap.size, 0, none⟩ = some (.string ⟨#[]⟩) := by go_simp
     have t1 : wt.cell? ⟨w.heap.size, 1, none⟩ = some (.string ⟨#[]⟩) := by go_simp
     have t2 : wt.cell? ⟨w.heap.size, 2, none⟩ = some (.string ⟨#[]⟩) := by go_simp
     have t3 : wt.cell? ⟨w.heap.size, 3, none⟩ = some (.string ⟨#[]⟩) := by go_simp
     refine bodyPost_ret (v := .tuple #[.agg #[.string ⟨#[]⟩, .string ⟨#[]⟩, .string ⟨#[]⟩, .string ⟨#[]⟩], .bool false]) zq_21 rfl ⟨?_, ?_⟩
     ·have e : z = none := by rw [← HZ.out]; exact if_neg (fun q => by have := q.2.2.2.1; omega)
      rw [e]; rfl
     ·(repeat' (first | exact Below.refl _ _ | (with_reducible assumption) | (with_reducible refine Below.setCell ?_ zq_16 _) | refine below_rdr ?_ (by assumption) (by omega) | refine below_then ?_ (by assumption) | (with_reducible refine below_new2 ?_ _)))
   ·all_goals
     have t0 : wy.cell? ⟨w.heap.size, 0, none⟩ = some (.string ⟨#[]⟩) := by go_simp
     have t1 : wy.cell? ⟨w.heap.size, 1, none⟩ = some (.string ⟨#[]⟩) := by go_simp
     have t2 : wy.cell? ⟨w.heap.size, 2, none⟩ = some (.string ⟨#[]⟩) := by go_simp
     have t3 : wy.cell? ⟨w.heap.size, 3, none⟩ = some (.string ⟨#[]⟩) := by go_simp
     refine bodyPost_ret (v := .tuple #[.agg #[.string ⟨#[]⟩, .string ⟨#[]⟩, .string ⟨#[]⟩, .string ⟨#[]⟩], .bool false]) zq_21 rfl ⟨?_, ?_⟩
     ·have e : z = none := by rw [← HZ.out]; exact if_neg (fun q => by rw [h5] at q; simp at q)
      rw [e]; rfl
     ·(repeat' (first | exact Below.refl _ _ | (with_reducible assumption) | (with_reducible refine Below.setCell ?_ zq_16 _) | refine below_rdr ?_ (by assumption) (by omega) | refine below_then ?_ (by assumption) | (with_reducible refine below_new2 ?_ _)))
   ·all_goals
     have t0 : wy.cell? ⟨w.heap.size, 0, none⟩ = some (.string ⟨#[]⟩) := by go_simp
     have t1 : wy.cell? ⟨w.heap.size, 1, none⟩ = some (.string ⟨#[]⟩) := by go_simp
     have t2 : wy.cell? ⟨w.heap.size, 2, none⟩ = some (.string ⟨#[]⟩) := by go_simp
     have t3 : wy.cell? ⟨w.heap.size, 3, none⟩ = some (.string ⟨#[]⟩) := by go_simp
     refine bodyPost_ret (v := .tuple #[.agg #[.string k, .string v, .string ⟨#[]⟩, .string r], .bool true]) zq_21 rfl ⟨?_, ?_⟩
     ·have e : z = some (k, v, ⟨#[]⟩, r) := by rw [← HZ.out]; have e := HSZ.out; rw [h3] at e; have e2 := of_decide_eq_true e.symm; have e3 : f ≤ 3 := (by omega); exact if_pos (by simp [hw, e2, h5, e3])
      rw [e]; rfl
     ·(repeat' (first | exact Below.refl _ _ | (with_reducible assumption) | (with_reducible refine Below.setCell ?_ zq_16 _) | refine below_rdr ?_ (by assumption) (by omega) | refine below_then ?_ (by assumption) | (with_reducible refine below_new2 ?_ _)))
  ·obtain ⟨rfl, rfl, rfl⟩ := HR.out
   rcases hcase with h | ⟨h, h3⟩ | ⟨h, h3, h4⟩ | ⟨h, h3, h4, h5⟩ | ⟨h, h3, h4, h5⟩
   all_goals
    subst h
    go_enter Tryd.func113, Tryd.ntmps113
    go_wp2_with (first | (go_at_call 42; refine (isWidth_any _ _).mono ?_; rintro e wq ⟨rfl, rfl⟩) | (go_at_call 124; refine (rsized_any _ _ _ _ zq_45).mono ?_; rintro e wr ⟨rfl, hR, hg⟩; (first | rw [HK.out] at hR ⊢ | rw [HV.out] at hR ⊢); dsimp only at hR ⊢; (have hz := hg.size; (try simp only [World.size_alloc, World.size_setCell, World.size_drew] at hz); obtain ⟨gc, gf⟩ := gcell hg; (try simp only [World.size_alloc, World.size_setCell, World.size_drew] at gc); (try simp only [World.size_alloc, World.size_setCell, World.size_drew] at gf); have rc := hR.c0; have rd := hR.c1; have rf := hR.f 0; have rg := hR.f 1); have q0 : w.heap.size < wr.heap.size := (by omega); have q1 : wr.heap.size ≠ w.heap.size + 1 := (by omega); have q3 : wr.heap.size ≠ w.heap.size := (by omega); have q4 : w.heap.size ≠ wr.heap.size := (by omega)) | (go_at_call 125; refine (numFlag1_any _ _ _ _ zq_28).mono ?_; rintro e wf ⟨rfl, hR, hg⟩; rw [HF.out] at hR ⊢; dsimp only at hR ⊢; rw [HFE.out]; (have hz := hg.size; (try simp only [World.size_alloc, World.size_setCell, World.size_drew] at hz); obtain ⟨gc, gf⟩ := gcell hg; (try simp only [World.size_alloc, World.size_setCell, World.size_drew] at gc); (try simp only [World.size_alloc, World.size_setCell, World.size_drew] at gf); have rc := hR.c0; have rd := hR.c1; have rf := hR.f 0; have rg := hR.f 1); have q0 : w.heap.size < wf.heap.size := (by omega); have q2 : wr.heap.size < wf.heap.size := (by omega)) | (go_at_call 126; refine (text_any _ _ _ _ _ zq_28).mono ?_; rintro e wt ⟨rfl, hR, hg⟩; (first | rw [HL.out] at hR ⊢ | rw [HR.out] at hR ⊢); dsimp only at hR ⊢; (have hz := hg.size; (try simp only [World.size_alloc, World.size_setCell, World.size_drew] at hz); obtain ⟨gc, gf⟩ := gcell hg; (try simp only [World.size_alloc, World.size_setCell, World.size_drew] at gc); (try simp only [World.size_alloc, World.size_setCell, World.size_drew] at gf); have rc := hR.c0; have rd := hR.c1; have rf := hR.f 0; have rg := hR.f 1); have q0 : w.heap.size < wt.heap.size := (by omega); have q2 : wr.heap.size < wt.heap.size := (by omega)) | (go_at_call 116; refine (nodeValid_any _ _ _ _ _ _).mono ?_; rintro e wy ⟨rfl, hby⟩; obtain ⟨hcy, hfy⟩ := bcell hby; have hzy := hby.size; (try simp only [World.size_alloc, World.size_setCell, World.size_drew] at hzy); (try simp only [World.size_alloc, World.size_setCell, World.size_drew] at hcy); (try simp only [World.size_alloc, World.size_setCell, World.size_drew] at hfy); have q0 : w.heap.size < wy.heap.size := (by omega); have q2 : wr.heap.size < wy.heap.size := (by omega)))
   ·all_goals
     have t0 : wt.cell? ⟨w.heap.size, 0, none⟩ = some (.string ⟨#[]⟩) := by go_simp
     have t1 : wt.cell? ⟨w.heap.size, 1, none⟩ = some (.string ⟨#[]⟩) := by go_simp
     have t2 : wt.cell? ⟨w.heap.size, 2, none⟩ = some (.string ⟨#[]⟩) := by go_simp
     have t3 : wt.cell? ⟨w.heap.size, 3, none⟩ = some (.string ⟨#[]⟩) := by go_simp
     refine bodyPost_ret (v := .tuple #[.agg #[.string ⟨#[]⟩, .string ⟨#[]⟩, .string ⟨#[]⟩, .string ⟨#[]⟩], .bool false]) zq_21 rfl ⟨?_, ?_⟩
     ·have e : z = none := by rw [← HZ.out]; exact if_neg (fun q => by simp at q)
      rw [e]; rfl
     ·(repeat' (first | exact Below.refl _ _ | (with_reducible assumption) | (with_reducible refine Below.setCell ?_ zq_16 _) | refine below_rdr ?_ (by assumption) (by omega) | refine below_then ?_ (by assumption) | (with_reducible refine below_new2 ?_ _)))
   ·all_goals
     have t0 : wt.cell? ⟨w.heap.size, 0, none⟩ = some (.string ⟨#[]⟩) := by go_simp
     have t1 : wt.cell? ⟨w.heap.size, 1, none⟩ = some (.string ⟨#[]⟩) := by go_simp
     have t2 : wt.cell? ⟨w.heap.size, 2, none⟩ = some (.string ⟨#[]⟩) := by go_simp
     have t3 : wt.cell? ⟨w.heap.size, 3, none⟩ = some (.string ⟨#[]⟩) := by go_simp
     refine bodyPost_ret (v := .tuple #[.agg #[.string ⟨#[]⟩, .string ⟨#[]⟩, .string ⟨#[]⟩, .string ⟨#[]⟩], .bool false]) zq_21 rfl ⟨?_, ?_⟩
     ·have e : z = none := by rw [← HZ.out]; exact if_neg (fun q => by have e := HSZ.out; rw [h3, q.2.2.1] at e; simp at e)
      rw [e]; rfl
     ·(repeat' (first | exact Below.refl _ _ | (with_reducible assumption) | (with_reducible refine Below.setCell ?_ zq_16 _) | refine below_rdr ?_ (by assumption) (by omega) | refine below_then ?_ (by assumption) | (with_reducible refine below_new2 ?_ _)))
   ·all_goals
     have t0 : wt.cell? ⟨w.heap.size, 0, none⟩ = some (.string ⟨#[]⟩) := by go_simp
     have t1 : wt.cell? ⟨w.heap.size, 1, none⟩ = some (.string ⟨#[]⟩) := by go_simp
     have t2 : wt.cell? ⟨w.heap.size, 2, none⟩ = some (.string ⟨#[]⟩) := by go_simp
     have t3 : wt.cell? ⟨w.heap.size, 3, none⟩ = some (.string ⟨#[]⟩) := by go_simp
     refine bodyPost_ret (v := .tuple #[.agg #[.string ⟨#[]⟩, .string ⟨#[]⟩, .string ⟨#[]⟩, .string ⟨#[]⟩], .bool false]) zq_21 rfl ⟨?_, ?_⟩
     ·have e : z = none := by rw [← HZ.out]; exact if_neg (fun q => by have := q.2.2.2.1; omega)
      rw [e]; rfl
     ·(repeat' (first | exact Below.refl _ _ | (with_reducible assumption) | (with_reducible refine Below.setCell ?_ zq_16 _) | refine below_rdr ?_ (by assumption) (by omega) | refine below_then ?_ (by assumption) | (with_reducible refine below_new2 ?_ _)))
   ·all_goals
     have t0 : wy.cell? ⟨w.heap.size, 0, none⟩ = some (.string ⟨#[]⟩) := by go_simp
     have t1 : wy.cell? ⟨w.heap.size, 1, none⟩ = some (.string ⟨#[]⟩) := by go_simp
     have t2 : wy.cell? ⟨w.heap.size, 2, none⟩ = some (.string ⟨#[]⟩) := by go_simp
     have t3 : wy.cell? ⟨w.heap.size, 3, none⟩ = some (.string ⟨#[]⟩) := by go_simp
     refine bodyPost_ret (v := .tuple #[.agg #[.string ⟨#[]⟩, .string ⟨#[]⟩, .string ⟨#[]⟩, .string ⟨#[]⟩], .bool false]) zq_21 rfl ⟨?_, ?_⟩
     ·have e : z = none := by rw [← HZ.out]; exact if_neg (fun q => by rw [h5] at q; simp at q)
      rw [e]; rfl
     ·(repeat' (first | exact Below.refl _ _ | (with_reducible assumption) | (with_reducible refine Below.setCell ?_ zq_16 _) | refine below_rdr ?_ (by assumption) (by omega) | refine below_then ?_ (by assumption) | (with_reducible refine below_new2 ?_ _)))
   ·all_goals
     have t0 : wy.cell? ⟨w.heap.size, 0, none⟩ = some (.string ⟨#[]⟩) := by go_simp
     have t1 : wy.cell? ⟨w.heap.size, 1, none⟩ = some (.string ⟨#[]⟩) := by go_simp
     have t2 : wy.cell? ⟨w.heap.size, 2, none⟩ = some (.string ⟨#[]⟩) := by go_simp
     have t3 : wy.cell? ⟨w.heap.size, 3, none⟩ = some (.string ⟨#[]⟩) := by go_simp
     refine bodyPost_ret (v := .tuple #[.agg #[.string k, .string v, .string l, .string ⟨#[]⟩], .bool true]) zq_21 rfl ⟨?_, ?_⟩
     ·have e : z = some (k, v, l, ⟨#[]⟩) := by rw [← HZ.out]; have e := HSZ.out; rw [h3] at e; have e2 := of_decide_eq_true e.symm; have e3 : f ≤ 3 := (by omega); exact if_pos (by simp [hw, e2, h5, e3])
      rw [e]; rfl
     ·(repeat' (first | exact Below.refl _ _ | (with_reducible assumption) | (with_reducible refine Below.setCell ?_ zq_16 _) | refine below_rdr ?_ (by assumption) (by omega) | refine below_then ?_ (by assumption) | (with_reducible refine below_new2 ?_ _)))
  ·rcases hcase with h | ⟨h, h3⟩ | ⟨h, h3, h4⟩ | ⟨h, h3, h4, h5⟩ | ⟨h, h3, h4, h5⟩
   all_goals
    subst h
    go_enter Tryd.func113, Tryd.ntmps113
    go_wp2_with (first | (go_at_call 42; refine (isWidth_any _ _).mono ?_; rintro e wq ⟨rfl, rfl⟩) | (go_at_call 124; refine (rsized_any _ _ _ _ zq_45).mono ?_; rintro e wr ⟨rfl, hR, hg⟩; (first | rw [HK.out] at hR ⊢ | rw [HV.out] at hR ⊢); dsimp only at hR ⊢; (have hz := hg.size; (try simp only [World.size_alloc, World.size_setCell, World.size_drew] at hz); obtain ⟨gc, gf⟩ := gcell hg; (try simp only [World.size_alloc, World.size_setCell, World.size_drew] at gc); (try simp only [World.size_alloc, World.size_setCell, World.size_drew] at gf); have rc := hR.c0; have rd := hR.c1; have rf := hR.f 0; have rg := hR.f 1); have q0 : w.heap.size < wr.heap.size := (by omega); have q1 : wr.heap.size ≠ w.heap.size + 1 := (by omega); have q3 : wr.heap.size ≠ w.heap.size := (by omega); have q4 : w.heap.size ≠ wr.heap.size := (by omega)) | (go_at_call 125; refine (numFlag1_any _ _ _ _ zq_28).mono ?_; rintro e wf ⟨rfl, hR, hg⟩; rw [HF.out] at hR ⊢; dsimp only at hR ⊢; rw [HFE.out]; (have hz := hg.size; (try simp only [World.size_alloc, World.size_setCell, World.size_drew] at hz); obtain ⟨gc, gf⟩ := gcell hg; (try simp only [World.size_alloc, World.size_setCell, World.size_drew] at gc); (try simp only [World.size_alloc, World.size_setCell, World.size_drew] at gf); have rc := hR.c0; have rd := hR.c1; have rf := hR.f 0; have rg := hR.f 1); have q0 : w.heap.size < wf.heap.size := (by omega); have q2 : wr.heap.size < wf.heap.size := (by omega)) | (go_at_call 126; refine (text_any _ _ _ _ _ zq_28).mono ?_; rintro e wt ⟨rfl, hR, hg⟩; (first | rw [HL.out] at hR ⊢ | rw [HR.out] at hR ⊢); dsimp only at hR ⊢; (have hz := hg.size; (try simp only [World.size_alloc, World.size_setCell, World.size_drew] at hz); obtain ⟨gc, gf⟩ := gcell hg; (try simp only [World.size_alloc, World.size_setCell, World.size_drew] at gc); (try simp only [World.size_alloc, World.size_setCell, World.size_drew] at gf); have rc := hR.c0; have rd := hR.c1; have rf := hR.f 0; have rg := hR.f 1); have q0 : w.heap.size < wt.heap.size := (by omega); have q2 : wr.heap.size < wt.heap.size := (by omega)) | (go_at_call 116; refine (nodeValid_any _ _ _ _ _ _).mono ?_; rintro e wy ⟨rfl, hby⟩; obtain ⟨hcy, hfy⟩ := bcell hby; have hzy := hby.size; (try simp only [World.size_alloc, World.size_setCell, World.size_drew] at hzy); (try simp only [World.size_alloc, World.size_setCell, World.size_drew] at hcy); (try simp only [World.size_alloc, World.size_setCell, World.size_drew] at hfy); have q0 : w.heap.size < wy.heap.size := (by omega); have q2 : wr.heap.size < wy.heap.size := (by omega)))
   ·all_goals
     have t0 : wt.cell? ⟨w.heap.size, 0, none⟩ = some (.string ⟨#[]⟩) := by go_simp
     have t1 : wt.cell? ⟨w.heap.size, 1, none⟩ = some (.string ⟨#[]⟩) := by go_simp
     have t2 : wt.cell? ⟨w.heap.size, 2, none⟩ = some (.string ⟨#[]⟩) := by go_simp
     have t3 : wt.cell? ⟨w.heap.size, 3, none⟩ = some (.string ⟨#[]⟩) := by go_simp
     refine bodyPost_ret (v := .tuple #[.agg #[.string ⟨#[]⟩, .string ⟨#[]⟩, .string ⟨#[]⟩, .string ⟨#[]⟩], .bool false]) zq_21 rfl ⟨?_, ?_⟩
     ·have e : z = none := by rw [← HZ.out]; exact if_neg (fun q => by simp at q)
      rw [e]; rfl
     ·(repeat' (first | exact Below.refl _ _ | (with_reducible assumption) | (with_reducible refine Below.setCell ?_ zq_16 _) | refine below_rdr ?_ (by assumption) (by omega) | refine below_then ?_ (by assumption) | (with_reducible refine below_new2 ?_ _)))
   ·all_goals
     have t0 : wt.cell? ⟨w.heap.size, 0, none⟩ = some (.string ⟨#[]⟩) := by go_simp
     have t1 : wt.cell? ⟨w.heap.size, 1, none⟩ = some (.string ⟨#[]⟩) := by go_simp
     have t2 : wt.cell? ⟨w.heap.size, 2, none⟩ = some (.string ⟨#[]⟩) := by go_simp
     have t3 : wt.cell? ⟨w.heap.size, 3, none⟩ = some (.string ⟨#[]⟩) := by go_simp
     refine bodyPost_ret (v := .tuple #[.agg #[.string ⟨#[]⟩, .string ⟨#[]⟩, .string ⟨#[]⟩, .string ⟨#[]⟩], .bool false]) zq_21 rfl ⟨?_, ?_⟩
     ·have e : z = none := by rw [← HZ.out]; exact if_neg (fun q => by have e := HSZ.out; rw [h3, q.2.2.1] at e; simp at e)
      rw [e]; rfl
     ·(repeat' (first | exact Below.refl _ _ | (with_reducible assumption) | (with_reducible refine Below.setCell ?_ zq_16 _) | refine below_rdr ?_ (by assumption) (by omega) | refine below_then ?_ (by assumption) | (with_reducible refine below_new2 ?_ _)))
   ·all_goals
     have t0 : wt.cell? ⟨w.heap.size, 0, none⟩ = some (.string ⟨#[]⟩) := by go_simp
     have t1 : wt.cell? ⟨w.heap.size, 1, none⟩ = some (.string ⟨#[]⟩) := by go_simp
     have t2 : wt.cell? ⟨w.heap.size, 2, none⟩ = some (.string ⟨#[]⟩) := by go_simp
     have t3 : wt.cell? ⟨w.heap.size, 3, none⟩ = some (.string ⟨#[]⟩) := by go_simp
     refine bodyPost_ret (v := .tuple #[.agg #[.string ⟨#[]⟩, .string ⟨#[]⟩, .string ⟨#[]⟩, .string ⟨#[]⟩], .bool false]) zq_21 rfl ⟨?_, ?_⟩
     ·have e : z = none := by rw [← HZ.out]; exact if_neg (fun q => by have := q.2.2.2.1; omega)
      rw [e]; rfl
     ·(repeat' (first | exact Below.refl _ _ | (with_reducible assumption) | (with_reducible refine Below.setCell ?_ zq_16 _) | refine below_rdr ?_ (by assumption) (by omega) | refine below_then ?_ (by assumption) | (with_reducible refine below_new2 ?_ _)))
   ·all_goals
     have t0 : wy.cell? ⟨w.heap.size, 0, none⟩ = some (.string ⟨#[]⟩) := by go_simp
     have t1 : wy.cell? ⟨w.heap.size, 1, none⟩ = some (.string ⟨#[]⟩) := by go_simp
     have t2 : wy.cell? ⟨w.heap.size, 2, none⟩ = some (.string ⟨#[]⟩) := by go_simp
     have t3 : wy.cell? ⟨w.heap.size, 3, none⟩ = some (.string ⟨#[]⟩) := by go_simp
     refine bodyPost_ret (v := .tuple #[.agg #[.string ⟨#[]⟩, .string ⟨#[]⟩, .string ⟨#[]⟩, .string ⟨#[]⟩], .bool false]) zq_21 rfl ⟨?_, ?_⟩
     ·have e : z = none := by rw [← HZ.out]; exact if_neg (fun q => by rw [h5] at q; simp at q)
      rw [e]; rfl
     ·(repeat' (first | exact Below.refl _ _ | (with_reducible assumption) | (with_reducible refine Below.setCell ?_ zq_16 _) | refine below_rdr ?_ (by assumption) (by omega) | refine below_then ?_ (by assumption) | (with_reducible refine below_new2 ?_ _)))
   ·all_goals
     have t0 : wy.cell? ⟨w.heap.size, 0, none⟩ = some (.string ⟨#[]⟩) := by go_simp
     have t1 : wy.cell? ⟨w.heap.size, 1, none⟩ = some (.string ⟨#[]⟩) := by go_simp
     have t2 : wy.cell? ⟨w.heap.size, 2, none⟩ = some (.string ⟨#[]⟩) := by go_simp
     have t3 : wy.cell? ⟨w.heap.size, 3, none⟩ = some (.string ⟨#[]⟩) := by go_simp
     refine bodyPost_ret (v := .tuple #[.agg #[.string k, .string v, .string l, .string r], .bool true]) zq_21 rfl ⟨?_, ?_⟩
     ·have e : z = some (k, v, l, r) := by rw [← HZ.out]; have e := HSZ.out; rw [h3] at e; have e2 := of_decide_eq_true e.symm; have e3 : f ≤ 3 := (by omega); exact if_pos (by simp [hw, e2, h5, e3])
      rw [e]; rfl
     ·(repeat' (first | exact Below.refl _ _ | (with_reducible assumption) | (with_reducible refine Below.setCell ?_ zq_16 _) | refine below_rdr ?_ (by assumption) (by omega) | refine below_then ?_ (by assumption) | (with_reducible refine below_new2 ?_ _)))
 ·have hn : decI s x = none := by unfold decI; simp [hw]
  rw [hn]
  go_enter Tryd.func113, Tryd.ntmps113
  go_wp2_with (first | (go_at_call 42; refine (isWidth_any _ _).mono ?_; rintro e wq ⟨rfl, rfl⟩))
  refine bodyPost_ret (v := nodeV none) (by simp [results, Tryd.results113, go_sem, nodeV]; try rfl) rfl ⟨?_, ?_⟩
  ·rfl
  ·(repeat' (first | exact Below.refl _ _ | (with_reducible assumption) | (with_reducible refine Below.setCell ?_ zq_16 _) | refine below_then ?_ (by assumption) | (with_reducible refine below_new2 ?_ _) | (with_reducible refine Below.drew ?_) | (with_reducible refine bdrewN ?_ _)))
def byteAt (s : ByteArray) (i : Nat) : Nat := (s.data.toList.getD i 0).toNat
theorem byteAt_lt (s : ByteArray) (i : Nat) : byteAt s i < 256 := UInt8.toNat_lt _
theorem byteAt_eq (s : ByteArray) (i : Nat) (h : i < s.size) : byteAt s i = (s[i]'h).toNat := by
 have h2 : i < s.data.toList.length := by simpa using h
 unfold byteAt; rw [List.getD_eq_getElem?_getD, List.getElem?_eq_getElem h2]; rfl
theorem pieceNum (s : ByteArray) (i : Nat) (h : i < s.size) (h2 : i + 1 < s.size) :
  wrap64 (wrap64 (wrap64 ((s[i]'h).toNat : Int) * 256) + wrap64 ((s[i + 1]'h2).toNat : Int)) = ((byteAt s i * 256 + byteAt s (i + 1) : Nat) : Int) := by
 rw [byteAt_eq s i h, byteAt_eq s (i + 1) h2]; have h3 := (s[i]'h).toNat_lt; have h4 := (s[i + 1]'h2).toNat_lt; unfold wrap64; omega
def pieceS (s : ByteArray) (i : Nat) : Option (ByteArray × Nat) :=
 if s.size < i + 2 then none else if s.size < i + 2 + (byteAt s i * 256 + byteAt s (i + 1)) then none else
  some (s.extract (i + 2) (i + 2 + (byteAt s i * 256 + byteAt s (i + 1))), i + 2 + (byteAt s i * 256 + byteAt s (i + 1)))
def pieceV : Option (ByteArray × Nat) → Value
 | some (k, n) => .tuple #[.string k, .int .i64 n, .bool true]
 | none => .tuple #[.string ⟨#[]⟩, .int .i64 0, .bool false]
set_option maxHeartbeats 400000 in
theorem l2Piece_any (s : ByteArray) (i : Nat) (hs : s.size ≤ 4294967296) (hi : i ≤ 4294967296) (w : World) :
  Calls Tryd.prog 123 #[.string s, .int .i64 i] w fun e w' => e = .returned (pieceV (pieceS s i)) ∧ Below w.heap.size w w' := by
 unfold pieceS; have hm := byteAt_lt s i; have hl := byteAt_lt s (i + 1)
 by_cases h1 : s.size < i + 2
 ·rw [if_pos h1]; have g1 : (s.size : Int) < (i : Int) + 2 := by omega
  go_enter Tryd.func123, Tryd.ntmps123
  go_wp2
  refine bodyPost_ret (v := pieceV none) (by simp [results, Tryd.results123, go_sem, pieceV]; try rfl) rfl ⟨?_, ?_⟩
  ·rfl
  ·(repeat' (first | exact Below.refl _ _ | (with_reducible assumption) | (with_reducible refine Below.setCell ?_ zq_16 _) | refine below_then ?_ (by assumption) | (with_reducible refine below_new2 ?_ _) | (with_reducible refine Below.drew ?_) | (with_reducible refine bdrewN ?_ _)))
 ·rw [if_neg h1]; have g1 : ¬ (s.size : Int) < (i : Int) + 2 := by omega
  have b1 : i < s.size := by omega
  have b2 : i + 1 < s.size := by omega
  have hnb : byteAt s i * 256 + byteAt s (i + 1) < 65536 := by omega
  have hnum := pieceNum s i b1 b2; generalize byteAt s i * 256 + byteAt s (i + 1) = n at hnb hnum ⊢; have HN := Lib.hid hnum; clear hnum; have b3 : (0 : Int) ≤ (i : Int) := by omega
  have b4 : (i : Int) < (s.size : Int) := by omega
  have b5 : (0 : Int) ≤ (i : Int) + 1 := by omega
  have b6 : (i : Int) + 1 < (s.size : Int) := by omega
  clear hm hl
  by_cases h2 : s.size < i + 2 + n
  ·rw [if_pos h2]; have g2 : (s.size : Int) < (i : Int) + 2 + n := by omega
   go_enter Tryd.func123, Tryd.ntmps123
   go_wp2
   go_region
   rw [HN.out]
   go_wp2
   refine bodyPost_ret (v := pieceV none) (by simp [results, Tryd.results123, go_sem, pieceV]; try rfl) rfl ⟨?_, ?_⟩
   ·rfl
   ·(repeat' (first | exact Below.refl _ _ | (with_reducible assumption) | (with_reducible refine Below.setCell ?_ zq_16 _) | refine below_then ?_ (by assumption) | (with_reducible refine below_new2 ?_ _) | (with_reducible refine Below.drew ?_) | (with_reducible refine bdrewN ?_ _)))
  ·rw [if_neg h2]; have g2 : ¬ (s.size : Int) < (i : Int) + 2 + n := by omega
   have g3 : (i : Int) + 2 + n ≤ s.size := by omega
   have g4 : (0 : Int) ≤ (i : Int) + 2 := by omega
   have g5 : (i : Int) + 2 ≤ (i : Int) + 2 + n := by omega
   go_enter Tryd.func123, Tryd.ntmps123
   go_wp2
   go_region
   rw [HN.out]
   go_wp2
   refine bodyPost_ret (v := .tuple #[.string (s.extract (i + 2) (i + 2 + n)), .int .i64 ((i : Int) + 2 + n), .bool true]) (by simp [results, Tryd.results123, go_sem, pieceV]; try rfl) rfl ⟨?_, ?_⟩
   ·simp [pieceV]
   ·(repeat' (first | exact Below.refl _ _ | (with_reducible assumption) | (with_reducible refine Below.setCell ?_ zq_16 _) | refine below_then ?_ (by assumption) | (with_reducible refine below_new2 ?_ _) | (with_reducible refine Below.drew ?_) | (with_reducible refine bdrewN ?_ _)))
theorem l2Piece0_any (s : ByteArray) (hs : s.size ≤ 4294967296) (w : World) :
  Calls Tryd.prog 123 #[.string s, .int .i64 0] w fun e w' => e = .returned (pieceV (pieceS s 0)) ∧ Below w.heap.size w w' := l2Piece_any s 0 hs (by omega) w
theorem pieceS_le {s k : ByteArray} {i n : Nat} (h : pieceS s i = some (k, n)) : n ≤ s.size ∧ i + 2 ≤ n := by
 unfold pieceS at h
 split at h
 ·cases h
 ·split at h
  ·cases h
  ·simp only [Option.some.injEq, Prod.mk.injEq] at h; omega
def finS (s : ByteArray) (x : Int) (k v l r : ByteArray) : Option (ByteArray × ByteArray × ByteArray × ByteArray) := if encNode k v l r x = s then some (k, v, l, r) else none
def decS (s : ByteArray) (x : Int) : Option (ByteArray × ByteArray × ByteArray × ByteArray) :=
 match pieceS s 0 with
 | none => none
 | some (k, i) =>
  match pieceS s i with
  | none => none
  | some (v, n) =>
   if s.size ≤ n ∨ isW x = false then none else
   if byteAt s n % 2 = 1 then
    if ((s.size - (n + 1) : Nat) : Int) < x then none else finS s x k v ((s.extract (n + 1) s.size).extract 0 x.toNat) ((s.extract (n + 1) s.size).extract x.toNat (s.size - (n + 1)))
   else finS s x k v ⟨#[]⟩ (s.extract (n + 1) s.size)
set_option maxHeartbeats 4000000 in
theorem specDecodeNode_any (s : ByteArray) (x : Int) (hs : s.size ≤ 4294967296) (w : World) :
  Calls Tryd.prog 112 #[.string s, .int .i64 x] w fun e w' => e = .returned (nodeV (decS s x)) ∧ Below w.heap.size w w' := by
 unfold decS
 rcases h1 : pieceS s 0 with _ | ⟨k, i⟩
 ·have H1 := Lib.hid h1; clear h1; dsimp only
  go_enter Tryd.func112, Tryd.ntmps112
  go_wp2_with (first | (go_at_call_of 123 (Value.int .i64 0); refine (l2Piece0_any s hs _).mono ?_; rintro e wa ⟨rfl, hb_wa⟩; rw [H1.out]; obtain ⟨hc_wa, hf_wa⟩ := bcell hb_wa; have hz_wa := hb_wa.size; (try simp only [World.size_alloc] at hz_wa); (try simp only [World.size_alloc] at hc_wa); (try simp only [World.size_alloc] at hf_wa); have q0 : w.heap.size < wa.heap.size := (by omega); unfold pieceV))
  all_goals
   have t0 : wa.cell? ⟨w.heap.size, 0, none⟩ = some (.string ⟨#[]⟩) := by go_simp
   have t1 : wa.cell? ⟨w.heap.size, 1, none⟩ = some (.string ⟨#[]⟩) := by go_simp
   have t2 : wa.cell? ⟨w.heap.size, 2, none⟩ = some (.string ⟨#[]⟩) := by go_simp
   have t3 : wa.cell? ⟨w.heap.size, 3, none⟩ = some (.string ⟨#[]⟩) := by go_simp
   refine bodyPost_ret (v := .tuple #[.agg #[.string ⟨#[]⟩, .string ⟨#[]⟩, .string ⟨#[]⟩, .string ⟨#[]⟩], .bool false]) (by simp [results, Tryd.results112, go_sem, t0, t1, t2, t3]; try rfl) rfl ⟨?_, ?_⟩
   ·rfl
   ·(repeat' (first | exact Below.refl _ _ | (with_reducible assumption) | (with_reducible refine Below.setCell ?_ zq_16 _) | refine below_then ?_ (by assumption) | (with_reducible refine below_new2 ?_ _) | (with_reducible refine Below.drew ?_) | (with_reducible refine bdrewN ?_ _)))
 ·have hi := (pieceS_le h1).1; have H1 := Lib.hid h1; clear h1; dsimp only
  rcases h2 : pieceS s i with _ | ⟨v, n⟩
  ·have H2 := Lib.hid h2; clear h2; dsimp only
   go_enter Tryd.func112, Tryd.ntmps112
   go_wp2_with (first | (go_at_call_of 123 (Value.int .i64 0); refine (l2Piece0_any s hs _).mono ?_; rintro e wa ⟨rfl, hb_wa⟩; rw [H1.out]; obtain ⟨hc_wa, hf_wa⟩ := bcell hb_wa; have hz_wa := hb_wa.size; (try simp only [World.size_alloc] at hz_wa); (try simp only [World.size_alloc] at hc_wa); (try simp only [World.size_alloc] at hf_wa); have q0 : w.heap.size < wa.heap.size := (by omega); unfold pieceV) | (go_at_call_of 123 (Value.int .i64 (i : Int)); refine (l2Piece_any s i hs (by omega) _).mono ?_; rintro e wb ⟨rfl, hb_wb⟩; rw [H2.out]; obtain ⟨hc_wb, hf_wb⟩ := bcell hb_wb; have hz_wb := hb_wb.size; (try simp only [World.size_alloc] at hz_wb); (try simp only [World.size_alloc] at hc_wb); (try simp only [World.size_alloc] at hf_wb); have q1 : w.heap.size < wb.heap.size := (by omega); unfold pieceV))
   all_goals
    have t0 : wb.cell? ⟨w.heap.size, 0, none⟩ = some (.string ⟨#[]⟩) := by go_simp
    have t1 : wb.cell? ⟨w.heap.size, 1, none⟩ = some (.string ⟨#[]⟩) := by go_simp
    have t2 : wb.cell? ⟨w.heap.size, 2, none⟩ = some (.string ⟨#[]⟩) := by go_simp
    have t3 : wb.cell? ⟨w.heap.size, 3, none⟩ = some (.string ⟨#[]⟩) := by go_simp
    refine bodyPost_ret (v := .tuple #[.agg #[.string ⟨#[]⟩, .string ⟨#[]⟩, .string ⟨#[]⟩, .string ⟨#[]⟩], .bool false]) (by simp [results, Tryd.results112, go_sem, t0, t1, t2, t3]; try rfl) rfl ⟨?_, ?_⟩
    ·rfl
    ·(repeat' (first | exact Below.refl _ _ | (with_reducible assumption) | (with_reducible refine Below.setCell ?_ zq_16 _) | refine below_then ?_ (by assumption) | (with_reducible refine below_new2 ?_ _) | (with_reducible refine Below.drew ?_) | (with_reducible refine bdrewN ?_ _)))
  ·have hn := (pieceS_le h2).1; have H2 := Lib.hid h2; clear h2; dsimp only
   by_cases h3 : s.size ≤ n ∨ isW x = false
   ·rw [if_pos h3]
    by_cases h4 : s.size ≤ n
    ·clear h3; have h5 : (s.size : Int) ≤ (n : Int) := by omega
     go_enter Tryd.func112, Tryd.ntmps112
     go_wp2_with (first | (go_at_call_of 123 (Value.int .i64 0); refine (l2Piece0_any s hs _).mono ?_; rintro e wa ⟨rfl, hb_wa⟩; rw [H1.out]; obtain ⟨hc_wa, hf_wa⟩ := bcell hb_wa; have hz_wa := hb_wa.size; (try simp only [World.size_alloc] at hz_wa); (try simp only [World.size_alloc] at hc_wa); (try simp only [World.size_alloc] at hf_wa); have q0 : w.heap.size < wa.heap.size := (by omega); unfold pieceV) | (go_at_call_of 123 (Value.int .i64 (i : Int)); refine (l2Piece_any s i hs (by omega) _).mono ?_; rintro e wb ⟨rfl, hb_wb⟩; rw [H2.out]; obtain ⟨hc_wb, hf_wb⟩ := bcell hb_wb; have hz_wb := hb_wb.size; (try simp only [World.size_alloc] at hz_wb); (try simp only [World.size_alloc] at hc_wb); (try simp only [World.size_alloc] at hf_wb); have q1 : w.heap.size < wb.heap.size := (by omega); unfold pieceV))
     all_goals
      have t0 : wb.cell? ⟨w.heap.size, 0, none⟩ = some (.string ⟨#[]⟩) := by go_simp
      have t1 : wb.cell? ⟨w.heap.size, 1, none⟩ = some (.string ⟨#[]⟩) := by go_simp
      have t2 : wb.cell? ⟨w.heap.size, 2, none⟩ = some (.string ⟨#[]⟩) := by go_simp
      have t3 : wb.cell? ⟨w.heap.size, 3, none⟩ = some (.string ⟨#[]⟩) := by go_simp
      refine bodyPost_ret (v := .tuple #[.agg #[.string ⟨#[]⟩, .string ⟨#[]⟩, .string ⟨#[]⟩, .string ⟨#[]⟩], .bool false]) (by simp [results, Tryd.results112, go_sem, t0, t1, t2, t3]; try rfl) rfl ⟨?_, ?_⟩
      ·rfl
      ·(repeat' (first | exact Below.refl _ _ | (with_reducible assumption) | (with_reducible refine Below.setCell ?_ zq_16 _) | refine below_then ?_ (by assumption) | (with_reducible refine below_new2 ?_ _) | (with_reducible refine Below.drew ?_) | (with_reducible refine bdrewN ?_ _)))
    ·have h5 : ¬ (s.size : Int) ≤ (n : Int) := by omega
     have h6 : isW x = false := by rcases h3 with h | h <;> simp_all
     clear h3
     go_enter Tryd.func112, Tryd.ntmps112
     go_wp2_with (first | (go_at_call_of 123 (Value.int .i64 0); refine (l2Piece0_any s hs _).mono ?_; rintro e wa ⟨rfl, hb_wa⟩; rw [H1.out]; obtain ⟨hc_wa, hf_wa⟩ := bcell hb_wa; have hz_wa := hb_wa.size; (try simp only [World.size_alloc] at hz_wa); (try simp only [World.size_alloc] at hc_wa); (try simp only [World.size_alloc] at hf_wa); have q0 : w.heap.size < wa.heap.size := (by omega); unfold pieceV) | (go_at_call_of 123 (Value.int .i64 (i : Int)); refine (l2Piece_any s i hs (by omega) _).mono ?_; rintro e wb ⟨rfl, hb_wb⟩; rw [H2.out]; obtain ⟨hc_wb, hf_wb⟩ := bcell hb_wb; have hz_wb := hb_wb.size; (try simp only [World.size_alloc] at hz_wb); (try simp only [World.size_alloc] at hc_wb); (try simp only [World.size_alloc] at hf_wb); have q1 : w.heap.size < wb.heap.size := (by omega); unfold pieceV) | (go_at_call 38; refine (l1Width_any _ _).mono ?_; rintro e wq ⟨rfl, rfl⟩))
     all_goals
      have t0 : wb.cell? ⟨w.heap.size, 0, none⟩ = some (.string ⟨#[]⟩) := by go_simp
      have t1 : wb.cell? ⟨w.heap.size, 1, none⟩ = some (.string ⟨#[]⟩) := by go_simp
      have t2 : wb.cell? ⟨w.heap.size, 2, none⟩ = some (.string ⟨#[]⟩) := by go_simp
      have t3 : wb.cell? ⟨w.heap.size, 3, none⟩ = some (.string ⟨#[]⟩) := by go_simp
      refine bodyPost_ret (v := .tuple #[.agg #[.string ⟨#[]⟩, .string ⟨#[]⟩, .string ⟨#[]⟩, .string ⟨#[]⟩], .bool false]) (by simp [results, Tryd.results112, go_sem, t0, t1, t2, t3]; try rfl) rfl ⟨?_, ?_⟩
      ·rfl
      ·(repeat' (first | exact Below.refl _ _ | (with_reducible assumption) | (with_reducible refine Below.setCell ?_ zq_16 _) | refine below_then ?_ (by assumption) | (with_reducible refine below_new2 ?_ _) | (with_reducible refine Below.drew ?_) | (with_reducible refine bdrewN ?_ _)))
   ·rw [if_neg h3]; have h5 : ¬ (s.size : Int) ≤ (n : Int) := by omega
    have h6 : isW x = true := by cases h : isW x <;> simp_all
    clear h3; have h7 : 1 ≤ x ∧ x ≤ 32 := by unfold isW at h6; simp at h6; omega
    obtain ⟨h8, h9⟩ := h7; have g0 : (0 : Int) ≤ (n : Int) := by omega
    have g1 : (n : Int) < (s.size : Int) := by omega
    have g2 : (0 : Int) ≤ (n : Int) + 1 := by omega
    have g3 : (n : Int) + 1 ≤ (s.size : Int) := by omega
    have b1 : n < s.size := by omega
    have hby := byteAt_eq s n b1
    by_cases h10 : byteAt s n % 2 = 1
    ·rw [if_pos h10]; have g4 : (((s[n]'b1).toNat : Int) % 2 == 1) = true := by rw [hby] at h10; rw [beq_iff_eq]; omega
     clear hby h10
     by_cases h11 : ((s.size - (n + 1) : Nat) : Int) < x
     ·rw [if_pos h11]
      go_enter Tryd.func112, Tryd.ntmps112
      go_wp2_with (first | (go_at_call_of 123 (Value.int .i64 0); refine (l2Piece0_any s hs _).mono ?_; rintro e wa ⟨rfl, hb_wa⟩; rw [H1.out]; obtain ⟨hc_wa, hf_wa⟩ := bcell hb_wa; have hz_wa := hb_wa.size; (try simp only [World.size_alloc] at hz_wa); (try simp only [World.size_alloc] at hc_wa); (try simp only [World.size_alloc] at hf_wa); have q0 : w.heap.size < wa.heap.size := (by omega); unfold pieceV) | (go_at_call_of 123 (Value.int .i64 (i : Int)); refine (l2Piece_any s i hs (by omega) _).mono ?_; rintro e wb ⟨rfl, hb_wb⟩; rw [H2.out]; obtain ⟨hc_wb, hf_wb⟩ := bcell hb_wb; have hz_wb := hb_wb.size; (try simp only [World.size_alloc] at hz_wb); (try simp only [World.size_alloc] at hc_wb); (try simp only [World.size_alloc] at hf_wb); have q1 : w.heap.size < wb.heap.size := (by omega); unfold pieceV) | (go_at_call 38; refine (l1Width_any _ _).mono ?_; rintro e wq ⟨rfl, rfl⟩) | (go_at_call 83; refine (specEncodeNode_any _ _ _ _ _ _).mono ?_; rintro e wc ⟨rfl, hb_wc⟩; obtain ⟨hc_wc, hf_wc⟩ := bcell hb_wc; have hz_wc := hb_wc.size; (try simp only [World.size_alloc, World.size_setCell, World.size_drew] at hz_wc); (try simp only [World.size_alloc, World.size_setCell, World.size_drew] at hc_wc); (try simp only [World.size_alloc, World.size_setCell, World.size_drew] at hf_wc); (try have q_w_0_wc : w.heap.size < wc.heap.size := by omega); (try have q_wb_0_wc : wb.heap.size < wc.heap.size := by omega)))
      all_goals
       have t0 : wb.cell? ⟨w.heap.size, 0, none⟩ = some (.string ⟨#[]⟩) := by go_simp
       have t1 : wb.cell? ⟨w.heap.size, 1, none⟩ = some (.string ⟨#[]⟩) := by go_simp
       have t2 : wb.cell? ⟨w.heap.size, 2, none⟩ = some (.string ⟨#[]⟩) := by go_simp
       have t3 : wb.cell? ⟨w.heap.size, 3, none⟩ = some (.string ⟨#[]⟩) := by go_simp
       refine bodyPost_ret (v := .tuple #[.agg #[.string ⟨#[]⟩, .string ⟨#[]⟩, .string ⟨#[]⟩, .string ⟨#[]⟩], .bool false]) zq_68 rfl ⟨?_, ?_⟩
       ·rfl
       ·(repeat' (first | exact Below.refl _ _ | (with_reducible assumption) | (with_reducible refine Below.setCell ?_ zq_16 _) | refine below_then ?_ (by assumption) | (with_reducible refine below_new2 ?_ _) | (with_reducible refine Below.drew ?_) | (with_reducible refine bdrewN ?_ _)))
     ·rw [if_neg h11]; have g5 : x ≤ ((s.size - (n + 1) : Nat) : Int) := by omega
      have g7 : (0 : Int) ≤ x := by omega
      unfold finS
      by_cases h12 : encNode k v ((s.extract (n + 1) s.size).extract 0 x.toNat) ((s.extract (n + 1) s.size).extract x.toNat (s.size - (n + 1))) x = s
      ·rw [if_pos h12]; have g6 : ((encNode k v ((s.extract (n + 1) s.size).extract 0 x.toNat) ((s.extract (n + 1) s.size).extract x.toNat (s.size - (n + 1))) x).toList == s.toList) = true := by rw [str_eq]; exact decide_eq_true h12
       clear h12
       go_enter Tryd.func112, Tryd.ntmps112
       go_wp2_with (first | (go_at_call_of 123 (Value.int .i64 0); refine (l2Piece0_any s hs _).mono ?_; rintro e wa ⟨rfl, hb_wa⟩; rw [H1.out]; obtain ⟨hc_wa, hf_wa⟩ := bcell hb_wa; have hz_wa := hb_wa.size; (try simp only [World.size_alloc] at hz_wa); (try simp only [World.size_alloc] at hc_wa); (try simp only [World.size_alloc] at hf_wa); have q0 : w.heap.size < wa.heap.size := (by omega); unfold pieceV) | (go_at_call_of 123 (Value.int .i64 (i : Int)); refine (l2Piece_any s i hs (by omega) _).mono ?_; rintro e wb ⟨rfl, hb_wb⟩; rw [H2.out]; obtain ⟨hc_wb, hf_wb⟩ := bcell hb_wb; have hz_wb := hb_wb.size; (try simp only [World.size_alloc] at hz_wb); (try simp only [World.size_alloc] at hc_wb); (try simp only [World.size_alloc] at hf_wb); have q1 : w.heap.size < wb.heap.size := (by omega); unfold pieceV) | (go_at_call 38; refine (l1Width_any _ _).mono ?_; rintro e wq ⟨rfl, rfl⟩) | (go_at_call 83; refine (specEncodeNode_any _ _ _ _ _ _).mono ?_; rintro e wc ⟨rfl, hb_wc⟩; obtain ⟨hc_wc, hf_wc⟩ := bcell hb_wc; have hz_wc := hb_wc.size; (try simp only [World.size_alloc, World.size_setCell, World.size_drew] at hz_wc); (try simp only [World.size_alloc, World.size_setCell, World.size_drew] at hc_wc); (try simp only [World.size_alloc, World.size_setCell, World.size_drew] at hf_wc); (try have q_w_0_wc : w.heap.size < wc.heap.size := by omega); (try have q_wb_0_wc : wb.heap.size < wc.heap.size := by omega)))
       all_goals
        have t0 : wc.cell? ⟨w.heap.size, 0, none⟩ = some (.string ⟨#[]⟩) := by go_simp
        have t1 : wc.cell? ⟨w.heap.size, 1, none⟩ = some (.string ⟨#[]⟩) := by go_simp
        have t2 : wc.cell? ⟨w.heap.size, 2, none⟩ = some (.string ⟨#[]⟩) := by go_simp
        have t3 : wc.cell? ⟨w.heap.size, 3, none⟩ = some (.string ⟨#[]⟩) := by go_simp
        refine bodyPost_ret (v := .tuple #[.agg #[.string k, .string v, .string ((s.extract (n + 1) s.size).extract 0 x.toNat), .string ((s.extract (n + 1) s.size).extract x.toNat (s.size - (n + 1)))], .bool true]) zq_68 rfl ⟨?_, ?_⟩
        ·rfl
        ·(repeat' (first | exact Below.refl _ _ | (with_reducible assumption) | (with_reducible refine Below.setCell ?_ zq_16 _) | refine below_then ?_ (by assumption) | (with_reducible refine below_new2 ?_ _) | (with_reducible refine Below.drew ?_) | (with_reducible refine bdrewN ?_ _)))
      ·rw [if_neg h12]; have g6 : ((encNode k v ((s.extract (n + 1) s.size).extract 0 x.toNat) ((s.extract (n + 1) s.size).extract x.toNat (s.size - (n + 1))) x).toList == s.toList) = false := by rw [str_eq]; exact decide_eq_false h12
       clear h12
       go_enter Tryd.func112, Tryd.ntmps112
       go_wp2_with (first | (go_at_call_of 123 (Value.int .i64 0); refine (l2Piece0_any s hs _).mono ?_; rintro e wa ⟨rfl, hb_wa⟩; rw [H1.out]; obtain ⟨hc_wa, hf_wa⟩ := bcell hb_wa; have hz_wa := hb_wa.size; (try simp only [World.size_alloc] at hz_wa); (try simp only [World.size_alloc] at hc_wa); (try simp only [World.size_alloc] at hf_wa); have q0 : w.heap.size < wa.heap.size := (by omega); unfold pieceV) | (go_at_call_of 123 (Value.int .i64 (i : Int)); refine (l2Piece_any s i hs (by omega) _).mono ?_; rintro e wb ⟨rfl, hb_wb⟩; rw [H2.out]; obtain ⟨hc_wb, hf_wb⟩ := bcell hb_wb; have hz_wb := hb_wb.size; (try simp only [World.size_alloc] at hz_wb); (try simp only [World.size_alloc] at hc_wb); (try simp only [World.size_alloc] at hf_wb); have q1 : w.heap.size < wb.heap.size := (by omega); unfold pieceV) | (go_at_call 38; refine (l1Width_any _ _).mono ?_; rintro e wq ⟨rfl, rfl⟩) | (go_at_call 83; refine (specEncodeNode_any _ _ _ _ _ _).mono ?_; rintro e wc ⟨rfl, hb_wc⟩; obtain ⟨hc_wc, hf_wc⟩ := bcell hb_wc; have hz_wc := hb_wc.size; (try simp only [World.size_alloc, World.size_setCell, World.size_drew] at hz_wc); (try simp only [World.size_alloc, World.size_setCell, World.size_drew] at hc_wc); (try simp only [World.size_alloc, World.size_setCell, World.size_drew] at hf_wc); (try have q_w_0_wc : w.heap.size < wc.heap.size := by omega); (try have q_wb_0_wc : wb.heap.size < wc.heap.size := by omega)))
       all_goals
        have t0 : wc.cell? ⟨w.heap.size, 0, none⟩ = some (.string ⟨#[]⟩) := by go_simp
        have t1 : wc.cell? ⟨w.heap.size, 1, none⟩ = some (.string ⟨#[]⟩) := by go_simp
        have t2 : wc.cell? ⟨w.heap.size, 2, none⟩ = some (.string ⟨#[]⟩) := by go_simp
        have t3 : wc.cell? ⟨w.heap.size, 3, none⟩ = some (.string ⟨#[]⟩) := by go_simp
        refine bodyPost_ret (v := .tuple #[.agg #[.string ⟨#[]⟩, .string ⟨#[]⟩, .string ⟨#[]⟩, .string ⟨#[]⟩], .bool false]) zq_68 rfl ⟨?_, ?_⟩
        ·rfl
        ·(repeat' (first | exact Below.refl _ _ | (with_reducible assumption) | (with_reducible refine Below.setCell ?_ zq_16 _) | refine below_then ?_ (by assumption) | (with_reducible refine below_new2 ?_ _) | (with_reducible refine Below.drew ?_) | (with_reducible refine bdrewN ?_ _)))
    ·rw [if_neg h10]; have g4 : (((s[n]'b1).toNat : Int) % 2 == 1) = false := by rw [hby] at h10; rw [beq_eq_false_iff_ne]; omega
     clear hby h10; unfold finS
     by_cases h12 : encNode k v ⟨#[]⟩ (s.extract (n + 1) s.size) x = s
     ·rw [if_pos h12]; have g6 : ((encNode k v ⟨#[]⟩ (s.extract (n + 1) s.size) x).toList == s.toList) = true := by rw [str_eq]; exact decide_eq_true h12
      clear h12
      go_enter Tryd.func112, Tryd.ntmps112
      go_wp2_with (first | (go_at_call_of 123 (Value.int .i64 0); refine (l2Piece0_any s hs _).mono ?_; rintro e wa ⟨rfl, hb_wa⟩; rw [H1.out]; obtain ⟨hc_wa, hf_wa⟩ := bcell hb_wa; have hz_wa := hb_wa.size; (try simp only [World.size_alloc] at hz_wa); (try simp only [World.size_alloc] at hc_wa); (try simp only [World.size_alloc] at hf_wa); have q0 : w.heap.size < wa.heap.size := (by omega); unfold pieceV) | (go_at_call_of 123 (Value.int .i64 (i : Int)); refine (l2Piece_any s i hs (by omega) _).mono ?_; rintro e wb ⟨rfl, hb_wb⟩; rw [H2.out]; obtain ⟨hc_wb, hf_wb⟩ := bcell hb_wb; have hz_wb := hb_wb.size; (try simp only [World.size_alloc] at hz_wb); (try simp only [World.size_alloc] at hc_wb); (try simp only [World.size_alloc] at hf_wb); have q1 : w.heap.size < wb.heap.size := (by omega); unfold pieceV) | (go_at_call 38; refine (l1Width_any _ _).mono ?_; rintro e wq ⟨rfl, rfl⟩) | (go_at_call 83; refine (specEncodeNode_any _ _ _ _ _ _).mono ?_; rintro e wc ⟨rfl, hb_wc⟩; obtain ⟨hc_wc, hf_wc⟩ := bcell hb_wc; have hz_wc := hb_wc.size; (try simp only [World.size_alloc, World.size_setCell, World.size_drew] at hz_wc); (try simp only [World.size_alloc, World.size_setCell, World.size_drew] at hc_wc); (try simp only [World.size_alloc, World.size_setCell, World.size_drew] at hf_wc); (try have q_w_0_wc : w.heap.size < wc.heap.size := by omega); (try have q_wb_0_wc : wb.heap.size < wc.heap.size := by omega)))
      all_goals
       have t0 : wc.cell? ⟨w.heap.size, 0, none⟩ = some (.string ⟨#[]⟩) := by go_simp
       have t1 : wc.cell? ⟨w.heap.size, 1, none⟩ = some (.string ⟨#[]⟩) := by go_simp
       have t2 : wc.cell? ⟨w.heap.size, 2, none⟩ = some (.string ⟨#[]⟩) := by go_simp
       have t3 : wc.cell? ⟨w.heap.size, 3, none⟩ = some (.string ⟨#[]⟩) := by go_simp
       refine bodyPost_ret (v := .tuple #[.agg #[.string k, .string v, .string ⟨#[]⟩, .string (s.extract (n + 1) s.size)], .bool true]) zq_68 rfl ⟨?_, ?_⟩
       ·rfl
       ·(repeat' (first | exact Below.refl _ _ | (with_reducible assumption) | (with_reducible refine Below.setCell ?_ zq_16 _) | refine below_then ?_ (by assumption) | (with_reducible refine below_new2 ?_ _) | (with_reducible refine Below.drew ?_) | (with_reducible refine bdrewN ?_ _)))
     ·rw [if_neg h12]; have g6 : ((encNode k v ⟨#[]⟩ (s.extract (n + 1) s.size) x).toList == s.toList) = false := by rw [str_eq]; exact decide_eq_false h12
      clear h12
      go_enter Tryd.func112, Tryd.ntmps112
      go_wp2_with (first | (go_at_call_of 123 (Value.int .i64 0); refine (l2Piece0_any s hs _).mono ?_; rintro e wa ⟨rfl, hb_wa⟩; rw [H1.out]; obtain ⟨hc_wa, hf_wa⟩ := bcell hb_wa; have hz_wa := hb_wa.size; (try simp only [World.size_alloc] at hz_wa); (try simp only [World.size_alloc] at hc_wa); (try simp only [World.size_alloc] at hf_wa); have q0 : w.heap.size < wa.heap.size := (by omega); unfold pieceV) | (go_at_call_of 123 (Value.int .i64 (i : Int)); refine (l2Piece_any s i hs (by omega) _).mono ?_; rintro e wb ⟨rfl, hb_wb⟩; rw [H2.out]; obtain ⟨hc_wb, hf_wb⟩ := bcell hb_wb; have hz_wb := hb_wb.size; (try simp only [World.size_alloc] at hz_wb); (try simp only [World.size_alloc] at hc_wb); (try simp only [World.size_alloc] at hf_wb); have q1 : w.heap.size < wb.heap.size := (by omega); unfold pieceV) | (go_at_call 38; refine (l1Width_any _ _).mono ?_; rintro e wq ⟨rfl, rfl⟩) | (go_at_call 83; refine (specEncodeNode_any _ _ _ _ _ _).mono ?_; rintro e wc ⟨rfl, hb_wc⟩; obtain ⟨hc_wc, hf_wc⟩ := bcell hb_wc; have hz_wc := hb_wc.size; (try simp only [World.size_alloc, World.size_setCell, World.size_drew] at hz_wc); (try simp only [World.size_alloc, World.size_setCell, World.size_drew] at hc_wc); (try simp only [World.size_alloc, World.size_setCell, World.size_drew] at hf_wc); (try have q_w_0_wc : w.heap.size < wc.heap.size := by omega); (try have q_wb_0_wc : wb.heap.size < wc.heap.size := by omega)))
      all_goals
       have t0 : wc.cell? ⟨w.heap.size, 0, none⟩ = some (.string ⟨#[]⟩) := by go_simp
       have t1 : wc.cell? ⟨w.heap.size, 1, none⟩ = some (.string ⟨#[]⟩) := by go_simp
       have t2 : wc.cell? ⟨w.heap.size, 2, none⟩ = some (.string ⟨#[]⟩) := by go_simp
       have t3 : wc.cell? ⟨w.heap.size, 3, none⟩ = some (.string ⟨#[]⟩) := by go_simp
       refine bodyPost_ret (v := .tuple #[.agg #[.string ⟨#[]⟩, .string ⟨#[]⟩, .string ⟨#[]⟩, .string ⟨#[]⟩], .bool false]) zq_68 rfl ⟨?_, ?_⟩
       ·rfl
       ·(repeat' (first | exact Below.refl _ _ | (with_reducible assumption) | (with_reducible refine Below.setCell ?_ zq_16 _) | refine below_then ?_ (by assumption) | (with_reducible refine below_new2 ?_ _) | (with_reducible refine Below.drew ?_) | (with_reducible refine bdrewN ?_ _)))
end Go.Proofs.YthnnphinfiobmaaDoor
end
