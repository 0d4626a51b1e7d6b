/- The records of the specification are those of the program. -/
import Derived.Test.YtmfejehhfmaodaaZ4
import Derived.Test.YtmfejehhfmaodaaZ6
import Derived.Test.YtmfejehhfmaodaaRec
namespace Go.Proofs.Ytmfejehhfmaodaa.Z
open Go.RowKit Go.Proofs.Ytmfejehhfmaodaa Go.Proofs.YtmfejehhfmaodaaW.PrintWords Go.Proofs.YtmfejehhfmaodaaW.PrintLast
set_option linter.unusedVariables false
set_option linter.unusedSimpArgs false
theorem w64 {x : Int} (h0 : -9223372036854775808 ≤ x) (h1 : x ≤ 9223372036854775807) : wrap64 x = x := by unfold wrap64; omega
theorem ba_ext {a b : ByteArray} (h : a.data.toList = b.data.toList) : a = b := ByteArray.ext (Array.toList_inj.mp h)
theorem ba_app (a b : ByteArray) : (a ++ b).data.toList = a.data.toList ++ b.data.toList := by simp [ByteArray.data_append]
theorem ba_len (a : ByteArray) : a.data.toList.length = a.size := rfl
theorem ba_mk (l : List UInt8) : (⟨l.toArray⟩ : ByteArray).data.toList = l := by simp
theorem l2Marked_loop (s A B : ByteArray) (hs : s.size ≤ 1048576) (hA : A.size ≤ 1) (hB : B.size ≤ 1) : ∀ (d m k : Nat) (out : ByteArray), nSec s.size = m + d → d < k →
    out.data.toList = secs s.data.toList A.data.toList B.data.toList m →
    ∃ r, spec_l2Marked.l0 k s A B out ((63 * m : Nat) : Int) = some r ∧ r.data.toList = secs s.data.toList A.data.toList B.data.toList (nSec s.size) := by
  intro d
  induction d with
  | zero =>
    intro m k out hn hk ho
    obtain ⟨k, rfl⟩ : ∃ j, k = j + 1 := ⟨k - 1, by omega⟩
    refine ⟨out, ?_, by rw [hn]; exact ho⟩
    simp only [spec_l2Marked.l0]
    rw [if_neg (by unfold nSec at hn; omega)]
  | succ d ih =>
    intro m k out hn hk ho
    obtain ⟨k, rfl⟩ : ∃ j, k = j + 1 := ⟨k - 1, by omega⟩
    have hlt : 63 * m < s.size := by unfold nSec at hn; omega
    have hol : out.size ≤ 64 * m := by
      have := secs_length s.data.toList A.data.toList B.data.toList hA hB m
      rw [← ho] at this; exact this
    -- one round, whatever the part is
    have step : ∀ (part : ByteArray), part.data.toList = chunk s.data.toList m ++ List.replicate (63 - (chunk s.data.toList m).length) 0 → ∀ (M : ByteArray), M.data.toList = (if m = 0 then A.data.toList else B.data.toList) →
        ∃ r, spec_l2Marked.l0 k s A B (out ++ part ++ M) ((63 * (m + 1) : Nat) : Int) = some r ∧ r.data.toList = secs s.data.toList A.data.toList B.data.toList (nSec s.size) := by
      intro part hp M hM
      refine ih (m + 1) k _ (by omega) (by omega) ?_
      rw [ba_app, ba_app, ho, hp, hM, secs, secOne]; simp only [List.append_assoc]
    have hcl : (chunk s.data.toList m).length = min 63 (s.size - 63 * m) := chunk_length _ _
    have hw : wrap64 (((63 * m : Nat) : Int) + 63) = ((63 * (m + 1) : Nat) : Int) := by rw [w64 (by omega) (by omega)]; omega
    have eM : ((63 * m : Nat) : Int) = 0 ↔ m = 0 := by omega
    simp only [spec_l2Marked.l0]
    rw [if_pos (by omega), hw]
    have t1 : (((63 * m : Nat) : Int)).toNat = 63 * m := by omega
    have t2 : (((63 * (m + 1) : Nat) : Int)).toNat = 63 * (m + 1) := by omega
    rw [t1, t2]
    by_cases hf : 63 * (m + 1) ≤ s.size
    · rw [if_pos (by omega), if_pos (by omega), if_pos (by omega)]
      have hpart : (s.extract (63 * m) (63 * (m + 1))).data.toList = chunk s.data.toList m ++ List.replicate (63 - (chunk s.data.toList m).length) 0 := by
        rw [hcl, show min 63 (s.size - 63 * m) = 63 by omega, ext_chunk s m _ (by omega)]; simp
      have hps : (s.extract (63 * m) (63 * (m + 1))).size = 63 := by rw [ByteArray.size_extract]; omega
      by_cases h0 : m = 0
      · rw [if_pos (eM.2 h0), if_pos (by rw [hps]; omega), if_pos (by rw [ByteArray.size_append, hps]; omega)]
        exact step _ hpart A (by rw [if_pos h0])
      · rw [if_neg (fun h => h0 (eM.1 h)), if_pos (by rw [hps]; omega), if_pos (by rw [ByteArray.size_append, hps]; omega)]
        exact step _ hpart B (by rw [if_neg h0])
    · rw [if_neg (by omega), if_pos (by omega), if_pos (by omega)]
      have hg : wrap64 (((63 * (m + 1) : Nat) : Int) - (s.size : Int)) = ((63 * (m + 1) - s.size : Nat) : Int) := by rw [w64 (by omega) (by omega)]; omega
      have hlong : spec_l1Long.f (wrap64 (((63 * (m + 1) : Nat) : Int) - (s.size : Int))) (⟨#[0]⟩ : ByteArray) = some (rep (63 * (m + 1) - s.size) 0) := by
        rw [hg]; unfold spec_l1Long.f; rw [if_pos ⟨by omega, by omega, rfl⟩, Int.toNat_natCast]; rfl
      rw [hlong]
      simp only [Option.bind_some]
      have hps : (s.extract (63 * m) s.size).size = s.size - 63 * m := by rw [ByteArray.size_extract]; omega
      have hpart : (s.extract (63 * m) s.size ++ rep (63 * (m + 1) - s.size) 0).data.toList = chunk s.data.toList m ++ List.replicate (63 - (chunk s.data.toList m).length) 0 := by
        have hz : 63 - min 63 (s.size - 63 * m) = 63 * (m + 1) - s.size := by omega
        rw [ba_app, ext_chunk s m _ (by omega), hcl, hz]; unfold rep; rw [ba_mk]
      have hpz : (s.extract (63 * m) s.size ++ rep (63 * (m + 1) - s.size) 0).size = 63 := by rw [ByteArray.size_append, hps, rep_size]; omega
      rw [if_pos (by rw [hps, rep_size]; omega)]
      by_cases h0 : m = 0
      · rw [if_pos (eM.2 h0), if_pos (by rw [hpz]; omega), if_pos (by rw [ByteArray.size_append, hpz]; omega)]
        exact step _ hpart A (by rw [if_pos h0])
      · rw [if_neg (fun h => h0 (eM.1 h)), if_pos (by rw [hpz]; omega), if_pos (by rw [ByteArray.size_append, hpz]; omega)]
        exact step _ hpart B (by rw [if_neg h0])
theorem l2Marked_f (s A B : ByteArray) (hs : s.size ≤ 1048576) (hA : A.size ≤ 1) (hB : B.size ≤ 1) (k : Nat) (hk : nSec s.size < k) :
    spec_l2Marked.f k s A B = some ⟨(secs s.data.toList A.data.toList B.data.toList (nSec s.size)).toArray⟩ := by
  obtain ⟨r, h1, h2⟩ := l2Marked_loop s A B hs hA hB (nSec s.size) 0 k ⟨#[]⟩ (by omega) hk rfl
  unfold spec_l2Marked.f
  refine h1.trans (congrArg some (ba_ext ?_))
  rw [h2, ba_mk]
theorem l2Byte_f (n : Nat) : spec_l2Byte.f (n : Int) = some ⟨#[UInt8.ofNat n]⟩ := by
  unfold spec_l2Byte.f
  have h : ((n : Int) % 256).toNat = n % 256 := by omega
  simp only [strOfNums, List.map_cons, List.map_nil, h]
  congr 4
  apply UInt8.toNat_inj.mp
  rw [UInt8.toNat_ofNat', UInt8.toNat_ofNat']; omega
theorem four_step (n q : Nat) (hn : n < 4294967296) (hq : 0 < q) (hq2 : q ≤ 16777216) : Int.tmod (wrap64 (Int.tdiv (n : Int) (q : Int))) 256 = (((n / q) % 256 : Nat) : Int) := by
  have h1 : Int.tdiv (n : Int) (q : Int) = ((n / q : Nat) : Int) := by rw [Int.tdiv_eq_ediv_of_nonneg (by omega)]; rfl
  have h2 : n / q ≤ n := Nat.div_le_self n q
  rw [h1]
  generalize n / q = c at *
  rw [w64 (by omega) (by omega), Int.tmod_eq_emod_of_nonneg (by omega)]; omega
theorem ofNat_mod (n : Nat) : UInt8.ofNat (n % 256) = UInt8.ofNat n := by
  apply UInt8.toNat_inj.mp
  rw [UInt8.toNat_ofNat', UInt8.toNat_ofNat']; omega
theorem l2Four_f (n : Nat) (hn : n < 4294967296) : spec_l2Four.f (n : Int) = some ⟨(numL n 4 true 4).toArray⟩ := by
  unfold spec_l2Four.f
  have e1 : Int.tmod (n : Int) 256 = ((n % 256 : Nat) : Int) := by rw [Int.tmod_eq_emod_of_nonneg (by omega)]; rfl
  have e2 := four_step n 256 hn (by omega) (by omega)
  have e3 := four_step n 65536 hn (by omega) (by omega)
  have e4 := four_step n 16777216 hn (by omega) (by omega)
  rw [e1, show (256 : Int) = ((256 : Nat) : Int) from rfl] at *
  rw [e2, show (65536 : Int) = ((65536 : Nat) : Int) from rfl, e3, show (16777216 : Int) = ((16777216 : Nat) : Int) from rfl, e4]
  simp only [l2Byte_f, Option.bind_some]
  rw [if_pos (by show 1 + 1 ≤ _; omega), if_pos (by show 2 + 1 ≤ _; omega), if_pos (by show 3 + 1 ≤ _; omega)]
  rw [ofNat_mod, ofNat_mod, ofNat_mod, ofNat_mod]
  refine congrArg some (ba_ext ?_)
  rw [ba_mk]
  simp [numL, numByte, List.range_succ]
theorem spec_NodeRecord_f (a0 : ByteArray) (k : Nat) (hk : 1000 < k) : spec_NodeRecord.f k a0 = some (nodeRecV a0) := by
  unfold spec_NodeRecord.f
  by_cases h0 : (a0.size : Int) < 1
  · rw [if_pos h0, nodeRecV_no (by omega)]
    obtain ⟨k, rfl⟩ : ∃ j, k = j + 1 := ⟨k - 1, by omega⟩
    simp only [spec_NodeRecord.j0]; rfl
  · rw [if_neg h0]
    obtain ⟨k, rfl⟩ : ∃ j, k = j + 1 := ⟨k - 1, by omega⟩
    by_cases h1 : (a0.size : Int) > 4000
    · rw [decide_eq_true h1, nodeRecV_no (by omega)]
      simp only [spec_NodeRecord.j0]; rfl
    · rw [decide_eq_false h1, nodeRecV_yes (by omega)]
      simp only [spec_NodeRecord.j0]
      rw [if_neg (by decide), l2Four_f _ (by omega)]
      simp only [Option.bind_some]
      have hz : (⟨(numL a0.size 4 true 4).toArray⟩ : ByteArray).size = 4 := by rw [arr_size, numL_length]
      have hs : ((⟨(numL a0.size 4 true 4).toArray⟩ : ByteArray) ++ a0).size = 4 + a0.size := by rw [ByteArray.size_append, hz]
      rw [if_pos (by rw [hz]; omega)]
      have hl : ((⟨(numL a0.size 4 true 4).toArray⟩ : ByteArray) ++ a0).data.toList = nodeRecL a0 := by rw [ba_app, ba_mk]; rfl
      rw [l2Marked_f _ _ _ (by omega) (by decide) (by decide) k (by rw [hs]; unfold nSec; omega), hl]
      simp only [Option.bind_some]
      unfold nodeRec
      rw [← hl, ba_len]
theorem secs_first (l a b c : List UInt8) : secs l a b 1 = secs l a c 1 := by simp [secs, secOne]
theorem spec_CommitRecord_f (a0 : Int) (a1 : ByteArray) (k : Nat) (hk : 1000 < k) : spec_CommitRecord.f k a0 a1 = some (commitRecV a0 a1) := by
  unfold spec_CommitRecord.f
  obtain ⟨k, rfl⟩ : ∃ j, k = j + 1 := ⟨k - 1, by omega⟩
  by_cases h0 : a0 < 1
  · rw [if_pos h0, commitRecV_no (by omega)]
    simp only [spec_CommitRecord.j0]; rfl
  · rw [if_neg h0]
    by_cases h2 : a0 > 1000000
    · rw [if_pos h2, commitRecV_no (by omega)]
      simp only [spec_CommitRecord.j0]; rfl
    · rw [if_neg h2]
      by_cases h1 : (a1.size : Int) > 32
      · rw [decide_eq_true h1, commitRecV_no (by omega)]
        simp only [spec_CommitRecord.j0]; rfl
      · rw [decide_eq_false h1, commitRecV_yes (by omega)]
        obtain ⟨n, rfl⟩ := Int.eq_ofNat_of_zero_le (show 0 ≤ a0 by omega)
        rw [Int.toNat_natCast]
        simp only [spec_CommitRecord.j0]
        rw [if_neg (by decide), l2Four_f _ (by omega), l2Byte_f]
        simp only [Option.bind_some]
        have hz : (⟨(numL n 4 true 4).toArray⟩ : ByteArray).size = 4 := by rw [arr_size, numL_length]
        have hy : (⟨#[UInt8.ofNat a1.size]⟩ : ByteArray).size = 1 := rfl
        have hs : ((⟨(numL n 4 true 4).toArray⟩ : ByteArray) ++ (⟨#[UInt8.ofNat a1.size]⟩ : ByteArray) ++ a1).size = 5 + a1.size := by rw [ByteArray.size_append, ByteArray.size_append, hz, hy]
        have hl : ((⟨(numL n 4 true 4).toArray⟩ : ByteArray) ++ (⟨#[UInt8.ofNat a1.size]⟩ : ByteArray) ++ a1).data.toList = commitRecL n a1 := by
          rw [ba_app, ba_app, ba_mk, commitRecL]
          congr 2
          simp [numL, numByte]
        have hn : nSec (5 + a1.size) = 1 := by unfold nSec; omega
        rw [if_pos (by rw [hz, hy]; omega), if_pos (by rw [ByteArray.size_append, hz, hy]; omega)]
        rw [l2Marked_f _ _ _ (by omega) (by decide) (by decide) k (by rw [hs]; unfold nSec; omega), hl, hs, hn]
        simp only [Option.bind_some]
        unfold commitRec
        rw [← hl, ba_len, hs, hn]
        refine congrArg some (ba_ext ?_)
        rw [ba_mk, ba_mk]
        exact secs_first _ _ _ _
end Go.Proofs.Ytmfejehhfmaodaa.Z
