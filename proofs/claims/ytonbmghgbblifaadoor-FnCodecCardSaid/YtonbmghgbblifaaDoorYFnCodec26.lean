/- Own texts, joined. -/
import Derived.Test.YtonbmghgbblifaaDoorYFnCodec23
import Derived.Test.YtonbmghgbblifaaDoorYFnCodec25
import Derived.Test.YtonbmghgbblifaaDoorYFnCodec21
import Derived.Test.YtonbmghgbblifaaDoorYFnCodec0
import Derived.ProofKit
import Derived.OpenShut
import Derived.ChangeSame
section
namespace Go.Proofs.YtonbmghgbblifaaDoor.Z
open Go.RowKit Go.Proofs.YtonbmghgbblifaaDoor Go.Proofs.YtonbmghgbblifaaDoorW.PrintWords Go.Proofs.YtonbmghgbblifaaDoorW.PrintLast
set_option linter.unusedVariables false
set_option linter.unusedSimpArgs false
def chunkP (l : List UInt8) (i : Nat) : List UInt8 := chunk l i ++ List.replicate (63 - (chunk l i).length) 0
theorem chunkP_len (l : List UInt8) (i : Nat) : (chunkP l i).length = 63 := by
 have := chunk_le l i; unfold chunkP; rw [List.length_append, List.length_replicate]; omega
theorem chunkP_get (l : List UInt8) (i j : Nat) (h : j < 63) : (chunkP l i)[j]? = some (l.getD (63 * i + j) 0) := by
 have hc := chunk_length l i; unfold chunkP
 by_cases hj : j < (chunk l i).length
 ·rw [List.getElem?_append_left hj]; unfold chunk at hj ⊢; rw [List.getElem?_take, if_pos h, List.getElem?_drop, List.getD_eq_getElem?_getD, List.getElem?_eq_getElem (by rw [List.length_take, List.length_drop] at hj; omega)]; rfl
 ·rw [List.getElem?_append_right (by omega), List.getElem?_replicate, if_pos (by omega), List.getD_eq_getElem?_getD, List.getElem?_eq_none (by omega)]; rfl
theorem secOne_eq (l a b : List UInt8) (i : Nat) : secOne l a b i = chunkP l i ++ (if i = 0 then a else b) := rfl
theorem secs_len (l : List UInt8) (x y : UInt8) : ∀ m, (secs l [x] [y] m).length = 64 * m
 | 0 => rfl
 | m + 1 => by
  rw [secs, List.length_append, secs_len l x y m, secOne_eq, List.length_append, chunkP_len]
  split <;> simp <;> omega
theorem secs_part (l : List UInt8) (x y : UInt8) : ∀ m i, i < m → ((secs l [x] [y] m).drop (64 * i)).take 63 = chunkP l i ∧ (secs l [x] [y] m)[64 * i + 63]? = some (if i = 0 then x else y)
 | 0, i, h => absurd h (Nat.not_lt_zero i)
 | m + 1, i, h => by
  have hl := secs_len l x y m; rw [secs]
  by_cases hi : i < m
  ·obtain ⟨h1, h2⟩ := secs_part l x y m i hi; refine ⟨?_, ?_⟩
   ·rw [List.drop_append_of_le_length (by omega), List.take_append_of_le_length (by rw [List.length_drop]; omega)]; exact h1
   ·rw [List.getElem?_append_left (by omega)]; exact h2
  ·obtain rfl : i = m := by omega
   have hc := chunkP_len l i; refine ⟨?_, ?_⟩
   ·rw [← hl, List.drop_left, secOne_eq, List.take_append_of_le_length (by omega), List.take_of_length_le (by omega)]
   ·rw [List.getElem?_append_right (by omega), hl, show 64 * i + 63 - 64 * i = 63 by omega, secOne_eq, List.getElem?_append_right (by omega), hc]
    split <;> rfl
def partsP (l : List UInt8) : Nat → List UInt8
 | 0 => []
 | m + 1 => partsP l m ++ chunkP l m
theorem partsP_len (l : List UInt8) : ∀ m, (partsP l m).length = 63 * m
 | 0 => rfl
 | m + 1 => by rw [partsP, List.length_append, partsP_len l m, chunkP_len]; omega
theorem partsP_get (l : List UInt8) : ∀ m i, i < 63 * m → (partsP l m)[i]? = some (l.getD i 0)
 | 0, i, h => by omega
 | m + 1, i, h => by
  have hl := partsP_len l m; rw [partsP]
  by_cases hi : i < 63 * m
  ·rw [List.getElem?_append_left (by omega)]; exact partsP_get l m i hi
  ·rw [List.getElem?_append_right (by omega), hl, chunkP_get l m (i - 63 * m) (by omega), show 63 * m + (i - 63 * m) = i by omega]
theorem partsP_take (l : List UInt8) (m k n : Nat) (h : k + n ≤ l.length) (h2 : l.length ≤ 63 * m) : ((partsP l m).drop k).take n = (l.drop k).take n := by
 apply List.ext_getElem?
 intro i; rw [List.getElem?_take, List.getElem?_take]
 by_cases hi : i < n
 ·rw [if_pos hi, if_pos hi, List.getElem?_drop, List.getElem?_drop, partsP_get l m (k + i) (by omega), List.getD_eq_getElem?_getD, List.getElem?_eq_getElem (by omega)]; rfl
 ·rw [if_neg hi, if_neg hi]
theorem partsP_zero (l : List UInt8) (m : Nat) : ∀ x ∈ (partsP l m).drop l.length, x = 0 := by
 intro x hx; obtain ⟨i, hi⟩ := List.getElem?_of_mem hx; rw [List.getElem?_drop] at hi
 by_cases h : l.length + i < 63 * m
 ·rw [partsP_get l m _ h, List.getD_eq_getElem?_getD, List.getElem?_eq_none (by omega)] at hi; exact (Option.some.inj hi).symm
 ·rw [List.getElem?_eq_none (by rw [partsP_len]; omega)] at hi
  cases hi
def Begins (s : ByteArray) (l : List UInt8) (x y : UInt8) (c : Nat) : Prop := ∃ tail, s.data.toList = secs l [x] [y] c ++ tail
theorem Begins.size {s : ByteArray} {l : List UInt8} {x y : UInt8} {c : Nat} (h : Begins s l x y c) : 64 * c ≤ s.size := by
 obtain ⟨t, ht⟩ := h; have h1 : s.data.toList.length = s.size := by rw [Array.length_toList]; rfl
 rw [ht, List.length_append, secs_len] at h1; omega
theorem Begins.parts {s : ByteArray} {l : List UInt8} {x y : UInt8} {c : Nat} (h : Begins s l x y c) : ∀ m, m ≤ c → parts s m = partsP l m
 | 0, _ => rfl
 | m + 1, hm => by
  obtain ⟨t, ht⟩ := h; rw [Z.parts, partsP, Begins.parts ⟨t, ht⟩ m (by omega)]
  congr 1
  have e : (s.extract (64 * m) (64 * m + 63)).data.toList = (s.data.toList.drop (64 * m)).take 63 := by simp
  rw [e, ht, List.drop_append_of_le_length (by rw [secs_len]; omega), List.take_append_of_le_length (by rw [List.length_drop, secs_len]; omega)]; exact (secs_part l x y c m (by omega)).1
theorem Begins.mark {s : ByteArray} {l : List UInt8} {x y : UInt8} {c : Nat} (h : Begins s l x y c) (i : Nat) (hi : i < c) : bt s ((64 * i + 63 : Nat) : Int) = ((if i = 0 then x else y).toNat : Int) := by
 have hs := h.size; obtain ⟨t, ht⟩ := h; have h2 := (secs_part l x y c i hi).2; rw [btg s (64 * i + 63) (by omega)]
 congr 2
 apply Option.some.inj
 rw [← List.getElem?_eq_getElem, ht, List.getElem?_append_left (by rw [secs_len]; omega)]; exact h2
theorem Begins.byte {s : ByteArray} {l : List UInt8} {x y : UInt8} {c : Nat} (h : Begins s l x y c) (i : Nat) (hi : i < 63) (hc : 0 < c) (hl : i < l.length) : bt s (i : Int) = ((l[i]'hl).toNat : Int) := by
 have hs := h.size; have hp := h.parts 1 (by omega); have h1 : s.data.toList.take 63 = chunkP l 0 := by
  obtain ⟨t, ht⟩ := h; have := (secs_part l x y c 0 hc).1; rw [Nat.mul_zero, List.drop_zero] at this; rw [ht, List.take_append_of_le_length (by rw [secs_len]; omega)]; exact this
 rw [btg s i (by omega)]
 congr 2
 apply Option.some.inj
 rw [← List.getElem?_eq_getElem]; have h3 : s.data.toList[i]? = (s.data.toList.take 63)[i]? := by rw [List.getElem?_take, if_pos hi]
 rw [h3, h1, chunkP_get l 0 i hi, Nat.mul_zero, Nat.zero_add, List.getD_eq_getElem?_getD, List.getElem?_eq_getElem hl]; rfl
theorem ext_drop (L : List UInt8) (a : Nat) : ((⟨L.toArray⟩ : ByteArray).extract a (⟨L.toArray⟩ : ByteArray).size).data.toList = L.drop a := by
 have h : ByteArray.size (⟨L.toArray⟩ : ByteArray) = L.length := by simp [ByteArray.size]
 rw [h]; simp; exact List.take_of_length_le (by rw [List.length_drop]; exact Nat.le_refl _)
theorem rdNode_good (s e : ByteArray) (sec : Int) (c : Nat) (he : 1 ≤ e.size ∧ e.size ≤ 4000) (hc : c = (e.size + 66) / 63) (h : Begins s (nodeRecL e) 83 77 c) : rdNode s sec (e.size : Int) = (1, e, 0, ⟨#[]⟩, wrap64 (sec + (c : Int))) := by
 have hs := h.size; have hl : (nodeRecL e).length = 4 + e.size := by
  unfold nodeRecL; rw [List.length_append, numL_length, Array.length_toList]; rfl
 have hb : body s c = ⟨(partsP (nodeRecL e) c).toArray⟩ := by unfold body; rw [h.parts c (Nat.le_refl _)]
 have hn : ((e.size : Int) + 66) / 63 = (c : Int) := by omega
 have hmk : marked s c := by
  intro i hi h0; have := h.mark i hi; rw [if_neg (by omega)] at this; exact this
 have hzr : zer ((⟨(partsP (nodeRecL e) c).toArray⟩ : ByteArray).extract (4 + e.size) (⟨(partsP (nodeRecL e) c).toArray⟩ : ByteArray).size) := by
  have h1 := partsP_zero (nodeRecL e) c; rw [hl] at h1; intro x hx; rw [ext_drop] at hx; exact h1 x hx
 unfold rdNode; rw [hn, Int.toNat_natCast, Int.toNat_natCast, hb, if_pos ⟨by omega, by omega, by omega, hmk, hzr⟩]
 ·refine Prod.ext rfl (Prod.ext ?_ rfl)
  apply ByteArray.ext
  apply Array.toList_inj.mp
  have h1 := partsP_take (nodeRecL e) c 4 e.size (by omega) (by omega); have h2 : ((nodeRecL e).drop 4).take e.size = e.data.toList := by
   unfold nodeRecL; rw [List.drop_append_of_le_length (by rw [numL_length]; omega), List.drop_of_length_le (by rw [numL_length]; omega), List.nil_append]; exact List.take_of_length_le (by rw [Array.length_toList]; exact Nat.le_refl _)
  rw [h2] at h1; rw [← h1]; simp
end Go.Proofs.YtonbmghgbblifaaDoor.Z
end
section
namespace Go.Proofs.YtonbmghgbblifaaDoor.Z
open Go.RowKit Go.Proofs.YtonbmghgbblifaaDoor Go.Proofs.YtonbmghgbblifaaDoorW.PrintWords Go.Proofs.YtonbmghgbblifaaDoorW.PrintLast
set_option linter.unusedVariables false
set_option linter.unusedSimpArgs false
def nb (s : ByteArray) (i : Nat) : Nat := (s.data.toList.getD i 0).toNat
theorem nb_lt (s : ByteArray) (i : Nat) : nb s i < 256 := UInt8.toNat_lt _
theorem nb_get (s : ByteArray) (i : Nat) (h : i < s.data.toList.length) : nb s i = (s.data.toList[i]'h).toNat := by
 unfold nb; rw [List.getD_eq_getElem?_getD, List.getElem?_eq_getElem h]; rfl
theorem bt_nb (s : ByteArray) (i : Nat) (h : i < s.size) : bt s (i : Int) = (nb s i : Int) := by
 rw [btg s i h, nb_get s i h]
theorem exl (s : ByteArray) (a b : Nat) : (s.extract a b).data.toList = (s.data.toList.drop a).take (b - a) := by
 simp only [ByteArray.data_extract, Array.toList_extract, List.extract]
theorem nb_ext (s : ByteArray) (F i : Nat) (h : F + i < s.size) : nb (s.extract F s.size) i = nb s (F + i) := by
 unfold nb; rw [exl, List.getD_eq_getElem?_getD, List.getD_eq_getElem?_getD, List.getElem?_take, if_pos (by omega), List.getElem?_drop]
def b4 (s : ByteArray) : Nat := nb s 0 + nb s 1 * 256 + nb s 2 * 65536 + nb s 3 * 16777216
theorem bits_or_i64 (a b : Nat) (ha : a < 9223372036854775808) (hb : b < 9223372036854775808) : Go.bits .or .i64 (a : Int) (b : Int) = ((a ||| b : Nat) : Int) := by
 show IntKind.i64.wrap (((BitVec.ofInt 64 (a : Int) ||| BitVec.ofInt 64 (b : Int)).toNat : Nat) : Int) = _; rw [or_vec, Nat.mod_eq_of_lt (by omega), Nat.mod_eq_of_lt (by omega), wrap_i64 _ (Nat.or_lt_two_pow (n := 63) ha hb)]
theorem or_sum (a b k : Nat) (ha : a < 2 ^ k) : a ||| (b * 2 ^ k) = a + b * 2 ^ k := by
 rw [Nat.or_comm, Nat.mul_comm b, ← Nat.two_pow_add_eq_or_of_lt ha, Nat.add_comm]
theorem lowFirst_f (s : ByteArray) (h : 4 ≤ s.size) : impl_lowFirst.f s = some (b4 s : Int) := by
 unfold impl_lowFirst.f; have l0 := nb_lt s 0; have l1 := nb_lt s 1; have l2 := nb_lt s 2; have l3 := nb_lt s 3; rw [if_pos (by omega), if_pos (by omega), if_pos (by omega), if_pos (by omega)]; rw [show bt s 0 = (nb s 0 : Int) from bt_nb s 0 (by omega), show bt s 1 = (nb s 1 : Int) from bt_nb s 1 (by omega), show bt s 2 = (nb s 2 : Int) from bt_nb s 2 (by omega), show bt s 3 = (nb s 3 : Int) from bt_nb s 3 (by omega)]; rw [w64c (by omega) (by omega), w64c (x := (nb s 1 : Int)) (by omega) (by omega), w64c (x := (nb s 2 : Int)) (by omega) (by omega), w64c (x := (nb s 3 : Int)) (by omega) (by omega)]; rw [w64c (x := (nb s 1 : Int) * 256) (by omega) (by omega), w64c (x := (nb s 2 : Int) * 65536) (by omega) (by omega), w64c (x := (nb s 3 : Int) * 16777216) (by omega) (by omega)]; rw [show (nb s 1 : Int) * 256 = ((nb s 1 * 2 ^ 8 : Nat) : Int) by omega, show (nb s 2 : Int) * 65536 = ((nb s 2 * 2 ^ 16 : Nat) : Int) by omega, show (nb s 3 : Int) * 16777216 = ((nb s 3 * 2 ^ 24 : Nat) : Int) by omega]; rw [bits_or_i64 _ _ (by omega) (by omega), or_sum _ _ 8 (by omega), bits_or_i64 _ _ (by omega) (by omega), or_sum _ _ 16 (by omega), bits_or_i64 _ _ (by omega) (by omega), or_sum _ _ 24 (by omega)]; refine congrArg some ?_; unfold b4; omega
theorem exsT (s : ByteArray) (F : Nat) : (s.extract F s.size).size = s.size - F := by rw [ByteArray.size_extract]; omega
theorem take_of (s T : ByteArray) (F m : Nat) (hT : s.extract F s.size = T) : (s.extract F (F + m)).data.toList = T.data.toList.take m := by
 have e : T.data.toList = (s.data.toList.drop F).take (s.size - F) := by rw [← hT, exl]
 rw [e, exl, List.take_take, Nat.add_sub_cancel_left]; have hl : (s.data.toList.drop F).length = s.size - F := by rw [List.length_drop]; rfl
 rcases Nat.le_total m (s.size - F) with h | h
 ·rw [Nat.min_eq_left h]
 ·rw [Nat.min_eq_right h, List.take_of_length_le (by rw [hl]; exact h), List.take_of_length_le (by rw [hl]; exact Nat.le_refl _)]
end Go.Proofs.YtonbmghgbblifaaDoor.Z
end
section
namespace Go.Proofs.YtonbmghgbblifaaDoor.Z
open Go.RowKit Go.Proofs.YtonbmghgbblifaaDoor Go.Proofs.YtonbmghgbblifaaDoorW.PrintWords Go.Proofs.YtonbmghgbblifaaDoorW.PrintLast
set_option linter.unusedVariables false
set_option linter.unusedSimpArgs false
theorem numL4_get (n : Nat) (rest : List UInt8) (i : Nat) (hi : i < 4) (h : i < (numL n 4 true 4 ++ rest).length) : ((numL n 4 true 4 ++ rest)[i]'h).toNat = n / 2 ^ (8 * i) % 256 := by
 have hl := numL_length n 4 true 4; rw [List.getElem_append_left (by omega)]; simp only [numL, List.getElem_map, List.getElem_range, numByte, if_true]; rw [UInt8.toNat_ofNat']
theorem Begins.b4 {s : ByteArray} {n : Nat} {rest : List UInt8} {x y : UInt8} {c : Nat} (h : Begins s (numL n 4 true 4 ++ rest) x y c) (hc : 0 < c) (hn : n < 4294967296) : Z.b4 s = n := by
 have hs := h.size; have hl : 4 ≤ (numL n 4 true 4 ++ rest).length := by rw [List.length_append, numL_length]; omega
 have hb : ∀ i, i < 4 → nb s i = n / 2 ^ (8 * i) % 256 := by
  intro i hi; have h1 := h.byte i (by omega) hc (by omega); rw [bt_nb s i (by omega), numL4_get n rest i hi (by omega)] at h1; exact Int.ofNat_inj.mp h1
 unfold Z.b4; rw [hb 0 (by omega), hb 1 (by omega), hb 2 (by omega), hb 3 (by omega)]; simp only [Nat.reduceMul, Nat.reducePow]; omega
theorem Begins.front {s : ByteArray} {l : List UInt8} {x y : UInt8} {c : Nat} (h : Begins s l x y c) (hc : 0 < c) : s.data.toList.take 63 = partsP l 1 := by
 have := h.parts 1 (by omega); rw [← this]; show _ = [] ++ (s.extract (64 * 0) (64 * 0 + 63)).data.toList; rw [List.nil_append]; simp
theorem readCommit_good (s r : ByteArray) (n : Nat) (sec : Int) (hn : 1 ≤ n ∧ n ≤ 1000000) (hr : r.size ≤ 32) (hbig : s.size ≤ 1099511627776) (h : Begins s (commitRecL n r) 67 67 1) : impl_readCommit.f s sec = some (2, ⟨#[]⟩, (n : Int), r, wrap64 (sec + 1)) := by
 have hs := h.size; have hl : (commitRecL n r).length = 5 + r.size := by unfold commitRecL; rw [List.length_append, List.length_append, numL_length, numL_length, Array.length_toList]; rfl
 have h4 : Z.b4 s = n := by
  have h' := h; unfold commitRecL at h'; rw [List.append_assoc] at h'; exact h'.b4 (by omega) (by omega)
 have hz : bt s 4 = (r.size : Int) := by
  have h1 := h.byte 4 (by omega) (by omega) (by omega); rw [show (4 : Int) = ((4 : Nat) : Int) from rfl, h1]; have hg : (commitRecL n r)[4]? = some (UInt8.ofNat r.size) := by
   unfold commitRecL; rw [List.append_assoc, List.getElem?_append_right (by rw [numL_length]; omega), numL_length, List.getElem?_append_left (by rw [numL_length]; omega)]; simp [numL, numByte]
  rw [List.getElem?_eq_getElem (by omega)] at hg; rw [Option.some.inj hg, UInt8.toNat_ofNat']; omega
 have hf := h.front (by omega); have hx : s.extract 5 (5 + r.size) = r := by
  apply ByteArray.ext
  apply Array.toList_inj.mp
  have e : (s.extract 5 (5 + r.size)).data.toList = (s.data.toList.drop 5).take r.size := by simp
  have h1 := partsP_take (commitRecL n r) 1 5 r.size (by omega) (by omega); rw [← hf, List.drop_take, List.take_take, Nat.min_eq_left (by omega)] at h1; rw [e, h1]; unfold commitRecL; rw [List.drop_append_of_le_length (by rw [List.length_append, numL_length, numL_length]; omega), List.drop_of_length_le (by rw [List.length_append, numL_length, numL_length]; omega), List.nil_append]; exact List.take_of_length_le (by rw [Array.length_toList]; exact Nat.le_refl _)
 have hzz : zer (s.extract (5 + r.size) 63) := by
  have h1 := partsP_zero (commitRecL n r) 1; rw [hl, ← hf] at h1; intro x hx; refine h1 x ?_; have e : (s.extract (5 + r.size) 63).data.toList = (s.data.toList.take 63).drop (5 + r.size) := by rw [List.drop_take]; simp
  rw [← e]; exact hx
 have w4 : wrap64 (bt s 4) = (r.size : Int) := by rw [hz]; unfold wrap64; omega
 have w5 : wrap64 (5 + (r.size : Int)) = ((5 + r.size : Nat) : Int) := by unfold wrap64; omega
 unfold impl_readCommit.f; rw [lowFirst_f s (by omega), Option.bind_some, h4, w4, w5]; simp only [Int.toNat_natCast]; rw [hx, if_pos (by omega), if_neg (by omega), if_neg (by omega), if_neg (by omega), if_pos (by omega), if_pos (by omega), if_pos (by omega)]; have hzf : impl_zeros.f (s.extract (5 + r.size) 63) = some true := by
  unfold impl_zeros.f zerB; rw [if_pos (by rw [ByteArray.size_extract]; omega), decide_eq_true hzz]
 rw [hzf, Option.bind_some, if_pos rfl, if_pos (by omega), if_pos (by omega)]; unfold strings_Clone.f; rw [if_pos (by omega), Option.bind_some]
theorem readRec_commit (s r : ByteArray) (n : Nat) (hn : 1 ≤ n ∧ n ≤ 1000000) (hr : r.size ≤ 32) (hbig : s.size ≤ 1099511627776) (h : Begins s (commitRecL n r) 67 67 1) : impl_ReadRecord.f s 0 = some (2, ⟨#[]⟩, (n : Int), r, 1) := by
 have hs := h.size; have hm := h.mark 0 (by omega); rw [if_pos rfl] at hm; have hd : (s.size : Int) / 64 = ((s.size / 64 : Nat) : Int) := rfl; have he : s.extract 0 s.size = s := by
  apply ByteArray.ext
  apply Array.toList_inj.mp
  simp
 unfold impl_ReadRecord.f; rw [if_pos hbig, if_neg (by omega), if_neg (by omega), show (0 : Int).toNat * 64 = 0 from rfl, he, if_neg (by omega), if_pos (show bt s 63 = 67 from hm), readCommit_good s r n 0 hn hr hbig h]; rw [show wrap64 ((0 : Int) + 1) = 1 from by unfold wrap64; omega]
theorem readRec_node (s e : ByteArray) (c : Nat) (he : 1 ≤ e.size ∧ e.size ≤ 4000) (hc : c = (e.size + 66) / 63) (hbig : s.size ≤ 1099511627776) (h : Begins (s.extract 64 s.size) (nodeRecL e) 83 77 c) : impl_ReadRecord.f s 1 = some (1, e, 0, ⟨#[]⟩, 1 + (c : Int)) := by
 have hs := h.size; obtain ⟨T, hT⟩ : ∃ T, s.extract 64 s.size = T := ⟨_, rfl⟩
 rw [hT] at h hs; have hTs : T.size ≤ s.size - 64 := by rw [← hT, ByteArray.size_extract]; omega
 have hm := h.mark 0 (by omega); rw [if_pos rfl] at hm; have hd : (s.size : Int) / 64 = ((s.size / 64 : Nat) : Int) := rfl; have hb4 : Z.b4 T = e.size := Begins.b4 (n := e.size) (rest := e.data.toList) (by unfold nodeRecL at h; exact h) (by omega) (by omega); have hg := rdNode_good T e 1 c he hc h; rw [show wrap64 (1 + (c : Int)) = 1 + (c : Int) from by unfold wrap64; omega] at hg; unfold impl_ReadRecord.f; rw [if_pos hbig, if_neg (by omega), if_neg (by omega), show (1 : Int).toNat * 64 = 64 from rfl, hT, if_neg (by omega), if_neg (by rw [show bt T 63 = 83 from hm]; decide), if_pos (show bt T 63 = 83 from hm)]; unfold impl_readNode.f; rw [lowFirst_f T (by omega), Option.bind_some, if_pos (by omega), hb4, hg]
theorem readRec_spoilt (s T0 e : ByteArray) (c j : Nat) (he : 1 ≤ e.size ∧ e.size ≤ 4000) (hc : c = (e.size + 66) / 63) (hj : j < c) (hbig : s.size ≤ 1099511627776) (h : Begins T0 (nodeRecL e) 83 77 c)
  (hsz : (s.extract 64 s.size).size = T0.size) (h0 : bt (s.extract 64 s.size) ((64 * j + 63 : Nat) : Int) = 0) (hrest : ∀ i, i < 64 * c → i ≠ 64 * j + 63 → nb (s.extract 64 s.size) i = nb T0 i) : ∃ r, impl_ReadRecord.f s 1 = some (0, r) := by
 have hs := h.size; obtain ⟨T, hT⟩ : ∃ T, s.extract 64 s.size = T := ⟨_, rfl⟩
 rw [hT] at hsz h0 hrest; have hTs : T.size ≤ s.size - 64 := by rw [← hT, ByteArray.size_extract]; omega
 have hd : (s.size : Int) / 64 = ((s.size / 64 : Nat) : Int) := rfl; unfold impl_ReadRecord.f; rw [if_pos hbig, if_neg (by omega), if_neg (by omega), show (1 : Int).toNat * 64 = 64 from rfl, hT, if_neg (by omega)]
 by_cases hj0 : j = 0
 ·subst hj0; rw [if_neg (by rw [show bt T 63 = 0 from h0]; decide), if_neg (by rw [show bt T 63 = 0 from h0]; decide)]; exact ⟨_, rfl⟩
 ·have hm := h.mark 0 (by omega); rw [if_pos rfl] at hm; have hm2 : bt T 63 = 83 := by
   rw [show (63 : Int) = ((63 : Nat) : Int) from rfl, bt_nb T 63 (by omega), hrest 63 (by omega) (by omega), ← bt_nb T0 63 (by omega)]; exact hm
  have hb4 : Z.b4 T0 = e.size := Begins.b4 (rest := e.data.toList) h (by omega) (by omega); have hb4' : Z.b4 T = e.size := by
   rw [← hb4]; unfold Z.b4; rw [hrest 0 (by omega) (by omega), hrest 1 (by omega) (by omega), hrest 2 (by omega) (by omega), hrest 3 (by omega) (by omega)]
  rw [if_neg (by rw [hm2]; decide), if_pos hm2]; unfold impl_readNode.f; rw [lowFirst_f T (by omega), Option.bind_some, if_pos (by omega), hb4', rd_bad T 1 e.size c j hc hj (by omega) (by rw [h0]; decide)]; exact ⟨_, rfl⟩
end Go.Proofs.YtonbmghgbblifaaDoor.Z
end
section
namespace Go.Proofs.YtonbmghgbblifaaDoor
open Go.RowKit
set_option linter.unusedVariables false
set_option linter.unusedSimpArgs false
theorem bExt {a b : ByteArray} (h : a.data.toList = b.data.toList) : a = b := ByteArray.ext (Array.toList_inj.mp h)
theorem szL (a : ByteArray) : a.data.toList.length = a.size := by rw [Array.length_toList]; rfl
theorem exL (s : ByteArray) (a b : Nat) : (s.extract a b).data.toList = (s.data.toList.drop a).take (b - a) := by simp
theorem byteAt_drop (s : ByteArray) (i j : Nat) : byteAt s (i + j) = ((s.data.toList.drop i).getD j 0).toNat := by
 unfold byteAt; rw [List.getD_eq_getElem?_getD, List.getD_eq_getElem?_getD, List.getElem?_drop]
theorem sizedS_list (x : ByteArray) (hx : x.size ≤ 65535) : (sizedS x).data.toList = UInt8.ofNat (x.size / 256) :: UInt8.ofNat (x.size % 256) :: x.data.toList := by
 have h1 : ((x.size : Int) / 256).toNat = x.size / 256 := by omega
 have h2 : ((x.size : Int) % 256).toNat = x.size % 256 := by omega
 unfold sizedS byteS; rw [h1, h2]; simp [ByteArray.data_append]
theorem u8_of (n : Nat) (h : n < 256) : (UInt8.ofNat n).toNat = n := by rw [UInt8.toNat_ofNat']; omega
theorem piece_ok (s x : ByteArray) (i : Nat) (rest : List UInt8) (hx : x.size ≤ 65535) (h : s.data.toList.drop i = (sizedS x).data.toList ++ rest) : pieceS s i = some (x, i + 2 + x.size) := by
 rw [sizedS_list x hx] at h; have hl := congrArg List.length h; rw [List.length_drop, szL, List.length_append, List.length_cons, List.length_cons, szL] at hl; have b0 : byteAt s i = x.size / 256 := by
  have := byteAt_drop s i 0; rw [Nat.add_zero, h] at this; rw [this]; exact u8_of _ (by omega)
 have b1 : byteAt s (i + 1) = x.size % 256 := by
  have := byteAt_drop s i 1; rw [h] at this; rw [this]; exact u8_of _ (by omega)
 have e : byteAt s i * 256 + byteAt s (i + 1) = x.size := by rw [b0, b1]; omega
 unfold pieceS; rw [e, if_neg (by omega), if_neg (by omega)]; refine congrArg some (Prod.ext ?_ rfl)
 apply bExt
 dsimp only; rw [exL, show i + 2 + x.size - (i + 2) = x.size by omega, ← List.drop_drop, h]; show (List.drop 2 (_ :: _ :: (x.data.toList ++ rest))).take x.size = _; rw [List.drop_succ_cons, List.drop_succ_cons, List.drop_zero, List.take_append_of_le_length (by rw [szL]; exact Nat.le_refl _), List.take_of_length_le (by rw [szL]; exact Nat.le_refl _)]
theorem decS_enc (k v l r : ByteArray) (x : Int) (h : nodeOk k v l r x = true) : decS (encNode k v l r x) x = some (k, v, l, r) := by
 have hE : encNode k v l r x = sizedS k ++ sizedS v ++ byteS (flagsOf l r) ++ l ++ r := by unfold encNode; rw [if_pos h]
 obtain ⟨s, hs⟩ : ∃ s, encNode k v l r x = s := ⟨_, rfl⟩
 have hf : finS s x k v l r = some (k, v, l, r) := by unfold finS; rw [if_pos hs]
 rw [hs] at hE ⊢; have hok := h; unfold nodeOk at hok; simp only [Bool.and_eq_true, decide_eq_true_eq] at hok; obtain ⟨⟨⟨⟨⟨hw, hk1⟩, hk2⟩, hv⟩, hl⟩, hr⟩ := hok; have hL : s.data.toList = (sizedS k).data.toList ++ ((sizedS v).data.toList ++ ((byteS (flagsOf l r)).data.toList ++ (l.data.toList ++ r.data.toList))) := by rw [hE]; simp [ByteArray.data_append]
 have zk : (sizedS k).data.toList.length = 2 + k.size := by rw [szL, sizedS_size]
 have zv : (sizedS v).data.toList.length = 2 + v.size := by rw [szL, sizedS_size]
 have p1 := piece_ok s k 0 _ (by omega) (by rw [List.drop_zero]; exact hL); have d1 : s.data.toList.drop (0 + 2 + k.size) = (sizedS v).data.toList ++ ((byteS (flagsOf l r)).data.toList ++ (l.data.toList ++ r.data.toList)) := by
  rw [hL, show 0 + 2 + k.size = (sizedS k).data.toList.length by omega, List.drop_left]
 have p2 := piece_ok s v (0 + 2 + k.size) _ (by omega) d1; have d2 : s.data.toList.drop (0 + 2 + k.size + 2 + v.size) = (byteS (flagsOf l r)).data.toList ++ (l.data.toList ++ r.data.toList) := by
  rw [show 0 + 2 + k.size + 2 + v.size = (0 + 2 + k.size) + (2 + v.size) by omega, ← List.drop_drop, d1, ← zv, List.drop_left]
 obtain ⟨n, hn⟩ : ∃ n, 0 + 2 + k.size + 2 + v.size = n := ⟨_, rfl⟩
 rw [hn] at p2 d2; have hfl : flagsOf l r = 0 ∨ flagsOf l r = 1 ∨ flagsOf l r = 2 ∨ flagsOf l r = 3 := by unfold flagsOf; split <;> split <;> omega
 have hbl : (byteS (flagsOf l r)).data.toList = [UInt8.ofNat (flagsOf l r).toNat] := rfl; rw [hbl] at d2; have hsz : s.size = n + 1 + l.size + r.size := by
  have := congrArg List.length d2; rw [List.length_drop, szL, List.length_append, List.length_append, szL, szL, List.length_singleton] at this; omega
 have hb : byteAt s n = (flagsOf l r).toNat := by
  have := byteAt_drop s n 0; rw [Nat.add_zero, d2] at this; rw [this]; exact u8_of _ (by omega)
 have d3 : s.data.toList.drop (n + 1) = l.data.toList ++ r.data.toList := by
  rw [← List.drop_drop, d2]; rfl
 have eT : s.extract (n + 1) s.size = l ++ r := by
  apply bExt
  rw [exL, d3, List.take_of_length_le (by rw [List.length_append, szL, szL]; omega)]; simp [ByteArray.data_append]
 unfold decS; rw [p1]; dsimp only; rw [p2]; dsimp only; rw [if_neg (by rw [hw]; simp; omega), hb]
 by_cases h0 : l.size = 0
 ·have hl0 : l = ⟨#[]⟩ := bExt (List.eq_nil_of_length_eq_zero (by rw [szL]; exact h0)); have hfv : (flagsOf l r).toNat % 2 ≠ 1 := by unfold flagsOf; rw [if_pos h0]; split <;> omega
  rw [if_neg hfv, eT, hl0]; rw [hl0] at hf; have : (⟨#[]⟩ : ByteArray) ++ r = r := bExt (by simp [ByteArray.data_append]); rw [this]; exact hf
 ·have hfv : (flagsOf l r).toNat % 2 = 1 := by unfold flagsOf; rw [if_neg h0]; split <;> omega
  unfold hOk at hl; rw [Bool.or_eq_true, decide_eq_true_eq, decide_eq_true_eq] at hl; have hx : x = (l.size : Int) := by omega
  have e1 : (l ++ r).extract 0 x.toNat = l := by
   apply bExt
   rw [exL, hx, Int.toNat_natCast, List.drop_zero, Nat.sub_zero]; simp only [ByteArray.data_append, Array.toList_append]; rw [List.take_append_of_le_length (by rw [szL]; exact Nat.le_refl _), List.take_of_length_le (by rw [szL]; exact Nat.le_refl _)]
  have e2 : (l ++ r).extract x.toNat (s.size - (n + 1)) = r := by
   apply bExt
   rw [exL, hx, Int.toNat_natCast]; simp only [ByteArray.data_append, Array.toList_append]; rw [← szL l, List.drop_left, List.take_of_length_le (by rw [szL, szL]; omega)]
  rw [if_pos hfv, if_neg (by omega), eT, e1, e2]; exact hf
end Go.Proofs.YtonbmghgbblifaaDoor
end
section
namespace Go.Proofs.YtonbmghgbblifaaDoor.Z
open Go.RowKit Go.Proofs.YtonbmghgbblifaaDoor Go.Proofs.YtonbmghgbblifaaDoorW.PrintWords Go.Proofs.YtonbmghgbblifaaDoorW.PrintLast
set_option linter.unusedVariables false
set_option linter.unusedSimpArgs false
def spoil (s : ByteArray) (t : Nat) : ByteArray := s.extract 0 t ++ (⟨#[0]⟩ : ByteArray) ++ s.extract (t + 1) s.size
theorem spoil_list (s : ByteArray) (t : Nat) (h : t < s.size) : (spoil s t).data.toList = s.data.toList.take t ++ 0 :: s.data.toList.drop (t + 1) := by
 unfold spoil; have e1 : (s.extract 0 t).data.toList = s.data.toList.take t := by rw [exl]; simp
 have e2 : (s.extract (t + 1) s.size).data.toList = s.data.toList.drop (t + 1) := by
  rw [exl]; exact List.take_of_length_le (by rw [List.length_drop, ba_len]; omega)
 rw [ba_app, ba_app, e1, e2, List.append_assoc]; rfl
theorem spoil_size (s : ByteArray) (t : Nat) (h : t < s.size) : (spoil s t).size = s.size := by
 rw [← ba_len, spoil_list s t h, List.length_append, List.length_cons, List.length_take, List.length_drop, ba_len]; omega
theorem spoil_nb (s : ByteArray) (t i : Nat) (h : t < s.size) (hi : i ≠ t) : nb (spoil s t) i = nb s i := by
 unfold nb; rw [spoil_list s t h, List.getD_eq_getElem?_getD, List.getD_eq_getElem?_getD]; have hl : (s.data.toList.take t).length = t := by rw [List.length_take, ba_len]; omega
 by_cases h1 : i < t
 ·rw [List.getElem?_append_left (by omega), List.getElem?_take, if_pos h1]
 ·rw [List.getElem?_append_right (by omega), hl, show i - t = (i - t - 1) + 1 by omega, List.getElem?_cons_succ, List.getElem?_drop, show t + 1 + (i - t - 1) = i by omega]
theorem spoil_at (s : ByteArray) (t : Nat) (h : t < s.size) : nb (spoil s t) t = 0 := by
 unfold nb; have hl : (s.data.toList.take t).length = t := by rw [List.length_take, ba_len]; omega
 rw [spoil_list s t h, List.getD_eq_getElem?_getD, List.getElem?_append_right (by omega), hl, Nat.sub_self]; rfl
theorem wPick_f (M : List Int) (hM : ∀ x ∈ M, 0 ≤ x ∧ x < 256) : ∃ x, laws_wPick.f M 3 = some x ∧ 0 ≤ x ∧ x < 256 := by
 unfold laws_wPick.f
 by_cases h0 : (M.length : Int) = 0
 ·rw [if_pos h0]; exact ⟨_, rfl, by decide, by decide⟩
 ·have m1 := tmod_in 3 (M.length : Int) (by omega) (by omega); have hr : 0 ≤ rd M (Int.tmod 3 (M.length : Int)) ∧ rd M (Int.tmod 3 (M.length : Int)) < 256 := by
   unfold rd; rw [List.getD_eq_getElem?_getD]
   cases hg : M[(Int.tmod 3 (M.length : Int)).toNat]? with
   | none => exact ⟨Int.le_refl _, by decide⟩
   | some x => exact hM x (List.mem_of_getElem? hg)
  rw [if_neg h0, if_pos m1.1, if_pos m1.2, w64D (by omega) (by omega)]; exact ⟨_, rfl, hr⟩
theorem codec_j4 (M : List Int) (hM : ∀ x ∈ M, 0 ≤ x ∧ x < 256) (s rec e : ByteArray) (c k : Nat) (he : 1 ≤ e.size ∧ e.size ≤ 4000) (hc : c = (e.size + 66) / 63) (hrec : rec.size = 64 * c) (hs : 64 + 64 * c ≤ s.size) (hs2 : s.size ≤ 10000) (hb : Begins (s.extract 64 s.size) (nodeRecL e) 83 77 c) :
  laws_FnCodec.j4 (k + 1) M rec s false = some true := by
 obtain ⟨x, hx, x0, x1⟩ := wPick_f M hM; have m0 := tmod_in x (c : Int) x0 (by omega); obtain ⟨j, hj⟩ := Int.eq_ofNat_of_zero_le m0.1; have hjc : j < c := by rw [hj] at m0; omega
 have hd : wrap64 ((rec.size : Int) / 64) = (c : Int) := by rw [w64D (by omega) (by omega)]; omega
 have e1 : wrap64 ((j : Int) * 64) = ((64 * j : Nat) : Int) := by rw [w64D (by omega) (by omega)]; omega
 have e2 : wrap64 (64 + ((64 * j : Nat) : Int)) = ((64 + 64 * j : Nat) : Int) := by rw [w64D (by omega) (by omega)]; omega
 have e3 : wrap64 (((64 + 64 * j : Nat) : Int) + 63) = ((64 + (64 * j + 63) : Nat) : Int) := by rw [w64D (by omega) (by omega)]; omega
 have e4 : wrap64 (((64 + (64 * j + 63) : Nat) : Int) + 1) = ((64 + (64 * j + 63) + 1 : Nat) : Int) := by rw [w64D (by omega) (by omega)]; omega
 rw [laws_FnCodec.j4, if_neg (by decide), hx, Option.bind_some, hd, if_neg (by omega), hj, e1, e2, e3, e4]; obtain ⟨t, ht⟩ : ∃ t, 64 + (64 * j + 63) = t := ⟨_, rfl⟩
 rw [ht]; have hts : t < s.size := by omega
 simp only [Int.toNat_natCast]; rw [if_pos (by omega), if_pos (by omega), if_pos (by rw [ByteArray.size_extract]; omega), if_pos (by omega), if_pos (by omega)]; rw [if_pos (by rw [ByteArray.size_append, ByteArray.size_extract, ByteArray.size_extract]; show min t s.size - 0 + 1 + _ ≤ _; omega)]; show (impl_ReadRecord.f (spoil s t) 1).bind _ = _; have hz := spoil_size s t hts; have hT : ((spoil s t).extract 64 (spoil s t).size).size = (s.extract 64 s.size).size := by rw [exsT, exsT, hz]
 obtain ⟨r, hr⟩ := readRec_spoilt (spoil s t) (s.extract 64 s.size) e c j he hc hjc (by omega) hb hT
  (by
   rw [bt_nb _ _ (by rw [exsT, hz]; omega), nb_ext _ _ _ (by omega), ht, spoil_at s t hts]; rfl)
  (fun i hi hne => by
   rw [nb_ext _ _ _ (by omega), nb_ext _ _ _ (by omega), spoil_nb s t _ hts (by omega)])
 rw [hr]; rfl
theorem laws_FnCodec_f (L M : List Int) (hL : ∀ x ∈ L, 0 ≤ x ∧ x < 256) (hM : ∀ x ∈ M, 0 ≤ x ∧ x < 256) : laws_FnCodec.f 10000 L M = some true := by
 unfold laws_FnCodec.f; obtain ⟨K, hK⟩ : ∃ K : Nat, 10000 = K + 5 := ⟨9995, rfl⟩
 rw [hK]
 by_cases hl : (L.length : Int) > 1048576
 ·rw [if_pos hl, laws_FnCodec.j0, if_pos rfl]
 rw [if_neg hl]
 by_cases hm : (M.length : Int) > 1048576
 ·rw [decide_eq_true hm, laws_FnCodec.j0, if_pos rfl]
 rw [decide_eq_false hm, laws_FnCodec.j0, if_neg (by decide)]; obtain ⟨a, b, c, d, w, hd⟩ := DrawEncodeNode_s (L := L) ⟨by omega, hL⟩ (K + 4) (by omega); obtain ⟨v, r, hc⟩ := DrawCommitRecord_s (L := M) ⟨by omega, hM⟩ (K + 4) (by omega); have hE : ∀ a b c d w, impl_EncodeNode.f a b c d w = some (encNode a b c d w) := fun _ _ _ _ _ => rfl
 have hE2 : ∀ a b c d w, spec_EncodeNode.f a b c d w = some (encNode a b c d w) := fun _ _ _ _ _ => rfl
 have hN : ∀ a b c d w, impl_NodeHash.f a b c d w = some (nodeHashV a b c d w) := fun _ _ _ _ _ => rfl
 rw [hd, Option.bind_some, hc, Option.bind_some]; dsimp only; rw [hE, Option.bind_some, hE2, Option.bind_some]
 by_cases h0 : (encNode a b c d w).size = 0
 ·rw [if_pos (by omega), if_pos (by omega), hN, Option.bind_some]; unfold nodeHashV; rw [if_pos h0]; rfl
 have hok : nodeOk a b c d w = true := by
  unfold encNode at h0
  split at h0
  ·assumption
  ·exact absurd rfl h0
 have hdec : impl_DecodeNode.f (encNode a b c d w) w = some (a, b, c, d, true) := by
  unfold impl_DecodeNode.f; rw [← dec_same, decS_enc _ _ _ _ _ hok]; rfl
 have hle := encNode_size_le a b c d w; have hnh : nodeHashV a b c d w = digV (nText (encNode a b c d w)) w := by unfold nodeHashV; rw [if_neg h0]
 rw [if_neg (by omega), hdec, Option.bind_some]; dsimp only; rw [if_pos rfl, if_pos rfl, if_pos rfl, if_pos rfl, bne_self_eq_false, laws_FnCodec.j1, if_neg (by decide), hN, Option.bind_some, hnh]; obtain ⟨e, he⟩ : ∃ e, encNode a b c d w = e := ⟨_, rfl⟩
 rw [he] at hle h0 ⊢; have hD : spec_Digest.f (K + 3) ((⟨#[78]⟩ : ByteArray) ++ e) w = some (digV (nText e) w) := spec_Digest_f _ _ (by rw [ByteArray.size_append]; show 1 + _ ≤ _; omega) _ (by rw [ByteArray.size_append]; show 1 + _ + 100 < _; omega); have hC : impl_CommitRecord.f v r = some (commitRecV v r) := rfl; rw [if_pos (by omega), hD, Option.bind_some, if_pos rfl, hC, Option.bind_some, spec_CommitRecord_f _ _ _ (by omega), Option.bind_some]
 by_cases hc0 : (commitRecV v r).size = 0
 ·rw [if_pos (by omega), hc0]; rfl
 rw [if_neg (by omega)]; have hcom : 1 ≤ v ∧ v ≤ 1000000 ∧ r.size ≤ 32 := Classical.byContradiction fun g => hc0 (by rw [commitRecV_no g]; rfl)
 rw [commitRecV_yes hcom]; obtain ⟨n, rfl⟩ : ∃ n : Nat, v = (n : Int) := ⟨v.toNat, by omega⟩
 rw [Int.toNat_natCast]; have hR : impl_NodeRecord.f e = some (nodeRec e) := by unfold impl_NodeRecord.f; rw [nodeRecV_yes ⟨by omega, hle⟩]
 have hcl : (commitRecL n r).length = 5 + r.size := by unfold commitRecL; rw [List.length_append, List.length_append, numL_length, numL_length, ba_len]
 have hrl : (nodeRecL e).length = 4 + e.size := by unfold nodeRecL; rw [List.length_append, numL_length, ba_len]
 have hcs : nSec (commitRecL n r).length = 1 := by rw [hcl]; unfold nSec; omega
 obtain ⟨C, hCe⟩ : ∃ C, C = (e.size + 66) / 63 := ⟨_, rfl⟩
 have hrs : nSec (nodeRecL e).length = C := by rw [hrl, hCe]; unfold nSec; omega
 have lc : (commitRec n r).data.toList = secs (commitRecL n r) [67] [67] 1 := by unfold commitRec; rw [ba_mk, hcs]
 have lr : (nodeRec e).data.toList = secs (nodeRecL e) [83] [77] C := by unfold nodeRec; rw [ba_mk, hrs]
 have zc : (commitRec n r).size = 64 := by rw [← ba_len, lc, secs_len]
 have zr : (nodeRec e).size = 64 * C := by rw [← ba_len, lr, secs_len]
 rw [hR, Option.bind_some, if_neg (by omega), show (((nodeRec e).size : Int) % 64 != 0) = false from bne_eq_false_iff_eq.2 (by omega), laws_FnCodec.j2, if_neg (by decide)]; obtain ⟨s, hs⟩ : ∃ s, (((commitRec n r ++ nodeRec e) ++ r) ++ (⟨#[83]⟩ : ByteArray)) = s := ⟨_, rfl⟩
 have ls : s.data.toList = secs (commitRecL n r) [67] [67] 1 ++ (secs (nodeRecL e) [83] [77] C ++ (r.data.toList ++ [83])) := by
  rw [← hs, ba_app, ba_app, ba_app, lc, lr]; simp only [List.append_assoc]
 have zs : s.size = 64 + 64 * C + r.size + 1 := by rw [← hs, ByteArray.size_append, ByteArray.size_append, ByteArray.size_append, zc, zr]; rfl
 have b1 : Begins s (commitRecL n r) 67 67 1 := ⟨_, ls⟩
 have b2 : Begins (s.extract 64 s.size) (nodeRecL e) 83 77 C := by
  refine ⟨r.data.toList ++ [83], ?_⟩; rw [exl, ls, List.drop_append_of_le_length (by rw [secs_len]; omega), List.drop_of_length_le (by rw [secs_len]; omega), List.nil_append]; exact List.take_of_length_le (by rw [List.length_append, secs_len, List.length_append, ba_len, zs]; simp; omega)
 rw [if_pos (by rw [zc, zr]; omega), if_pos (by rw [ByteArray.size_append, zc, zr]; omega), if_pos (by rw [ByteArray.size_append, ByteArray.size_append, zc, zr]; omega), hs]; rw [readRec_commit s r n (by omega) hcom.2.2 (by omega) b1, Option.bind_some, readRec_node s e C ⟨by omega, hle⟩ hCe (by omega) b2, Option.bind_some]; dsimp only; rw [if_pos rfl, if_pos rfl, if_pos rfl, bne_self_eq_false, laws_FnCodec.j3, if_neg (by decide), if_pos rfl, if_pos rfl]; rw [if_pos (by rw [zc, zr, w64D (by omega) (by omega), w64D (by omega) (by omega)]; omega), show (((commitRec n r).size : Int) != 64) = false from bne_eq_false_iff_eq.2 (by omega)]; exact codec_j4 M hM s (nodeRec e) e C _ ⟨by omega, hle⟩ hCe zr (by omega) (by omega) b2
end Go.Proofs.YtonbmghgbblifaaDoor.Z
namespace Go.Proofs.YtonbmghgbblifaaDoor
open Go.RowKit Go.Proofs.YtonbmghgbblifaaDoor.Z
theorem lawFnCodec (A0 : Option Addr) (c0 : Nat) (l0 : List Int) (A1 : Option Addr) (c1 : Nat) (l1 : List Int) (w : World) (hr0 : YtonbmghgbblifaaDoorW.PrintWords.Kd.C (YtonbmghgbblifaaDoorW.PrintWords.Kd.int .u8) w A0 l0.length l0) (hc0 : l0.length ≤ c0) (_hl0 : c0 ≤ maxLen) (hs0 : ∀ x ∈ l0, 0 ≤ x ∧ x < 256)
  (hr1 : YtonbmghgbblifaaDoorW.PrintWords.Kd.C (YtonbmghgbblifaaDoorW.PrintWords.Kd.int .u8) w A1 l1.length l1) (hc1 : l1.length ≤ c1) (_hl1 : c1 ≤ maxLen) (hs1 : ∀ x ∈ l1, 0 ≤ x ∧ x < 256) (hTab : Z.Tab w) :
  Calls Tryd.prog 7 #[.slice A0 l0.length c0, .slice A1 l1.length c1] w fun e w' => e = .returned (.bool true) ∧ Below w.heap.size w w' :=
 laws_FnCodec.calls 10000 A0 c0 l0 A1 c1 l1 true w hTab hr0 hc0 hr1 hc1 (laws_FnCodec_f l0 l1 hs0 hs1)
end Go.Proofs.YtonbmghgbblifaaDoor
end
section
namespace Go.Proofs.YtonbmghgbblifaaDoor.Z
open Go.RowKit Go.ChangeShapes Go.WideShapes Go.ChangeAt Go.Proofs.YtonbmghgbblifaaDoorW.PrintWords
set_option linter.unusedVariables false
set_option linter.unusedSimpArgs false
section
variable {H : Type} {enc : TypeId × Value → H} {P : Program} {W : World} {base : Nat} {spare : Nat → Bool} {held : Bool}
theorem add_add (a : Addr) (i j : Nat) : (a.add i).add j = a.add (i + j) := by
 unfold Addr.add
 split <;> split <;> simp_all <;> omega
theorem list_of {α : Type} (Q : Nat → α → Prop) : ∀ n, (∀ i, i < n → ∃ x, Q i x) → ∃ l : List α, l.length = n ∧ ∀ i x, l[i]? = some x → Q i x
 | 0, _ => ⟨[], rfl, fun i x h => by simp at h⟩
 | n + 1, h => by
  obtain ⟨l, hl, hq⟩ := list_of Q n (fun i hi => h i (by omega)); obtain ⟨x, hx⟩ := h n (by omega); refine ⟨l ++ [x], by simp [hl], fun i y hy => ?_⟩
  rcases Nat.lt_or_ge i l.length with h1 | h1
  ·rw [List.getElem?_append_left h1] at hy; exact hq i y hy
  ·rw [List.getElem?_append_right h1] at hy
   rcases Nat.eq_zero_or_pos (i - l.length) with h2 | h2
   ·rw [h2] at hy; obtain rfl := Option.some.inj hy; obtain rfl : i = n := by omega
    exact hx
   ·rw [List.getElem?_eq_none (by simp; omega)] at hy; cases hy
theorem open_kd {α : Type} (d : Kd α) (Q : α → Prop) {t e : TypeId} {fuel : Nat} {v : Value} {x : DataW H × List MemPlace} (ht : P.underlying t = some (.slice e)) (hc : P.cellsOf e = d.sz)
  (hK : ∀ cs n y, cs.length = d.sz → DataW.trod enc P W base spare held n e cs = some y → ∃ x, d.K W x cs ∧ Q x) (h : DataW.trod enc P W base spare held fuel t [v] = some x) :
  ∃ A c, ∃ l : List α, v = .slice A l.length c ∧ l.length ≤ c ∧ c ≤ maxLen ∧ d.C W A l.length l ∧ ∀ x ∈ l, Q x := by
 rcases DataW.trod_slice ht h with ⟨hcs, _⟩ | ⟨a, len, cap, elems, rest, m, _, hcs, hx, _, hl, hcap, hlen, hel, _⟩
 ·simp at hcs; subst hcs; refine ⟨none, 0, [], rfl, Nat.le_refl _, Nat.zero_le _, ⟨rfl, Nat.zero_le _, fun h => absurd h (Nat.lt_irrefl _)⟩, fun x hx => by cases hx⟩
 ·simp at hcs; subst hcs; have hp : ∀ i, i < len → ∃ x : α, ∃ cs, W.cells? base (a.add (i * d.sz)) d.sz = some cs ∧ cs.length = d.sz ∧ d.K W x cs ∧ Q x := by
   intro i hi; have h1 := hel i hi; rw [List.getElem?_eq_getElem (by omega), hc] at h1; obtain ⟨cs, hcs, hy⟩ := Option.bind_eq_some_iff.1 h1; have hln := (World.cells?_some hcs).2.1; obtain ⟨x, hx1, hx2⟩ := hK cs m _ hln hy; exact ⟨x, cs, hcs, hln, hx1, hx2⟩
  obtain ⟨l, hll, hq⟩ := list_of _ len hp; subst hll; refine ⟨some a, cap, l, rfl, hl, hcap, ⟨rfl, by unfold maxLen at hcap; omega, fun _ => ⟨a, rfl, fun j p hj => ?_⟩⟩, fun x hx => ?_⟩
  ·obtain ⟨cs, h1, h2, h3, _⟩ := hq j p hj; refine ⟨cs, h2, h3, fun i u hu => ?_⟩; have h4 := (World.cells?_some h1).2.2 i (by rw [← h2]; exact (List.getElem?_eq_some_iff.1 hu).1); rw [← add_add]; exact h4.trans hu
  ·obtain ⟨i, hi, rfl⟩ := List.getElem_of_mem hx; obtain ⟨cs, _, _, _, h5⟩ := hq i _ (List.getElem?_eq_getElem hi); exact h5
theorem open_code {t e : TypeId} {fuel : Nat} {v : Value} {x : DataW H × List MemPlace} (ht : P.underlying t = some (.slice e)) (he : P.underlying e = some (.int .u8)) (hc : P.cellsOf e = 1) (h : DataW.trod enc P W base spare held fuel t [v] = some x) :
  ∃ A c, ∃ l : List Int, v = .slice A l.length c ∧ l.length ≤ c ∧ c ≤ maxLen ∧ Kd.C (Kd.int .u8) W A l.length l ∧ ∀ s ∈ l, 0 ≤ s ∧ s < 256 :=
 open_kd (Kd.int .u8) (fun s => 0 ≤ s ∧ s < 256) ht hc (fun cs n y hl hy => by
  obtain ⟨s, rfl, _, hs⟩ := DataW.trod_int he hy; refine ⟨s, rfl, ?_⟩; simp [Lit.wf, IntKind.min, IntKind.max, IntKind.signed, IntKind.bits] at hs; omega) h
end
end Go.Proofs.YtonbmghgbblifaaDoor.Z
end
