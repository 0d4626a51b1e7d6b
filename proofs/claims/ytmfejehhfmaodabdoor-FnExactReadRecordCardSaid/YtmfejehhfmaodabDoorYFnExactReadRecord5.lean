/- Own texts, joined. -/
import Derived.Test.YtmfejehhfmaodabDoorYFnExactReadRecord3
import Derived.Test.YtmfejehhfmaodabDoorYFnExactReadRecord1
import Derived.Test.YtmfejehhfmaodabDoorYFnExactReadRecord4
import Derived.Test.YtmfejehhfmaodabDoorYFnExactReadRecord0
/- What spec.ReadRecord and impl.ReadRecord answer is the same. -/
section
namespace Go.Proofs.YtmfejehhfmaodabDoor.Z
open Go.RowKit Go.Proofs.YtmfejehhfmaodabDoor Go.Proofs.YtmfejehhfmaodabDoorW.PrintWords Go.Proofs.YtmfejehhfmaodabDoorW.PrintLast
set_option linter.unusedVariables false
set_option linter.unusedSimpArgs false
/-- A byte as a number. -/
def nb (s : ByteArray) (i : Nat) : Nat := (s.data.toList.getD i 0).toNat
theorem nb_lt (s : ByteArray) (i : Nat) : nb s i < 256 := UInt8.toNat_lt _
theorem nb_get (s : ByteArray) (i : Nat) (h : i < s.data.toList.length) : nb s i = (s.data.toList[i]'h).toNat := by
  unfold nb; rw [List.getD_eq_getElem?_getD, List.getElem?_eq_getElem h]; rfl
theorem bt_nb (s : ByteArray) (i : Nat) (h : i < s.size) : bt s (i : Int) = (nb s i : Int) := by
  rw [btg s i h, nb_get s i h]
theorem exl (s : ByteArray) (a b : Nat) : (s.extract a b).data.toList = (s.data.toList.drop a).take (b - a) := by
  simp only [ByteArray.data_extract, Array.toList_extract, List.extract]
theorem nb_ext (s : ByteArray) (F i : Nat) (h : F + i < s.size) : nb (s.extract F s.size) i = nb s (F + i) := by
  unfold nb
  rw [exl, List.getD_eq_getElem?_getD, List.getD_eq_getElem?_getD, List.getElem?_take, if_pos (by omega), List.getElem?_drop]
def b4 (s : ByteArray) : Nat := nb s 0 + nb s 1 * 256 + nb s 2 * 65536 + nb s 3 * 16777216
theorem b4_lt (s : ByteArray) : b4 s < 4294967296 := by
  unfold b4
  have := nb_lt s 0; have := nb_lt s 1; have := nb_lt s 2; have := nb_lt s 3
  omega
theorem bits_or_i64 (a b : Nat) (ha : a < 9223372036854775808) (hb : b < 9223372036854775808) : Go.bits .or .i64 (a : Int) (b : Int) = ((a ||| b : Nat) : Int) := by
  show IntKind.i64.wrap (((BitVec.ofInt 64 (a : Int) ||| BitVec.ofInt 64 (b : Int)).toNat : Nat) : Int) = _
  rw [or_vec, Nat.mod_eq_of_lt (by omega), Nat.mod_eq_of_lt (by omega), wrap_i64 _ (Nat.or_lt_two_pow (n := 63) ha hb)]
theorem or_sum (a b k : Nat) (ha : a < 2 ^ k) : a ||| (b * 2 ^ k) = a + b * 2 ^ k := by
  rw [Nat.or_comm, Nat.mul_comm b, ← Nat.two_pow_add_eq_or_of_lt ha, Nat.add_comm]
theorem lowFirst_f (s : ByteArray) (h : 4 ≤ s.size) : impl_lowFirst.f s = some (b4 s : Int) := by
  unfold impl_lowFirst.f
  have l0 := nb_lt s 0; have l1 := nb_lt s 1; have l2 := nb_lt s 2; have l3 := nb_lt s 3
  rw [if_pos (by omega), if_pos (by omega), if_pos (by omega), if_pos (by omega)]
  rw [show bt s 0 = (nb s 0 : Int) from bt_nb s 0 (by omega), show bt s 1 = (nb s 1 : Int) from bt_nb s 1 (by omega), show bt s 2 = (nb s 2 : Int) from bt_nb s 2 (by omega), show bt s 3 = (nb s 3 : Int) from bt_nb s 3 (by omega)]
  rw [w64 (by omega) (by omega), w64 (x := (nb s 1 : Int)) (by omega) (by omega), w64 (x := (nb s 2 : Int)) (by omega) (by omega), w64 (x := (nb s 3 : Int)) (by omega) (by omega)]
  rw [w64 (x := (nb s 1 : Int) * 256) (by omega) (by omega), w64 (x := (nb s 2 : Int) * 65536) (by omega) (by omega), w64 (x := (nb s 3 : Int) * 16777216) (by omega) (by omega)]
  rw [show (nb s 1 : Int) * 256 = ((nb s 1 * 2 ^ 8 : Nat) : Int) by omega, show (nb s 2 : Int) * 65536 = ((nb s 2 * 2 ^ 16 : Nat) : Int) by omega, show (nb s 3 : Int) * 16777216 = ((nb s 3 * 2 ^ 24 : Nat) : Int) by omega]
  rw [bits_or_i64 _ _ (by omega) (by omega), or_sum _ _ 8 (by omega), bits_or_i64 _ _ (by omega) (by omega), or_sum _ _ 16 (by omega), bits_or_i64 _ _ (by omega) (by omega), or_sum _ _ 24 (by omega)]
  refine congrArg some ?_
  unfold b4; omega
theorem w64n {x : Int} {n : Nat} (h : x = (n : Int)) (hn : n ≤ 9223372036854775807) : Hid (wrap64 x = (n : Int)) := Lib.hid (by rw [h]; exact w64 (by omega) (by omega))
theorem l2Number_f (s : ByteArray) (F : Nat) (h : F + 4 ≤ s.size) (hs : s.size ≤ 1048576) : spec_l2Number.f s (F : Int) = some (b4 (s.extract F s.size) : Int) := by
  unfold spec_l2Number.f b4
  have l0 := nb_lt s F; have l1 := nb_lt s (F + 1); have l2 := nb_lt s (F + 2); have l3 := nb_lt s (F + 3)
  rw [nb_ext s F 0 (by omega), nb_ext s F 1 (by omega), nb_ext s F 2 (by omega), nb_ext s F 3 (by omega)]
  have E1 := (w64n (x := (F : Int) + 1) (n := F + 1) (by omega) (by omega))
  have E2 := (w64n (x := (F : Int) + 2) (n := F + 2) (by omega) (by omega))
  have E3 := (w64n (x := (F : Int) + 3) (n := F + 3) (by omega) (by omega))
  simp only [E1.out, E2.out, E3.out]
  rw [bt_nb s F (by omega), bt_nb s (F + 1) (by omega), bt_nb s (F + 2) (by omega), bt_nb s (F + 3) (by omega)]
  repeat rw [if_pos (by omega)]
  refine congrArg some ?_
  rw [w64 (x := (nb s F : Int)) (by omega) (by omega), w64 (x := (nb s (F + 1) : Int)) (by omega) (by omega), w64 (x := (nb s (F + 2) : Int)) (by omega) (by omega), w64 (x := (nb s (F + 3) : Int)) (by omega) (by omega)]
  rw [w64 (x := (nb s (F + 1) : Int) * 256) (by omega) (by omega), w64 (x := (nb s (F + 2) : Int) * 65536) (by omega) (by omega), w64 (x := (nb s (F + 3) : Int) * 16777216) (by omega) (by omega)]
  rw [w64 (x := (nb s F : Int) + (nb s (F + 1) : Int) * 256) (by omega) (by omega), w64 (x := (nb s F : Int) + (nb s (F + 1) : Int) * 256 + (nb s (F + 2) : Int) * 65536) (by omega) (by omega), w64 (by omega) (by omega)]
  simp only [Nat.add_zero]
  omega
theorem list4 (l : List UInt8) (h : 4 ≤ l.length) : l.take 4 = [l.getD 0 0, l.getD 1 0, l.getD 2 0, l.getD 3 0] := by
  match l, h with
  | a :: b :: c :: d :: r, _ => rfl
theorem ofNat_toNat' (x : UInt8) (n : Nat) (h : n % 256 = x.toNat) : UInt8.ofNat n = x := by
  apply UInt8.toNat_inj.1
  rw [UInt8.toNat_ofNat']; exact h
theorem num4 (s : ByteArray) (h : 4 ≤ s.size) : numL (b4 s) 4 true 4 = s.data.toList.take 4 := by
  rw [list4 _ h]
  have l0 := nb_lt s 0; have l1 := nb_lt s 1; have l2 := nb_lt s 2; have l3 := nb_lt s 3
  simp only [numL, numByte, List.range_succ, List.range_zero, List.nil_append, List.map_append, List.map_cons, List.map_nil, if_true, List.cons_append]
  have e0 : UInt8.ofNat (b4 s / 2 ^ (8 * 0)) = s.data.toList.getD 0 0 := ofNat_toNat' _ _ (by show _ = nb s 0; unfold b4; omega)
  have e1 : UInt8.ofNat (b4 s / 2 ^ (8 * 1)) = s.data.toList.getD 1 0 := ofNat_toNat' _ _ (by show _ = nb s 1; unfold b4; omega)
  have e2 : UInt8.ofNat (b4 s / 2 ^ (8 * 2)) = s.data.toList.getD 2 0 := ofNat_toNat' _ _ (by show _ = nb s 2; unfold b4; omega)
  have e3 : UInt8.ofNat (b4 s / 2 ^ (8 * 3)) = s.data.toList.getD 3 0 := ofNat_toNat' _ _ (by show _ = nb s 3; unfold b4; omega)
  rw [e0, e1, e2, e3]
/-- All zero. -/
theorem zer_iff (l : List UInt8) : (∀ x ∈ l, x = 0) ↔ l = List.replicate l.length 0 := by
  rw [List.eq_replicate_iff]; simp
theorem take_one (l : List UInt8) (i : Nat) (h : i < l.length) : (l.drop i).take 1 = [l[i]] := by
  rw [List.drop_eq_getElem_cons h]; rfl
theorem cut5 (l : List UInt8) (z : Nat) (hz : z ≤ 32) (h : 64 ≤ l.length) : l.take 64 = l.take 4 ++ (l.drop 4).take 1 ++ (l.drop 5).take z ++ (l.drop (5 + z)).take (58 - z) ++ (l.drop 63).take 1 := by
  have e : ∀ a b : Nat, l.take (a + b) = l.take a ++ (l.drop a).take b := fun a b => List.take_add
  rw [show (64 : Nat) = 63 + 1 from rfl, e, show (63 : Nat) = (5 + z) + (58 - z) by omega, e, e 5 z, show (5 : Nat) = 4 + 1 from rfl, e 4 1]
theorem commit_L (T : ByteArray) (h : 64 ≤ T.size) (z : Nat) (hze : nb T 4 = z) (hz : z ≤ 32) : commitRecL (b4 T) (T.extract 5 (5 + z)) = T.data.toList.take 4 ++ (T.data.toList.drop 4).take 1 ++ (T.data.toList.drop 5).take z := by
  have hl : T.data.toList.length = T.size := rfl
  have hrs : (T.extract 5 (5 + z)).size = z := by rw [ByteArray.size_extract]; omega
  have hrl : (T.extract 5 (5 + z)).data.toList = (T.data.toList.drop 5).take z := by rw [exl, Nat.add_sub_cancel_left]
  unfold commitRecL
  rw [num4 T (by omega), hrs, hrl, take_one _ 4 (by omega)]
  have e : numL z 1 true 1 = [T.data.toList[4]] := by
    simp only [numL, numByte, List.range_succ, List.range_zero, List.nil_append, List.map_cons, List.map_nil, if_true]
    refine congrArg (fun x => [x]) (ofNat_toNat' _ _ ?_)
    rw [← nb_get T 4 (by omega), hze]; omega
  rw [e]
theorem commit_S (n : Nat) (r : ByteArray) (l : List UInt8) (z : Nat) (hz : z ≤ 32) (hl : commitRecL n r = l) (hlen : l.length = 5 + z) : (commitRec n r).data.toList = l ++ List.replicate (58 - z) 0 ++ [67] := by
  unfold commitRec
  rw [ba_mk, hl, hlen, show nSec (5 + z) = 1 by unfold nSec; omega]
  have hc : chunk l 0 = l := by
    unfold chunk; rw [Nat.mul_zero, List.drop_zero]; exact List.take_of_length_le (by omega)
  simp only [secs, secOne, hc, hlen, List.nil_append, if_true]
  rw [show 63 - (5 + z) = 58 - z by omega]
theorem commit_E (A R : List UInt8) (x : UInt8) (k : Nat) (hR : R.length = k) : (A ++ List.replicate k 0 ++ [67] = A ++ R ++ [x]) ↔ (x.toNat = 67 ∧ R = List.replicate k 0) := by
  constructor
  · intro e
    have e1 := List.append_inj e (by simp only [List.length_append, List.length_replicate, hR])
    have e2 := List.append_inj e1.1 rfl
    have e3 := e1.2
    simp only [List.cons.injEq, and_true] at e3
    exact ⟨by rw [← e3]; decide, e2.2.symm⟩
  · rintro ⟨e1, e2⟩
    have : x = 67 := UInt8.toNat_inj.1 (by rw [e1]; decide)
    rw [this, e2]
/-- The commit's sector is there exactly where its mark and its zeros are. -/
theorem commit_iff (T : ByteArray) (h : 64 ≤ T.size) (hz : nb T 4 ≤ 32) :
    ((commitRec (b4 T) (T.extract 5 (5 + nb T 4))).data.toList = T.data.toList.take 64) ↔ (nb T 63 = 67 ∧ zer (T.extract (5 + nb T 4) 63)) := by
  obtain ⟨z, hze⟩ : ∃ z, nb T 4 = z := ⟨_, rfl⟩
  rw [hze] at hz ⊢
  have hl : T.data.toList.length = T.size := rfl
  have hL := commit_L T h z hze hz
  have hlen : (T.data.toList.take 4 ++ (T.data.toList.drop 4).take 1 ++ (T.data.toList.drop 5).take z).length = 5 + z := by
    simp only [List.length_append, List.length_take, List.length_drop, hl]; omega
  rw [commit_S _ _ _ z hz hL hlen, cut5 _ z hz h, take_one _ 63 (by omega), commit_E _ _ _ (58 - z) (by simp only [List.length_take, List.length_drop, hl]; omega), ← nb_get T 63 (by omega)]
  have hzl : (T.extract (5 + z) 63).data.toList = (T.data.toList.drop (5 + z)).take (58 - z) := by rw [exl, show 63 - (5 + z) = 58 - z by omega]
  have hzn : ((T.data.toList.drop (5 + z)).take (58 - z)).length = 58 - z := by simp only [List.length_take, List.length_drop, hl]; omega
  unfold zer
  rw [hzl, zer_iff, hzn]
/-- One part. -/
def sect (T : ByteArray) (i : Nat) : List UInt8 := (T.data.toList.drop (64 * i)).take 63
theorem sect_ext (T : ByteArray) (i : Nat) : (T.extract (64 * i) (64 * i + 63)).data.toList = sect T i := by rw [exl]; unfold sect; congr 1; omega
theorem sect_length (T : ByteArray) (i : Nat) (h : 64 * i + 64 ≤ T.size) : (sect T i).length = 63 := by
  have hl : T.data.toList.length = T.size := rfl
  unfold sect; rw [List.length_take, List.length_drop, hl]; omega
theorem chunk_parts (T : ByteArray) : ∀ (c : Nat), 64 * c ≤ T.size → ∀ i, i < c → chunk (parts T c) i = sect T i
  | 0, _, i, hi => absurd hi (by omega)
  | c + 1, h, i, hi => by
    have hp := parts_length T c (by omega)
    rw [parts, sect_ext]
    unfold chunk
    rcases Nat.lt_or_ge i c with h1 | h1
    · rw [List.drop_append_of_le_length (by omega), List.take_append_of_le_length (by rw [List.length_drop]; omega)]
      exact chunk_parts T c (by omega) i h1
    · obtain rfl : i = c := by omega
      rw [List.drop_append, hp, List.drop_of_length_le (by omega), Nat.sub_self, List.drop_zero, List.nil_append, List.take_of_length_le (by rw [sect_length T i (by omega)]; omega)]
theorem secs_iff (T : ByteArray) (l : List UInt8) : ∀ (m : Nat), 64 * m ≤ T.size → (secs l [83] [77] m = T.data.toList.take (64 * m) ↔ ∀ i, i < m → (chunk l i ++ List.replicate (63 - (chunk l i).length) 0 = sect T i ∧ nb T (64 * i + 63) = if i = 0 then 83 else 77))
  | 0, _ => by simp [secs]
  | m + 1, h => by
    have hl : T.data.toList.length = T.size := rfl
    have ih := secs_iff T l m (by omega)
    have hcl := chunk_le l m
    have hsl : ∀ k, (secs l [83] [77] k).length = 64 * k := by
      intro k
      induction k with
      | zero => rfl
      | succ k ihk =>
        have := chunk_le l k
        rw [secs, List.length_append, ihk, secOne, List.length_append, List.length_append, List.length_replicate]
        split <;> simp <;> omega
    have ht : T.data.toList.take (64 * (m + 1)) = T.data.toList.take (64 * m) ++ (sect T m ++ [T.data.toList[64 * m + 63]]) := by
      rw [show 64 * (m + 1) = 64 * m + 64 by omega, List.take_add]
      congr 1
      have e64 : ∀ l : List UInt8, l.take 64 = l.take 63 ++ (l.drop 63).take 1 := fun l => List.take_add (i := 63) (j := 1)
      rw [e64, List.drop_drop, take_one _ (64 * m + 63) (by omega)]
      rfl
    have hnb : nb T (64 * m + 63) = (T.data.toList[64 * m + 63]).toNat := nb_get T _ (by omega)
    have hm : ∀ x y : UInt8, ([x] = [y]) ↔ y.toNat = x.toNat := fun x y => by
      simp only [List.cons.injEq, and_true]
      exact ⟨fun h => by rw [h], fun h => UInt8.toNat_inj.1 h.symm⟩
    rw [secs, ht]
    constructor
    · intro e
      have e1 := List.append_inj e (by rw [hsl, List.length_take, hl]; omega)
      have e2 := e1.2
      unfold secOne at e2
      have e3 := List.append_inj e2 (by rw [List.length_append, List.length_replicate, sect_length T m (by omega)]; omega)
      intro i hi
      rcases Nat.lt_or_ge i m with h1 | h1
      · exact ih.1 e1.1 i h1
      · obtain rfl : i = m := by omega
        refine ⟨e3.1, ?_⟩
        have e4 := e3.2
        rw [hnb]
        split at e4
        · rename_i h0; rw [if_pos h0]; exact (hm _ _).1 e4
        · rename_i h0; rw [if_neg h0]; exact (hm _ _).1 e4
    · intro hall
      have h1 := ih.2 (fun i hi => hall i (by omega))
      obtain ⟨h2, h3⟩ := hall m (by omega)
      rw [h1, secOne, h2]
      congr 2
      rw [hnb] at h3
      split at h3
      · rename_i h0; rw [if_pos h0]; exact (hm _ _).2 h3
      · rename_i h0; rw [if_neg h0]; exact (hm _ _).2 h3
/-- The parts behind place N are zero exactly where the first N bytes, filled up with zeros, are the parts. -/
theorem fill_iff (B : List UInt8) (c N : Nat) (hB : B.length = 63 * c) (hN : N ≤ 63 * c) (hc : 63 * c < N + 63) :
    (∀ i, i < c → chunk (B.take N) i ++ List.replicate (63 - (chunk (B.take N) i).length) 0 = chunk B i) ↔ B.drop N = List.replicate (63 * c - N) 0 := by
  have hlow : ∀ i, i + 1 < c → chunk (B.take N) i ++ List.replicate (63 - (chunk (B.take N) i).length) 0 = chunk B i := by
    intro i hi
    have e : chunk (B.take N) i = chunk B i := by
      unfold chunk
      rw [List.drop_take, List.take_take, Nat.min_eq_left (by omega)]
    rw [e, chunk_length, hB, show 63 - min 63 (63 * c - 63 * i) = 0 by omega, List.replicate_zero, List.append_nil]
  rcases Nat.eq_zero_or_pos c with h0 | h0
  · subst h0
    obtain rfl : B = [] := List.eq_nil_of_length_eq_zero (by omega)
    simp
  · have hlast : (chunk (B.take N) (c - 1) ++ List.replicate (63 - (chunk (B.take N) (c - 1)).length) 0 = chunk B (c - 1)) ↔ B.drop N = List.replicate (63 * c - N) 0 := by
      have e1 : chunk (B.take N) (c - 1) = (B.drop (63 * (c - 1))).take (N - 63 * (c - 1)) := by
        unfold chunk
        rw [List.drop_take, List.take_take, Nat.min_eq_right (by omega)]
      have e2 : chunk B (c - 1) = B.drop (63 * (c - 1)) := by
        unfold chunk; exact List.take_of_length_le (by rw [List.length_drop]; omega)
      have e3 : B.drop (63 * (c - 1)) = (B.drop (63 * (c - 1))).take (N - 63 * (c - 1)) ++ B.drop N := by
        have := List.take_append_drop (N - 63 * (c - 1)) (B.drop (63 * (c - 1)))
        rw [List.drop_drop, show 63 * (c - 1) + (N - 63 * (c - 1)) = N by omega] at this
        exact this.symm
      have e4 : ((B.drop (63 * (c - 1))).take (N - 63 * (c - 1))).length = N - 63 * (c - 1) := by rw [List.length_take, List.length_drop]; omega
      rw [e1, e2, e4, show 63 - (N - 63 * (c - 1)) = 63 * c - N by omega]
      constructor
      · intro e
        have e5 := e.trans e3
        exact (List.append_cancel_left e5).symm
      · intro e
        rw [← e]; exact e3.symm
    constructor
    · intro h; exact hlast.1 (h (c - 1) (by omega))
    · intro h i hi
      rcases Nat.lt_or_ge (i + 1) c with h1 | h1
      · exact hlow i h1
      · obtain rfl : i = c - 1 := by omega
        exact hlast.2 h
theorem body_list (T : ByteArray) (c : Nat) : (body T c).data.toList = parts T c := by unfold body; rw [ba_mk]
theorem parts_take4 (T : ByteArray) : ∀ (c : Nat), 0 < c → 64 * c ≤ T.size → (parts T c).take 4 = T.data.toList.take 4
  | 0, h, _ => absurd h (by omega)
  | 1, _, h => by
    rw [parts, parts, List.nil_append, sect_ext]
    unfold sect
    rw [Nat.mul_zero, List.drop_zero, List.take_take]; rfl
  | c + 2, _, h => by
    rw [parts, List.take_append_of_le_length (by rw [parts_length T (c + 1) (by omega)]; omega)]
    exact parts_take4 T (c + 1) (by omega) (by omega)
/-- The node's sectors are there exactly where their marks and their zeros are. -/
theorem node_iff (T : ByteArray) (c : Nat) (h1 : 1 ≤ b4 T) (h2 : b4 T ≤ 4000) (hc : c = (b4 T + 66) / 63) (h : 64 * c ≤ T.size) :
    ((nodeRec ((body T c).extract 4 (4 + b4 T))).data.toList = T.data.toList.take (64 * c)) ↔ (nb T 63 = 83 ∧ marked T c ∧ zer ((body T c).extract (4 + b4 T) (body T c).size)) := by
  obtain ⟨n, hn⟩ : ∃ n, b4 T = n := ⟨_, rfl⟩
  have h4 := num4 T (by omega)
  rw [hn] at h1 h2 hc h4 ⊢
  have hp := parts_length T c h
  have hbl := body_list T c
  have hbs : (body T c).size = 63 * c := by rw [← ba_len, hbl, hp]
  have hel : ((body T c).extract 4 (4 + n)).data.toList = ((parts T c).drop 4).take n := by rw [exl, hbl]; congr 1; omega
  have hes : ((body T c).extract 4 (4 + n)).size = n := by rw [ByteArray.size_extract, hbs]; omega
  have hL : nodeRecL ((body T c).extract 4 (4 + n)) = (parts T c).take (4 + n) := by
    unfold nodeRecL
    rw [hes, h4, hel, ← parts_take4 T c (by omega) h, List.take_add]
  have hlen : (nodeRecL ((body T c).extract 4 (4 + n))).length = 4 + n := by rw [hL, List.length_take, hp]; omega
  have hsec : (nodeRec ((body T c).extract 4 (4 + n))).data.toList = secs ((parts T c).take (4 + n)) [83] [77] c := by
    unfold nodeRec
    rw [ba_mk, hlen, hL, show nSec (4 + n) = c by unfold nSec; omega]
  rw [hsec, secs_iff T _ c h]
  have hz : zer ((body T c).extract (4 + n) (body T c).size) ↔ (parts T c).drop (4 + n) = List.replicate (63 * c - (4 + n)) 0 := by
    unfold zer
    have : ((body T c).extract (4 + n) (body T c).size).data.toList = (parts T c).drop (4 + n) := by
      rw [exl, hbl, hbs]; exact List.take_of_length_le (by rw [List.length_drop, hp]; omega)
    rw [this, zer_iff, List.length_drop, hp]
  rw [hz, ← fill_iff (parts T c) c (4 + n) hp (by omega) (by omega)]
  have hmk : ∀ i, i < c → bt T ((64 * i + 63 : Nat) : Int) = (nb T (64 * i + 63) : Int) := fun i hi => bt_nb T _ (by omega)
  constructor
  · intro hall
    refine ⟨?_, fun i hi h0 => ?_, fun i hi => ?_⟩
    · have := (hall 0 (by omega)).2
      simpa using this
    · have := (hall i hi).2
      rw [if_neg (by omega)] at this
      rw [hmk i hi, this]; rfl
    · rw [chunk_parts T c h i hi]; exact (hall i hi).1
  · rintro ⟨e0, e1, e2⟩ i hi
    refine ⟨?_, ?_⟩
    · rw [← chunk_parts T c h i hi]; exact e2 i hi
    · by_cases h0 : i = 0
      · subst h0; rw [if_pos rfl]; exact e0
      · rw [if_neg h0]
        have := e1 i hi (by omega)
        rw [hmk i hi] at this
        omega
theorem node_iff' (T : ByteArray) (c n : Nat) (hn : b4 T = n) (h1 : 1 ≤ n) (h2 : n ≤ 4000) (hc : c = (n + 66) / 63) (h : 64 * c ≤ T.size) :
    ((nodeRec ((body T c).extract 4 (4 + n))).data.toList = T.data.toList.take (64 * c)) ↔ (nb T 63 = 83 ∧ marked T c ∧ zer ((body T c).extract (4 + n) (body T c).size)) := by
  subst hn; exact node_iff T c h1 h2 hc h
theorem exs63 (s : ByteArray) (a : Nat) (h : a + 63 ≤ s.size) : (s.extract a (a + 63)).size = 63 := by rw [ByteArray.size_extract]; omega
theorem exsT (s : ByteArray) (F : Nat) : (s.extract F s.size).size = s.size - F := by rw [ByteArray.size_extract]; omega
theorem sect_of (s T : ByteArray) (F i : Nat) (hT : s.extract F s.size = T) (hs : T.size = s.size - F) (h : 64 * i + 64 ≤ T.size) : (s.extract (F + 64 * i) (F + 64 * i + 63)).data.toList = sect T i := by
  have hl : T.data.toList.length = T.size := rfl
  have e : T.data.toList = (s.data.toList.drop F).take (s.size - F) := by rw [← hT, exl]
  rw [exl]
  unfold sect
  rw [e, List.drop_take, List.drop_drop, List.take_take]
  congr 1
  omega
set_option maxHeartbeats 1000000 in
theorem l2Unmarked_loop (s T : ByteArray) (F c : Nat) (hT : s.extract F s.size = T) (hts : T.size = s.size - F) (h : F + 64 * c ≤ s.size) (hs : s.size ≤ 1048576) : ∀ (d i k : Nat) (out : ByteArray), c = i + d → d < k → out.data.toList = parts T i →
    spec_l2Unmarked.l0 k s (F : Int) (c : Int) out (i : Int) = some (body T c) := by
  intro d
  induction d with
  | zero =>
    intro i k out hc hk ho
    obtain ⟨k, rfl⟩ : ∃ j, k = j + 1 := ⟨k - 1, by omega⟩
    simp only [spec_l2Unmarked.l0]
    rw [if_neg (by omega)]
    refine congrArg some (ba_ext ?_)
    rw [body_list, ho, hc]; rfl
  | succ d ih =>
    intro i k out hc hk ho
    obtain ⟨k, rfl⟩ : ∃ j, k = j + 1 := ⟨k - 1, by omega⟩
    have hol : out.size = 63 * i := by rw [← ba_len, ho, parts_length _ i (by omega)]
    have hsec := sect_of s T F i hT hts (by omega)
    have HPS := Lib.hid (exs63 s (F + 64 * i) (by omega))
    obtain ⟨X, hX⟩ : ∃ X, s.extract (F + 64 * i) (F + 64 * i + 63) = X := ⟨_, rfl⟩
    rw [hX] at hsec HPS
    simp only [spec_l2Unmarked.l0]
    have E0 := (w64n (x := (i : Int) * 64) (n := 64 * i) (by omega) (by omega))
    have E1 := (w64n (x := (F : Int) + ((64 * i : Nat) : Int)) (n := F + 64 * i) (by omega) (by omega))
    have E2 := (w64n (x := ((F + 64 * i : Nat) : Int) + 63) (n := F + 64 * i + 63) (by omega) (by omega))
    have E3 := (w64n (x := (i : Int) + 1) (n := i + 1) (by omega) (by omega))
    simp only [E0.out, E1.out, E2.out, E3.out, Int.toNat_natCast, hX]
    have hps := HPS.out
    clear hX hT
    rw [if_pos (by omega), if_pos (by omega), if_pos (by omega), if_pos (by omega), if_pos (by omega)]
    refine ih (i + 1) k _ (by omega) (by omega) ?_
    rw [ba_app, ho, parts, sect_ext, hsec]
theorem zer_true {s : ByteArray} (h : zer s) : zerB s = true := decide_eq_true h
theorem zer_false {s : ByteArray} (h : ¬ zer s) : zerB s = false := decide_eq_false h
theorem tl_iff (a b : ByteArray) : a.toList = b.toList ↔ a.data.toList = b.data.toList := by rw [ByteArray.toList_eq, ByteArray.toList_eq]
theorem exs5 (T : ByteArray) (z : Nat) (h : 5 + z ≤ T.size) : (T.extract 5 (5 + z)).size = z := by rw [ByteArray.size_extract]; omega
theorem exs64 (s : ByteArray) (F : Nat) (h : F + 64 ≤ s.size) : (s.extract F (F + 64)).size = 64 := by rw [ByteArray.size_extract]; omega
theorem exsE (B : ByteArray) (n : Nat) (h : 4 + n ≤ B.size) : (B.extract 4 (4 + n)).size = n := by rw [ByteArray.size_extract]; omega
theorem exsLe (B : ByteArray) (a b : Nat) : (B.extract a b).size ≤ b := by rw [ByteArray.size_extract]; omega
theorem root_of (s T : ByteArray) (F z : Nat) (hT : s.extract F s.size = T) (h : F + 5 + z ≤ s.size) : s.extract (F + 5) (F + 5 + z) = T.extract 5 (5 + z) := by
  have e : T.data.toList = (s.data.toList.drop F).take (s.size - F) := by rw [← hT, exl]
  apply ba_ext
  rw [exl, exl, e, List.drop_take, List.take_take, List.drop_drop]
  congr 1; omega
theorem take_of (s T : ByteArray) (F m : Nat) (hT : s.extract F s.size = T) : (s.extract F (F + m)).data.toList = T.data.toList.take m := by
  have e : T.data.toList = (s.data.toList.drop F).take (s.size - F) := by rw [← hT, exl]
  rw [e, exl, List.take_take, Nat.add_sub_cancel_left]
  have hl : (s.data.toList.drop F).length = s.size - F := by rw [List.length_drop]; rfl
  rcases Nat.le_total m (s.size - F) with h | h
  · rw [Nat.min_eq_left h]
  · rw [Nat.min_eq_right h, List.take_of_length_le (by rw [hl]; exact h), List.take_of_length_le (by rw [hl]; exact Nat.le_refl _)]
theorem body_sz (T : ByteArray) (c : Nat) (h : 64 * c ≤ T.size) : (body T c).size = 63 * c := by rw [← ba_len, body_list, parts_length T c h]
set_option maxHeartbeats 1000000 in
theorem rr_same (s : ByteArray) (a : Int) (hs : s.size ≤ 1048576) (k : Nat) (hk : 2000 < k) : ∃ r, spec_ReadRecord.f k s a = some r ∧ impl_ReadRecord.f s a = some r := by
  obtain ⟨k, rfl⟩ : ∃ j, k = j + 2 := ⟨k - 2, by omega⟩
  unfold spec_ReadRecord.f impl_ReadRecord.f
  rw [if_pos (show s.size ≤ 1099511627776 by omega)]
  by_cases h0 : a < 0
  · rw [if_pos h0, if_pos h0]
    refine ⟨rec0, ?_, rfl⟩
    simp only [spec_ReadRecord.j0, if_true]; rfl
  rw [if_neg h0, if_neg h0]
  have HW : Hid (wrap64 ((s.size : Int) / 64) = (s.size : Int) / 64) := Lib.hid (w64 (by omega) (by omega))
  simp only [HW.out]
  by_cases h1 : a > (s.size : Int) / 64
  · rw [decide_eq_true h1, if_pos h1]
    refine ⟨rec0, ?_, rfl⟩
    simp only [spec_ReadRecord.j0, if_true]; rfl
  rw [decide_eq_false h1, if_neg h1]
  obtain ⟨sec, rfl⟩ := Int.eq_ofNat_of_zero_le (show 0 ≤ a by omega)
  have EF := (w64n (x := (sec : Int) * 64) (n := 64 * sec) (by omega) (by omega))
  have hF : 64 * sec ≤ s.size := by omega
  obtain ⟨F, hFe⟩ : ∃ F, 64 * sec = F := ⟨_, rfl⟩
  rw [hFe] at EF hF
  have hT := exsT s F
  obtain ⟨T, hTe⟩ : ∃ T, s.extract F s.size = T := ⟨_, rfl⟩
  rw [hTe] at hT
  rw [Int.toNat_natCast, show sec * 64 = F by omega, hTe]
  simp only [spec_ReadRecord.j0, EF.out, Int.toNat_natCast, Bool.false_eq_true, if_false]
  have E0 := (w64n (x := (s.size : Int) - (F : Int)) (n := T.size) (by omega) (by omega))
  simp only [E0.out]
  by_cases h2 : (T.size : Int) < 64
  · rw [if_pos h2, if_pos h2]; exact ⟨_, rfl, rfl⟩
  rw [if_neg h2, if_neg h2]
  have eN := l2Number_f s F (by omega) hs
  rw [hTe] at eN
  have eL := lowFirst_f T (by omega)
  have nbT : ∀ i, i < T.size → nb s (F + i) = nb T i := fun i hi => by rw [← hTe]; exact (nb_ext s F i (by omega)).symm
  have E63 := (w64n (x := (F : Int) + 63) (n := F + 63) (by omega) (by omega))
  have E4 := (w64n (x := (F : Int) + 4) (n := F + 4) (by omega) (by omega))
  have E5 := (w64n (x := (F : Int) + 5) (n := F + 5) (by omega) (by omega))
  have E64 := (w64n (x := (F : Int) + 64) (n := F + 64) (by omega) (by omega))
  have B63 : Hid (bt s ((F + 63 : Nat) : Int) = (nb T 63 : Int)) := Lib.hid (by rw [bt_nb s _ (by omega), nbT 63 (by omega)])
  have B63T : Hid (bt T 63 = (nb T 63 : Int)) := Lib.hid (bt_nb T 63 (by omega))
  have B4S : Hid (bt s ((F + 4 : Nat) : Int) = (nb T 4 : Int)) := Lib.hid (by rw [bt_nb s _ (by omega), nbT 4 (by omega)])
  have B4T : Hid (bt T 4 = (nb T 4 : Int)) := Lib.hid (bt_nb T 4 (by omega))
  clear nbT
  have hn4 := nb_lt T 4
  have hb4 := b4_lt T
  have EB4 := (w64n (x := (nb T 4 : Int)) (n := nb T 4) rfl (by omega))
  simp only [eN, E63.out, E4.out, E5.out, E64.out, B63.out, B63T.out, B4S.out, EB4.out, Option.bind_some, Int.toNat_natCast]
  clear eN
  rw [if_pos (show (0 : Int) ≤ ((F + 63 : Nat) : Int) by omega), if_pos (show ((F + 63 : Nat) : Int) < (s.size : Int) by omega)]
  obtain ⟨n, hne⟩ : ∃ n, b4 T = n := ⟨_, rfl⟩
  obtain ⟨mk, hmk⟩ : ∃ mk, nb T 63 = mk := ⟨_, rfl⟩
  by_cases hC : (nb T 63 : Int) = 67
  · rw [if_pos hC, if_pos hC, if_pos (by omega), if_pos (by omega)]
    unfold impl_readCommit.f
    rw [eL, Option.bind_some, B4T.out, EB4.out, if_pos (show (4 : Int) < (T.size : Int) by omega)]
    by_cases hz : (nb T 4 : Int) > 32
    · rw [if_pos hz, if_pos hz]
      refine ⟨_, rfl, ?_⟩
      split
      · rfl
      · split <;> rfl
    · rw [if_neg hz, if_neg hz]
      obtain ⟨z, hze⟩ : ∃ z, nb T 4 = z := ⟨_, rfl⟩
      have hci := commit_iff T (by omega) (by omega)
      have hroot := root_of s T F (nb T 4) hTe (by omega)
      have HRS := Lib.hid (exs5 T (nb T 4) (by omega))
      have H64 := Lib.hid (exs64 s F (by omega))
      rw [hze] at hz hci hroot HRS hn4 ⊢
      have HCI := Lib.hid hci; clear hci
      rw [hne] at HCI hb4 ⊢
      have E6 := (w64n (x := ((F + 5 : Nat) : Int) + (z : Int)) (n := F + 5 + z) (by omega) (by omega))
      have E7 := (w64n (x := 5 + (z : Int)) (n := 5 + z) (by omega) (by omega))
      simp only [E6.out, E7.out, Int.toNat_natCast, hroot]
      rw [if_pos (show (0 : Int) ≤ ((F + 5 : Nat) : Int) by omega), if_pos (show ((F + 5 : Nat) : Int) ≤ ((F + 5 + z : Nat) : Int) by omega), if_pos (show ((F + 5 + z : Nat) : Int) ≤ (s.size : Int) by omega), spec_CommitRecord_f _ _ _ (by omega), Option.bind_some]
      rw [if_pos (show (0 : Int) ≤ (F : Int) by omega), if_pos (show (F : Int) ≤ ((F + 64 : Nat) : Int) by omega), if_pos (show ((F + 64 : Nat) : Int) ≤ (s.size : Int) by omega)]
      have hno : ¬ (1 ≤ (n : Int) ∧ (n : Int) ≤ 1000000) → ¬ (commitRecV (n : Int) (T.extract 5 (5 + z))).toList = (s.extract F (F + 64)).toList := by
        intro hh e
        rw [commitRecV_no (fun g => hh ⟨g.1, g.2.1⟩), tl_iff] at e
        have := congrArg List.length e
        rw [ba_len, ba_len, H64.out] at this
        cases this
      by_cases g1 : (n : Int) < 1
      · rw [if_pos g1, if_neg (hno (fun g => by omega))]; exact ⟨_, rfl, rfl⟩
      · rw [if_neg g1]
        by_cases g2 : (n : Int) > 1000000
        · rw [if_pos g2, if_neg (hno (fun g => by omega))]; exact ⟨_, rfl, rfl⟩
        · rw [if_neg g2, if_pos (show (0 : Int) ≤ ((5 + z : Nat) : Int) by omega), if_pos (show ((5 + z : Nat) : Int) ≤ 63 by omega), if_pos (show (63 : Int) ≤ (T.size : Int) by omega)]
          have hzz : impl_zeros.f (T.extract (5 + z) 63) = some (zerB (T.extract (5 + z) 63)) := by
            unfold impl_zeros.f; rw [if_pos (Nat.le_trans (exsLe _ _ _) (by decide))]
          rw [hzz, Option.bind_some, commitRecV_yes ⟨by omega, by omega, by rw [HRS.out]; omega⟩, Int.toNat_natCast]
          by_cases hq : zer (T.extract (5 + z) 63)
          · rw [zer_true hq, if_pos rfl, if_pos (show (5 : Int) ≤ ((5 + z : Nat) : Int) by omega), if_pos (show ((5 + z : Nat) : Int) ≤ (T.size : Int) by omega)]
            rw [if_pos (by rw [tl_iff, take_of s T F 64 hTe]; exact HCI.out.2 ⟨by omega, hq⟩)]
            unfold strings_Clone.f
            rw [if_pos (by rw [HRS.out]; omega)]
            exact ⟨_, rfl, rfl⟩
          · rw [if_neg (by rw [tl_iff, take_of s T F 64 hTe]; exact fun e => hq (HCI.out.1 e).2), zer_false hq, if_neg (by decide)]
            exact ⟨_, rfl, rfl⟩
  · rw [if_neg hC, if_neg hC]
    -- the node
    have hN : impl_readNode.f T (sec : Int) = some (rdNode T (sec : Int) (b4 T : Int)) := by
      unfold impl_readNode.f; rw [eL, Option.bind_some, if_pos (by omega)]
    rw [hN]
    clear eL hN hn4
    rw [hne] at hb4 ⊢
    have hzero : rdNode T (sec : Int) (n : Int) = rec0 → ∃ r, some rec0 = some r ∧ (if (nb T 63 : Int) = 83 then some (rdNode T (sec : Int) (n : Int)) else some rec0) = some r := fun h => ⟨rec0, rfl, by rw [h]; split <;> rfl⟩
    by_cases g1 : (n : Int) < 1
    · rw [if_pos g1]
      simp only [spec_ReadRecord.j1, if_true]
      exact hzero (by unfold rdNode; rw [if_neg (fun g => by have := g.1; omega)]; rfl)
    rw [if_neg g1]
    by_cases g2 : (n : Int) > 4000
    · rw [decide_eq_true g2]
      simp only [spec_ReadRecord.j1, if_true]
      exact hzero (by unfold rdNode; rw [if_neg (fun g => by have := g.2.1; omega)]; rfl)
    rw [decide_eq_false g2]
    simp only [spec_ReadRecord.j1, Bool.false_eq_true, if_false]
    obtain ⟨c, hc⟩ : ∃ c, (n + 66) / 63 = c := ⟨_, rfl⟩
    have hci : ((n : Int) + 66) / 63 = (c : Int) := by omega
    have EC : Hid (wrap64 (Int.tdiv (wrap64 ((wrap64 ((n : Int) + 4)) + 62)) 63) = (c : Int)) := Lib.hid (by
      rw [w64 (x := (n : Int) + 4) (by omega) (by omega), w64 (x := (n : Int) + 4 + 62) (by omega) (by omega), Int.tdiv_eq_ediv_of_nonneg (by omega), w64 (by omega) (by omega)]
      omega)
    have EC64 := (w64n (x := (c : Int) * 64) (n := 64 * c) (by omega) (by omega))
    have EFC := (w64n (x := (F : Int) + ((64 * c : Nat) : Int)) (n := F + 64 * c) (by omega) (by omega))
    simp only [EC.out, EC64.out, EFC.out]
    by_cases g3 : ((F + 64 * c : Nat) : Int) > (s.size : Int)
    · rw [if_pos g3]
      exact hzero (by unfold rdNode; rw [hci, if_neg (fun g => by have := g.2.2.1; omega)]; rfl)
    rw [if_neg g3]
    have hum : spec_l2Unmarked.f k s (F : Int) (c : Int) = some (body T c) := by
      unfold spec_l2Unmarked.f
      exact l2Unmarked_loop s T F c hTe hT (by omega) hs c 0 k ⟨#[]⟩ (by omega) (by omega) rfl
    have hbs := body_sz T c (by omega)
    have hni := node_iff' T c n hne (by omega) (by omega) hc.symm (by omega)
    have HNI := Lib.hid hni; clear hni
    have HES := Lib.hid (exsE (body T c) (n) (by omega))
    have E4N := (w64n (x := 4 + (n : Int)) (n := 4 + n) (by omega) (by omega))
    simp only [hum, Option.bind_some, E4N.out, Int.toNat_natCast]
    clear hum
    rw [if_pos (show (4 : Int) ≤ ((4 + n : Nat) : Int) by omega), if_pos (show ((4 + n : Nat) : Int) ≤ ((body T c).size : Int) by omega), spec_NodeRecord_f _ _ (by omega), Option.bind_some]
    rw [if_pos (show (0 : Int) ≤ (F : Int) by omega), if_pos (show (F : Int) ≤ ((F + 64 * c : Nat) : Int) by omega), if_pos (show ((F + 64 * c : Nat) : Int) ≤ (s.size : Int) by omega)]
    rw [nodeRecV_yes (by rw [HES.out]; omega)]
    have hsame : ((nodeRec ((body T c).extract 4 (4 + n))).toList = (s.extract F (F + 64 * c)).toList) ↔ (nb T 63 = 83 ∧ marked T c ∧ zer ((body T c).extract (4 + n) (body T c).size)) := by
      rw [tl_iff, take_of s T F (64 * c) hTe]; exact HNI.out
    by_cases g4 : nb T 63 = 83 ∧ marked T c ∧ zer ((body T c).extract (4 + n) (body T c).size)
    · rw [if_pos (hsame.2 g4), if_pos (show (nb T 63 : Int) = 83 by have := g4.1; omega)]
      have hz : rdNode T (sec : Int) (n : Int) = (1, (body T c).extract 4 (4 + n), 0, ⟨#[]⟩, wrap64 ((sec : Int) + (c : Int))) := by
        unfold rdNode
        rw [hci, Int.toNat_natCast, Int.toNat_natCast, if_pos ⟨by omega, by omega, by omega, g4.2.1, g4.2.2⟩]
      rw [hz]
      exact ⟨_, rfl, rfl⟩
    · rw [if_neg (fun e => g4 (hsame.1 e))]
      refine ⟨_, rfl, ?_⟩
      by_cases h83 : (nb T 63 : Int) = 83
      · rw [if_pos h83]
        have hz : rdNode T (sec : Int) (n : Int) = (0, ⟨#[]⟩, 0, ⟨#[]⟩, 0) := by
          unfold rdNode
          rw [hci, Int.toNat_natCast, Int.toNat_natCast, if_neg (fun e => g4 ⟨by omega, e.2.2.2.1, e.2.2.2.2⟩)]
        rw [hz]
      · rw [if_neg h83]; rfl
end Go.Proofs.YtmfejehhfmaodabDoor.Z

end

/- The law FnExactReadRecord, walked. -/
section
namespace Go.Proofs.YtmfejehhfmaodabDoor
open Go.RowKit Go.Proofs.YtmfejehhfmaodabDoor.Z
set_option linter.unusedVariables false
set_option linter.unusedSimpArgs false
theorem lawFnExactReadRecord (a0 : ByteArray) (a1 : Int) (w : World) : Calls Tryd.prog 5 #[.string a0, .int .i64 a1] w fun e w' => e = .returned (.bool true) ∧ Below w.heap.size w w' := by
  refine laws_FnExactReadRecord.calls 2001 a0 a1 true w ?_
  unfold laws_FnExactReadRecord.f
  split
  · rfl
  · obtain ⟨r, h1, h2⟩ := rr_same a0 a1 (by omega) 2001 (by omega)
    rw [h1, h2, Option.bind_some, Option.bind_some]
    unfold laws_eqRecord.f
    simp
end Go.Proofs.YtmfejehhfmaodabDoor

end
