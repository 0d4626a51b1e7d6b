/- The reference's reading of a node is the program's: no program in sight. -/
import Derived.Test.YtpbcobiompgigaaDecS
namespace Go.Proofs.Ytpbcobiompgigaa
open Go.RowKit
set_option linter.unusedVariables false
set_option linter.unusedSimpArgs false
theorem ext_ext (s : ByteArray) (a b c d : Nat) : (s.extract a b).extract c d = s.extract (a + c) (min (a + d) b) := by
  apply ByteArray.ext
  simp [ByteArray.data_extract, Array.extract_extract]
theorem ext_size (s : ByteArray) (a b : Nat) : (s.extract a b).size = min b s.size - a := by simp
theorem ext_list (s : ByteArray) (a b : Nat) : (s.extract a b).data.toList = (s.data.toList.drop a).take (b - a) := by
  simp [ByteArray.data_extract, Array.toList_extract, List.extract]
theorem text_ok (s : ByteArray) (i m : Nat) (h : i + m ≤ s.size) : textR (s.extract i s.size) false m = (s.extract i (i + m), s.extract (i + m) s.size, false) := by
  unfold textR
  have hz := ext_size s i s.size
  rw [if_neg (by simp; omega)]
  rw [ext_ext, ext_ext, hz]
  refine Prod.ext ?_ (Prod.ext ?_ rfl)
  · show s.extract (i + 0) (min (i + ((m : Nat) : Int).toNat) s.size) = _
    congr 1
    simp; omega
  · show s.extract (i + ((m : Nat) : Int).toNat) (min (i + (min s.size s.size - i)) s.size) = _
    congr 1
    simp; omega
theorem text_bad (s : ByteArray) (i : Nat) (m : Int) (h : (s.size : Int) < i + m) (hi : i ≤ s.size) : (textR (s.extract i s.size) false m).2.2 = true := by
  unfold textR
  have hz := ext_size s i s.size
  rw [if_pos (by right; right; rw [hz]; omega)]
theorem text_stays (r : ByteArray) (m : Int) : textR r true m = (⟨#[]⟩, r, true) := by
  unfold textR
  rw [if_pos (Or.inl rfl)]
theorem sized_stays (r : ByteArray) : (sizedR r true).2.2 = true := by
  unfold sizedR
  rw [text_stays, text_stays]
theorem two_bytes (s : ByteArray) (i : Nat) (h : i + 2 ≤ s.size) : numV (s.extract i (i + 2)).data.toList = byteAt s i * 256 + byteAt s (i + 1) := by
  rw [ext_list]
  have hl : s.data.toList.length = s.size := rfl
  unfold byteAt
  rw [List.drop_eq_getElem_cons (by omega : i < s.data.toList.length), List.drop_eq_getElem_cons (by omega : i + 1 < s.data.toList.length)]
  rw [show i + 2 - i = 2 by omega]
  simp [numV, List.getD_eq_getElem?_getD, List.getElem?_eq_getElem (by omega : i < s.data.toList.length), List.getElem?_eq_getElem (by omega : i + 1 < s.data.toList.length)]
theorem one_byte (s : ByteArray) (i : Nat) (h : i + 1 ≤ s.size) : numV (s.extract i (i + 1)).data.toList = byteAt s i := by
  rw [ext_list]
  have hl : s.data.toList.length = s.size := rfl
  unfold byteAt
  rw [List.drop_eq_getElem_cons (by omega : i < s.data.toList.length)]
  rw [show i + 1 - i = 1 by omega]
  simp [numV, List.getD_eq_getElem?_getD, List.getElem?_eq_getElem (by omega : i < s.data.toList.length)]
theorem sized_piece (s : ByteArray) (i : Nat) (hi : i ≤ s.size) : (∀ k n, pieceS s i = some (k, n) → sizedR (s.extract i s.size) false = (k, s.extract n s.size, false)) ∧ (pieceS s i = none → (sizedR (s.extract i s.size) false).2.2 = true) := by
  unfold pieceS sizedR
  by_cases h1 : s.size < i + 2
  · rw [if_pos h1]
    refine ⟨fun k n h => (by cases h), fun _ => ?_⟩
    have hb := text_bad s i 2 (by omega) hi
    rw [hb, text_stays]
  · rw [if_neg h1]
    have ht := text_ok s i 2 (by omega)
    rw [show ((2 : Nat) : Int) = 2 from rfl] at ht
    rw [ht]
    dsimp only
    rw [two_bytes s i (by omega)]
    generalize byteAt s i * 256 + byteAt s (i + 1) = m
    by_cases h2 : s.size < i + 2 + m
    · rw [if_pos h2]
      refine ⟨fun k n h => (by cases h), fun _ => text_bad s (i + 2) m (by omega) (by omega)⟩
    · rw [if_neg h2]
      refine ⟨fun k n h => ?_, fun h => (by cases h)⟩
      simp only [Option.some.injEq, Prod.mk.injEq] at h
      obtain ⟨rfl, rfl⟩ := h
      exact text_ok s (i + 2) m (by omega)
theorem ext_full (s : ByteArray) : s.extract 0 s.size = s := by
  apply ByteArray.ext
  simp [ByteArray.data_extract]
theorem size0 (q : ByteArray) (h : q.size = 0) : q = ⟨#[]⟩ := by
  apply ByteArray.ext
  have h2 : q.data.size = 0 := h
  exact Array.eq_empty_of_size_eq_zero h2
theorem ite_same {α : Type} {p q : Prop} [Decidable p] [Decidable q] (h : p ↔ q) (a b : α) : ite p a b = ite q a b := by
  by_cases hp : p
  · rw [if_pos hp, if_pos (h.1 hp)]
  · rw [if_neg hp, if_neg (fun hq => hp (h.2 hq))]
theorem flagsOf_cases (l r : ByteArray) : flagsOf l r = (if l.size = 0 then 0 else 1) + (if r.size = 0 then 0 else 2) := rfl
theorem nodeOk_right {k v l r : ByteArray} {x : Int} (h : nodeOk k v l r x = true) : r.size = 0 ∨ (r.size : Int) = x := by
  unfold nodeOk hOk at h
  simp only [Bool.and_eq_true, Bool.or_eq_true, decide_eq_true_eq] at h
  omega
theorem tail_same (k v l q : ByteArray) (x : Int) (f : Nat) (hx : isW x = true) (hl : (l.size = 0 ∧ f % 2 = 0) ∨ (l.size ≠ 0 ∧ f % 2 = 1)) :
    (if nodeOk k v l q x = true ∧ flagsOf l q = (f : Int) then some (k, v, l, q) else none) =
      (if isW x = true ∧ (optText (decide (f / 2 % 2 = 1)) (l, q, false) x).2.2 = false ∧ (optText (decide (f / 2 % 2 = 1)) (l, q, false) x).2.1.size = 0 ∧ f ≤ 3 ∧ nodeOk k v l (optText (decide (f / 2 % 2 = 1)) (l, q, false) x).1 x = true then some (k, v, l, (optText (decide (f / 2 % 2 = 1)) (l, q, false) x).1) else none) := by
  have hx2 : 1 ≤ x ∧ x ≤ 32 := by unfold isW at hx; simp at hx; omega
  rw [flagsOf_cases]
  by_cases hb : f / 2 % 2 = 1
  · have ho : optText (decide (f / 2 % 2 = 1)) (l, q, false) x = textR q false x := by unfold optText; rw [if_pos (by simpa using hb)]
    rw [ho]
    by_cases h1 : (q.size : Int) < x
    · have ht : textR q false x = (⟨#[]⟩, q, true) := by unfold textR; rw [if_pos (Or.inr (Or.inr h1))]
      rw [ht, if_neg, if_neg]
      · intro h; exact Bool.noConfusion h.2.1
      · rintro ⟨h2, h3⟩
        have h4 := nodeOk_right h2
        have h5 : q.size = 0 := by omega
        rw [if_pos h5] at h3
        split at h3 <;> omega
    · have ht : textR q false x = (q.extract 0 x.toNat, q.extract x.toNat q.size, false) := by
        unfold textR; rw [if_neg (by simp; omega)]
      rw [ht]
      by_cases h2 : (q.size : Int) = x
      · have e1 : q.extract 0 x.toNat = q := by rw [show x.toNat = q.size by omega]; exact ext_full q
        have e2 : (q.extract x.toNat q.size).size = 0 := by rw [ext_size]; omega
        have h0 : q.size ≠ 0 := by omega
        dsimp only
        rw [e1, e2, if_neg h0]
        refine ite_same ?_ _ _
        constructor
        · rintro ⟨h3, h4⟩
          refine ⟨hx, rfl, rfl, ?_, h3⟩
          split at h4 <;> omega
        · rintro ⟨_, _, _, h3, h4⟩
          refine ⟨h4, ?_⟩
          split <;> omega
      · rw [if_neg, if_neg]
        · rintro ⟨_, _, h3, _⟩
          dsimp only at h3
          rw [ext_size] at h3
          omega
        · rintro ⟨h3, h4⟩
          have h5 := nodeOk_right h3
          have h6 : q.size = 0 := by omega
          omega
  · have ho : optText (decide (f / 2 % 2 = 1)) (l, q, false) x = (⟨#[]⟩, q, false) := by unfold optText; rw [if_neg (by simpa using hb)]
    rw [ho]
    dsimp only
    by_cases h0 : q.size = 0
    · rw [if_pos h0, size0 q h0]
      refine ite_same ?_ _ _
      constructor
      · rintro ⟨h3, h4⟩
        refine ⟨hx, rfl, rfl, ?_, h3⟩
        split at h4 <;> omega
      · rintro ⟨_, _, _, h3, h4⟩
        refine ⟨h4, ?_⟩
        split <;> omega
    · rw [if_neg, if_neg]
      · rintro ⟨_, _, h3, _⟩; exact h0 h3
      · rintro ⟨h3, h4⟩
        rw [if_neg h0] at h4
        split at h4 <;> omega
theorem piece_parts {s k : ByteArray} {i n : Nat} (h : pieceS s i = some (k, n)) : s.extract i n = sizedS k := by
  unfold pieceS at h
  split at h
  · cases h
  · split at h
    · cases h
    · rename_i h1 h2
      simp only [Option.some.injEq, Prod.mk.injEq] at h
      obtain ⟨rfl, rfl⟩ := h
      have hm := byteAt_lt s i
      have hl := byteAt_lt s (i + 1)
      have hz : (s.extract (i + 2) (i + 2 + (byteAt s i * 256 + byteAt s (i + 1)))).size = byteAt s i * 256 + byteAt s (i + 1) := by rw [ext_size]; omega
      have hs : s.data.toList.length = s.size := rfl
      unfold sizedS
      rw [hz, show (((byteAt s i * 256 + byteAt s (i + 1) : Nat) : Int) / 256) = (byteAt s i : Int) by omega, show (((byteAt s i * 256 + byteAt s (i + 1) : Nat) : Int) % 256) = (byteAt s (i + 1) : Int) by omega]
      generalize byteAt s i * 256 + byteAt s (i + 1) = m at *
      rw [byteS_list, byteS_list]
      apply ByteArray.ext
      apply Array.toList_inj.mp
      rw [ByteArray.data_append, ByteArray.data_append, Array.toList_append, Array.toList_append, ext_list, ext_list]
      rw [List.drop_eq_getElem_cons (by omega : i < s.data.toList.length), List.drop_eq_getElem_cons (by omega : i + 1 < s.data.toList.length)]
      rw [show i + 2 + m - i = m + 2 by omega, show i + 2 + m - (i + 2) = m by omega]
      unfold byteAt
      simp [List.getD_eq_getElem?_getD, List.getElem?_eq_getElem (by omega : i < s.data.toList.length), List.getElem?_eq_getElem (by omega : i + 1 < s.data.toList.length)]
theorem ext_join (s : ByteArray) (a b c : Nat) (h1 : a ≤ b) (h2 : b ≤ c) : s.extract a b ++ s.extract b c = s.extract a c := by
  apply ByteArray.ext
  apply Array.toList_inj.mp
  rw [ByteArray.data_append, Array.toList_append, ext_list, ext_list, ext_list]
  rw [show c - a = (b - a) + (c - b) by omega, List.take_add, List.drop_drop, show a + (b - a) = b by omega]
theorem one_ext (s : ByteArray) (n : Nat) (h : n < s.size) : s.extract n (n + 1) = byteS (byteAt s n) := by
  have hs : s.data.toList.length = s.size := rfl
  rw [byteS_list]
  apply ByteArray.ext
  apply Array.toList_inj.mp
  rw [ext_list, List.drop_eq_getElem_cons (by omega : n < s.data.toList.length), show n + 1 - n = 1 by omega]
  unfold byteAt
  simp [List.getD_eq_getElem?_getD, List.getElem?_eq_getElem (by omega : n < s.data.toList.length)]
theorem text_parts {s k v : ByteArray} {i n : Nat} (h1 : pieceS s 0 = some (k, i)) (h2 : pieceS s i = some (v, n)) (hn : n < s.size) :
    s = sizedS k ++ sizedS v ++ byteS (byteAt s n) ++ s.extract (n + 1) s.size := by
  have a1 := pieceS_le h1
  have a2 := pieceS_le h2
  rw [← piece_parts h1, ← piece_parts h2, ← one_ext s n hn, ext_join s 0 i n (by omega) (by omega), ext_join s 0 n (n + 1) (by omega) (by omega), ext_join s 0 (n + 1) s.size (by omega) (by omega), ext_full]
theorem enc_iff (s k v l q rest : ByteArray) (f : Nat) (x : Int) (hf : f < 256) (hs : s = sizedS k ++ sizedS v ++ byteS f ++ rest) (hr : rest = l ++ q) :
    encNode k v l q x = s ↔ nodeOk k v l q x = true ∧ flagsOf l q = (f : Int) := by
  subst hr
  unfold encNode
  by_cases hok : nodeOk k v l q x = true
  · rw [if_pos hok]
    have hfl : flagsOf l q = 0 ∨ flagsOf l q = 1 ∨ flagsOf l q = 2 ∨ flagsOf l q = 3 := by
      rw [flagsOf_cases]
      split <;> split <;> simp
    obtain ⟨g, hg, hg2⟩ : ∃ g : Nat, flagsOf l q = (g : Int) ∧ g < 256 := by
      rcases hfl with h | h | h | h
      · exact ⟨0, h, by omega⟩
      · exact ⟨1, h, by omega⟩
      · exact ⟨2, h, by omega⟩
      · exact ⟨3, h, by omega⟩
    rw [hg]
    constructor
    · intro h
      refine ⟨hok, ?_⟩
      rw [hs] at h
      have h2 := congrArg (fun z : ByteArray => z.data.toList) h
      simp only [byteS_list, ByteArray.data_append, Array.toList_append, List.append_assoc, List.append_cancel_left_eq] at h2
      simp only [List.cons_append, List.nil_append, List.cons.injEq] at h2
      have h3 := congrArg UInt8.toNat h2.1
      rw [UInt8.toNat_ofNat', UInt8.toNat_ofNat'] at h3
      omega
    · rintro ⟨_, h⟩
      have hgf : g = f := by omega
      rw [hs, hgf]
      simp only [ByteArray.append_assoc]
  · rw [if_neg hok]
    constructor
    · intro h
      have h2 : (0 : Nat) = (sizedS k ++ sizedS v ++ byteS f ++ (l ++ q)).size := congrArg ByteArray.size (h.trans hs)
      simp only [ByteArray.size_append, byteS_size] at h2
      omega
    · rintro ⟨h, _⟩
      exact absurd h hok
theorem stays_text (r : ByteArray) (bad : Bool) (m : Int) (h : bad = true) : (textR r bad m).2.2 = true := by
  subst h; rw [text_stays]
theorem stays_opt (p : Bool) (t : ByteArray × ByteArray × Bool) (x : Int) (h : t.2.2 = true) : (optText p t x).2.2 = true := by
  unfold optText
  split
  · exact stays_text _ _ _ h
  · exact h
theorem tail_bad (k : ByteArray) (V : ByteArray × ByteArray × Bool) (x : Int) (h : V.2.2 = true) :
    (optText (decide (numV (textR V.2.1 V.2.2 1).1.data.toList / 2 % 2 = 1)) (optText (decide (numV (textR V.2.1 V.2.2 1).1.data.toList % 2 = 1)) (textR V.2.1 V.2.2 1) x) x).2.2 = true :=
  stays_opt _ _ x (stays_opt _ _ x (stays_text _ _ 1 h))
theorem dec_same (s : ByteArray) (x : Int) : decS s x = decI s x := by
  unfold decS decI
  dsimp only
  by_cases hx : isW x = true
  · rcases h1 : pieceS s 0 with _ | ⟨k, i⟩
    · have hb := (sized_piece s 0 (Nat.zero_le _)).2 h1
      rw [ext_full] at hb
      have hc : (sizedR (sizedR s false).2.1 (sizedR s false).2.2).2.2 = true := by rw [hb]; exact sized_stays _
      have hd := tail_bad s _ x hc
      rw [if_neg]
      rintro ⟨_, h, _⟩
      rw [hd] at h
      cases h
    · have hk := (sized_piece s 0 (Nat.zero_le _)).1 k i h1
      rw [ext_full] at hk
      have hi := pieceS_le h1
      rw [hk]
      dsimp only
      rcases h2 : pieceS s i with _ | ⟨v, n⟩
      · have hc := (sized_piece s i hi.1).2 h2
        have hd := tail_bad s _ x hc
        rw [if_neg]
        rintro ⟨_, h, _⟩
        rw [hd] at h
        cases h
      · have hv := (sized_piece s i hi.1).1 v n h2
        have hn := pieceS_le h2
        rw [hv]
        dsimp only
        by_cases h3 : s.size ≤ n
        · rw [if_pos (Or.inl h3)]
          have hc := text_bad s n 1 (by omega) hn.1
          have hd := stays_opt (decide (numV (textR (s.extract n s.size) false 1).1.data.toList / 2 % 2 = 1)) _ x (stays_opt (decide (numV (textR (s.extract n s.size) false 1).1.data.toList % 2 = 1)) _ x hc)
          rw [if_neg]
          rintro ⟨_, h, _⟩
          rw [hd] at h
          cases h
        · rw [if_neg (by rw [hx]; simp; omega)]
          have hf := text_ok s n 1 (by omega)
          rw [show ((1 : Nat) : Int) = 1 from rfl] at hf
          rw [hf]
          dsimp only
          rw [one_byte s n (by omega)]
          have hp := text_parts h1 h2 (by omega)
          have hlt := byteAt_lt s n
          generalize byteAt s n = f at hp hlt ⊢
          have hrz : (s.extract (n + 1) s.size).size = s.size - (n + 1) := by rw [ext_size]; omega
          generalize s.extract (n + 1) s.size = rest at hp hrz ⊢
          generalize s.extract n (n + 1) = ft
          by_cases hodd : f % 2 = 1
          · rw [if_pos hodd, ← hrz]
            have ho : optText (decide (f % 2 = 1)) (ft, rest, false) x = textR rest false x := by unfold optText; rw [if_pos (by simpa using hodd)]
            rw [ho]
            have hx2 : 1 ≤ x ∧ x ≤ 32 := by unfold isW at hx; simp at hx; omega
            by_cases h4 : ((rest.size : Nat) : Int) < x
            · rw [if_pos h4, if_neg]
              rintro ⟨_, h, _⟩
              have hc : (textR rest false x).2.2 = true := by unfold textR; rw [if_pos (Or.inr (Or.inr h4))]
              have hd := stays_opt (decide (f / 2 % 2 = 1)) _ x hc
              rw [hd] at h
              cases h
            · rw [if_neg h4]
              have ht : textR rest false x = (rest.extract 0 x.toNat, rest.extract x.toNat rest.size, false) := by
                unfold textR; rw [if_neg (by simp; omega)]
              rw [ht]
              have hj : rest = rest.extract 0 x.toNat ++ rest.extract x.toNat rest.size := by rw [ext_join rest 0 x.toNat rest.size (by omega) (by omega), ext_full]
              have hls : (rest.extract 0 x.toNat).size = x.toNat := by rw [ext_size]; omega
              unfold finS
              rw [ite_same (enc_iff s k v _ _ rest f x hlt hp hj)]
              exact tail_same k v _ _ x f hx (Or.inr ⟨by omega, hodd⟩)
          · rw [if_neg hodd]
            have ho : optText (decide (f % 2 = 1)) (ft, rest, false) x = (⟨#[]⟩, rest, false) := by unfold optText; rw [if_neg (by simpa using hodd)]
            rw [ho]
            have hj : rest = (⟨#[]⟩ : ByteArray) ++ rest := by apply ByteArray.ext; simp [ByteArray.data_append]
            unfold finS
            rw [ite_same (enc_iff s k v _ _ rest f x hlt hp hj)]
            exact tail_same k v _ _ x f hx (Or.inl ⟨rfl, by omega⟩)
  · have hx' : isW x = false := by simpa using hx
    rw [if_neg (fun h => hx h.1)]
    rcases h1 : pieceS s 0 with _ | ⟨k, i⟩
    · rfl
    · dsimp only
      rcases h2 : pieceS s i with _ | ⟨v, n⟩
      · rfl
      · dsimp only
        rw [if_pos (Or.inr hx')]
end Go.Proofs.Ytpbcobiompgigaa
