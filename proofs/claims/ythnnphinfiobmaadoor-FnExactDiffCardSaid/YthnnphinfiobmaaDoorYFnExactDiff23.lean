/- Own texts, joined. -/
import Derived.Test.YthnnphinfiobmaaDoorYFnExactDiff27
import Derived.Test.YthnnphinfiobmaaDoorYFnExactDiff28
import Derived.Test.YthnnphinfiobmaaDoorYFnExactDiff22
import Derived.Test.YthnnphinfiobmaaDoorYFnExactDiff21
import Derived.Lib.BufferWrite
import Derived.Deep.RegionHeld3
import Derived.WalkLawsBesides
import Derived.Laws.EntriesVeiled
section
namespace Go.Proofs.YthnnphinfiobmaaDoor
open RowKit
set_option linter.all false
theorem ext_ext (s : ByteArray) (a b c d : Nat) : (s.extract a b).extract c d = s.extract (a + c) (min (a + d) b) := by
 apply ByteArray.ext
 simp [ByteArray.data_extract, Array.extract_extract]
theorem ext_size (s : ByteArray) (a b : Nat) : (s.extract a b).size = min b s.size - a := by simp
theorem ext_list (s : ByteArray) (a b : Nat) : (s.extract a b).data.toList = (s.data.toList.drop a).take (b - a) := by
 simp [ByteArray.data_extract, Array.toList_extract, List.extract]
theorem text_ok (s : ByteArray) (i m : Nat) (h : i + m ≤ s.size) : textR (s.extract i s.size) false m = (s.extract i (i + m), s.extract (i + m) s.size, false) := by
 unfold textR; have hz := ext_size s i s.size; rw [if_neg (by simp; omega)]; rw [ext_ext, ext_ext, hz]; refine Prod.ext ?_ (Prod.ext ?_ rfl)
 ·show s.extract (i + 0) (min (i + ((m : Nat) : Int).toNat) s.size) = _
  congr 1
  simp; omega
 ·show s.extract (i + ((m : Nat) : Int).toNat) (min (i + (min s.size s.size - i)) s.size) = _
  congr 1
  simp; omega
theorem text_bad (s : ByteArray) (i : Nat) (m : Int) (h : (s.size : Int) < i + m) (hi : i ≤ s.size) : (textR (s.extract i s.size) false m).2.2 = true := by
 unfold textR; have hz := ext_size s i s.size; rw [if_pos (by right; right; rw [hz]; omega)]
theorem text_stays (r : ByteArray) (m : Int) : textR r true m = (⟨#[]⟩, r, true) := by
 unfold textR; rw [if_pos (Or.inl rfl)]
theorem sized_stays (r : ByteArray) : (sizedR r true).2.2 = true := by
 unfold sizedR; rw [text_stays, text_stays]
theorem two_bytes (s : ByteArray) (i : Nat) (h : i + 2 ≤ s.size) : numV (s.extract i (i + 2)).data.toList = byteAt s i * 256 + byteAt s (i + 1) := by
 rw [ext_list]; have hl : s.data.toList.length = s.size := rfl; unfold byteAt; rw [List.drop_eq_getElem_cons (by omega : i < s.data.toList.length), List.drop_eq_getElem_cons (by omega : i + 1 < s.data.toList.length)]; rw [show i + 2 - i = 2 by omega]; simp [numV, List.getD_eq_getElem?_getD, List.getElem?_eq_getElem (by omega : i < s.data.toList.length), List.getElem?_eq_getElem (by omega : i + 1 < s.data.toList.length)]
theorem one_byte (s : ByteArray) (i : Nat) (h : i + 1 ≤ s.size) : numV (s.extract i (i + 1)).data.toList = byteAt s i := by
 rw [ext_list]; have hl : s.data.toList.length = s.size := rfl; unfold byteAt; rw [List.drop_eq_getElem_cons (by omega : i < s.data.toList.length)]; rw [show i + 1 - i = 1 by omega]; simp [numV, List.getD_eq_getElem?_getD, List.getElem?_eq_getElem (by omega : i < s.data.toList.length)]
theorem sized_piece (s : ByteArray) (i : Nat) (hi : i ≤ s.size) : (∀ k n, pieceS s i = some (k, n) → sizedR (s.extract i s.size) false = (k, s.extract n s.size, false)) ∧ (pieceS s i = none → (sizedR (s.extract i s.size) false).2.2 = true) := by
 unfold pieceS sizedR
 by_cases h1 : s.size < i + 2
 ·rw [if_pos h1]; refine ⟨fun k n h => (by cases h), fun _ => ?_⟩; have hb := text_bad s i 2 (by omega) hi; rw [hb, text_stays]
 ·rw [if_neg h1]; have ht := text_ok s i 2 (by omega); rw [show ((2 : Nat) : Int) = 2 from rfl] at ht; rw [ht]; dsimp only; rw [two_bytes s i (by omega)]; generalize byteAt s i * 256 + byteAt s (i + 1) = m
  by_cases h2 : s.size < i + 2 + m
  ·rw [if_pos h2]; refine ⟨fun k n h => (by cases h), fun _ => text_bad s (i + 2) m (by omega) (by omega)⟩
  ·rw [if_neg h2]; refine ⟨fun k n h => ?_, fun h => (by cases h)⟩; simp only [Option.some.injEq, Prod.mk.injEq] at h; obtain ⟨rfl, rfl⟩ := h; exact text_ok s (i + 2) m (by omega)
theorem ext_full (s : ByteArray) : s.extract 0 s.size = s := by
 apply ByteArray.ext
 simp [ByteArray.data_extract]
theorem size0 (q : ByteArray) (h : q.size = 0) : q = ⟨#[]⟩ := by
 apply ByteArray.ext
 have h2 : q.data.size = 0 := h; exact Array.eq_empty_of_size_eq_zero h2
theorem ite_same {α : Type} {p q : Prop} [Decidable p] [Decidable q] (h : p ↔ q) (a b : α) : ite p a b = ite q a b := by
 by_cases hp : p
 ·rw [if_pos hp, if_pos (h.1 hp)]
 ·rw [if_neg hp, if_neg (fun hq => hp (h.2 hq))]
theorem flagsOf_cases (l r : ByteArray) : flagsOf l r = (if l.size = 0 then 0 else 1) + (if r.size = 0 then 0 else 2) := rfl
theorem nodeOk_right {k v l r : ByteArray} {x : Int} (h : nodeOk k v l r x = true) : r.size = 0 ∨ (r.size : Int) = x := by
 unfold nodeOk hOk at h; simp only [Bool.and_eq_true, Bool.or_eq_true, decide_eq_true_eq] at h; omega
theorem tail_same (k v l q : ByteArray) (x : Int) (f : Nat) (hx : isW x = true) (hl : (l.size = 0 ∧ f % 2 = 0) ∨ (l.size ≠ 0 ∧ f % 2 = 1)) :
  (if nodeOk k v l q x = true ∧ flagsOf l q = (f : Int) then some (k, v, l, q) else none) =
   (if isW x = true ∧ (optText (decide (f / 2 % 2 = 1)) (l, q, false) x).2.2 = false ∧ (optText (decide (f / 2 % 2 = 1)) (l, q, false) x).2.1.size = 0 ∧ f ≤ 3 ∧ nodeOk k v l (optText (decide (f / 2 % 2 = 1)) (l, q, false) x).1 x = true then some (k, v, l, (optText (decide (f / 2 % 2 = 1)) (l, q, false) x).1) else none) := by
 have hx2 : 1 ≤ x ∧ x ≤ 32 := by unfold isW at hx; simp at hx; omega
 rw [flagsOf_cases]
 by_cases hb : f / 2 % 2 = 1
 ·have ho : optText (decide (f / 2 % 2 = 1)) (l, q, false) x = textR q false x := by unfold optText; rw [if_pos (by simpa using hb)]
  rw [ho]
  by_cases h1 : (q.size : Int) < x
  ·have ht : textR q false x = (⟨#[]⟩, q, true) := by unfold textR; rw [if_pos (Or.inr (Or.inr h1))]
   rw [ht, if_neg, if_neg]
   ·intro h; exact Bool.noConfusion h.2.1
   ·rintro ⟨h2, h3⟩; have h4 := nodeOk_right h2; have h5 : q.size = 0 := by omega
    rw [if_pos h5] at h3
    split at h3 <;> omega
  ·have ht : textR q false x = (q.extract 0 x.toNat, q.extract x.toNat q.size, false) := by
    unfold textR; rw [if_neg (by simp; omega)]
   rw [ht]
   by_cases h2 : (q.size : Int) = x
   ·have e1 : q.extract 0 x.toNat = q := by rw [show x.toNat = q.size by omega]; exact ext_full q
    have e2 : (q.extract x.toNat q.size).size = 0 := by rw [ext_size]; omega
    have h0 : q.size ≠ 0 := by omega
    dsimp only; rw [e1, e2, if_neg h0]; refine ite_same ?_ _ _
    constructor
    ·rintro ⟨h3, h4⟩; refine ⟨hx, rfl, rfl, ?_, h3⟩
     split at h4 <;> omega
    ·rintro ⟨_, _, _, h3, h4⟩; refine ⟨h4, ?_⟩
     split <;> omega
   ·rw [if_neg, if_neg]
    ·rintro ⟨_, _, h3, _⟩; dsimp only at h3; rw [ext_size] at h3; omega
    ·rintro ⟨h3, h4⟩; have h5 := nodeOk_right h3; have h6 : q.size = 0 := by omega
     omega
 ·have ho : optText (decide (f / 2 % 2 = 1)) (l, q, false) x = (⟨#[]⟩, q, false) := by unfold optText; rw [if_neg (by simpa using hb)]
  rw [ho]; dsimp only
  by_cases h0 : q.size = 0
  ·rw [if_pos h0, size0 q h0]; refine ite_same ?_ _ _
   constructor
   ·rintro ⟨h3, h4⟩; refine ⟨hx, rfl, rfl, ?_, h3⟩
    split at h4 <;> omega
   ·rintro ⟨_, _, _, h3, h4⟩; refine ⟨h4, ?_⟩
    split <;> omega
  ·rw [if_neg, if_neg]
   ·rintro ⟨_, _, h3, _⟩; exact h0 h3
   ·rintro ⟨h3, h4⟩; rw [if_neg h0] at h4
    split at h4 <;> omega
theorem piece_parts {s k : ByteArray} {i n : Nat} (h : pieceS s i = some (k, n)) : s.extract i n = sizedS k := by
 unfold pieceS at h
 split at h
 ·cases h
 ·split at h
  ·cases h
  ·rename_i h1 h2
   simp only [Option.some.injEq, Prod.mk.injEq] at h; obtain ⟨rfl, rfl⟩ := h; have hm := byteAt_lt s i; have hl := byteAt_lt s (i + 1); have hz : (s.extract (i + 2) (i + 2 + (byteAt s i * 256 + byteAt s (i + 1)))).size = byteAt s i * 256 + byteAt s (i + 1) := by rw [ext_size]; omega
   have hs : s.data.toList.length = s.size := rfl; unfold sizedS; rw [hz, show (((byteAt s i * 256 + byteAt s (i + 1) : Nat) : Int) / 256) = (byteAt s i : Int) by omega, show (((byteAt s i * 256 + byteAt s (i + 1) : Nat) : Int) % 256) = (byteAt s (i + 1) : Int) by omega]; generalize byteAt s i * 256 + byteAt s (i + 1) = m at *; rw [byteS_list, byteS_list]
   apply ByteArray.ext
   apply Array.toList_inj.mp
   rw [ByteArray.data_append, ByteArray.data_append, Array.toList_append, Array.toList_append, ext_list, ext_list]; rw [List.drop_eq_getElem_cons (by omega : i < s.data.toList.length), List.drop_eq_getElem_cons (by omega : i + 1 < s.data.toList.length)]; rw [show i + 2 + m - i = m + 2 by omega, show i + 2 + m - (i + 2) = m by omega]; unfold byteAt; simp [List.getD_eq_getElem?_getD, List.getElem?_eq_getElem (by omega : i < s.data.toList.length), List.getElem?_eq_getElem (by omega : i + 1 < s.data.toList.length)]
theorem ext_join (s : ByteArray) (a b c : Nat) (h1 : a ≤ b) (h2 : b ≤ c) : s.extract a b ++ s.extract b c = s.extract a c := by
 apply ByteArray.ext
 apply Array.toList_inj.mp
 rw [ByteArray.data_append, Array.toList_append, ext_list, ext_list, ext_list]; rw [show c - a = (b - a) + (c - b) by omega, List.take_add, List.drop_drop, show a + (b - a) = b by omega]
theorem one_ext (s : ByteArray) (n : Nat) (h : n < s.size) : s.extract n (n + 1) = byteS (byteAt s n) := by
 have hs : s.data.toList.length = s.size := rfl; rw [byteS_list]
 apply ByteArray.ext
 apply Array.toList_inj.mp
 rw [ext_list, List.drop_eq_getElem_cons (by omega : n < s.data.toList.length), show n + 1 - n = 1 by omega]; unfold byteAt; simp [List.getD_eq_getElem?_getD, List.getElem?_eq_getElem (by omega : n < s.data.toList.length)]
theorem text_parts {s k v : ByteArray} {i n : Nat} (h1 : pieceS s 0 = some (k, i)) (h2 : pieceS s i = some (v, n)) (hn : n < s.size) :
  s = sizedS k ++ sizedS v ++ byteS (byteAt s n) ++ s.extract (n + 1) s.size := by
 have a1 := pieceS_le h1; have a2 := pieceS_le h2; rw [← piece_parts h1, ← piece_parts h2, ← one_ext s n hn, ext_join s 0 i n (by omega) (by omega), ext_join s 0 n (n + 1) (by omega) (by omega), ext_join s 0 (n + 1) s.size (by omega) (by omega), ext_full]
theorem enc_iff (s k v l q rest : ByteArray) (f : Nat) (x : Int) (hf : f < 256) (hs : s = sizedS k ++ sizedS v ++ byteS f ++ rest) (hr : rest = l ++ q) :
  encNode k v l q x = s ↔ nodeOk k v l q x = true ∧ flagsOf l q = (f : Int) := by
 subst hr; unfold encNode
 by_cases hok : nodeOk k v l q x = true
 ·rw [if_pos hok]; have hfl : flagsOf l q = 0 ∨ flagsOf l q = 1 ∨ flagsOf l q = 2 ∨ flagsOf l q = 3 := by
   rw [flagsOf_cases]
   split <;> split <;> simp
  obtain ⟨g, hg, hg2⟩ : ∃ g : Nat, flagsOf l q = (g : Int) ∧ g < 256 := by
   rcases hfl with h | h | h | h
   ·exact ⟨0, h, by omega⟩
   ·exact ⟨1, h, by omega⟩
   ·exact ⟨2, h, by omega⟩
   ·exact ⟨3, h, by omega⟩
  rw [hg]
  constructor
  ·intro h; refine ⟨hok, ?_⟩; rw [hs] at h; have h2 := congrArg (fun z : ByteArray => z.data.toList) h; simp only [byteS_list, ByteArray.data_append, Array.toList_append, List.append_assoc, List.append_cancel_left_eq] at h2; simp only [List.cons_append, List.nil_append, List.cons.injEq] at h2; have h3 := congrArg UInt8.toNat h2.1; rw [UInt8.toNat_ofNat', UInt8.toNat_ofNat'] at h3; omega
  ·rintro ⟨_, h⟩; have hgf : g = f := by omega
   rw [hs, hgf]; simp only [ByteArray.append_assoc]
 ·rw [if_neg hok]
  constructor
  ·intro h; have h2 : (0 : Nat) = (sizedS k ++ sizedS v ++ byteS f ++ (l ++ q)).size := congrArg ByteArray.size (h.trans hs); simp only [ByteArray.size_append, byteS_size] at h2; omega
  ·rintro ⟨h, _⟩; exact absurd h hok
theorem stays_text (r : ByteArray) (bad : Bool) (m : Int) (h : bad = true) : (textR r bad m).2.2 = true := by
 subst h; rw [text_stays]
theorem stays_opt (p : Bool) (t : ByteArray × ByteArray × Bool) (x : Int) (h : t.2.2 = true) : (optText p t x).2.2 = true := by
 unfold optText
 split
 ·exact stays_text _ _ _ h
 ·exact h
theorem tail_bad (k : ByteArray) (V : ByteArray × ByteArray × Bool) (x : Int) (h : V.2.2 = true) :
  (optText (decide (numV (textR V.2.1 V.2.2 1).1.data.toList / 2 % 2 = 1)) (optText (decide (numV (textR V.2.1 V.2.2 1).1.data.toList % 2 = 1)) (textR V.2.1 V.2.2 1) x) x).2.2 = true :=
 stays_opt _ _ x (stays_opt _ _ x (stays_text _ _ 1 h))
theorem dec_same (s : ByteArray) (x : Int) : decS s x = decI s x := by
 unfold decS decI; dsimp only
 by_cases hx : isW x = true
 ·rcases h1 : pieceS s 0 with _ | ⟨k, i⟩
  ·have hb := (sized_piece s 0 (Nat.zero_le _)).2 h1; rw [ext_full] at hb; have hc : (sizedR (sizedR s false).2.1 (sizedR s false).2.2).2.2 = true := by rw [hb]; exact sized_stays _
   have hd := tail_bad s _ x hc; rw [if_neg]; rintro ⟨_, h, _⟩; rw [hd] at h
   cases h
  ·have hk := (sized_piece s 0 (Nat.zero_le _)).1 k i h1; rw [ext_full] at hk; have hi := pieceS_le h1; rw [hk]; dsimp only
   rcases h2 : pieceS s i with _ | ⟨v, n⟩
   ·have hc := (sized_piece s i hi.1).2 h2; have hd := tail_bad s _ x hc; rw [if_neg]; rintro ⟨_, h, _⟩; rw [hd] at h
    cases h
   ·have hv := (sized_piece s i hi.1).1 v n h2; have hn := pieceS_le h2; rw [hv]; dsimp only
    by_cases h3 : s.size ≤ n
    ·rw [if_pos (Or.inl h3)]; have hc := text_bad s n 1 (by omega) hn.1; have hd := stays_opt (decide (numV (textR (s.extract n s.size) false 1).1.data.toList / 2 % 2 = 1)) _ x (stays_opt (decide (numV (textR (s.extract n s.size) false 1).1.data.toList % 2 = 1)) _ x hc); rw [if_neg]; rintro ⟨_, h, _⟩; rw [hd] at h
     cases h
    ·rw [if_neg (by rw [hx]; simp; omega)]; have hf := text_ok s n 1 (by omega); rw [show ((1 : Nat) : Int) = 1 from rfl] at hf; rw [hf]; dsimp only; rw [one_byte s n (by omega)]; have hp := text_parts h1 h2 (by omega); have hlt := byteAt_lt s n; generalize byteAt s n = f at hp hlt ⊢; have hrz : (s.extract (n + 1) s.size).size = s.size - (n + 1) := by rw [ext_size]; omega
     generalize s.extract (n + 1) s.size = rest at hp hrz ⊢; generalize s.extract n (n + 1) = ft
     by_cases hodd : f % 2 = 1
     ·rw [if_pos hodd, ← hrz]; have ho : optText (decide (f % 2 = 1)) (ft, rest, false) x = textR rest false x := by unfold optText; rw [if_pos (by simpa using hodd)]
      rw [ho]; have hx2 : 1 ≤ x ∧ x ≤ 32 := by unfold isW at hx; simp at hx; omega
      by_cases h4 : ((rest.size : Nat) : Int) < x
      ·rw [if_pos h4, if_neg]; rintro ⟨_, h, _⟩; have hc : (textR rest false x).2.2 = true := by unfold textR; rw [if_pos (Or.inr (Or.inr h4))]
       have hd := stays_opt (decide (f / 2 % 2 = 1)) _ x hc; rw [hd] at h
       cases h
      ·rw [if_neg h4]; have ht : textR rest false x = (rest.extract 0 x.toNat, rest.extract x.toNat rest.size, false) := by
        unfold textR; rw [if_neg (by simp; omega)]
       rw [ht]; have hj : rest = rest.extract 0 x.toNat ++ rest.extract x.toNat rest.size := by rw [ext_join rest 0 x.toNat rest.size (by omega) (by omega), ext_full]
       have hls : (rest.extract 0 x.toNat).size = x.toNat := by rw [ext_size]; omega
       unfold finS; rw [ite_same (enc_iff s k v _ _ rest f x hlt hp hj)]; exact tail_same k v _ _ x f hx (Or.inr ⟨by omega, hodd⟩)
     ·rw [if_neg hodd]; have ho : optText (decide (f % 2 = 1)) (ft, rest, false) x = (⟨#[]⟩, rest, false) := by unfold optText; rw [if_neg (by simpa using hodd)]
      rw [ho]; have hj : rest = (⟨#[]⟩ : ByteArray) ++ rest := by apply ByteArray.ext; simp [ByteArray.data_append]
      unfold finS; rw [ite_same (enc_iff s k v _ _ rest f x hlt hp hj)]; exact tail_same k v _ _ x f hx (Or.inl ⟨rfl, by omega⟩)
 ·have hx' : isW x = false := by simpa using hx
  rw [if_neg (fun h => hx h.1)]
  rcases h1 : pieceS s 0 with _ | ⟨k, i⟩
  ·rfl
  ·dsimp only
   rcases h2 : pieceS s i with _ | ⟨v, n⟩
   ·rfl
   ·dsimp only; rw [if_pos (Or.inr hx')]
end Go.Proofs.YthnnphinfiobmaaDoor
end
section
namespace Go.Proofs.YthnnphinfiobmaaDoor.Z
open RowKit YthnnphinfiobmaaDoor
set_option linter.all false
def decT : Option (ByteArray × ByteArray × ByteArray × ByteArray) → ByteArray × ByteArray × ByteArray × ByteArray × Bool
 | none => (⟨#[]⟩, ⟨#[]⟩, ⟨#[]⟩, ⟨#[]⟩, false)
 | some (a, b, c, d) => (a, b, c, d, true)
def spec_DecodeNode.f (a0 : ByteArray) (a1 : Int) : Option (ByteArray × ByteArray × ByteArray × ByteArray × Bool) := if a0.size ≤ 4294967296 then some (decT (decI a0 a1)) else none
theorem spec_DecodeNode.calls (a0 : ByteArray) (a1 : Int) (r1 r2 r3 r4 : ByteArray) (r5 : Bool) (w : World) (h : spec_DecodeNode.f a0 a1 = some (r1, r2, r3, r4, r5)) :
  Calls Tryd.prog 112 #[.string a0, .int .i64 a1] w fun e w' => e = .returned (.tuple #[.agg #[.string r1, .string r2, .string r3, .string r4], .bool r5]) ∧ Below w.heap.size w w' := by
 unfold spec_DecodeNode.f at h
 split at h
 ·rename_i hs
  have h := Option.some.inj h; refine (specDecodeNode_any a0 a1 hs w).mono ?_; rintro e w' ⟨rfl, hb⟩; rw [dec_same]; refine ⟨?_, hb⟩
  rcases hz : decI a0 a1 with _ | ⟨a, b, c, d⟩
  all_goals
   rw [hz] at h; simp only [decT, Prod.mk.injEq] at h; obtain ⟨rfl, rfl, rfl, rfl, rfl⟩ := h; rfl
 ·cases h
end Go.Proofs.YthnnphinfiobmaaDoor.Z
end
section
namespace Go.Proofs.YthnnphinfiobmaaDoor.Z
open RowKit YthnnphinfiobmaaDoorW.PrintWords YthnnphinfiobmaaDoorW.PrintLast YthnnphinfiobmaaDoorW.PrintMore
attribute [local go_sem] max2_int min2_int max_two min_two max_three min_three max_four min_four
set_option linter.all false
def impl_isWidth.f (a0 : Int) : Option (Bool) := if a0 ≥ 1 then (some (decide (a0 ≤ 32))) else (some false)
set_option maxHeartbeats 8000000 in
set_option maxRecDepth 100000 in
theorem impl_isWidth.calls (a0 : Int) (r : Bool) (w : World) (h : impl_isWidth.f a0 = some r) :
  Calls Tryd.prog 42 #[.int .i64 a0] w fun e w' => e = .returned (.bool r) ∧ Drawn0 w w' := by
 have H : (if a0 ≥ 1 then (some (decide (a0 ≤ 32))) else (some false)) = some r := h; clear h
 by_cases c2 : a0 ≥ 1
 ·rw [if_pos c2] at H; have c2b0 : decide (1 ≤ a0) = true := decide_eq_true c2; clear c2; obtain rfl := Option.some.inj H
  go_enter Tryd.func42, Tryd.ntmps42
  go_wp2
  go_ret
  exact ⟨by first | rfl | (simp; done) | (simp [*]; done), by repeat (first | exact Drawn0.refl _ | apply Drawn0.step)⟩
 ·rw [if_neg c2] at H; have c2b0 : decide (1 ≤ a0) = false := decide_eq_false c2; clear c2; obtain rfl := Option.some.inj H
  go_enter Tryd.func42, Tryd.ntmps42
  go_wp2
  go_ret
  exact ⟨by first | rfl | (simp; done) | (simp [*]; done), by repeat (first | exact Drawn0.refl _ | apply Drawn0.step)⟩
def impl_Pool_valid.f (a0_0 : Int) (l0_1 : List ByteArray) : Option (Bool) := (impl_isWidth.f a0_0).bind fun t590002 => (if t590002 = true then (some (decide ((l0_1.length : Int) ≤ 20000))) else (some false))
set_option maxHeartbeats 8000000 in
set_option maxRecDepth 100000 in
theorem impl_Pool_valid.calls (a0_0 : Int) (A0_1 : Option Addr) (c0_1 : Nat) (l0_1 : List ByteArray) (r : Bool) (w : World) (hr0_1 : Kd.C Kd.string w A0_1 l0_1.length l0_1) (hc0_1 : l0_1.length ≤ c0_1) (h : impl_Pool_valid.f a0_0 l0_1 = some r) :
  Calls Tryd.prog 59 #[.agg #[.int .i64 a0_0, .slice A0_1 l0_1.length c0_1]] w fun e w' => e = .returned (.bool r) ∧ Below w.heap.size w w' := by
 have hu38 := Tryd.underlying38; have HR0_1 := Aside0.mk hr0_1; have HC0_1 := Aside0.mk hc0_1; clear hr0_1 hc0_1; have HB := Aside0.mk (Below.refl w.heap.size w); have H : ((impl_isWidth.f a0_0).bind fun t590002 => (if t590002 = true then (some (decide ((l0_1.length : Int) ≤ 20000))) else (some false))) = some r := h; clear h; replace H := Option.bind_eq_some_iff.mp H; obtain ⟨t590002, A20, H⟩ := H; (try dsimp only at H); have A2 := Aside0.mk A20; clear A20
 by_cases c3 : t590002 = true
 ·subst c3; have H1 : (some (decide ((l0_1.length : Int) ≤ 20000))) = some r := by rw [if_pos rfl] at H; exact H
  clear H; have H := H1; clear H1; obtain rfl := Option.some.inj H
  go_enter Tryd.func59, Tryd.ntmps59
  go_wp2_with (first | ((with_reducible refine gate_dst (N := 1) rfl ?_); (try (refine gate_guard (by rfl) ?_; dsimp only)); refine box_event ?hg (N := 1) ?hd (cs := #[.int .i64 a0_0, .slice A0_1 l0_1.length c0_1]) (t := 38) ?hr ?_; (case hd => rfl); (case hg => rfl); (case hr => exact zq_13); intro gb590001 hg w4 hbox hb; have n0_ := Aside0.mk (below_step zq_0 hb); have n1_ := Aside0.mk (hbox); have n2_ := Aside0.mk ((by rw [hg]; exact (below_size zq_0) : w.heap.size ≤ gb590001)); have n3_ := Aside0.mk ((by rw [hg]; exact (below_size zq_0) : w.heap.size ≤ gb590001)); clear HB; have HB := n0_; have BK590001 := n1_; have GW590001 := n2_; have GE590001 := n3_; clear n0_ n1_ n2_ n3_; clear hb hbox hg; have hcz5_0 : w4.cell? ⟨gb590001, 0, none⟩ = some (.int .i64 a0_0) := (blk_cell BK590001.out 0).trans rfl; have hcz5_1 : w4.cell? ⟨gb590001, 1, none⟩ = some (.slice A0_1 l0_1.length c0_1) := (blk_cell BK590001.out 1).trans rfl; have hfz5_0 := blk_frozen BK590001.out 0; have hfz5_1 := blk_frozen BK590001.out 1) | ((with_reducible refine gate_callee (f := 42) rfl ?_); refine goesL_ (some 5) rfl rfl Tryd.func42 (by kernel_rfl) rfl #[.int .i64 a0_0] rfl zq_1 ?_; (with_reducible refine (impl_isWidth.calls a0_0 true _ A2.out).mono ?_); rintro e w' ⟨rfl, ⟨nd, rfl⟩⟩; refine ⟨_, rfl, ?_⟩))
  go_ret
  exact ⟨by first | rfl | (simp [errW_none, errW_some] <;> rfl) | (simp [*, errW_none, errW_some] <;> rfl), by repeat (first | (with_reducible first | exact HB.out | apply below_alloc | apply pw_below_drewN | apply below_drew1 | refine below_set ?_ GE590001.out) | exact HB.out)⟩
 ·replace c3 := Bool.eq_false_iff.mpr c3; subst c3; have H1 : (some false) = some r := by rw [if_neg (show ¬ (false = true) by decide)] at H; exact H
  clear H; have H := H1; clear H1; obtain rfl := Option.some.inj H
  go_enter Tryd.func59, Tryd.ntmps59
  go_wp2_with (first | ((with_reducible refine gate_dst (N := 1) rfl ?_); (try (refine gate_guard (by rfl) ?_; dsimp only)); refine box_event ?hg (N := 1) ?hd (cs := #[.int .i64 a0_0, .slice A0_1 l0_1.length c0_1]) (t := 38) ?hr ?_; (case hd => rfl); (case hg => rfl); (case hr => exact zq_13); intro gb590001 hg w6 hbox hb; have n0_ := Aside0.mk (below_step zq_0 hb); have n1_ := Aside0.mk (hbox); have n2_ := Aside0.mk ((by rw [hg]; exact (below_size zq_0) : w.heap.size ≤ gb590001)); have n3_ := Aside0.mk ((by rw [hg]; exact (below_size zq_0) : w.heap.size ≤ gb590001)); clear HB; have HB := n0_; have BK590001 := n1_; have GW590001 := n2_; have GE590001 := n3_; clear n0_ n1_ n2_ n3_; clear hb hbox hg; have hcz7_0 : w6.cell? ⟨gb590001, 0, none⟩ = some (.int .i64 a0_0) := (blk_cell BK590001.out 0).trans rfl; have hcz7_1 : w6.cell? ⟨gb590001, 1, none⟩ = some (.slice A0_1 l0_1.length c0_1) := (blk_cell BK590001.out 1).trans rfl; have hfz7_0 := blk_frozen BK590001.out 0; have hfz7_1 := blk_frozen BK590001.out 1) | ((with_reducible refine gate_callee (f := 42) rfl ?_); refine goesL_ (some 5) rfl rfl Tryd.func42 (by kernel_rfl) rfl #[.int .i64 a0_0] rfl zq_1 ?_; (with_reducible refine (impl_isWidth.calls a0_0 false _ A2.out).mono ?_); rintro e w' ⟨rfl, ⟨nd, rfl⟩⟩; refine ⟨_, rfl, ?_⟩))
  go_ret
  exact ⟨by first | rfl | (simp [errW_none, errW_some] <;> rfl) | (simp [*, errW_none, errW_some] <;> rfl), by repeat (first | (with_reducible first | exact HB.out | apply below_alloc | apply pw_below_drewN | apply below_drew1 | refine below_set ?_ GE590001.out) | exact HB.out)⟩
end Go.Proofs.YthnnphinfiobmaaDoor.Z
end
section
namespace Go.Proofs.YthnnphinfiobmaaDoor.Z
open RowKit YthnnphinfiobmaaDoor YthnnphinfiobmaaDoorW.PrintWords YthnnphinfiobmaaDoorW.PrintLast
set_option linter.all false
set_option maxRecDepth 100000
theorem idxAdd_any (base b m : Nat) (v : Value) (W : Int) (encs : List ByteArray) (C : List (List Int)) (c : List Int) (s : ByteArray) (w : World) (h : Idx base b m v W encs C w) (hc : H32 c) (hn : encs.length ≤ 1073741824) (hbase : base ≤ w.heap.size) :
  Calls Tryd.prog 75 #[.pointer (some ⟨b, 0, none⟩), hashV c, .string s] w fun e w' => e = .returned (.tuple #[]) ∧ (∃ v', Idx base b m v' W (encs ++ [s]) (C ++ [c]) w') ∧ Below base w w' := by
 cases hi : firstAt C c with
 | none => exact idxAdd_new base b m v W encs C c s w h hc hi hn hbase
 | some i => exact idxAdd_old base b m v W encs C c s i w h hc hi hn hbase
theorem outB_mem (st : List Int) : ∀ n, ∀ x ∈ outB st n, 0 ≤ x ∧ x < 256
 | 0, x, hx => by simp [outB] at hx
 | n + 1, x, hx => by
  rw [outB] at hx
  rcases List.mem_append.1 hx with h | h
  ·exact outB_mem st n x h
  ·simp only [wordB, List.mem_cons, List.not_mem_nil, or_false] at h
   rcases h with rfl | rfl | rfl | rfl <;> omega
theorem shaL_mem (l : List UInt8) : ∀ x ∈ shaL l, 0 ≤ x ∧ x < 256 := outB_mem _ _
theorem cut_H32 (s : ByteArray) (n : Nat) (hn : n ≤ 32) : H32 (cutL s n) := by
 refine ⟨cutL_length s n hn, fun x hx => ?_⟩; unfold cutL at hx
 rcases List.mem_append.1 hx with h | h
 ·exact shaL_mem _ x (List.mem_of_mem_take h)
 ·have := List.eq_of_mem_replicate h; omega
def cuts (n : Nat) (encs : List ByteArray) : List (List Int) := encs.map fun s => cutL s n
theorem strs_read {w : World} {A : Option Addr} {l : List ByteArray} (h : Kd.C Kd.string w A l.length l) (hn : 0 < l.length) : ∃ ad, A = some ad ∧ ∀ i (hi : i < l.length), w.cell? (ad.add i) = some (.string l[i]) := by
 obtain ⟨ad, e, hc⟩ := h.2.2 hn; refine ⟨ad, e, fun i hi => ?_⟩; obtain ⟨c, hs, hr, hcell⟩ := hc i _ (List.getElem?_eq_getElem hi); have : c = [.string l[i]] := hr; subst this; have := hcell 0 _ rfl
 simpa [Kd.string, Kd.scalar] using this
set_option maxHeartbeats 2000000 in
theorem index_any (n : Nat) (hn1 : 1 ≤ n) (hn2 : n ≤ 32) (A : Option Addr) (c0 : Nat) (encs : List ByteArray) (w : World) (hr : Kd.C Kd.string w A encs.length encs) (hc : encs.length ≤ c0) (hlen : encs.length ≤ 1048576) (hsz : ∀ s ∈ encs, s.size ≤ 1048576) (ht : Tab w) :
  Calls Tryd.prog 60 #[.agg #[.int .i64 n, .slice A encs.length c0]] w fun e w' => (∃ b m v, e = .returned (.pointer (some ⟨b, 0, none⟩)) ∧ Idx w.heap.size b m v n encs (cuts n encs) w') ∧ Below w.heap.size w w' := by
 have HT := Lib.hid ht; clear ht; have HR := Lib.hid hr; clear hr; have HS := Lib.hid hsz; clear hsz; have hmm := @run_makeMap Tryd.prog; have hw0 : (w.alloc (.cells #[.int .i64 (n : Int), .slice A encs.length c0] 38)).heap[w.heap.size]? = some (.cells #[.int .i64 (n : Int), .slice A encs.length c0] 38 (0, 0)) := heap_alloc_new _ _; obtain ⟨W0, hW0⟩ : ∃ W0, W0 = w.alloc (.cells #[.int .i64 (n : Int), .slice A encs.length c0] 38) := ⟨_, rfl⟩
 have hz0 : W0.heap.size = w.heap.size + 1 := by rw [hW0]; simp
 have hB0 : Below w.heap.size w W0 := by rw [hW0]; exact (Below.refl _ _).alloc (Nat.le_refl _) _
 have HW0 := Lib.hid hw0; clear hw0; have HZ0 := Lib.hid hz0; clear hz0; have HB0 := Lib.hid hB0; clear hB0; have HWE := Lib.hid hW0; clear hW0
 go_enter Tryd.func60, Tryd.ntmps60
 go_wp2_with fail
 go_loopw [14] (fun i wr => ∃ j : Nat, j ≤ encs.length ∧ i = .int .i64 j ∧ (∃ v, Idx (w.heap.size + 1) (w.heap.size + 1 + 1) (w.heap.size + 1) v n (encs.take j) (cuts n (encs.take j)) wr) ∧ Below (w.heap.size + 1) W0 wr) (fun i _ => encs.length - (intOf i).toNat)
 case atStart =>
  refine ⟨0, by omega, rfl, ⟨.slice none 0 0, ?_⟩, ?_⟩
  ·rw [← HWE.out]; have hz := HZ0.out; refine ⟨?_, Own.nil _ _ _, ⟨.map [], ?_, PlaceIs.start⟩, by omega, by omega, by omega, by simp [Value.ownBlock], by simp [Value.ownBlock], rfl⟩
   ·have h := heap_alloc_new (W0.alloc (.map #[] 0)) (.cells #[.int .i64 (n : Int), .slice none 0 0, .map (some (w.heap.size + 1))] 113); rw [show (W0.alloc (.map #[] 0)).heap.size = w.heap.size + 1 + 1 by simp [hz]] at h; exact h
   ·have h := World.ownsMap_made W0 Tryd.prog 74 (plainElem (H := Unit) Tryd.prog 3); rw [hz] at h; exact h.alloc _
  ·rw [← HWE.out]; have hz := HZ0.out; exact ((Below.refl _ _).alloc (by omega) _).alloc (by simp; omega) _
 case round =>
  obtain ⟨j, hj, rfl, ⟨v, hI⟩, hB⟩ := hrel; have HI := Lib.hid hI; clear hI; have HB := Lib.hid hB; clear hB; have hrow : wr.heap[w.heap.size]? = some (.cells #[.int .i64 (n : Int), .slice A encs.length c0] 38 (0, 0)) := (HB.out.block _ (by omega)).trans (by rw [HWE.out]; exact HW0.out); have r0 : wr.cell? ⟨w.heap.size, 0, none⟩ = some (.int .i64 (n : Int)) := (cell_of_row _ _ _ _ _ _ hrow).trans rfl; have hBw : Below w.heap.size w wr := HB0.out.trans (HB.out.mono (by omega)); have HBw := Lib.hid hBw; clear hBw; clear hrow
  by_cases hl : j < encs.length
  ·obtain ⟨ad, rfl, had⟩ := strs_read HR.out (by omega); have hcell := cellB HBw.out (had j hl); have hs := HS.out encs[j] (List.getElem_mem _); obtain ⟨s, hse⟩ : ∃ s, encs[j] = s := ⟨_, rfl⟩
   rw [hse] at hcell hs; have HSE := Lib.hid hse; clear had hse; have j0 : (0 : Int) ≤ (j : Int) := by omega
   go_wp2_with fail
   refine (cut_any s n hn1 hn2 (by omega) _ (HT.out.below HBw.out)).mono ?_; rintro e w1 ⟨rfl, hb1⟩; have HI1 := Lib.hid (HI.out.below hb1); have hz1 := Nat.le_trans HB.out.size hb1.size; have hB1 : Below (w.heap.size + 1) W0 w1 := HB.out.trans (hb1.mono (by have := HB.out.size; have := HZ0.out; omega)); have HB1 := Lib.hid hB1; have hlt1 : (encs.take j).length ≤ 1073741824 := by rw [List.length_take]; omega
   have HLT := Lib.hid hlt1; have HZ1 := Lib.hid hz1; clear hcell hs r0 hb1 hz1 hB1 hlt1
   go_wp2_with fail
   refine (idxAdd_any _ _ _ _ _ _ _ _ s _ HI1.out (cut_H32 s n hn2) HLT.out (by have := HZ1.out; have := HZ0.out; omega)).mono ?_; rintro e w2 ⟨rfl, ⟨v2, hI2⟩, hb2⟩; have HI2 := Lib.hid hI2; clear hI2; have HB2 := Lib.hid hb2; clear hb2
   go_wp2
   go_roundw
   case rel =>
    refine ⟨j + 1, by omega, by go_num, ⟨v2, ?_⟩, HB1.out.trans HB2.out⟩; have h := HI2.out; rw [List.take_succ_eq_append_getElem hl, HSE.out]; unfold cuts at h ⊢; rw [List.map_append]; exact h
   case measure => simp [intOf]; omega
  ·obtain rfl : j = encs.length := by omega
   rw [List.take_length] at HI
   go_wp2
   go_ret
   refine ⟨⟨w.heap.size + 1 + 1, w.heap.size + 1, v, rfl, ?_⟩, HBw.out⟩; have h := HI.out; exact { h with own := h.own.lower (by omega), hb := by omega, hm := by omega }
theorem wpList_copyR {P : Program} {w : World} {ops : Array Oper} {rest : List Oper} {o : Oper} {a : Act} {Q : Exit → Act → World → Prop} (hgd : o.guard = none) (d s : Operand) (t t' : TypeId)
  (ho : o.op = .call { callee := .builtin .copy, args := #[d, s], argTypes := #[t, t'] }) {v u : Value} (hd : a.eval d = v) (hs : a.eval s = u) {v' : Value} {w' : World}
  (hr : (Builtin.copy_ #[t, t'] o.type #[v, u]).run P w = .ok v' w') (h : wpList P ops Q rest (a.put o.dst v') w') : wpList P ops Q (o :: rest) a w := by
 refine wpList_plain hgd fun K hK' => ?_
 unfold Oper.wp execOp; simp only [ho, resolve, invoke, builtin, Sem.run_bind, Sem.run_pure, Result.andThen_ok, List.map_toArray, List.map_cons, List.map_nil, hd, hs, hr]; exact hK' _ _ h
def rootL (s : ByteArray) : List Int := ints s.data.toList ++ List.replicate (32 - s.size) 0
theorem rootL_H32 (s : ByteArray) (h : s.size ≤ 32) : H32 (rootL s) := by
 have hl : s.data.toList.length = s.size := rfl; refine ⟨by unfold rootL; rw [List.length_append, ints_length, hl, List.length_replicate]; omega, fun x hx => ?_⟩; unfold rootL at hx
 rcases List.mem_append.1 hx with h | h
 ·exact ints_mem _ x h
 ·have := List.eq_of_mem_replicate h; omega
def findR (n : Nat) (encs : List ByteArray) (C : List (List Int)) (root : ByteArray) : ByteArray × ByteArray × ByteArray × ByteArray × Int :=
 match firstAt C (rootL root) with
 | none => (⟨#[]⟩, ⟨#[]⟩, ⟨#[]⟩, ⟨#[]⟩, 2)
 | some i => match decI (encs.getD i ⟨#[]⟩) n with
  | none => (⟨#[]⟩, ⟨#[]⟩, ⟨#[]⟩, ⟨#[]⟩, 3)
  | some (a, b, c, d) => (a, b, c, d, 0)
def findV (r : ByteArray × ByteArray × ByteArray × ByteArray × Int) : Value := .tuple #[.agg #[.string r.1, .string r.2.1, .string r.2.2.1, .string r.2.2.2.1], .int .i64 r.2.2.2.2]
theorem run_copyRoot (s : ByteArray) (hs : s.size ≤ 32) (g : Nat) (ty : TypeId) (W : World) (hg : W.heap[g]? = some (.cells (List.replicate 32 (Value.int .u8 0)).toArray 74 (0, 0))) :
  (Builtin.copy_ #[133, 9] ty #[.slice (some ⟨g, 0, none⟩) 32 32, .string s]).run Tryd.prog W = .ok (goInt s.size) (W.setRow g ((rootL s).map (Value.int .u8)).toArray) := by
 have h := Lib.run_copy_row_string (P := Tryd.prog) W 133 9 ty 5 g 0 32 32 s _ _ Tryd.underlying133 (by kernel_rfl) hg hs (by simp; omega); rw [h]; have e : (List.take 0 (List.replicate 32 (Value.int .u8 0)).toArray.toList ++ Lib.byteCells s.data.toList ++ List.drop (0 + s.size) (List.replicate 32 (Value.int .u8 0)).toArray.toList) = (rootL s).map (Value.int .u8) := by
  rw [Nat.zero_add, List.take_zero, List.nil_append, List.drop_replicate]; unfold rootL ints Lib.byteCells; rw [List.map_append, List.map_map, List.map_replicate]; rfl
 rw [e]
theorem held3B {u w1 : World} {p q r : Addr} {a b c : Value} (hb : Below u.heap.size u w1) (h : u.cell? p = some a ∧ u.cell? q = some b ∧ u.cell? r = some c) : w1.cell? p = some a ∧ w1.cell? q = some b ∧ w1.cell? r = some c := ⟨cellB hb h.1, cellB hb h.2.1, cellB hb h.2.2⟩
theorem findR_some (n : Nat) (encs : List ByteArray) (C : List (List Int)) (root : ByteArray) (i : Nat) (hi : firstAt C (rootL root) = some i) (k0 k1 k2 k3 : ByteArray) (ok : Bool) (hk : decT (decI (encs.getD i ⟨#[]⟩) n) = (k0, k1, k2, k3, ok)) :
  findR n encs C root = if ok = true then (k0, k1, k2, k3, 0) else (⟨#[]⟩, ⟨#[]⟩, ⟨#[]⟩, ⟨#[]⟩, 3) := by
 unfold findR; rw [hi]; dsimp only
 rcases hz : decI (encs.getD i ⟨#[]⟩) n with _ | ⟨a, b, c, d⟩
 all_goals
  rw [hz] at hk; simp only [decT, Prod.mk.injEq] at hk; obtain ⟨rfl, rfl, rfl, rfl, rfl⟩ := hk; rfl
theorem held3I {u : World} {p q r : Addr} {a b c : Value} (h1 : u.cell? p = some a) (h2 : u.cell? q = some b) (h3 : u.cell? r = some c) : u.cell? p = some a ∧ u.cell? q = some b ∧ u.cell? r = some c := ⟨h1, h2, h3⟩
theorem held3D {u : World} {p q r : Addr} {a b c : Value} (h : u.cell? p = some a ∧ u.cell? q = some b ∧ u.cell? r = some c) : u.drew.cell? p = some a ∧ u.drew.cell? q = some b ∧ u.drew.cell? r = some c := h
theorem held3A {u : World} {p q r : Addr} {a b c : Value} (o : Obj) (h : u.cell? p = some a ∧ u.cell? q = some b ∧ u.cell? r = some c) : (u.alloc o).cell? p = some a ∧ (u.alloc o).cell? q = some b ∧ (u.alloc o).cell? r = some c := held3B ((Below.refl _ _).alloc (Nat.le_refl _) o) h
theorem held3S {u : World} {p q r : Addr} {a b c v0 v1 v2 v3 : Value} {g : Nat} (h : u.cell? p = some a ∧ u.cell? q = some b ∧ u.cell? r = some c) (hp : p.block < g) (hq : q.block < g) (hr : r.block < g) :
  ((((u.setCell ⟨g, 0, none⟩ v0).setCell ⟨g, 1, none⟩ v1).setCell ⟨g, 2, none⟩ v2).setCell ⟨g, 3, none⟩ v3).cell? p = some a ∧ ((((u.setCell ⟨g, 0, none⟩ v0).setCell ⟨g, 1, none⟩ v1).setCell ⟨g, 2, none⟩ v2).setCell ⟨g, 3, none⟩ v3).cell? q = some b ∧ ((((u.setCell ⟨g, 0, none⟩ v0).setCell ⟨g, 1, none⟩ v1).setCell ⟨g, 2, none⟩ v2).setCell ⟨g, 3, none⟩ v3).cell? r = some c := by
 have e : ∀ (u : World) (k : Nat) (v : Value) (p : Addr), p.block < g → (u.setCell ⟨g, k, none⟩ v).cell? p = u.cell? p := fun u k v p hp => World.cell?_setCell_other u _ _ v (fun e => by rw [← e] at hp; exact Nat.lt_irrefl _ hp)
 refine ⟨?_, ?_, ?_⟩
 ·rw [e _ _ _ _ hp, e _ _ _ _ hp, e _ _ _ _ hp, e _ _ _ _ hp]; exact h.1
 ·rw [e _ _ _ _ hq, e _ _ _ _ hq, e _ _ _ _ hq, e _ _ _ _ hq]; exact h.2.1
 ·rw [e _ _ _ _ hr, e _ _ _ _ hr, e _ _ _ _ hr, e _ _ _ _ hr]; exact h.2.2
set_option maxHeartbeats 4000000 in
theorem find_any (base b m : Nat) (v : Value) (n : Nat) (encs : List ByteArray) (C : List (List Int)) (root : ByteArray) (w : World) (h : Idx base b m v n encs C w) (hroot : root.size ≤ 32) (hlen : encs.length ≤ 1073741824) :
  Calls Tryd.prog 95 #[.pointer (some ⟨b, 0, none⟩), .string root] w fun e w' => e = .returned (findV (findR n encs C root)) ∧ Below w.heap.size w w' := by
 obtain ⟨R, hR⟩ : ∃ R, findR n encs C root = R := ⟨_, rfl⟩
 rw [hR]; have HRR := Lib.hid hR; clear hR; obtain ⟨VA, VC, rfl⟩ := h.own.form; have hlt := h.lt; have HH := Lib.hid h; have HRT := Lib.hid hroot; clear h hroot
 go_enter Tryd.func95, Tryd.ntmps95
 go_upto_region 2 with fail
 obtain ⟨W1, hW1⟩ : ∃ W1, W1 = ((w.alloc (.cells #[.string ⟨#[]⟩, .string ⟨#[]⟩, .string ⟨#[]⟩, .string ⟨#[]⟩] 99)).alloc (.cells (List.replicate 32 (Value.int .u8 0)).toArray 74)) := ⟨_, rfl⟩
 have hz1 : W1.heap.size = w.heap.size + 2 := by rw [hW1]; simp
 have hn1 : W1.heap[w.heap.size]? = some (.cells #[.string ⟨#[]⟩, .string ⟨#[]⟩, .string ⟨#[]⟩, .string ⟨#[]⟩] 99 (0, 0)) := by rw [hW1]; exact heap_alloc2_old _ _ _
 have hh1 : W1.heap[w.heap.size + 1]? = some (.cells (List.replicate 32 (Value.int .u8 0)).toArray 74 (0, 0)) := by rw [hW1]; exact heap_alloc2_new _ _ _
 have hB1 : Below w.heap.size w W1 := by rw [hW1]; exact ((Below.refl _ _).alloc (Nat.le_refl _) _).alloc (by simp) _
 have hE : ((w.alloc (.cells #[.string ⟨#[]⟩, .string ⟨#[]⟩, .string ⟨#[]⟩, .string ⟨#[]⟩] 99)).alloc (.cells (List.replicate 32 (Value.int .u8 0)).toArray 74)) = W1 := hW1.symm; rw [show (List.replicate 32 (Value.int .u8 0)).toArray = #[Value.int .u8 0, .int .u8 0, .int .u8 0, .int .u8 0, .int .u8 0, .int .u8 0, .int .u8 0, .int .u8 0, .int .u8 0, .int .u8 0, .int .u8 0, .int .u8 0, .int .u8 0, .int .u8 0, .int .u8 0, .int .u8 0, .int .u8 0, .int .u8 0, .int .u8 0, .int .u8 0, .int .u8 0, .int .u8 0, .int .u8 0, .int .u8 0, .int .u8 0, .int .u8 0, .int .u8 0, .int .u8 0, .int .u8 0, .int .u8 0, .int .u8 0, .int .u8 0] from rfl] at hE; rw [hE]; clear hE hW1; have HCP := Lib.hid (run_copyRoot root HRT.out (w.heap.size + 1) 3 W1 hh1); have hh2 := setRow_heap _ _ _ ((rootL root).map (Value.int .u8)).toArray _ _ hh1; have hn2 := (setRow_other W1 (w.heap.size + 1) w.heap.size ((rootL root).map (Value.int .u8)).toArray (by omega)).trans hn1; have HX := Lib.hid (HH.out.below hB1); have hB2 : Below W1.heap.size W1 W1 := Below.refl _ _; clear hn1 hh1
 go_upto_region 3 with (refine wpList_copyR rfl _ _ 133 9 rfl rfl rfl HCP.out ?_)
 obtain ⟨W2, hW2⟩ : ∃ W2, W2 = W1.setRow (w.heap.size + 1) ((rootL root).map (Value.int .u8)).toArray := ⟨_, rfl⟩
 have hz2 : W2.heap.size = w.heap.size + 2 := by rw [hW2, setRow_size]; exact hz1
 have hB2 : Below w.heap.size w W2 := by rw [hW2]; exact below_setRow hB1 (by omega) _
 rw [← hW2] at hh2 hn2 ⊢; clear hW2 hB1 HX hz1 HCP; have HB2 := Lib.hid hB2; clear hB2; have HN2 := Lib.hid hn2; clear hn2; have HZ2 := Lib.hid hz2; clear hz2; have hX := HH.out.below HB2.out; have H32R := Lib.hid (rootL_H32 root HRT.out); have h0 := hX.c0; have h1 := hX.c1; have h2 := hX.c2; obtain ⟨D, hown, hpl⟩ := hX.map; have HX := Lib.hid hX; clear hX; have kl := fun n => hash_load (rootL root) H32R.out.1 (w.heap.size + 1) (W2.drewN n) hh2
 have kp := fun n => place_look (w := W2.drewN n) hown hpl (rootL root) H32R.out
 clear hown hpl hh2; have hI4 : (Tryd.prog.info? 99).map (·.size) = some (#[Value.string ⟨#[]⟩, .string ⟨#[]⟩, .string ⟨#[]⟩, .string ⟨#[]⟩].size) := by kernel_rfl
 have HI4 := Lib.hid hI4; clear hI4; have hsz4 : (#[Value.string ⟨#[]⟩, .string ⟨#[]⟩, .string ⟨#[]⟩, .string ⟨#[]⟩] : Array Value).size = (#[Value.string ⟨#[]⟩, .string ⟨#[]⟩, .string ⟨#[]⟩, .string ⟨#[]⟩] : Array Value).size := rfl; have HS4 := Lib.hid hsz4; clear hsz4; have h14 : (#[Value.string ⟨#[]⟩, .string ⟨#[]⟩, .string ⟨#[]⟩, .string ⟨#[]⟩] : Array Value).all (·.oneCell') = true := by simp [Value.oneCell']
 have H14 := Lib.hid h14; clear h14; unfold hashV at kl kp
 cases hi : firstAt C (rootL root) with
 | none =>
  rw [hi] at kp; have HI := Lib.hid hi; clear hi; refine wp_region_quiet_lit (by kernel_rfl) (by kernel_rfl) ?_
  iterate 4 (quiet_step (fail))
  refine wpQuiet_load rfl 74 _ rfl _ _ rfl (fun w' ⟨n, hn⟩ => by subst hn; exact kl n) ?_
  repeat (quiet_step (fail))
  refine wpQuiet_nil ?_; intro _ hw'; obtain ⟨nq, hw''⟩ := hw'; subst hw''; clear kl kp h0 h1 h2; have HN3 := Lib.hid (show (W2.drewN nq).heap[w.heap.size]? = _ from HN2.out)
  go_wp2_with (refine wpList_store_row rfl 99 _ _ rfl w.heap.size _ rfl rfl _ _ HN3.out HI4.out HS4.out H14.out ?_)
  refine bodyPost_ret (results_ct rfl _ _ w.heap.size 99 #[.string ⟨#[]⟩, .string ⟨#[]⟩, .string ⟨#[]⟩, .string ⟨#[]⟩] (0, 0) _ rfl (setRow_heap _ _ _ _ _ _ HN3.out) Tryd.underlying99 rfl HI4.out) rfl ⟨?_, ?_⟩
  ·rw [← HRR.out]; unfold findR; rw [HI.out]; rfl
  exact below_setRow (bdrewN HB2.out nq) (Nat.le_refl _) _
 | some i =>
  rw [hi] at kp; have hil : i < encs.length := by have := firstAt_lt _ _ _ hi; rw [HH.out.len] at this; exact this
  have HI := Lib.hid hi; clear hi; refine wp_region_quiet_lit (by kernel_rfl) (by kernel_rfl) ?_
  iterate 4 (quiet_step (fail))
  refine wpQuiet_load rfl 74 _ rfl _ _ rfl (fun w' ⟨n, hn⟩ => by subst hn; exact kl n) ?_
  repeat (quiet_step (fail))
  refine wpQuiet_nil ?_; intro _ hw'; obtain ⟨nq, hw''⟩ := hw'; subst hw''; clear kl kp h0 h1 h2; have HN3 := Lib.hid (show (W2.drewN nq).heap[w.heap.size]? = _ from HN2.out); obtain ⟨g, cap, hv, hg1, hg2, hg3, hg4, hg5⟩ := HX.out.own.at (by omega); simp only [Value.slice.injEq] at hv; obtain ⟨rfl, _, rfl⟩ := hv; have c2 := hg4 i (by omega); rw [strs, List.getElem?_map, List.getElem?_eq_getElem hil, Option.map_some] at c2; obtain ⟨s, hs⟩ : ∃ s, encs[i] = s := ⟨_, rfl⟩
  have hgd : encs.getD i ⟨#[]⟩ = s := by rw [List.getD_eq_getElem?_getD, List.getElem?_eq_getElem hil]; exact hs
  rw [hs] at c2; have HSS := Lib.hid hgd; clear hs hgd hg4 hg5 hg3
  go_upto_region 6 with fail
  obtain ⟨W3, hW3⟩ : ∃ W3, W3 = W2.drewN nq := ⟨_, rfl⟩
  have e0 : W3.cell? ⟨b, 0, none⟩ = some (.int .i64 (n : Int)) := by rw [hW3]; exact HX.out.c0
  have e1 : W3.cell? ⟨b, 1, none⟩ = some (.slice (some ⟨g, 0, none⟩) encs.length VC) := by rw [hW3]; exact HX.out.c1
  have e2 : W3.cell? ⟨g, i, none⟩ = some (.string s) := by rw [hW3]; exact c2
  have HN3 : Hid (W3.heap[w.heap.size]? = some (.cells #[.string ⟨#[]⟩, .string ⟨#[]⟩, .string ⟨#[]⟩, .string ⟨#[]⟩] 99 (0, 0))) := Lib.hid (by rw [hW3]; exact HN2.out); have HB3 : Hid (Below w.heap.size w W3) := Lib.hid (by rw [hW3]; exact bdrewN HB2.out nq); have HZ3 : Hid (W3.heap.size = w.heap.size + 2) := Lib.hid (by rw [hW3]; exact HZ2.out); rw [← hW3]; clear hW3 c2 HN2 HB2 HZ2 hg1 hg2; have hb3 : b < W3.heap.size := by have := HZ3.out; omega
  have hgg : g < W3.heap.size := World.block_lt_of_cell? _ ⟨g, i, none⟩ e2; have i0 : (0 : Int) ≤ (i : Int) := by omega
  have ii : (i : Int) < (encs.length : Int) := by omega
  obtain ⟨k0, k1, k2, k3, ok, hk⟩ : ∃ k0 k1 k2 k3 ok, nodeV (decI s n) = .tuple #[.agg #[.string k0, .string k1, .string k2, .string k3], .bool ok] ∧ decT (decI s n) = (k0, k1, k2, k3, ok) := by
   rcases decI s n with _ | ⟨a, b, c, d⟩
   ·exact ⟨_, _, _, _, _, rfl, rfl⟩
   ·exact ⟨_, _, _, _, _, rfl, rfl⟩
  have HK := Lib.hid hk.1; have HK2 := Lib.hid hk.2; clear hk; have hI5 : (Tryd.prog.info? 99).map (·.size) = some (#[Value.string k0, .string k1, .string k2, .string k3].size) := by kernel_rfl
  have HI5 := Lib.hid hI5; clear hI5; have hsz5 : (#[Value.string ⟨#[]⟩, .string ⟨#[]⟩, .string ⟨#[]⟩, .string ⟨#[]⟩] : Array Value).size = (#[Value.string k0, .string k1, .string k2, .string k3] : Array Value).size := rfl; have HS5 := Lib.hid hsz5; clear hsz5; have h15 : (#[Value.string k0, .string k1, .string k2, .string k3] : Array Value).all (·.oneCell') = true := by simp [Value.oneCell']
  have H15 := Lib.hid h15; clear h15
  go_region_held3 (fun w' => w'.cell? ⟨b, 0, none⟩ = some (.int .i64 (n : Int)) ∧ w'.cell? ⟨b, 1, none⟩ = some (.slice (some ⟨g, 0, none⟩) encs.length VC) ∧ w'.cell? ⟨g, i, none⟩ = some (.string s))
   (repeat' (first | (with_reducible assumption) | (with_reducible exact held3I e0 e1 e2) | (with_reducible refine held3D ?_) | (with_reducible refine held3A _ ?_) | ((with_reducible refine held3S ?_ ?_ ?_ ?_); rotate_left; (· show b < _; omega); (· show b < _; omega); (· show g < _; omega)) | (with_reducible refine held3B (by assumption) ?_)))
   (first | (go_at_call 113; refine (decodeNode_any s n _).mono ?_; rintro e wx ⟨rfl, hbx⟩; rw [HK.out]; obtain ⟨hcx, hfx⟩ := bcell hbx; have hzx := hbx.size; (try simp only [World.size_alloc, World.size_drew] at hcx); (try simp only [World.size_alloc, World.size_drew] at hfx); (try simp only [World.size_alloc, World.size_drew] at hzx)))
  ·have hx2 : wx.heap[w.heap.size]? = some (.cells #[.string ⟨#[]⟩, .string ⟨#[]⟩, .string ⟨#[]⟩, .string ⟨#[]⟩] 99 (0, 0)) := (hbx.block w.heap.size (by show _ < W3.heap.size; have := HZ3.out; omega)).trans HN3.out; have hwx : w.heap.size < wx.heap.size := by have := HZ3.out; omega
   have HF1 := Lib.hid (heap_alloc_new wx (.cells #[Value.string k0, .string k1, .string k2, .string k3] 99)); have HF2 := Lib.hid ((heap_alloc_old wx (.cells #[Value.string k0, .string k1, .string k2, .string k3] 99) hwx).trans hx2); have HBF := Lib.hid ((HB3.out.trans (((Below.refl _ _).drew.trans hbx).mono (by show _ ≤ W3.heap.size; have := HZ3.out; omega))).alloc (Nat.le_of_lt hwx) (.cells #[Value.string k0, .string k1, .string k2, .string k3] 99)); clear hx2 hcx hfx
   cases ok with
   | false =>
    go_wp2_with (refine wpList_store_row rfl 99 _ _ rfl w.heap.size _ rfl rfl _ _ HF2.out HI4.out rfl H14.out ?_)
    refine bodyPost_ret (results_ct rfl _ _ w.heap.size 99 #[.string ⟨#[]⟩, .string ⟨#[]⟩, .string ⟨#[]⟩, .string ⟨#[]⟩] (0, 0) _ rfl (setRow_heap _ _ _ _ _ _ HF2.out) Tryd.underlying99 rfl HI4.out) rfl ⟨?_, below_setRow HBF.out (Nat.le_refl _) _⟩; rw [← HRR.out, findR_some n encs C root i HI.out k0 k1 k2 k3 false (by rw [HSS.out]; exact HK2.out)]; rfl
   | true =>
    go_wp2_with (first | refine wpList_load_row rfl 99 _ rfl wx.heap.size rfl _ _ _ _ HF1.out Tryd.underlying99 rfl HI5.out ?_ | refine wpList_store_row rfl 99 _ _ rfl w.heap.size _ rfl rfl _ _ HF2.out HI5.out rfl H15.out ?_)
    refine bodyPost_ret (results_ct rfl _ _ w.heap.size 99 #[.string k0, .string k1, .string k2, .string k3] (0, 0) _ rfl (setRow_heap _ _ _ _ _ _ HF2.out) Tryd.underlying99 rfl HI5.out) rfl ⟨?_, below_setRow HBF.out (Nat.le_refl _) _⟩; rw [← HRR.out, findR_some n encs C root i HI.out k0 k1 k2 k3 true (by rw [HSS.out]; exact HK2.out)]; rfl
  ·-- the variable is made first
   have hW : (W3.alloc (.cells #[.string ⟨#[]⟩, .string ⟨#[]⟩, .string ⟨#[]⟩, .string ⟨#[]⟩] 99)).drew.heap.size = W3.heap.size + 1 := by simp
   have hx1 : wx.heap[W3.heap.size]? = some (.cells #[.string ⟨#[]⟩, .string ⟨#[]⟩, .string ⟨#[]⟩, .string ⟨#[]⟩] 99 (0, 0)) := (hbx.block W3.heap.size (by rw [hW]; omega)).trans (heap_alloc_new W3 _); have hx2 : wx.heap[w.heap.size]? = some (.cells #[.string ⟨#[]⟩, .string ⟨#[]⟩, .string ⟨#[]⟩, .string ⟨#[]⟩] 99 (0, 0)) := (hbx.block w.heap.size (by rw [hW]; have := HZ3.out; omega)).trans ((heap_alloc_old W3 _ (by have := HZ3.out; omega)).trans HN3.out); have hf1 : ((((wx.setCell ⟨W3.heap.size, 0, none⟩ (.string k0)).setCell ⟨W3.heap.size, 1, none⟩ (.string k1)).setCell ⟨W3.heap.size, 2, none⟩ (.string k2)).setCell ⟨W3.heap.size, 3, none⟩ (.string k3)).heap[W3.heap.size]? = some (.cells #[.string k0, .string k1, .string k2, .string k3] 99 (0, 0)) :=
    blk_put (blk_put (blk_put (blk_put hx1 0 _ rfl) 1 _ rfl) 2 _ rfl) 3 _ rfl
   have hne : w.heap.size ≠ W3.heap.size := by have := HZ3.out; omega
   have hf2 : ((((wx.setCell ⟨W3.heap.size, 0, none⟩ (.string k0)).setCell ⟨W3.heap.size, 1, none⟩ (.string k1)).setCell ⟨W3.heap.size, 2, none⟩ (.string k2)).setCell ⟨W3.heap.size, 3, none⟩ (.string k3)).heap[w.heap.size]? = some (.cells #[.string ⟨#[]⟩, .string ⟨#[]⟩, .string ⟨#[]⟩, .string ⟨#[]⟩] 99 (0, 0)) := by
    rw [heap_setCell_other _ _ _ _ hne, heap_setCell_other _ _ _ _ hne, heap_setCell_other _ _ _ _ hne, heap_setCell_other _ _ _ _ hne]; exact hx2
   have hBx : Below w.heap.size w wx := HB3.out.trans ((((Below.refl _ _).alloc (Nat.le_refl _) _).drew.trans (hbx.mono (by rw [hW]; omega))).mono (by have := HZ3.out; omega)); have hBf : Below w.heap.size w ((((wx.setCell ⟨W3.heap.size, 0, none⟩ (.string k0)).setCell ⟨W3.heap.size, 1, none⟩ (.string k1)).setCell ⟨W3.heap.size, 2, none⟩ (.string k2)).setCell ⟨W3.heap.size, 3, none⟩ (.string k3)) :=
    (((hBx.setCell (by show _ ≤ W3.heap.size; have := HZ3.out; omega) _).setCell (by show _ ≤ W3.heap.size; have := HZ3.out; omega) _).setCell (by show _ ≤ W3.heap.size; have := HZ3.out; omega) _).setCell (by show _ ≤ W3.heap.size; have := HZ3.out; omega) _
   have HF1 := Lib.hid hf1; have HF2 := Lib.hid hf2; have HBF := Lib.hid hBf; clear hf1 hf2 hBf hBx hx1 hx2 hcx hfx
   cases ok with
   | false =>
    go_wp2_with (refine wpList_store_row rfl 99 _ _ rfl w.heap.size _ rfl rfl _ _ HF2.out HI4.out rfl H14.out ?_)
    refine bodyPost_ret (results_ct rfl _ _ w.heap.size 99 #[.string ⟨#[]⟩, .string ⟨#[]⟩, .string ⟨#[]⟩, .string ⟨#[]⟩] (0, 0) _ rfl (setRow_heap _ _ _ _ _ _ HF2.out) Tryd.underlying99 rfl HI4.out) rfl ⟨?_, below_setRow HBF.out (Nat.le_refl _) _⟩; rw [← HRR.out, findR_some n encs C root i HI.out k0 k1 k2 k3 false (by rw [HSS.out]; exact HK2.out)]; rfl
   | true =>
    go_wp2_with (first | refine wpList_load_row rfl 99 _ rfl W3.heap.size rfl _ _ _ _ HF1.out Tryd.underlying99 rfl HI5.out ?_ | refine wpList_store_row rfl 99 _ _ rfl w.heap.size _ rfl rfl _ _ HF2.out HI5.out rfl H15.out ?_)
    refine bodyPost_ret (results_ct rfl _ _ w.heap.size 99 #[.string k0, .string k1, .string k2, .string k3] (0, 0) _ rfl (setRow_heap _ _ _ _ _ _ HF2.out) Tryd.underlying99 rfl HI5.out) rfl ⟨?_, below_setRow HBF.out (Nat.le_refl _) _⟩; rw [← HRR.out, findR_some n encs C root i HI.out k0 k1 k2 k3 true (by rw [HSS.out]; exact HK2.out)]; rfl
def small (l : List ByteArray) : Prop := l.length ≤ 1048576 ∧ ∀ s ∈ l, s.size ≤ 1048576
instance (l : List ByteArray) : Decidable (small l) := inferInstanceAs (Decidable (l.length ≤ 1048576 ∧ ∀ s ∈ l, s.size ≤ 1048576))
def poolOk (W : Int) (l : List ByteArray) : Bool := decide (1 ≤ W ∧ W ≤ 32 ∧ l.length ≤ 20000)
theorem poolOk_iff {W : Int} {l : List ByteArray} : poolOk W l = true ↔ 1 ≤ W ∧ W ≤ 32 ∧ l.length ≤ 20000 := by unfold poolOk; rw [decide_eq_true_eq]
theorem poolValid_f (W : Int) (l : List ByteArray) : impl_Pool_valid.f W l = some (poolOk W l) := by
 unfold impl_Pool_valid.f impl_isWidth.f poolOk
 by_cases h1 : W ≥ 1
 ·rw [if_pos h1, Option.bind_some]
  by_cases h2 : W ≤ 32
  ·rw [decide_eq_true h2, if_pos rfl]; refine congrArg some ?_; rw [decide_eq_decide]; omega
  ·rw [decide_eq_false h2, if_neg (by decide), decide_eq_false (by omega)]
 ·rw [if_neg h1, Option.bind_some, if_neg (by decide), decide_eq_false (by omega)]
end Go.Proofs.YthnnphinfiobmaaDoor.Z
end
section
namespace Go.Proofs.YthnnphinfiobmaaDoor.Z
open RowKit YthnnphinfiobmaaDoorW.PrintWords YthnnphinfiobmaaDoorW.PrintLast YthnnphinfiobmaaDoorW.PrintMore
attribute [local go_sem] max2_int min2_int max_two min_two max_three min_three max_four min_four
set_option linter.all false
def impl_window_holds.f (a0_0 : ByteArray) (a0_1 : ByteArray) (a1 : ByteArray) : Option (Bool) := if ((Op.bytesLess a1.toList a0_0.toList) = true) then (some false) else (if a0_1.toList = ([] : List UInt8) then (some true) else (some (Op.bytesLess a1.toList a0_1.toList)))
set_option maxHeartbeats 8000000 in
set_option maxRecDepth 100000 in
theorem impl_window_holds.calls (a0_0 : ByteArray) (a0_1 : ByteArray) (a1 : ByteArray) (r : Bool) (w : World) (h : impl_window_holds.f a0_0 a0_1 a1 = some r) :
  Calls Tryd.prog 64 #[.agg #[.string a0_0, .string a0_1], .string a1] w fun e w' => e = .returned (.bool r) ∧ Below w.heap.size w w' := by
 have hu90 := Tryd.underlying90; have HB := Aside0.mk (Below.refl w.heap.size w); have H : (if ((Op.bytesLess a1.toList a0_0.toList) = true) then (some false) else (if a0_1.toList = ([] : List UInt8) then (some true) else (some (Op.bytesLess a1.toList a0_1.toList)))) = some r := h; clear h
 by_cases c3 : ((Op.bytesLess a1.toList a0_0.toList) = true)
 ·rw [if_pos c3] at H; have c3b0 : (Op.bytesLess a1.toList a0_0.toList) = true := c3; clear c3; obtain rfl := Option.some.inj H
  go_enter Tryd.func64, Tryd.ntmps64
  go_wp2_with (first | ((with_reducible refine gate_dst (N := 2) rfl ?_); refine box_event ?hg (N := 2) ?hd (cs := #[.string a0_0, .string a0_1]) (t := 90) ?hr ?_; (case hd => rfl); (case hg => rfl); (case hr => exact zq_13); intro gb640001 hg w4 hbox hb; have n0_ := Aside0.mk (below_step zq_0 hb); have n1_ := Aside0.mk (hbox); have n2_ := Aside0.mk ((by rw [hg]; exact (below_size zq_0) : w.heap.size ≤ gb640001)); have n3_ := Aside0.mk ((by rw [hg]; exact (below_size zq_0) : w.heap.size ≤ gb640001)); clear HB; have HB := n0_; have BK640001 := n1_; have GW640001 := n2_; have GE640001 := n3_; clear n0_ n1_ n2_ n3_; clear hb hbox hg; have hcz5_0 : w4.cell? ⟨gb640001, 0, none⟩ = some (.string a0_0) := (blk_cell BK640001.out 0).trans rfl; have hcz5_1 : w4.cell? ⟨gb640001, 1, none⟩ = some (.string a0_1) := (blk_cell BK640001.out 1).trans rfl; have hfz5_0 := blk_frozen BK640001.out 0; have hfz5_1 := blk_frozen BK640001.out 1))
  go_ret
  exact ⟨by first | rfl | (simp [errW_none, errW_some] <;> rfl) | (simp [*, errW_none, errW_some] <;> rfl), by repeat (first | (with_reducible first | exact HB.out | apply below_alloc | apply pw_below_drewN | apply below_drew1 | refine below_set ?_ GE640001.out) | exact HB.out)⟩
 ·rw [if_neg c3] at H; have c3b0 : (Op.bytesLess a1.toList a0_0.toList) = false := by simpa using c3
  clear c3
  by_cases c6 : a0_1.toList = ([] : List UInt8)
  ·rw [if_pos c6] at H; have c6b0 : (a0_1.toList == ([] : List UInt8)) = true := beq_iff_eq.mpr c6; have c6b1 : (a0_1.toList != ([] : List UInt8)) = false := bne_eq_false_iff_eq.mpr c6; clear c6; obtain rfl := Option.some.inj H
   go_enter Tryd.func64, Tryd.ntmps64
   go_wp2_with (first | ((with_reducible refine gate_dst (N := 2) rfl ?_); refine box_event ?hg (N := 2) ?hd (cs := #[.string a0_0, .string a0_1]) (t := 90) ?hr ?_; (case hd => rfl); (case hg => rfl); (case hr => exact zq_13); intro gb640001 hg w7 hbox hb; have n0_ := Aside0.mk (below_step zq_0 hb); have n1_ := Aside0.mk (hbox); have n2_ := Aside0.mk ((by rw [hg]; exact (below_size zq_0) : w.heap.size ≤ gb640001)); have n3_ := Aside0.mk ((by rw [hg]; exact (below_size zq_0) : w.heap.size ≤ gb640001)); clear HB; have HB := n0_; have BK640001 := n1_; have GW640001 := n2_; have GE640001 := n3_; clear n0_ n1_ n2_ n3_; clear hb hbox hg; have hcz8_0 : w7.cell? ⟨gb640001, 0, none⟩ = some (.string a0_0) := (blk_cell BK640001.out 0).trans rfl; have hcz8_1 : w7.cell? ⟨gb640001, 1, none⟩ = some (.string a0_1) := (blk_cell BK640001.out 1).trans rfl; have hfz8_0 := blk_frozen BK640001.out 0; have hfz8_1 := blk_frozen BK640001.out 1))
   go_ret
   exact ⟨by first | rfl | (simp [errW_none, errW_some] <;> rfl) | (simp [*, errW_none, errW_some] <;> rfl), by repeat (first | (with_reducible first | exact HB.out | apply below_alloc | apply pw_below_drewN | apply below_drew1 | refine below_set ?_ GE640001.out) | exact HB.out)⟩
  ·rw [if_neg c6] at H; have c6b0 : (a0_1.toList == ([] : List UInt8)) = false := beq_eq_false_iff_ne.mpr c6; have c6b1 : (a0_1.toList != ([] : List UInt8)) = true := bne_iff_ne.mpr c6; obtain rfl := Option.some.inj H
   go_enter Tryd.func64, Tryd.ntmps64
   go_wp2_with (first | ((with_reducible refine gate_dst (N := 2) rfl ?_); refine box_event ?hg (N := 2) ?hd (cs := #[.string a0_0, .string a0_1]) (t := 90) ?hr ?_; (case hd => rfl); (case hg => rfl); (case hr => exact zq_13); intro gb640001 hg w9 hbox hb; have n0_ := Aside0.mk (below_step zq_0 hb); have n1_ := Aside0.mk (hbox); have n2_ := Aside0.mk ((by rw [hg]; exact (below_size zq_0) : w.heap.size ≤ gb640001)); have n3_ := Aside0.mk ((by rw [hg]; exact (below_size zq_0) : w.heap.size ≤ gb640001)); clear HB; have HB := n0_; have BK640001 := n1_; have GW640001 := n2_; have GE640001 := n3_; clear n0_ n1_ n2_ n3_; clear hb hbox hg; have hcz10_0 : w9.cell? ⟨gb640001, 0, none⟩ = some (.string a0_0) := (blk_cell BK640001.out 0).trans rfl; have hcz10_1 : w9.cell? ⟨gb640001, 1, none⟩ = some (.string a0_1) := (blk_cell BK640001.out 1).trans rfl; have hfz10_0 := blk_frozen BK640001.out 0; have hfz10_1 := blk_frozen BK640001.out 1))
   go_ret
   exact ⟨by first | rfl | (simp [errW_none, errW_some] <;> rfl) | (simp [*, errW_none, errW_some] <;> rfl), by repeat (first | (with_reducible first | exact HB.out | apply below_alloc | apply pw_below_drewN | apply below_drew1 | refine below_set ?_ GE640001.out) | exact HB.out)⟩
end Go.Proofs.YthnnphinfiobmaaDoor.Z
end
section
namespace Go.Proofs.YthnnphinfiobmaaDoor.Z
open RowKit YthnnphinfiobmaaDoor YthnnphinfiobmaaDoorW.PrintWords YthnnphinfiobmaaDoorW.PrintLast
set_option linter.all false
set_option maxRecDepth 100000
def emp (s : ByteArray) : Bool := s.toList.isEmpty
def ltS (a b : ByteArray) : Bool := Op.bytesLess a.toList b.toList
def leS (a b : ByteArray) : Bool := Op.bytesLess a.toList b.toList || a.toList == b.toList
def holdsB (lo hi key : ByteArray) : Bool := (emp lo || !leS key lo) && (emp hi || ltS key hi)
def meetsB (vlo vhi blo bhi : ByteArray) : Bool := !(!emp vhi && leS vhi vlo || !emp bhi && leS bhi vlo) && (emp vhi || emp blo || ltS blo vhi)
def holdsW (lo hi key : ByteArray) : Bool := !ltS key lo && (emp hi || ltS key hi)
theorem windowHolds_f (lo hi key : ByteArray) : impl_window_holds.f lo hi key = some (holdsW lo hi key) := by
 unfold impl_window_holds.f holdsW ltS emp
 by_cases h1 : Op.bytesLess key.toList lo.toList = true
 ·rw [if_pos h1, h1]; rfl
 ·rw [if_neg h1]; rw [Bool.not_eq_true] at h1; rw [h1]
  by_cases h2 : hi.toList = []
  ·rw [if_pos h2, h2]; rfl
  ·rw [if_neg h2]; have : hi.toList.isEmpty = false := by cases h : hi.toList with | nil => exact absurd h h2 | cons => rfl
   rw [this]; simp
set_option maxHeartbeats 2000000 in
theorem boundHolds_any (lo hi key : ByteArray) (w : World) : Calls Tryd.prog 96 #[.agg #[.string lo, .string hi], .string key] w fun e w' => e = .returned (.bool (holdsB lo hi key)) ∧ Below w.heap.size w w' := by
 have hx : holdsB lo hi key = ((emp lo || !leS key lo) && (emp hi || ltS key hi)) := rfl; have HX := Lib.hid hx; clear hx
 cases h1 : lo.toList.isEmpty <;> cases h2 : Op.bytesLess key.toList lo.toList <;> cases h3 : (key.toList == lo.toList) <;> cases h4 : hi.toList.isEmpty <;> cases h5 : Op.bytesLess key.toList hi.toList
 all_goals
  go_enter Tryd.func96, Tryd.ntmps96
  go_wp2_with fail
  go_ret
  exact ⟨by rw [HX.out]; unfold emp leS ltS; rw [h1, h2, h3, h4, h5]; rfl, by (repeat' (first | exact Below.refl _ _ | (with_reducible assumption) | (with_reducible refine Below.setCell ?_ zq_16 _) | refine below_then ?_ (by assumption) | (with_reducible refine below_new2 ?_ _) | (with_reducible refine Below.drew ?_) | (with_reducible refine bdrewN ?_ _)))⟩
set_option maxHeartbeats 2000000 in
theorem windowMeets_any (vlo vhi blo bhi : ByteArray) (w : World) : Calls Tryd.prog 61 #[.agg #[.string vlo, .string vhi], .agg #[.string blo, .string bhi]] w fun e w' => e = .returned (.bool (meetsB vlo vhi blo bhi)) ∧ Below w.heap.size w w' := by
 have hx : meetsB vlo vhi blo bhi = (!(!vhi.toList.isEmpty && (Op.bytesLess vhi.toList vlo.toList || vhi.toList == vlo.toList) || !bhi.toList.isEmpty && (Op.bytesLess bhi.toList vlo.toList || bhi.toList == vlo.toList)) && (vhi.toList.isEmpty || blo.toList.isEmpty || Op.bytesLess blo.toList vhi.toList)) := rfl; have HX := Lib.hid hx; clear hx
 cases h1 : vhi.toList.isEmpty
 ·cases h2 : Op.bytesLess vhi.toList vlo.toList
  ·cases h3 : (vhi.toList == vlo.toList)
   ·cases h4 : bhi.toList.isEmpty
    ·cases h5 : Op.bytesLess bhi.toList vlo.toList
     ·cases h6 : (bhi.toList == vlo.toList)
      ·cases h7 : blo.toList.isEmpty
       ·cases h8 : Op.bytesLess blo.toList vhi.toList
        all_goals (go_enter Tryd.func61, Tryd.ntmps61; go_wp2_with fail; go_ret; exact ⟨by rw [HX.out, h1, h2, h3, h4, h5, h6, h7, h8]; rfl, by (repeat' (first | exact Below.refl _ _ | (with_reducible assumption) | (with_reducible refine Below.setCell ?_ zq_16 _) | refine below_then ?_ (by assumption) | (with_reducible refine below_new2 ?_ _) | (with_reducible refine Below.drew ?_) | (with_reducible refine bdrewN ?_ _)))⟩)
       ·go_enter Tryd.func61, Tryd.ntmps61; go_wp2_with fail; go_ret; exact ⟨by rw [HX.out, h1, h2, h3, h4, h5, h6, h7]; rfl, by (repeat' (first | exact Below.refl _ _ | (with_reducible assumption) | (with_reducible refine Below.setCell ?_ zq_16 _) | refine below_then ?_ (by assumption) | (with_reducible refine below_new2 ?_ _) | (with_reducible refine Below.drew ?_) | (with_reducible refine bdrewN ?_ _)))⟩
      ·go_enter Tryd.func61, Tryd.ntmps61; go_wp2_with fail; go_ret; exact ⟨by rw [HX.out, h1, h2, h3, h4, h5, h6]; rfl, by (repeat' (first | exact Below.refl _ _ | (with_reducible assumption) | (with_reducible refine Below.setCell ?_ zq_16 _) | refine below_then ?_ (by assumption) | (with_reducible refine below_new2 ?_ _) | (with_reducible refine Below.drew ?_) | (with_reducible refine bdrewN ?_ _)))⟩
     ·go_enter Tryd.func61, Tryd.ntmps61; go_wp2_with fail; go_ret; exact ⟨by rw [HX.out, h1, h2, h3, h4, h5]; rfl, by (repeat' (first | exact Below.refl _ _ | (with_reducible assumption) | (with_reducible refine Below.setCell ?_ zq_16 _) | refine below_then ?_ (by assumption) | (with_reducible refine below_new2 ?_ _) | (with_reducible refine Below.drew ?_) | (with_reducible refine bdrewN ?_ _)))⟩
    ·cases h7 : blo.toList.isEmpty
     ·cases h8 : Op.bytesLess blo.toList vhi.toList
      all_goals (go_enter Tryd.func61, Tryd.ntmps61; go_wp2_with fail; go_ret; exact ⟨by rw [HX.out, h1, h2, h3, h4, h7, h8]; rfl, by (repeat' (first | exact Below.refl _ _ | (with_reducible assumption) | (with_reducible refine Below.setCell ?_ zq_16 _) | refine below_then ?_ (by assumption) | (with_reducible refine below_new2 ?_ _) | (with_reducible refine Below.drew ?_) | (with_reducible refine bdrewN ?_ _)))⟩)
     ·go_enter Tryd.func61, Tryd.ntmps61; go_wp2_with fail; go_ret; exact ⟨by rw [HX.out, h1, h2, h3, h4, h7]; rfl, by (repeat' (first | exact Below.refl _ _ | (with_reducible assumption) | (with_reducible refine Below.setCell ?_ zq_16 _) | refine below_then ?_ (by assumption) | (with_reducible refine below_new2 ?_ _) | (with_reducible refine Below.drew ?_) | (with_reducible refine bdrewN ?_ _)))⟩
   ·go_enter Tryd.func61, Tryd.ntmps61; go_wp2_with fail; go_ret; exact ⟨by rw [HX.out, h1, h2, h3]; rfl, by (repeat' (first | exact Below.refl _ _ | (with_reducible assumption) | (with_reducible refine Below.setCell ?_ zq_16 _) | refine below_then ?_ (by assumption) | (with_reducible refine below_new2 ?_ _) | (with_reducible refine Below.drew ?_) | (with_reducible refine bdrewN ?_ _)))⟩
  ·go_enter Tryd.func61, Tryd.ntmps61; go_wp2_with fail; go_ret; exact ⟨by rw [HX.out, h1, h2]; rfl, by (repeat' (first | exact Below.refl _ _ | (with_reducible assumption) | (with_reducible refine Below.setCell ?_ zq_16 _) | refine below_then ?_ (by assumption) | (with_reducible refine below_new2 ?_ _) | (with_reducible refine Below.drew ?_) | (with_reducible refine bdrewN ?_ _)))⟩
 ·cases h4 : bhi.toList.isEmpty
  ·cases h5 : Op.bytesLess bhi.toList vlo.toList
   ·cases h6 : (bhi.toList == vlo.toList)
    all_goals (go_enter Tryd.func61, Tryd.ntmps61; go_wp2_with fail; go_ret; exact ⟨by rw [HX.out, h1, h4, h5, h6]; rfl, by (repeat' (first | exact Below.refl _ _ | (with_reducible assumption) | (with_reducible refine Below.setCell ?_ zq_16 _) | refine below_then ?_ (by assumption) | (with_reducible refine below_new2 ?_ _) | (with_reducible refine Below.drew ?_) | (with_reducible refine bdrewN ?_ _)))⟩)
   ·go_enter Tryd.func61, Tryd.ntmps61; go_wp2_with fail; go_ret; exact ⟨by rw [HX.out, h1, h4, h5]; rfl, by (repeat' (first | exact Below.refl _ _ | (with_reducible assumption) | (with_reducible refine Below.setCell ?_ zq_16 _) | refine below_then ?_ (by assumption) | (with_reducible refine below_new2 ?_ _) | (with_reducible refine Below.drew ?_) | (with_reducible refine bdrewN ?_ _)))⟩
  ·go_enter Tryd.func61, Tryd.ntmps61; go_wp2_with fail; go_ret; exact ⟨by rw [HX.out, h1, h4]; rfl, by (repeat' (first | exact Below.refl _ _ | (with_reducible assumption) | (with_reducible refine Below.setCell ?_ zq_16 _) | refine below_then ?_ (by assumption) | (with_reducible refine below_new2 ?_ _) | (with_reducible refine Below.drew ?_) | (with_reducible refine bdrewN ?_ _)))⟩
theorem rangeNone_any (s : ByteArray) (w : World) : Calls Tryd.prog 62 #[.string s] w fun e w' => e = .returned (.slice none 0 0) ∧ Below w.heap.size w w' := by
 go_enter Tryd.func62, Tryd.ntmps62
 go_wp2_with fail
 go_ret
 exact ⟨rfl, Below.refl _ _⟩
theorem grown_two {a b c : World} {r r' : Option Nat} (h1 : a.grownBy b r) (h2 : b.grownBy c r') (h : r' = r ∨ ∃ k, r' = some k ∧ a.heap.size ≤ k) : a.grownBy c r :=
 ⟨h2.os.trans h1.os, h2.tape.trans h1.tape, h2.output.trans h1.output, Nat.le_trans h1.size h2.size, fun k hk hne => (h2.block k (Nat.lt_of_lt_of_le hk h1.size) (fun e => by
  rcases h with h | ⟨q, h, hq⟩
  ·exact hne (e.trans h)
  ·rw [h] at e; cases e; omega)).trans (h1.block k hk hne)⟩
theorem grown_below {a b : World} (h : Below a.heap.size a b) (r : Option Nat) : a.grownBy b r := ⟨h.os, h.tape, h.output, h.size, fun k hk _ => h.block k hk⟩
theorem below_of_grownBy {a b : World} {r : Option Nat} {B : Nat} (h : a.grownBy b r) (hB : B ≤ a.heap.size) (hr : ∀ k, r = some k → B ≤ k) : Below B a b := (Below.refl B a).grown h hB hr
theorem pairKM (W : World) (base : Nat) (x : S65) (cs : List Value) (h : k65.K W x cs) : k65.M W base (fun _ => False) x cs := by
 rw [k65_open h]; exact k65_mkM _ _ _ x
set_option maxHeartbeats 2000000 in
theorem rangeBoth_any (base V : Nat) (lo hi k0 k1 k2 k3 : ByteArray) (u1 u2 : Value) (l r : List S65) (w : World)
  (hV : w.heap[V]? = some (.cells #[.string lo, .string hi] 90 (0, 0))) (h1 : Kd.R k65 65 w base (fun _ => True) u1 l) (h2 : Kd.R k65 65 w base (fun k => some k ≠ u1.ownBlock) u2 r)
  (hl : l.length ≤ 100000) (hr : r.length ≤ 100000) (hb : base ≤ w.heap.size) :
  Calls Tryd.prog 63 #[.agg #[.string k0, .string k1, .string k2, .string k3], u1, u2, .pointer (some ⟨V, 0, none⟩)] w fun e w' => ∃ u, e = .returned u ∧
   Kd.R k65 65 w' base (fun _ => True) u ((if holdsW lo hi k0 = true then l ++ [⟨k0, k1⟩] else l) ++ r) ∧ w.grownBy w' u1.ownBlock ∧ w.heap.size ≤ w'.heap.size := by
 have hb1 := Kd.R_lt h1; have hW1 : (w.alloc (.cells #[.string k0, .string k1, .string k2, .string k3] 99)).heap.size = w.heap.size + 1 := by simp
 obtain ⟨W1, hWE⟩ : ∃ W1, W1 = w.alloc (.cells #[.string k0, .string k1, .string k2, .string k3] 99) := ⟨_, rfl⟩
 rw [← hWE] at hW1; have hBw : Below w.heap.size w W1 := by rw [hWE]; exact (Below.refl _ _).alloc (Nat.le_refl _) _
 have hN : W1.heap[w.heap.size]? = some (.cells #[.string k0, .string k1, .string k2, .string k3] 99 (0, 0)) := by rw [hWE]; exact heap_alloc_new w _
 have hVl := lt_of_block hV; have hV1 : W1.heap[V]? = some (.cells #[.string lo, .string hi] 90 (0, 0)) := (hBw.block V hVl).trans hV; have v0 : W1.cell? ⟨V, 0, none⟩ = some (.string lo) := (cell_of_row _ _ _ _ _ _ hV1).trans rfl; have v1 : W1.cell? ⟨V, 1, none⟩ = some (.string hi) := (cell_of_row _ _ _ _ _ _ hV1).trans rfl; have n0 : W1.cell? ⟨w.heap.size, 0, none⟩ = some (.string k0) := (cell_of_row _ _ _ _ _ _ hN).trans rfl; have n1 : W1.cell? ⟨w.heap.size, 1, none⟩ = some (.string k1) := (cell_of_row _ _ _ _ _ _ hN).trans rfl; have HR1 := Lib.hid (Kd.R_below h1 hBw); have HR2 := Lib.hid (Kd.R_below h2 hBw); have HB1 := Lib.hid hb1; have HBW := Lib.hid hBw; have HWE := Lib.hid hWE; have HN := Lib.hid hN; have HH := Lib.hid (windowHolds_f lo hi k0); clear h1 h2 hb1 hBw hWE hV hV1 hN; obtain ⟨A1, c1, e1⟩ := Kd.R_slice HR1.out; subst e1
 cases hh : holdsW lo hi k0
 ·rw [if_neg (by decide)]; rw [hh] at HH; clear hh
  go_enter Tryd.func63, Tryd.ntmps63
  go_upto_region 1 with fail
  rw [← HWE.out]
  go_wp2_with (first
   | (go_at_call 64; refine (impl_window_holds.calls _ _ _ _ _ HH.out).mono ?_; rintro e wh ⟨rfl, hbh⟩; obtain ⟨hc, hf⟩ := bcell hbh; have hz := hbh.size; have HR1h := Lib.hid (Kd.R_below HR1.out hbh); have HR2h := Lib.hid (Kd.R_below HR2.out hbh); have HBh := Lib.hid (HBW.out.trans (hbh.mono (by omega))); clear hbh)
   | ((with_reducible refine gate_builtin (b := .append) (xs := #[.tmp 20, .tmp 21]) rfl ?_); at_builtin; obtain ⟨A2, c2, e2, hc2, hC2⟩ := Kd.R_reads HR2h.out; subst e2; refine Kd.R_append_rows k65 (w0 := w) base rfl (.tmp 20) (.tmp 21) 25 65 (.agg #[(.string ⟨#[]⟩), (.string ⟨#[]⟩)]) 32 rfl Tryd.underlying25 info65 rfl (by decide) (by omega) _ _ _ _ _ _ (fun _ => True) (fun _ => False) rfl rfl HR1h.out hC2 (pairKM _ _) (fun _ h => h.elim) (fun _ _ => trivial) (HBh.out.mono hb) (by omega) (by omega) ?_; intro v3 w3 ho3 hb3 hg3 ha3))
  go_ret
  exact ⟨v3, rfl, ho3, grown_two (grown_below HBh.out _) hg3 (.inl rfl), Nat.le_trans HBh.out.size hg3.size⟩
 ·rw [if_pos rfl]; rw [hh] at HH; clear hh
  go_enter Tryd.func63, Tryd.ntmps63
  go_upto_region 1 with fail
  rw [← HWE.out]
  go_wp2_with (first
   | (go_at_call 64; refine (impl_window_holds.calls _ _ _ _ _ HH.out).mono ?_; rintro e wh ⟨rfl, hbh⟩; obtain ⟨hc, hf⟩ := bcell hbh; have hz := hbh.size; have HR1h := Lib.hid (Kd.R_below HR1.out hbh); have HR2h := Lib.hid (Kd.R_below HR2.out hbh); have HBh := Lib.hid (HBW.out.trans (hbh.mono (by omega))); have m0 := (hc w.heap.size 0 (by omega)).trans n0; have m1 := (hc w.heap.size 1 (by omega)).trans n1; clear hbh)
   | ((with_reducible refine gate_builtin (b := .append) (xs := #[.tmp 12, .tmp 18]) rfl ?_); at_builtin; refine Kd.R_append k65 (w0 := w) base rfl (.tmp 12) (.tmp 18) 25 65 (.agg #[(.string ⟨#[]⟩), (.string ⟨#[]⟩)]) 32 rfl Tryd.underlying25 info65 rfl (by decide) (by omega) _ _ (⟨k0, k1⟩ : S65) [.string k0, .string k1] (fun _ => True) (fun _ => False) rfl rfl (k65_mkM _ _ _ (⟨k0, k1⟩ : S65)) (fun _ h => h.elim) (fun _ _ => trivial) HR1h.out (HBh.out.mono hb) (by omega) (by omega) ?_; intro v4 w4 ho4 hb4 hg4 ha4; have HR2i := Lib.hid (Kd.R_grown HR2h.out hg4 (fun _ hk => hk)); have HO4 := Lib.hid ho4; have HB4 := Lib.hid hb4; have HG4 := Lib.hid hg4; have HA4 := Lib.hid ha4; clear ho4 hb4 hg4 ha4)
   | ((with_reducible refine gate_builtin (b := .append) (xs := #[.tmp 20, .tmp 21]) rfl ?_); at_builtin; obtain ⟨A2, c2, e2, hc2, hC2⟩ := Kd.R_reads HR2i.out; subst e2; refine Kd.R_append_rows k65 (w0 := w) base rfl (.tmp 20) (.tmp 21) 25 65 (.agg #[(.string ⟨#[]⟩), (.string ⟨#[]⟩)]) 32 rfl Tryd.underlying25 info65 rfl (by decide) (by omega) _ _ _ _ _ _ (fun _ => True) (fun _ => False) rfl rfl HO4.out hC2 (pairKM _ _) (fun _ h => h.elim) (fun _ _ => trivial) HB4.out (Nat.le_trans hb (Nat.le_trans HBh.out.size HG4.out.size)) zq_47 ?_; intro v3 w3 ho3 hb3 hg3 ha3))
  go_ret
  exact ⟨v3, rfl, ho3, grown_two (grown_two (grown_below HBh.out _) HG4.out (.inl rfl)) hg3 (HA4.out.imp id (fun ⟨q, e, hq⟩ => ⟨q, e, Nat.le_trans HBh.out.size hq⟩)), Nat.le_trans HBh.out.size (Nat.le_trans HG4.out.size hg3.size)⟩
end Go.Proofs.YthnnphinfiobmaaDoor.Z
end
section
namespace Go.Proofs.YthnnphinfiobmaaDoor.Z
open RowKit YthnnphinfiobmaaDoor YthnnphinfiobmaaDoorW.PrintWords YthnnphinfiobmaaDoorW.PrintLast
set_option linter.all false
set_option maxRecDepth 100000
def wkRow (b V : Nat) (lo hi : ByteArray) (seen code : Int) : Array Value := #[.pointer (some ⟨b, 0, none⟩), .func (.func 61) #[.agg #[.string lo, .string hi]] #[], .func (.func 62) #[] #[], .func (.func 63) #[] #[.pointer (some ⟨V, 0, none⟩)], .int .i64 seen, .int .i64 code]
structure Wk (B V base b m : Nat) (v : Value) (n : Nat) (encs : List ByteArray) (C : List (List Int)) (lo hi : ByteArray) (seen code : Int) (w : World) : Prop where
 row : w.heap[B]? = some (.cells (wkRow b V lo hi seen code) 97 (0, 0))
 idx : Idx base b m v n encs C w
 win : w.heap[V]? = some (.cells #[.string lo, .string hi] 90 (0, 0))
 nb : B ≠ b
 nm : B ≠ m
 nv : v.ownBlock ≠ some B
 nV : V ≠ B
 nt : B ≠ 0
 tab : Tab w
theorem Idx.grown {base b m : Nat} {v : Value} {W : Int} {encs : List ByteArray} {C : List (List Int)} {w w1 : World} (h : Idx base b m v W encs C w) {B : Nat} (hg : w.grownBy w1 (some B)) (hb : B ≠ b) (hm : B ≠ m) (hv : v.ownBlock ≠ some B) : Idx base b m v W encs C w1 := by
 obtain ⟨D, h1, h2⟩ := h.map; exact { h with
  row := (hg.block b h.lt (fun e => hb (Option.some.inj e).symm)).trans h.row
  own := h.own.grown hg (fun k hk e => hv (by rw [hk, e]))
  map := ⟨D, h1.kept hg (fun e => hm (Option.some.inj e).symm), h2⟩ }
section
variable {B V base b m : Nat} {v : Value} {n : Nat} {encs : List ByteArray} {C : List (List Int)} {lo hi : ByteArray} {seen code s' c' : Int} {w w1 : World}
theorem Wk.lt (h : Wk B V base b m v n encs C lo hi seen code w) : B < w.heap.size := lt_of_block h.row
theorem Wk.grown (h : Wk B V base b m v n encs C lo hi seen code w) (hg : w.grownBy w1 (some B)) (hr : w1.heap[B]? = some (.cells (wkRow b V lo hi s' c') 97 (0, 0))) : Wk B V base b m v n encs C lo hi s' c' w1 :=
 ⟨hr, h.idx.grown hg h.nb h.nm h.nv, (hg.block V (lt_of_block h.win) (fun e => h.nV (Option.some.inj e))).trans h.win, h.nb, h.nm, h.nv, h.nV, h.nt, fun i hi => hg.cell (h.tab i hi) (fun e => h.nt (Option.some.inj e).symm)⟩
theorem Wk.below (h : Wk B V base b m v n encs C lo hi seen code w) (hb : Below w.heap.size w w1) : Wk B V base b m v n encs C lo hi seen code w1 :=
 h.grown (grown_below hb _) ((hb.block B h.lt).trans h.row)
theorem grownBy_set (w : World) (B j : Nat) (u : Value) : w.grownBy (w.setCell ⟨B, j, none⟩ u) (some B) := ⟨rfl, rfl, rfl, by simp, fun k _ hne => Below.heap_setCell w _ u k (fun e => hne (by rw [e]))⟩
theorem Wk.setSeen (h : Wk B V base b m v n encs C lo hi seen code w) (s : Int) : Wk B V base b m v n encs C lo hi s code (w.setCell ⟨B, 4, none⟩ (.int .i64 s)) :=
 h.grown (grownBy_set w B 4 _) (blk_put h.row 4 _ rfl)
theorem Wk.setCode (h : Wk B V base b m v n encs C lo hi seen code w) (s : Int) : Wk B V base b m v n encs C lo hi seen s (w.setCell ⟨B, 5, none⟩ (.int .i64 s)) :=
 h.grown (grownBy_set w B 5 _) (blk_put h.row 5 _ rfl)
end
theorem Idx.grownR {base b m : Nat} {v : Value} {W : Int} {encs : List ByteArray} {C : List (List Int)} {w w1 : World} (h : Idx base b m v W encs C w) {row : Option Nat} (hg : w.grownBy w1 row) (hb : row ≠ some b) (hm : row ≠ some m) (hv : ∀ k, v.ownBlock = some k → row ≠ some k) : Idx base b m v W encs C w1 := by
 obtain ⟨D, h1, h2⟩ := h.map; exact { h with
  row := (hg.block b h.lt (fun e => hb e.symm)).trans h.row
  own := h.own.grown hg (fun k hk e => hv k hk e.symm)
  map := ⟨D, h1.kept hg (fun e => hm e.symm), h2⟩ }
section
variable {B V base b m : Nat} {v : Value} {n : Nat} {encs : List ByteArray} {C : List (List Int)} {lo hi : ByteArray} {seen code s0 c0 : Int} {w0 w w1 : World}
theorem Wk.grownR (h0 : Wk B V base b m v n encs C lo hi s0 c0 w0) (h : Wk B V base b m v n encs C lo hi seen code w) {row : Option Nat} (hg : w.grownBy w1 row) (hr : ∀ k, row = some k → w0.heap.size ≤ k) : Wk B V base b m v n encs C lo hi seen code w1 := by
 have ne : ∀ k, k < w0.heap.size → row ≠ some k := fun k hk e => by have := hr k e; omega
 have ht : 0 < w0.heap.size := World.block_lt_of_cell? _ ⟨0, 0, none⟩ (h0.tab 0 (by omega)); exact ⟨(hg.block B h.lt (fun e => ne B h0.lt e.symm)).trans h.row, h.idx.grownR hg (ne b h0.idx.lt) (ne m h0.idx.ltm) (fun k hk => ne k (h0.idx.own.lt k hk).2),
  (hg.block V (lt_of_block h.win) (fun e => ne V (lt_of_block h0.win) e.symm)).trans h.win, h.nb, h.nm, h.nv, h.nV, h.nt, fun i hi => hg.cell (h.tab i hi) (fun e => ne _ ht e.symm)⟩
end
theorem grown_three {a b c : World} {r r' : Option Nat} (h1 : a.grownBy b r) (h2 : b.grownBy c r') (h : ∀ k, r' = some k → r = some k ∨ a.heap.size ≤ k) : a.grownBy c r :=
 ⟨h2.os.trans h1.os, h2.tape.trans h1.tape, h2.output.trans h1.output, Nat.le_trans h1.size h2.size, fun k hk hne => (h2.block k (Nat.lt_of_lt_of_le hk h1.size) (fun e => by
  rcases h k e.symm with h | h
  ·exact hne h.symm
  ·omega)).trans (h1.block k hk hne)⟩
theorem R_past {α : Type} {d : Kd α} {e base B : Nat} {w w1 : World} {v : Value} {xs : List α} (h : d.R e w base (fun _ => True) v xs) (hg : w.grownBy w1 (some B)) (hB : B < base) : d.R e w1 base (fun _ => True) v xs :=
 Kd.R_mono (Kd.R_grown (Kd.R_bound h) hg (fun k hk e => by have h1 := Option.some.inj e; have := hk.2.1; omega)) (fun _ _ => trivial)
theorem R_apartNew {α : Type} {d : Kd α} {e base : Nat} {w : World} {u v : Value} {xs : List α} (h : d.R e w base (fun _ => True) v xs) (hu : ∀ k, u.ownBlock = some k → k < base) : d.R e w base (fun k => some k ≠ u.ownBlock) v xs :=
 Kd.R_mono (Kd.R_bound h) (fun k hk e => by have := hu k e.symm; have := hk.2.1; omega)
def walkI (n : Nat) (encs : List ByteArray) (C : List (List Int)) (lo hi : ByteArray) : Nat → Int → ByteArray → ByteArray → ByteArray → ByteArray → Option (List S65 × Int × Int)
 | 0, _, _, _, _, _ => none
 | k + 1, seen, root, above, blo, bhi =>
  if emp root = true ∨ meetsB lo hi blo bhi = false then some ([], seen, 0)
  else if (findR n encs C root).2.2.2.2 = 2 then some ([], seen, 2)
  else if (findR n encs C root).2.2.2.2 ≠ 0 ∨ holdsB blo bhi (findR n encs C root).1 = false ∨ (emp above = false ∧ highB above (findR n encs C root).1 = false) then some ([], seen, 3)
  else if seen = 500 then some ([], seen, 6)
  else (walkI n encs C lo hi k (seen + 1) (findR n encs C root).2.2.1 (findR n encs C root).1 blo (findR n encs C root).1).bind fun L =>
   if L.2.2 ≠ 0 then some ([], L.2.1, L.2.2)
   else (walkI n encs C lo hi k L.2.1 (findR n encs C root).2.2.2.1 (findR n encs C root).1 (findR n encs C root).1 bhi).bind fun R =>
    if R.2.2 ≠ 0 then some ([], R.2.1, R.2.2)
    else some ((if holdsW lo hi (findR n encs C root).1 = true then L.1 ++ [⟨(findR n encs C root).1, (findR n encs C root).2.1⟩] else L.1) ++ R.1, R.2.1, 0)
theorem decI_sizes {s : ByteArray} {n : Nat} {a b c d : ByteArray} (hn : n ≤ 32) (h : decI s n = some (a, b, c, d)) : a.size ≤ 256 ∧ c.size ≤ 32 ∧ d.size ≤ 32 := by
 unfold decI at h; dsimp only at h
 split at h
 ·rename_i hc
  obtain ⟨_, _, _, _, h5⟩ := hc; simp only [Option.some.injEq, Prod.mk.injEq] at h; obtain ⟨rfl, rfl, rfl, rfl⟩ := h; unfold nodeOk hOk at h5; simp only [Bool.and_eq_true, Bool.or_eq_true, decide_eq_true_eq] at h5; omega
 ·cases h
theorem findR_sizes {n : Nat} {encs : List ByteArray} {C : List (List Int)} {root : ByteArray} (hn : n ≤ 32) (h : (findR n encs C root).2.2.2.2 = 0) : (findR n encs C root).1.size ≤ 256 ∧ (findR n encs C root).2.2.1.size ≤ 32 ∧ (findR n encs C root).2.2.2.1.size ≤ 32 := by
 unfold findR at h ⊢
 split at h
 ·simp at h
 ·rename_i i hi
  rcases hz : decI (encs.getD i ⟨#[]⟩) n with _ | ⟨a, b, c, d⟩
  ·rw [hz] at h; simp at h
  ·exact decI_sizes hn hz
theorem findR_code (n : Nat) (encs : List ByteArray) (C : List (List Int)) (root : ByteArray) : (findR n encs C root).2.2.2.2 = 0 ∨ (findR n encs C root).2.2.2.2 = 2 ∨ (findR n encs C root).2.2.2.2 = 3 := by
 unfold findR
 split
 ·exact .inr (.inl rfl)
 ·split
  ·exact .inr (.inr rfl)
  ·exact .inl rfl
theorem walkI_len (n : Nat) (encs : List ByteArray) (C : List (List Int)) (lo hi : ByteArray) : ∀ (k : Nat) (seen : Int) (root above blo bhi : ByteArray) (ps : List S65) (s' c' : Int), walkI n encs C lo hi k seen root above blo bhi = some (ps, s', c') → 0 ≤ seen → seen ≤ 500 → seen ≤ s' ∧ s' ≤ 500 ∧ (ps.length : Int) ≤ s' - seen := by
 intro k
 induction k with
 | zero => intro seen root above blo bhi ps s' c' h; cases h
 | succ k ih =>
  intro seen root above blo bhi ps s' c' h h0 h1; unfold walkI at h
  split at h
  ·cases h; simp; omega
  split at h
  ·cases h; simp; omega
  split at h
  ·cases h; simp; omega
  split at h
  ·cases h; simp; omega
  obtain ⟨⟨l, s1, c1⟩, hL, h⟩ := Option.bind_eq_some_iff.mp h; dsimp only at h; have iL := ih _ _ _ _ _ _ _ _ hL (by omega) (by omega)
  split at h
  ·cases h; simp; omega
  obtain ⟨⟨r, s2, c2⟩, hR, h⟩ := Option.bind_eq_some_iff.mp h; dsimp only at h hR; have iR := ih _ _ _ _ _ _ _ _ hR (by omega) (by omega)
  split at h
  ·cases h; simp; omega
  ·cases h
   refine ⟨by omega, by omega, ?_⟩; rw [List.length_append]
   split
   ·rw [List.length_append, List.length_singleton]; omega
   ·omega
set_option maxHeartbeats 4000000 in
theorem walk_any (B V base b m : Nat) (v : Value) (n : Nat) (encs : List ByteArray) (C : List (List Int)) (lo hi : ByteArray) (hn : n ≤ 32) (hlen : encs.length ≤ 1073741824) : ∀ (k : Nat) (seen : Int) (root above blo bhi : ByteArray) (ps : List S65) (s' c' : Int) (w : World),
  Wk B V base b m v n encs C lo hi seen 0 w → root.size ≤ 32 → above.size ≤ 256 → 0 ≤ seen → seen ≤ 500 → walkI n encs C lo hi k seen root above blo bhi = some (ps, s', c') →
  Calls Tryd.prog 65 #[.pointer (some ⟨B, 0, none⟩), .string root, .string above, .agg #[.string blo, .string bhi]] w fun e w' => ∃ u, e = .returned u ∧ Kd.R k65 65 w' w.heap.size (fun _ => True) u ps ∧ Wk B V base b m v n encs C lo hi s' c' w' ∧ w.grownBy w' (some B) := by
 intro k
 induction k with
 | zero => intro seen root above blo bhi ps s' c' w _ _ _ _ _ h; cases h
 | succ k ih =>
 intro seen root above blo bhi ps s' c' w hWk hroot habove h0 h5 h; obtain ⟨W1, hWE⟩ : ∃ W1, W1 = w.alloc (.cells #[.string blo, .string bhi] 102) := ⟨_, rfl⟩
 have hz1 : W1.heap.size = w.heap.size + 1 := by rw [hWE]; simp
 have hB1 : Below w.heap.size w W1 := by rw [hWE]; exact (Below.refl _ _).alloc (Nat.le_refl _) _
 have hN1 : W1.heap[w.heap.size]? = some (.cells #[.string blo, .string bhi] 102 (0, 0)) := by rw [hWE]; exact heap_alloc_new w _
 have hBlt := hWk.lt; have hWk1 := hWk.below hB1; have r1 : W1.cell? ⟨B, 1, none⟩ = some (.func (.func 61) #[.agg #[.string lo, .string hi]] #[]) := (cell_of_row _ _ _ _ _ _ hWk1.row).trans rfl; have r2 : W1.cell? ⟨B, 2, none⟩ = some (.func (.func 62) #[] #[]) := (cell_of_row _ _ _ _ _ _ hWk1.row).trans rfl; have b0 : W1.cell? ⟨w.heap.size, 0, none⟩ = some (.string blo) := (cell_of_row _ _ _ _ _ _ hN1).trans rfl; have b1 : W1.cell? ⟨w.heap.size, 1, none⟩ = some (.string bhi) := (cell_of_row _ _ _ _ _ _ hN1).trans rfl; have HWE := Lib.hid hWE; have HB1 := Lib.hid hB1; have HN1 := Lib.hid hN1; have HWk := Lib.hid hWk1; have HI := Lib.hid ih; have HW0 := Lib.hid hWk; clear hWE hB1 hN1 hWk hWk1 ih; have HH := Lib.hid h; clear h
 cases he : root.toList.isEmpty
 ·cases hm : meetsB lo hi blo bhi
  ·-- out of the window
   have h := HH.out; unfold walkI at h; rw [if_pos (.inr hm)] at h; simp only [Option.some.injEq, Prod.mk.injEq] at h; obtain ⟨rfl, rfl, rfl⟩ := h; have HM := Lib.hid hm; clear hm
   go_enter Tryd.func65, Tryd.ntmps65
   go_upto_region 1 with fail
   rw [← HWE.out]
   go_region_held3 (fun w' => w'.cell? ⟨B, 1, none⟩ = some (.func (.func 61) #[.agg #[.string lo, .string hi]] #[]) ∧ w'.cell? ⟨w.heap.size, 0, none⟩ = some (.string blo) ∧ w'.cell? ⟨w.heap.size, 1, none⟩ = some (.string bhi))
    (repeat' (first | (with_reducible assumption) | (with_reducible exact held3I r1 b0 b1) | (with_reducible refine held3D ?_) | (with_reducible refine held3B (by assumption) ?_)))
    (first | (go_at_call 61; refine (windowMeets_any _ _ _ _ _).mono ?_; rintro e wx ⟨rfl, hbx⟩; rw [HM.out]; obtain ⟨hcx, hfx⟩ := bcell hbx; have hzx := hbx.size; (try simp only [World.size_alloc, World.size_drew] at hcx); (try simp only [World.size_alloc, World.size_drew] at hfx); (try simp only [World.size_alloc, World.size_drew] at hzx)))
   have hx : Below W1.heap.size W1 wx := (Below.refl _ _).drew.trans hbx; have HW := Lib.hid (HWk.out.below hx); have HBx := Lib.hid (HB1.out.trans (hx.mono HB1.out.size)); have HNx := Lib.hid ((hx.block w.heap.size (by omega)).trans HN1.out); have hzw : w.heap.size + 1 ≤ wx.heap.size := by have := hx.size; omega
   clear hx hbx hcx hfx hzx r1 r2 b0 b1 HB1 HWk HN1; have q2 : wx.cell? ⟨B, 2, none⟩ = some (.func (.func 62) #[] #[]) := (cell_of_row _ _ _ _ _ _ HW.out.row).trans rfl
   go_wp2_with (go_at_call 62; refine (rangeNone_any _ _).mono ?_; rintro e wn ⟨rfl, hbn⟩)
   go_ret
   exact ⟨_, rfl, Kd.R_nil _ _ _ _ _, HW.out.below hbn, grown_below (HBx.out.trans (hbn.mono HBx.out.size)) _⟩
  ·have h := HH.out; unfold walkI at h; rw [if_neg (fun g => by rcases g with g | g; (unfold emp at g; rw [he] at g; cases g); (rw [hm] at g; cases g))] at h; have hsz := @findR_sizes n encs C root hn; have hcd := findR_code n encs C root; have hlenI := walkI_len n encs C lo hi; obtain ⟨⟨k0, k1, k2, k3, cd⟩, hR⟩ : ∃ R, findR n encs C root = R := ⟨_, rfl⟩
   rw [hR] at h hsz hcd; dsimp only at h hsz hcd; have HR := Lib.hid hR; clear hR; have HM := Lib.hid hm; clear hm; have HH2 := Lib.hid h; clear h HH; have HSZ := Lib.hid hsz; clear hsz; have HLN := Lib.hid hlenI; clear hlenI; have HI4 : Hid ((Tryd.prog.info? 99).map (·.size) = some (#[Value.string ⟨#[]⟩, .string ⟨#[]⟩, .string ⟨#[]⟩, .string ⟨#[]⟩].size)) := Lib.hid (by kernel_rfl); have HI5 : Hid ((Tryd.prog.info? 99).map (·.size) = some (#[Value.string k0, .string k1, .string k2, .string k3].size)) := Lib.hid (by kernel_rfl); have H15 : Hid ((#[Value.string k0, .string k1, .string k2, .string k3] : Array Value).all (·.oneCell') = true) := Lib.hid (by simp [Value.oneCell']); have HCD := Lib.hid hcd; clear hcd
   go_enter Tryd.func65, Tryd.ntmps65
   go_upto_region 1 with fail
   rw [← HWE.out]
   go_region_held3 (fun w' => w'.cell? ⟨B, 1, none⟩ = some (.func (.func 61) #[.agg #[.string lo, .string hi]] #[]) ∧ w'.cell? ⟨w.heap.size, 0, none⟩ = some (.string blo) ∧ w'.cell? ⟨w.heap.size, 1, none⟩ = some (.string bhi))
     (repeat' (first | (with_reducible assumption) | (with_reducible exact held3I r1 b0 b1) | (with_reducible refine held3D ?_) | (with_reducible refine held3B (by assumption) ?_)))
     (first | (go_at_call 61; refine (windowMeets_any _ _ _ _ _).mono ?_; rintro e wx ⟨rfl, hbx⟩; rw [HM.out]; obtain ⟨hcx, hfx⟩ := bcell hbx; have hzx := hbx.size; (try simp only [World.size_alloc, World.size_drew] at hcx); (try simp only [World.size_alloc, World.size_drew] at hfx); (try simp only [World.size_alloc, World.size_drew] at hzx)))
   have hx : Below W1.heap.size W1 wx := (Below.refl _ _).drew.trans hbx; have HW := Lib.hid (HWk.out.below hx); have HBx := Lib.hid (HB1.out.trans (hx.mono HB1.out.size)); have HNx := Lib.hid ((hx.block w.heap.size (by omega)).trans HN1.out); have hzw : w.heap.size + 1 ≤ wx.heap.size := by have := hx.size; omega
   clear hx hbx hcx hfx hzx r1 r2 b0 b1 HB1 HWk HN1; have q0 : wx.cell? ⟨B, 0, none⟩ = some (.pointer (some ⟨b, 0, none⟩)) := (cell_of_row _ _ _ _ _ _ HW.out.row).trans rfl
   go_upto_region 4 with (first
    | (go_at_call 95; go_loud (refine (find_any base b m v n encs C root _ HW.out.idx hroot hlen).mono ?_; rintro e wf ⟨rfl, hbf⟩; rw [HR.out]; unfold findV; dsimp only; have HWf := Lib.hid (HW.out.below hbf); have HBf := Lib.hid (HBx.out.trans (hbf.mono HBx.out.size)); have HNf := Lib.hid ((hbf.block w.heap.size (by omega)).trans HNx.out); have hzf := hbf.size; have HZf := Lib.hid (heap_alloc_new wf (.cells #[Value.string ⟨#[]⟩, .string ⟨#[]⟩, .string ⟨#[]⟩, .string ⟨#[]⟩] 99)); clear hbf q0))
    | refine wpList_store_row rfl 99 _ _ rfl wf.heap.size _ rfl rfl _ _ HZf.out HI5.out rfl H15.out ?_)
   obtain ⟨W4, hW4⟩ : ∃ W4, W4 = (wf.alloc (.cells #[Value.string ⟨#[]⟩, .string ⟨#[]⟩, .string ⟨#[]⟩, .string ⟨#[]⟩] 99)).setRow wf.heap.size #[.string k0, .string k1, .string k2, .string k3] := ⟨_, rfl⟩
   rw [← hW4]; have hb4 : Below wf.heap.size wf W4 := by rw [hW4]; exact below_setRow ((Below.refl _ _).alloc (Nat.le_refl _) _) (Nat.le_refl _) _
   have hn4 : W4.heap[wf.heap.size]? = some (.cells #[.string k0, .string k1, .string k2, .string k3] 99 (0, 0)) := by rw [hW4]; exact setRow_heap _ _ _ _ _ _ HZf.out
   have hz4 : wf.heap.size + 1 ≤ W4.heap.size := lt_of_block hn4; have HN4 := Lib.hid hn4; have HW4 := Lib.hid (HWf.out.below hb4); have HB4 := Lib.hid (HBf.out.trans (hb4.mono HBf.out.size)); have HX4 := Lib.hid ((hb4.block w.heap.size (by omega)).trans HNf.out); clear hW4 hb4 hn4 HWf HBf HNf HZf HW HBx HNx; have n0 : W4.cell? ⟨wf.heap.size, 0, none⟩ = some (.string k0) := (cell_of_row _ _ _ _ _ _ HN4.out).trans rfl; have n2 : W4.cell? ⟨wf.heap.size, 2, none⟩ = some (.string k2) := (cell_of_row _ _ _ _ _ _ HN4.out).trans rfl; have b0 : W4.cell? ⟨w.heap.size, 0, none⟩ = some (.string blo) := (cell_of_row _ _ _ _ _ _ HX4.out).trans rfl; have b1 : W4.cell? ⟨w.heap.size, 1, none⟩ = some (.string bhi) := (cell_of_row _ _ _ _ _ _ HX4.out).trans rfl; have r4 : W4.cell? ⟨B, 4, none⟩ = some (.int .i64 seen) := (cell_of_row _ _ _ _ _ _ HW4.out.row).trans rfl; have r5 : W4.cell? ⟨B, 5, none⟩ = some (.int .i64 0) := (cell_of_row _ _ _ _ _ _ HW4.out.row).trans rfl; have f5 : W4.frozen? ⟨B, 5, none⟩ = false := frozen_of_row _ _ _ _ _ HW4.out.row
   rcases HCD.out with hc | hc | hc
   rotate_left
   ·-- missing
    subst hc; have h := HH2.out; rw [if_pos rfl] at h; simp only [Option.some.injEq, Prod.mk.injEq] at h; obtain ⟨rfl, rfl, rfl⟩ := h
    go_wp2_with fail
    go_ret
    exact ⟨_, rfl, Kd.R_nil _ _ _ _ _, HW4.out.setCode 2, grown_two (grown_below HB4.out _) (grownBy_set _ _ _ _) (.inl rfl)⟩
   ·-- corrupt
    subst hc; have h := HH2.out; rw [if_neg (by decide), if_pos (.inl (by decide))] at h; simp only [Option.some.injEq, Prod.mk.injEq] at h; obtain ⟨rfl, rfl, rfl⟩ := h
    go_wp2_with fail
    go_ret
    exact ⟨_, rfl, Kd.R_nil _ _ _ _ _, HW4.out.setCode 3, grown_two (grown_below HB4.out _) (grownBy_set _ _ _ _) (.inl rfl)⟩
   subst hc; have h := HH2.out; rw [if_neg (by decide)] at h; have HSZ2 := Lib.hid (HSZ.out rfl); clear HSZ HCD HH2
   cases hb : holdsB blo bhi k0
   ·rw [if_pos (.inr (.inl hb))] at h; simp only [Option.some.injEq, Prod.mk.injEq] at h; obtain ⟨rfl, rfl, rfl⟩ := h; have HBB := Lib.hid hb; clear hb
    go_wp2_with (go_at_call 96; refine (boundHolds_any _ _ _ _).mono ?_; rintro e wb ⟨rfl, hbb⟩; rw [HBB.out]; have HWb := Lib.hid (HW4.out.below hbb); have HBb := Lib.hid (HB4.out.trans (hbb.mono HB4.out.size)); have rb5 : wb.cell? ⟨B, 5, none⟩ = some (.int .i64 0) := (cell_of_row _ _ _ _ _ _ HWb.out.row).trans rfl; have fb5 : wb.frozen? ⟨B, 5, none⟩ = false := frozen_of_row _ _ _ _ _ HWb.out.row; clear hbb)
    go_ret
    exact ⟨_, rfl, Kd.R_nil _ _ _ _ _, HWb.out.setCode 3, grown_two (grown_below HBb.out _) (grownBy_set _ _ _ _) (.inl rfl)⟩
   have HBB := Lib.hid hb; clear hb
   cases ha : above.toList.isEmpty
   ·-- below a node
    have HHS : Hid (above.size ≤ 4294967296 ∧ k0.size ≤ 4294967296) := Lib.hid ⟨by omega, by have := HSZ2.out.1; omega⟩
    cases hg : highB above k0
    ·rw [if_pos (.inr (.inr ⟨ha, hg⟩))] at h; simp only [Option.some.injEq, Prod.mk.injEq] at h; obtain ⟨rfl, rfl, rfl⟩ := h; have HHG := Lib.hid hg; clear hg; clear n2 r4 r5 f5
     go_wp2_with (first
      | (go_at_call 96; refine (boundHolds_any _ _ _ _).mono ?_; rintro e wb ⟨rfl, hbb⟩; rw [HBB.out]; have HWb := Lib.hid (HW4.out.below hbb); have HBb := Lib.hid (HB4.out.trans (hbb.mono HB4.out.size)); have HNb := Lib.hid ((hbb.block wf.heap.size (by omega)).trans HN4.out); have HXb := Lib.hid ((hbb.block w.heap.size (by omega)).trans HX4.out); have n0 : wb.cell? ⟨wf.heap.size, 0, none⟩ = some (.string k0) := (cell_of_row _ _ _ _ _ _ HNb.out).trans rfl; have hzb := hbb.size; clear hbb)
      | (go_at_call 97; refine (impl_Higher.calls above k0 _ _ (by unfold impl_Higher.f; rw [if_pos HHS.out, HHG.out]) HWb.out.tab).mono ?_; rintro e wh ⟨rfl, hbh⟩; have HWh := Lib.hid (HWb.out.below hbh); have HBh := Lib.hid (HBb.out.trans (hbh.mono HBb.out.size)); have HNh := Lib.hid ((hbh.block wf.heap.size (by omega)).trans HNb.out); have HXh := Lib.hid ((hbh.block w.heap.size (by omega)).trans HXb.out); have r5 : wh.cell? ⟨B, 5, none⟩ = some (.int .i64 0) := (cell_of_row _ _ _ _ _ _ HWh.out.row).trans rfl; have f5 : wh.frozen? ⟨B, 5, none⟩ = false := frozen_of_row _ _ _ _ _ HWh.out.row; have hzh := hbh.size; clear hbh))
     go_ret
     exact ⟨_, rfl, Kd.R_nil _ _ _ _ _, HWh.out.setCode 3, grown_two (grown_below HBh.out _) (grownBy_set _ _ _ _) (.inl rfl)⟩
    ·rw [if_neg (fun g => by rcases g with g | g | ⟨_, g⟩; exact g rfl; (rw [HBB.out] at g; cases g); (rw [hg] at g; cases g))] at h; have HHG := Lib.hid hg; clear hg; clear n2 r4 r5 f5
     go_upto_region 10 with (first
      | (go_at_call 96; refine (boundHolds_any _ _ _ _).mono ?_; rintro e wb ⟨rfl, hbb⟩; rw [HBB.out]; have HWb := Lib.hid (HW4.out.below hbb); have HBb := Lib.hid (HB4.out.trans (hbb.mono HB4.out.size)); have HNb := Lib.hid ((hbb.block wf.heap.size (by omega)).trans HN4.out); have HXb := Lib.hid ((hbb.block w.heap.size (by omega)).trans HX4.out); have n0 : wb.cell? ⟨wf.heap.size, 0, none⟩ = some (.string k0) := (cell_of_row _ _ _ _ _ _ HNb.out).trans rfl; have hzb := hbb.size; clear hbb)
      | (go_at_call 97; refine (impl_Higher.calls above k0 _ _ (by unfold impl_Higher.f; rw [if_pos HHS.out, HHG.out]) HWb.out.tab).mono ?_; rintro e wh ⟨rfl, hbh⟩; have HWh := Lib.hid (HWb.out.below hbh); have HBh := Lib.hid (HBb.out.trans (hbh.mono HBb.out.size)); have HNh := Lib.hid ((hbh.block wf.heap.size (by omega)).trans HNb.out); have HXh := Lib.hid ((hbh.block w.heap.size (by omega)).trans HXb.out); have r5 : wh.cell? ⟨B, 5, none⟩ = some (.int .i64 0) := (cell_of_row _ _ _ _ _ _ HWh.out.row).trans rfl; have f5 : wh.frozen? ⟨B, 5, none⟩ = false := frozen_of_row _ _ _ _ _ HWh.out.row; have hzh := hbh.size; clear hbh))
     clear n0 b0 b1 r5 f5; have r4 : wh.cell? ⟨B, 4, none⟩ = some (.int .i64 seen) := (cell_of_row _ _ _ _ _ _ HWh.out.row).trans rfl; have r5 : wh.cell? ⟨B, 5, none⟩ = some (.int .i64 0) := (cell_of_row _ _ _ _ _ _ HWh.out.row).trans rfl; have f4 : wh.frozen? ⟨B, 4, none⟩ = false := frozen_of_row _ _ _ _ _ HWh.out.row; have f5 : wh.frozen? ⟨B, 5, none⟩ = false := frozen_of_row _ _ _ _ _ HWh.out.row
     by_cases h6 : seen = 500
     ·rw [if_pos h6] at h; subst h6; simp only [Option.some.injEq, Prod.mk.injEq] at h; obtain ⟨rfl, rfl, rfl⟩ := h
      go_wp2_with fail
      go_ret
      exact ⟨_, rfl, Kd.R_nil _ _ _ _ _, HWh.out.setCode 6, grown_two (grown_below HBh.out _) (grownBy_set _ _ _ _) (.inl rfl)⟩
     rw [if_neg h6] at h; have hs6 : (seen == 500) = false := beq_eq_false_iff_ne.2 h6; have hwr : IntKind.i64.wrap (seen + 1) = seen + 1 := wrap_small _ (by omega) (by omega); have HHH := Lib.hid h; clear h
     go_upto_region 16 with fail
     obtain ⟨W6, hW6⟩ : ∃ W6, W6 = wh.setCell ⟨B, 4, none⟩ (.int .i64 (seen + 1)) := ⟨_, rfl⟩
     rw [← hW6]; have hWk6 := HWh.out.setSeen (seen + 1); have hg6 := grownBy_set wh B 4 (.int .i64 (seen + 1)); rw [← hW6] at hWk6 hg6; have hn6 := (hg6.block wf.heap.size (by omega) (fun e => by have := Option.some.inj e; omega)).trans HNh.out; have hx6 := (hg6.block w.heap.size (by omega) (fun e => by have := Option.some.inj e; omega)).trans HXh.out; have hz6 := hg6.size; have hzz : wf.heap.size + 1 ≤ W6.heap.size := by omega
     have HG6 := Lib.hid (grown_two (grown_below HBh.out (some B)) hg6 (.inl rfl)); have HW6 := Lib.hid hWk6; have HN6 := Lib.hid hn6; have HX6 := Lib.hid hx6; clear hW6 hWk6 hg6 hn6 hx6 r4 r5 f4 f5 HWh HBh HNh HXh HW4 HB4 HN4 HX4; have n0 : W6.cell? ⟨wf.heap.size, 0, none⟩ = some (.string k0) := (cell_of_row _ _ _ _ _ _ HN6.out).trans rfl; have n2 : W6.cell? ⟨wf.heap.size, 2, none⟩ = some (.string k2) := (cell_of_row _ _ _ _ _ _ HN6.out).trans rfl; have b0 : W6.cell? ⟨w.heap.size, 0, none⟩ = some (.string blo) := (cell_of_row _ _ _ _ _ _ HX6.out).trans rfl; have h := HHH.out; clear HHH; obtain ⟨⟨l, s1, c1⟩, hL, h⟩ := Option.bind_eq_some_iff.mp h; dsimp only at h hL; have iL := HLN.out _ _ _ _ _ _ _ _ _ hL (by omega) (by omega); have HL := Lib.hid hL; clear hL; have HH3 := Lib.hid h; clear h
     go_upto_region 17 with (go_at_call 65; go_loud (refine (HI.out _ _ _ _ _ _ _ _ _ HW6.out HSZ2.out.2.1 HSZ2.out.1 (by omega) (by omega) HL.out).mono ?_; rintro e w7 ⟨u1, rfl, hR1, hW7, hg7⟩; have HR1 := Lib.hid hR1; have HW7 := Lib.hid hW7; have HG7 := Lib.hid hg7; clear hR1 hW7 hg7))
     have hz7 := HG7.out.size; have HN7 := Lib.hid ((HG7.out.block wf.heap.size (by omega) (fun e => by have := Option.some.inj e; omega)).trans HN6.out); have HX7 := Lib.hid ((HG7.out.block w.heap.size (by omega) (fun e => by have := Option.some.inj e; omega)).trans HX6.out); have HGG7 := Lib.hid (grown_two HG6.out HG7.out (.inl rfl)); clear n0 n2 b0 HN6 HX6 HG7 HW6; have r5 : w7.cell? ⟨B, 5, none⟩ = some (.int .i64 c1) := (cell_of_row _ _ _ _ _ _ HW7.out.row).trans rfl
     by_cases hc1 : c1 = 0
     rotate_left
     ·have h := HH3.out; rw [if_pos hc1] at h; simp only [Option.some.injEq, Prod.mk.injEq] at h; obtain ⟨rfl, rfl, rfl⟩ := h; have hcb : (c1 != 0) = true := bne_iff_ne.2 hc1
      go_wp2_with fail
      go_ret
      exact ⟨_, rfl, Kd.R_nil _ _ _ _ _, HW7.out, HGG7.out⟩
     subst hc1; have h := HH3.out; clear HH3; rw [if_neg (by decide)] at h; obtain ⟨⟨r, s2, c2⟩, hR, h⟩ := Option.bind_eq_some_iff.mp h; dsimp only at h hR; have iR := HLN.out _ _ _ _ _ _ _ _ _ hR (by omega) (by omega); have HR2 := Lib.hid hR; clear hR; have HH4 := Lib.hid h; clear h; have n0 : w7.cell? ⟨wf.heap.size, 0, none⟩ = some (.string k0) := (cell_of_row _ _ _ _ _ _ HN7.out).trans rfl; have n3 : w7.cell? ⟨wf.heap.size, 3, none⟩ = some (.string k3) := (cell_of_row _ _ _ _ _ _ HN7.out).trans rfl; have b1 : w7.cell? ⟨w.heap.size, 1, none⟩ = some (.string bhi) := (cell_of_row _ _ _ _ _ _ HX7.out).trans rfl
     go_upto_region 20 with (go_at_call 65; go_loud (refine (HI.out _ _ _ _ _ _ _ _ _ HW7.out HSZ2.out.2.2 HSZ2.out.1 (by omega) (by omega) HR2.out).mono ?_; rintro e w8 ⟨u2, rfl, hR2, hW8, hg8⟩; have HRB := Lib.hid hR2; have HW8 := Lib.hid hW8; have HG8 := Lib.hid hg8; clear hR2 hW8 hg8))
     have hz8 := HG8.out.size; have HN8 := Lib.hid ((HG8.out.block wf.heap.size (by omega) (fun e => by have := Option.some.inj e; omega)).trans HN7.out); have HGG8 := Lib.hid (grown_two HGG7.out HG8.out (.inl rfl)); have HRA := Lib.hid (R_past HR1.out HG8.out (by omega)); have HU1 := Lib.hid (Kd.R_lt HR1.out); clear n0 n3 b1 r5 HX7 HN7 HG8 HR1; have r5 : w8.cell? ⟨B, 5, none⟩ = some (.int .i64 c2) := (cell_of_row _ _ _ _ _ _ HW8.out.row).trans rfl
     by_cases hc2 : c2 = 0
     rotate_left
     ·have h := HH4.out; rw [if_pos hc2] at h; simp only [Option.some.injEq, Prod.mk.injEq] at h; obtain ⟨rfl, rfl, rfl⟩ := h; have hcb : (c2 != 0) = true := bne_iff_ne.2 hc2
      go_wp2_with fail
      go_ret
      exact ⟨_, rfl, Kd.R_nil _ _ _ _ _, HW8.out, HGG8.out⟩
     subst hc2; have h := HH4.out; clear HH4; rw [if_neg (by decide)] at h; simp only [Option.some.injEq, Prod.mk.injEq] at h; obtain ⟨hps, rfl, rfl⟩ := h
     go_upto_region 22 with fail
     clear r5; have r3 : w8.cell? ⟨B, 3, none⟩ = some (.func (.func 63) #[] #[.pointer (some ⟨V, 0, none⟩)]) := (cell_of_row _ _ _ _ _ _ HW8.out.row).trans rfl; have n0 : w8.cell? ⟨wf.heap.size, 0, none⟩ = some (.string k0) := (cell_of_row _ _ _ _ _ _ HN8.out).trans rfl; have n1 : w8.cell? ⟨wf.heap.size, 1, none⟩ = some (.string k1) := (cell_of_row _ _ _ _ _ _ HN8.out).trans rfl; have n2 : w8.cell? ⟨wf.heap.size, 2, none⟩ = some (.string k2) := (cell_of_row _ _ _ _ _ _ HN8.out).trans rfl; have n3 : w8.cell? ⟨wf.heap.size, 3, none⟩ = some (.string k3) := (cell_of_row _ _ _ _ _ _ HN8.out).trans rfl
     go_still_tail 7, (by kernel_rfl)
     change wpList _ _ _ _ _ w8.drew
     have HA1 := Lib.hid (Kd.R_lower (Kd.R_below HRA.out (Below.refl _ _).drew) (show w.heap.size ≤ W6.heap.size by omega)); have HA2 := Lib.hid (Kd.R_lower (Kd.R_below (R_apartNew HRB.out HU1.out) (Below.refl _ _).drew) (show w.heap.size ≤ w7.heap.size by omega)); have hlw : w.heap.size ≤ w8.drew.heap.size := by show _ ≤ w8.heap.size; omega
     have HPS := Lib.hid hps; clear hps
     go_wp2_with (go_at_call 63; go_loud (refine (rangeBoth_any w.heap.size V lo hi k0 k1 k2 k3 u1 u2 l r w8.drew HW8.out.win HA1.out HA2.out (by omega) (by omega) hlw).mono ?_; rintro e w9 ⟨u, rfl, hR9, hg9, hz9⟩))
     go_ret
     have hg : w8.grownBy w9 u1.ownBlock := ⟨hg9.os, hg9.tape, hg9.output, hg9.size, hg9.block⟩
     have hur : ∀ k, u1.ownBlock = some k → w.heap.size ≤ k := fun k hk => by have := Kd.R_base HRA.out k hk; omega
     rw [HPS.out] at hR9; exact ⟨u, rfl, hR9, HW0.out.grownR HW8.out hg hur, grown_three HGG8.out hg (fun k hk => .inr (hur k hk))⟩
   ·rw [if_neg (fun g => by rcases g with g | g | ⟨g, _⟩; exact g rfl; (rw [HBB.out] at g; cases g); (unfold emp at g; rw [ha] at g; cases g))] at h; clear n2 r4 r5 f5
    go_upto_region 10 with (first
     | (go_at_call 96; refine (boundHolds_any _ _ _ _).mono ?_; rintro e wb ⟨rfl, hbb⟩; rw [HBB.out]; have HWb := Lib.hid (HW4.out.below hbb); have HBb := Lib.hid (HB4.out.trans (hbb.mono HB4.out.size)); have HNb := Lib.hid ((hbb.block wf.heap.size (by omega)).trans HN4.out); have HXb := Lib.hid ((hbb.block w.heap.size (by omega)).trans HX4.out); have n0 : wb.cell? ⟨wf.heap.size, 0, none⟩ = some (.string k0) := (cell_of_row _ _ _ _ _ _ HNb.out).trans rfl; have hzb := hbb.size; clear hbb))
    clear n0 b0 b1; have r4 : wb.cell? ⟨B, 4, none⟩ = some (.int .i64 seen) := (cell_of_row _ _ _ _ _ _ HWb.out.row).trans rfl; have r5 : wb.cell? ⟨B, 5, none⟩ = some (.int .i64 0) := (cell_of_row _ _ _ _ _ _ HWb.out.row).trans rfl; have f4 : wb.frozen? ⟨B, 4, none⟩ = false := frozen_of_row _ _ _ _ _ HWb.out.row; have f5 : wb.frozen? ⟨B, 5, none⟩ = false := frozen_of_row _ _ _ _ _ HWb.out.row
    by_cases h6 : seen = 500
    ·rw [if_pos h6] at h; subst h6; simp only [Option.some.injEq, Prod.mk.injEq] at h; obtain ⟨rfl, rfl, rfl⟩ := h
     go_wp2_with fail
     go_ret
     exact ⟨_, rfl, Kd.R_nil _ _ _ _ _, HWb.out.setCode 6, grown_two (grown_below HBb.out _) (grownBy_set _ _ _ _) (.inl rfl)⟩
    rw [if_neg h6] at h; have hs6 : (seen == 500) = false := beq_eq_false_iff_ne.2 h6; have hwr : IntKind.i64.wrap (seen + 1) = seen + 1 := wrap_small _ (by omega) (by omega); have HHH := Lib.hid h; clear h
    go_upto_region 16 with fail
    obtain ⟨W6, hW6⟩ : ∃ W6, W6 = wb.setCell ⟨B, 4, none⟩ (.int .i64 (seen + 1)) := ⟨_, rfl⟩
    rw [← hW6]; have hWk6 := HWb.out.setSeen (seen + 1); have hg6 := grownBy_set wb B 4 (.int .i64 (seen + 1)); rw [← hW6] at hWk6 hg6; have hn6 := (hg6.block wf.heap.size (by omega) (fun e => by have := Option.some.inj e; omega)).trans HNb.out; have hx6 := (hg6.block w.heap.size (by omega) (fun e => by have := Option.some.inj e; omega)).trans HXb.out; have hz6 := hg6.size; have hzz : wf.heap.size + 1 ≤ W6.heap.size := by omega
    have HG6 := Lib.hid (grown_two (grown_below HBb.out (some B)) hg6 (.inl rfl)); have HW6 := Lib.hid hWk6; have HN6 := Lib.hid hn6; have HX6 := Lib.hid hx6; clear hW6 hWk6 hg6 hn6 hx6 r4 r5 f4 f5 HWb HBb HNb HXb HW4 HB4 HN4 HX4; have n0 : W6.cell? ⟨wf.heap.size, 0, none⟩ = some (.string k0) := (cell_of_row _ _ _ _ _ _ HN6.out).trans rfl; have n2 : W6.cell? ⟨wf.heap.size, 2, none⟩ = some (.string k2) := (cell_of_row _ _ _ _ _ _ HN6.out).trans rfl; have b0 : W6.cell? ⟨w.heap.size, 0, none⟩ = some (.string blo) := (cell_of_row _ _ _ _ _ _ HX6.out).trans rfl; have h := HHH.out; clear HHH; obtain ⟨⟨l, s1, c1⟩, hL, h⟩ := Option.bind_eq_some_iff.mp h; dsimp only at h hL; have iL := HLN.out _ _ _ _ _ _ _ _ _ hL (by omega) (by omega); have HL := Lib.hid hL; clear hL; have HH3 := Lib.hid h; clear h
    go_upto_region 17 with (go_at_call 65; go_loud (refine (HI.out _ _ _ _ _ _ _ _ _ HW6.out HSZ2.out.2.1 HSZ2.out.1 (by omega) (by omega) HL.out).mono ?_; rintro e w7 ⟨u1, rfl, hR1, hW7, hg7⟩; have HR1 := Lib.hid hR1; have HW7 := Lib.hid hW7; have HG7 := Lib.hid hg7; clear hR1 hW7 hg7))
    have hz7 := HG7.out.size; have HN7 := Lib.hid ((HG7.out.block wf.heap.size (by omega) (fun e => by have := Option.some.inj e; omega)).trans HN6.out); have HX7 := Lib.hid ((HG7.out.block w.heap.size (by omega) (fun e => by have := Option.some.inj e; omega)).trans HX6.out); have HGG7 := Lib.hid (grown_two HG6.out HG7.out (.inl rfl)); clear n0 n2 b0 HN6 HX6 HG7 HW6; have r5 : w7.cell? ⟨B, 5, none⟩ = some (.int .i64 c1) := (cell_of_row _ _ _ _ _ _ HW7.out.row).trans rfl
    by_cases hc1 : c1 = 0
    rotate_left
    ·have h := HH3.out; rw [if_pos hc1] at h; simp only [Option.some.injEq, Prod.mk.injEq] at h; obtain ⟨rfl, rfl, rfl⟩ := h; have hcb : (c1 != 0) = true := bne_iff_ne.2 hc1
     go_wp2_with fail
     go_ret
     exact ⟨_, rfl, Kd.R_nil _ _ _ _ _, HW7.out, HGG7.out⟩
    subst hc1; have h := HH3.out; clear HH3; rw [if_neg (by decide)] at h; obtain ⟨⟨r, s2, c2⟩, hR, h⟩ := Option.bind_eq_some_iff.mp h; dsimp only at h hR; have iR := HLN.out _ _ _ _ _ _ _ _ _ hR (by omega) (by omega); have HR2 := Lib.hid hR; clear hR; have HH4 := Lib.hid h; clear h; have n0 : w7.cell? ⟨wf.heap.size, 0, none⟩ = some (.string k0) := (cell_of_row _ _ _ _ _ _ HN7.out).trans rfl; have n3 : w7.cell? ⟨wf.heap.size, 3, none⟩ = some (.string k3) := (cell_of_row _ _ _ _ _ _ HN7.out).trans rfl; have b1 : w7.cell? ⟨w.heap.size, 1, none⟩ = some (.string bhi) := (cell_of_row _ _ _ _ _ _ HX7.out).trans rfl
    go_upto_region 20 with (go_at_call 65; go_loud (refine (HI.out _ _ _ _ _ _ _ _ _ HW7.out HSZ2.out.2.2 HSZ2.out.1 (by omega) (by omega) HR2.out).mono ?_; rintro e w8 ⟨u2, rfl, hR2, hW8, hg8⟩; have HRB := Lib.hid hR2; have HW8 := Lib.hid hW8; have HG8 := Lib.hid hg8; clear hR2 hW8 hg8))
    have hz8 := HG8.out.size; have HN8 := Lib.hid ((HG8.out.block wf.heap.size (by omega) (fun e => by have := Option.some.inj e; omega)).trans HN7.out); have HGG8 := Lib.hid (grown_two HGG7.out HG8.out (.inl rfl)); have HRA := Lib.hid (R_past HR1.out HG8.out (by omega)); have HU1 := Lib.hid (Kd.R_lt HR1.out); clear n0 n3 b1 r5 HX7 HN7 HG8 HR1; have r5 : w8.cell? ⟨B, 5, none⟩ = some (.int .i64 c2) := (cell_of_row _ _ _ _ _ _ HW8.out.row).trans rfl
    by_cases hc2 : c2 = 0
    rotate_left
    ·have h := HH4.out; rw [if_pos hc2] at h; simp only [Option.some.injEq, Prod.mk.injEq] at h; obtain ⟨rfl, rfl, rfl⟩ := h; have hcb : (c2 != 0) = true := bne_iff_ne.2 hc2
     go_wp2_with fail
     go_ret
     exact ⟨_, rfl, Kd.R_nil _ _ _ _ _, HW8.out, HGG8.out⟩
    subst hc2; have h := HH4.out; clear HH4; rw [if_neg (by decide)] at h; simp only [Option.some.injEq, Prod.mk.injEq] at h; obtain ⟨hps, rfl, rfl⟩ := h
    go_upto_region 22 with fail
    clear r5; have r3 : w8.cell? ⟨B, 3, none⟩ = some (.func (.func 63) #[] #[.pointer (some ⟨V, 0, none⟩)]) := (cell_of_row _ _ _ _ _ _ HW8.out.row).trans rfl; have n0 : w8.cell? ⟨wf.heap.size, 0, none⟩ = some (.string k0) := (cell_of_row _ _ _ _ _ _ HN8.out).trans rfl; have n1 : w8.cell? ⟨wf.heap.size, 1, none⟩ = some (.string k1) := (cell_of_row _ _ _ _ _ _ HN8.out).trans rfl; have n2 : w8.cell? ⟨wf.heap.size, 2, none⟩ = some (.string k2) := (cell_of_row _ _ _ _ _ _ HN8.out).trans rfl; have n3 : w8.cell? ⟨wf.heap.size, 3, none⟩ = some (.string k3) := (cell_of_row _ _ _ _ _ _ HN8.out).trans rfl
    go_still_tail 7, (by kernel_rfl)
    change wpList _ _ _ _ _ w8.drew
    have HA1 := Lib.hid (Kd.R_lower (Kd.R_below HRA.out (Below.refl _ _).drew) (show w.heap.size ≤ W6.heap.size by omega)); have HA2 := Lib.hid (Kd.R_lower (Kd.R_below (R_apartNew HRB.out HU1.out) (Below.refl _ _).drew) (show w.heap.size ≤ w7.heap.size by omega)); have hlw : w.heap.size ≤ w8.drew.heap.size := by show _ ≤ w8.heap.size; omega
    have HPS := Lib.hid hps; clear hps
    go_wp2_with (go_at_call 63; go_loud (refine (rangeBoth_any w.heap.size V lo hi k0 k1 k2 k3 u1 u2 l r w8.drew HW8.out.win HA1.out HA2.out (by omega) (by omega) hlw).mono ?_; rintro e w9 ⟨u, rfl, hR9, hg9, hz9⟩))
    go_ret
    have hg : w8.grownBy w9 u1.ownBlock := ⟨hg9.os, hg9.tape, hg9.output, hg9.size, hg9.block⟩
    have hur : ∀ k, u1.ownBlock = some k → w.heap.size ≤ k := fun k hk => by have := Kd.R_base HRA.out k hk; omega
    rw [HPS.out] at hR9; exact ⟨u, rfl, hR9, HW0.out.grownR HW8.out hg hur, grown_three HGG8.out hg (fun k hk => .inr (hur k hk))⟩
 ·-- no root
  have h := HH.out; unfold walkI at h; rw [if_pos (.inl he)] at h; simp only [Option.some.injEq, Prod.mk.injEq] at h; obtain ⟨rfl, rfl, rfl⟩ := h
  go_enter Tryd.func65, Tryd.ntmps65
  go_upto_region 1 with fail
  rw [← HWE.out]; refine wp_region_quiet_lit (by kernel_rfl) (by kernel_rfl) ?_
  repeat (quiet_step (fail))
  refine wpQuiet_nil ?_; intro _ hw'; obtain ⟨nq, hw''⟩ := hw'; subst hw''
  go_wp2_with (go_at_call 62; refine (rangeNone_any _ _).mono ?_; rintro e wn ⟨rfl, hbn⟩)
  go_ret
  have hbx : Below W1.heap.size W1 wn := (bdrewN (Below.refl _ _) nq).trans hbn; exact ⟨_, rfl, Kd.R_nil _ _ _ _ _, HWk.out.below hbx, grown_below (HB1.out.trans (hbx.mono HB1.out.size)) _⟩
end Go.Proofs.YthnnphinfiobmaaDoor.Z
end
section
namespace Go.Proofs.YthnnphinfiobmaaDoor.Z
open RowKit YthnnphinfiobmaaDoor YthnnphinfiobmaaDoorW.PrintWords YthnnphinfiobmaaDoorW.PrintLast
set_option linter.all false
set_option maxRecDepth 100000
theorem walkI_some (n : Nat) (encs : List ByteArray) (C : List (List Int)) (lo hi : ByteArray) : ∀ (k : Nat) (seen : Int) (root above blo bhi : ByteArray), 0 ≤ seen → seen ≤ 500 → 500 - seen < k → ∃ r, walkI n encs C lo hi k seen root above blo bhi = some r := by
 intro k
 induction k with
 | zero => intro seen root above blo bhi h0 h1 h2; omega
 | succ k ih =>
  intro seen root above blo bhi h0 h1 h2; unfold walkI
  split
  ·exact ⟨_, rfl⟩
  split
  ·exact ⟨_, rfl⟩
  split
  ·exact ⟨_, rfl⟩
  split
  ·exact ⟨_, rfl⟩
  rename_i h6
  obtain ⟨⟨l, s1, c1⟩, hL⟩ := ih (seen + 1) (findR n encs C root).2.2.1 (findR n encs C root).1 blo (findR n encs C root).1 (by omega) (by omega) (by omega); have iL := walkI_len _ _ _ _ _ _ _ _ _ _ _ _ _ _ hL (by omega) (by omega); rw [hL, Option.bind_some]; dsimp only
  split
  ·exact ⟨_, rfl⟩
  obtain ⟨⟨r, s2, c2⟩, hR⟩ := ih s1 (findR n encs C root).2.2.2.1 (findR n encs C root).1 (findR n encs C root).1 bhi (by omega) (by omega) (by omega); rw [hR, Option.bind_some]; dsimp only
  split
  ·exact ⟨_, rfl⟩
  ·exact ⟨_, rfl⟩
def walkG (n : Nat) (l : List ByteArray) (root lo hi : ByteArray) : List S65 × Int × Int := (walkI n l (cuts n l) lo hi 502 0 root ⟨#[]⟩ ⟨#[]⟩ ⟨#[]⟩).getD ([], 0, 99)
theorem walkG_some (n : Nat) (l : List ByteArray) (root lo hi : ByteArray) : walkI n l (cuts n l) lo hi 502 0 root ⟨#[]⟩ ⟨#[]⟩ ⟨#[]⟩ = some (walkG n l root lo hi) := by
 obtain ⟨r, hr⟩ := walkI_some n l (cuts n l) lo hi 502 0 root ⟨#[]⟩ ⟨#[]⟩ ⟨#[]⟩ (by omega) (by omega) (by omega); unfold walkG; rw [hr]; rfl
def rangeR (W : Int) (l : List ByteArray) (root lo hi : ByteArray) : List S65 × Int :=
 if poolOk W l = true ∧ (emp root = true ∨ (root.size : Int) = W) then (if (walkG W.toNat l root lo hi).2.2 ≠ 0 then ([], (walkG W.toNat l root lo hi).2.2) else ((walkG W.toNat l root lo hi).1, 0)) else ([], 1)
def impl_Range.f (a0_0 : Int) (l0_1 : List ByteArray) (a1 a2 a3 : ByteArray) : Option (List S65 × Int) := if small l0_1 then some (rangeR a0_0 l0_1 a1 a2 a3) else none
theorem cells4I {u : World} {p q r s : Addr} {a b c d : Value} (h1 : u.cell? p = some a) (h2 : u.cell? q = some b) (h3 : u.cell? r = some c) (h4 : u.cell? s = some d) : u.cell? p = some a ∧ u.cell? q = some b ∧ u.cell? r = some c ∧ u.cell? s = some d := ⟨h1, h2, h3, h4⟩
theorem cells4B {u w1 : World} {p q r s : Addr} {a b c d : Value} (hb : Below u.heap.size u w1) (h : u.cell? p = some a ∧ u.cell? q = some b ∧ u.cell? r = some c ∧ u.cell? s = some d) : w1.cell? p = some a ∧ w1.cell? q = some b ∧ w1.cell? r = some c ∧ w1.cell? s = some d := ⟨cellB hb h.1, cellB hb h.2.1, cellB hb h.2.2.1, cellB hb h.2.2.2⟩
theorem cells4D {u : World} {p q r s : Addr} {a b c d : Value} (h : u.cell? p = some a ∧ u.cell? q = some b ∧ u.cell? r = some c ∧ u.cell? s = some d) : u.drew.cell? p = some a ∧ u.drew.cell? q = some b ∧ u.drew.cell? r = some c ∧ u.drew.cell? s = some d := h
theorem cells4A {u : World} {p q r s : Addr} {a b c d : Value} (o : Obj) (h : u.cell? p = some a ∧ u.cell? q = some b ∧ u.cell? r = some c ∧ u.cell? s = some d) : (u.alloc o).cell? p = some a ∧ (u.alloc o).cell? q = some b ∧ (u.alloc o).cell? r = some c ∧ (u.alloc o).cell? s = some d := cells4B ((Below.refl _ _).alloc (Nat.le_refl _) o) h
theorem cells4S {u : World} {p q r s : Addr} {a b c d : Value} {g j : Nat} {v : Value} (h : u.cell? p = some a ∧ u.cell? q = some b ∧ u.cell? r = some c ∧ u.cell? s = some d) (hp : p.block ≠ g) (hq : q.block ≠ g) (hr : r.block ≠ g) (hs : s.block ≠ g) : (u.setCell ⟨g, j, none⟩ v).cell? p = some a ∧ (u.setCell ⟨g, j, none⟩ v).cell? q = some b ∧ (u.setCell ⟨g, j, none⟩ v).cell? r = some c ∧ (u.setCell ⟨g, j, none⟩ v).cell? s = some d := by
 have e : ∀ p : Addr, p.block ≠ g → (u.setCell ⟨g, j, none⟩ v).cell? p = u.cell? p := fun p hp => World.cell?_setCell_other u _ _ v (fun e => hp (by rw [← e]))
 rw [e _ hp, e _ hq, e _ hr, e _ hs]; exact h
def wkRow0 (b : Nat) (lo hi : ByteArray) : Array Value := #[.pointer (some ⟨b, 0, none⟩), .func (.func 61) #[.agg #[.string lo, .string hi]] #[], .nilFunc, .nilFunc, .int .i64 0, .int .i64 0]
structure Wk0 (B V base b m : Nat) (v : Value) (n : Nat) (encs : List ByteArray) (C : List (List Int)) (lo hi : ByteArray) (w0 w : World) : Prop where
 row : w.heap[B]? = some (.cells (wkRow0 b lo hi) 97 (0, 0))
 idx : Idx base b m v n encs C w
 win : w.heap[V]? = some (.cells #[.string lo, .string hi] 90 (0, 0))
 nb : B ≠ b
 nm : B ≠ m
 nv : v.ownBlock ≠ some B
 nV : V ≠ B
 nt : B ≠ 0
 tab : Tab w
 below : Below w0.heap.size w0 w
 ge : w0.heap.size ≤ B
section
variable {B V base b m : Nat} {v : Value} {n : Nat} {encs : List ByteArray} {C : List (List Int)} {lo hi : ByteArray} {w0 wx w : World}
theorem Wk0.after (hI : Idx base b m v n encs C wx) (hV : wx.heap[V]? = some (.cells #[.string lo, .string hi] 90 (0, 0))) (hT : Tab wx) (hB : Below w0.heap.size w0 wx) : Wk0 wx.heap.size V base b m v n encs C lo hi w0 (wx.alloc (.cells (wkRow0 b lo hi) 97)) := by
 have hA : Below wx.heap.size wx (wx.alloc (.cells (wkRow0 b lo hi) 97)) := (Below.refl _ _).alloc (Nat.le_refl _) _; have ht : 0 < wx.heap.size := World.block_lt_of_cell? _ ⟨0, 0, none⟩ (hT 0 (by omega)); have h1 := hI.lt; have h2 := hI.ltm; have h3 := lt_of_block hV; exact ⟨heap_alloc_new _ _, hI.below hA, (hA.block V h3).trans hV, by omega, by omega, fun e => by have := (hI.own.lt _ e).2; omega, by omega, by omega, hT.below hA, hB.trans (hA.mono hB.size), hB.size⟩
theorem Wk0.first {z : Array Value} (hz : z.size = 6) (hI : Idx base b m v n encs C wx) (hBb : B < base) (hV : wx.heap[V]? = some (.cells #[.string lo, .string hi] 90 (0, 0))) (hV2 : V < B) (hT : Tab wx) (ht : 0 < B) (hB : Below w0.heap.size w0 wx) (hg : w0.heap.size ≤ B)
  (hr : wx.heap[B]? = some (.cells z 97 (0, 0))) :
  Wk0 B V base b m v n encs C lo hi w0 ((((((wx.setCell ⟨B, 0, none⟩ (.pointer (some ⟨b, 0, none⟩))).setCell ⟨B, 1, none⟩ (.func (.func 61) #[.agg #[.string lo, .string hi]] #[])).setCell ⟨B, 2, none⟩ .nilFunc).setCell ⟨B, 3, none⟩ .nilFunc).setCell ⟨B, 4, none⟩ (.int .i64 0)).setCell ⟨B, 5, none⟩ (.int .i64 0)) := by
 have hG : wx.grownBy ((((((wx.setCell ⟨B, 0, none⟩ (.pointer (some ⟨b, 0, none⟩))).setCell ⟨B, 1, none⟩ (.func (.func 61) #[.agg #[.string lo, .string hi]] #[])).setCell ⟨B, 2, none⟩ .nilFunc).setCell ⟨B, 3, none⟩ .nilFunc).setCell ⟨B, 4, none⟩ (.int .i64 0)).setCell ⟨B, 5, none⟩ (.int .i64 0)) (some B) :=
  grown_two (grown_two (grown_two (grown_two (grown_two (grownBy_set wx B 0 _) (grownBy_set _ B 1 _) (.inl rfl)) (grownBy_set _ B 2 _) (.inl rfl)) (grownBy_set _ B 3 _) (.inl rfl)) (grownBy_set _ B 4 _) (.inl rfl)) (grownBy_set _ B 5 _) (.inl rfl)
 have nb : B ≠ b := by have := hI.hb; omega
 have nm : B ≠ m := by have := hI.hm; omega
 have nv : v.ownBlock ≠ some B := fun e => by have := (hI.own.lt _ e).1; omega
 match z, hz with
 | ⟨[z0, z1, z2, z3, z4, z5]⟩, _ =>
  exact ⟨blk_put (blk_put (blk_put (blk_put (blk_put (blk_put hr 0 _ rfl) 1 _ rfl) 2 _ rfl) 3 _ rfl) 4 _ rfl) 5 _ rfl, hI.grown hG nb nm nv, (hG.block V (lt_of_block hV) (fun e => by have := Option.some.inj e; omega)).trans hV, nb, nm, nv, by omega, by omega,
   fun i hi => hG.cell (hT i hi) (fun e => by have := Option.some.inj e; simp at this; omega), hB.trans (below_of_grownBy hG hB.size (fun k hk => by have := Option.some.inj hk; omega)), hg⟩
theorem Wk0.wk (h : Wk0 B V base b m v n encs C lo hi w0 w) : Wk B V base b m v n encs C lo hi 0 0 ((w.setCell ⟨B, 2, none⟩ (.func (.func 62) #[] #[])).setCell ⟨B, 3, none⟩ (.func (.func 63) #[] #[.pointer (some ⟨V, 0, none⟩)])) ∧
  Below w0.heap.size w0 ((w.setCell ⟨B, 2, none⟩ (.func (.func 62) #[] #[])).setCell ⟨B, 3, none⟩ (.func (.func 63) #[] #[.pointer (some ⟨V, 0, none⟩)])) := by
 have hG := grown_two (grownBy_set w B 2 (.func (.func 62) #[] #[])) (grownBy_set _ B 3 (.func (.func 63) #[] #[.pointer (some ⟨V, 0, none⟩)])) (.inl rfl); exact ⟨⟨blk_put (blk_put h.row 2 _ rfl) 3 _ rfl, h.idx.grown hG h.nb h.nm h.nv, (hG.block V (lt_of_block h.win) (fun e => h.nV (Option.some.inj e))).trans h.win, h.nb, h.nm, h.nv, h.nV, h.nt, fun i hi => hG.cell (h.tab i hi) (fun e => h.nt (Option.some.inj e).symm)⟩,
  h.below.trans (below_of_grownBy hG h.below.size (fun k hk => by have := Option.some.inj hk; have := h.ge; omega))⟩
end
set_option maxHeartbeats 4000000 in
theorem impl_Range.calls (a0_0 : Int) (A0_1 : Option Addr) (c0_1 : Nat) (l0_1 : List ByteArray) (a1 a2 a3 : ByteArray) (r1 : List S65) (r2 : Int) (w : World) (hr0_1 : Kd.C Kd.string w A0_1 l0_1.length l0_1) (hc0_1 : l0_1.length ≤ c0_1) (h : impl_Range.f a0_0 l0_1 a1 a2 a3 = some (r1, r2)) (hTab : Tab w := by exact Tab.below (by assumption) zq_46) :
  Calls Tryd.prog 19 #[.agg #[.int .i64 a0_0, .slice A0_1 l0_1.length c0_1], .string a1, .string a2, .string a3] w fun e w' => ∃ v0_ : Value, e = .returned (.tuple #[v0_, .int .i64 r2]) ∧ Kd.R k65 65 w' w.heap.size (fun _ => True) v0_ r1 ∧ Below w.heap.size w w' := by
 unfold impl_Range.f at h
 split at h
 rotate_left
 ·cases h
 rename_i hsm
 have h := Option.some.inj h; have HSM := Lib.hid hsm; clear hsm; have HT := Lib.hid hTab; clear hTab; have HR := Lib.hid hr0_1; clear hr0_1; obtain ⟨W1, hW1⟩ : ∃ W1, W1 = w.alloc (.cells #[.int .i64 a0_0, .slice A0_1 l0_1.length c0_1] 38) := ⟨_, rfl⟩
 have hz1 : W1.heap.size = w.heap.size + 1 := by rw [hW1]; simp
 have hp1 : W1.heap[w.heap.size]? = some (.cells #[.int .i64 a0_0, .slice A0_1 l0_1.length c0_1] 38 (0, 0)) := by rw [hW1]; exact heap_alloc_new _ _
 have hB1 : Below w.heap.size w W1 := by rw [hW1]; exact (Below.refl _ _).alloc (Nat.le_refl _) _
 have HP1 := Lib.hid hp1; have HB1 := Lib.hid hB1; have p0 : W1.cell? ⟨w.heap.size, 0, none⟩ = some (.int .i64 a0_0) := (cell_of_row _ _ _ _ _ _ hp1).trans rfl; have p1 : W1.cell? ⟨w.heap.size, 1, none⟩ = some (.slice A0_1 l0_1.length c0_1) := (cell_of_row _ _ _ _ _ _ hp1).trans rfl; have HRW := Lib.hid (Kd.C_below HR.out hB1); have HWE := Lib.hid hW1; clear hp1 hB1 hW1; have HPV := Lib.hid (poolValid_f a0_0 l0_1)
 cases hv : poolOk a0_0 l0_1
 ·have h2 : rangeR a0_0 l0_1 a1 a2 a3 = ([], 1) := by unfold rangeR; rw [if_neg (fun g => by rw [hv] at g; exact absurd g.1 (by decide))]
  rw [h2] at h; simp only [Prod.mk.injEq] at h; obtain ⟨rfl, rfl⟩ := h; rw [hv] at HPV; clear hv h2
  go_enter Tryd.func19, Tryd.ntmps19
  go_upto_region 1 with fail
  rw [← HWE.out]
  go_wp2_with (go_at_call 59; refine (impl_Pool_valid.calls _ A0_1 c0_1 l0_1 _ _ HRW.out hc0_1 HPV.out).mono ?_; rintro e w2 ⟨rfl, hb2⟩)
  go_ret2
  exact ⟨_, rfl, Kd.R_nil _ _ _ _ _, HB1.out.trans (hb2.mono HB1.out.size)⟩
 have h1 := poolOk_iff.1 hv; obtain ⟨n, hn⟩ : ∃ n : Nat, a0_0 = (n : Int) := ⟨a0_0.toNat, by omega⟩
 subst hn; rw [hv] at HPV
 by_cases hs : emp a1 = true ∨ (a1.size : Int) = n
 rotate_left
 ·have h2 : rangeR n l0_1 a1 a2 a3 = ([], 1) := by unfold rangeR; rw [if_neg (fun g => hs g.2)]
  rw [h2] at h; simp only [Prod.mk.injEq] at h; obtain ⟨rfl, rfl⟩ := h; have he : a1.toList.isEmpty = false := by cases h : a1.toList.isEmpty with | false => rfl | true => exact absurd (.inl h) hs
  have hne : ((a1.size : Int) != (n : Int)) = true := bne_iff_ne.2 (fun e => hs (.inr e)); clear hs hv h2 h1
  go_enter Tryd.func19, Tryd.ntmps19
  go_upto_region 1 with fail
  rw [← HWE.out]
  go_wp2_with (go_at_call 59; refine (impl_Pool_valid.calls _ A0_1 c0_1 l0_1 _ _ HRW.out hc0_1 HPV.out).mono ?_; rintro e w2 ⟨rfl, hb2⟩; obtain ⟨hc2, hf2⟩ := bcell hb2)
  go_ret2
  exact ⟨_, rfl, Kd.R_nil _ _ _ _ _, HB1.out.trans (hb2.mono HB1.out.size)⟩
 have h2 : rangeR n l0_1 a1 a2 a3 = (if (walkG n l0_1 a1 a2 a3).2.2 ≠ 0 then ([], (walkG n l0_1 a1 a2 a3).2.2) else ((walkG n l0_1 a1 a2 a3).1, 0)) := by unfold rangeR; rw [if_pos ⟨hv, hs⟩, Int.toNat_natCast]
 rw [h2] at h; have HH := Lib.hid h; have hn1 : 1 ≤ n := by omega
 have hn2 : n ≤ 32 := by omega
 have hl2 : l0_1.length ≤ 1073741824 := by omega
 have hroot : a1.size ≤ 32 := by
  rcases hs with hs | hs
  ·have : a1.toList = [] := by unfold emp at hs; simpa using hs
   have h3 : a1.data.toList = [] := by rw [← ByteArray.toList_eq]; exact this
   have : a1.data.toList.length = a1.size := rfl; rw [h3] at this; simp at this; omega
  ·omega
 clear h h2 h1 hv; have hmf : ∀ (fn : Fn) (first cap : Array Value) (w : World), (Instr.makeFunc fn first cap).run Tryd.prog w = .ok (.func fn first cap) w := fun _ _ _ _ => rfl
 rcases hs with hs | hs
 ·have he : a1.toList.isEmpty = true := hs; clear hs
  go_enter Tryd.func19, Tryd.ntmps19
  go_upto_region 1 with fail
  rw [← HWE.out]
  go_upto_region 4 with (go_at_call 59; refine (impl_Pool_valid.calls _ A0_1 c0_1 l0_1 _ _ HRW.out hc0_1 HPV.out).mono ?_; rintro e w2 ⟨rfl, hb2⟩; obtain ⟨hc2, hf2⟩ := bcell hb2; have hz2 := hb2.size; have HB2 := Lib.hid (HB1.out.trans (hb2.mono HB1.out.size)); have HP2 := Lib.hid ((hb2.block w.heap.size (by omega)).trans HP1.out); clear hb2)
  obtain ⟨W3, hW3⟩ : ∃ W3, W3 = w2.alloc (.cells #[.string a2, .string a3] 90) := ⟨_, rfl⟩
  rw [← hW3]; have hz3 : W3.heap.size = w2.heap.size + 1 := by rw [hW3]; simp
  have hb3 : Below w2.heap.size w2 W3 := by rw [hW3]; exact (Below.refl _ _).alloc (Nat.le_refl _) _
  have hv3 : W3.heap[w2.heap.size]? = some (.cells #[.string a2, .string a3] 90 (0, 0)) := by rw [hW3]; exact heap_alloc_new _ _
  have HB3 := Lib.hid (HB2.out.trans (hb3.mono HB2.out.size)); have hp3 := (hb3.block w.heap.size (by omega)).trans HP2.out; have q0 : W3.cell? ⟨w.heap.size, 0, none⟩ = some (.int .i64 (n : Int)) := (cell_of_row _ _ _ _ _ _ hp3).trans rfl; have q1 : W3.cell? ⟨w.heap.size, 1, none⟩ = some (.slice A0_1 l0_1.length c0_1) := (cell_of_row _ _ _ _ _ _ hp3).trans rfl; have v0 : W3.cell? ⟨w2.heap.size, 0, none⟩ = some (.string a2) := (cell_of_row _ _ _ _ _ _ hv3).trans rfl; have v1 : W3.cell? ⟨w2.heap.size, 1, none⟩ = some (.string a3) := (cell_of_row _ _ _ _ _ _ hv3).trans rfl; have HV3 := Lib.hid hv3; have HB2s := Lib.hid (show w.heap.size + 1 ≤ w2.heap.size by omega); have HRF : Hid (∀ w', Below W3.heap.size W3 w' → Kd.C Kd.string w' A0_1 l0_1.length l0_1) := Lib.hid (fun w' hb => Kd.C_below HR.out (HB3.out.trans (hb.mono HB3.out.size))); have HTF : Hid (∀ w', Below W3.heap.size W3 w' → Tab w') := Lib.hid (fun w' hb => HT.out.below (HB3.out.trans (hb.mono HB3.out.size))); clear hW3 hb3 hp3 hv3 p0 p1 hc2 hf2 HB2 HP2
  go_region_held3 (fun w' => w'.cell? ⟨w.heap.size, 0, none⟩ = some (.int .i64 (n : Int)) ∧ w'.cell? ⟨w.heap.size, 1, none⟩ = some (.slice A0_1 l0_1.length c0_1) ∧ w'.cell? ⟨w2.heap.size, 0, none⟩ = some (.string a2) ∧ w'.cell? ⟨w2.heap.size, 1, none⟩ = some (.string a3))
   (repeat' (first | (with_reducible assumption) | (with_reducible exact cells4I q0 q1 v0 v1) | (with_reducible refine cells4D ?_) | (with_reducible refine cells4A _ ?_) | ((with_reducible refine cells4S ?_ ?_ ?_ ?_ ?_); rotate_left; (· show w.heap.size ≠ _; omega); (· show w.heap.size ≠ _; omega); (· show w2.heap.size ≠ _; omega); (· show w2.heap.size ≠ _; omega)) | (with_reducible refine cells4B (by assumption) ?_)))
   (first | (go_at_call 60; refine (index_any n hn1 hn2 A0_1 c0_1 l0_1 _ (HRF.out _ zq_67) hc0_1 HSM.out.1 HSM.out.2 (HTF.out _ zq_67)).mono ?_; rintro e wx ⟨⟨b, m, v, rfl, hI⟩, hbx⟩; obtain ⟨hcx, hfx⟩ := bcell hbx; have hzx := hbx.size; (try simp only [World.size_alloc, World.size_drew] at hcx); (try simp only [World.size_alloc, World.size_drew] at hfx); (try simp only [World.size_alloc, World.size_drew] at hzx)))
  all_goals
   have hx : Below W3.heap.size W3 wx := (by first | exact (Below.refl _ _).drew.trans hbx | exact (((Below.refl _ _).alloc (Nat.le_refl _) _).drew).trans (hbx.mono (by simp)))
   have hT5 := HTF.out wx hx; have hV5 := (hx.block w2.heap.size (by omega)).trans HV3.out; have hB5 := HB3.out.trans (hx.mono HB3.out.size); have ht5 : 0 < w.heap.size := World.block_lt_of_cell? _ ⟨0, 0, none⟩ (HT.out 0 (by omega))
   first
   | (obtain ⟨B, W5, base, hS, hBe, hWe⟩ : ∃ (B : Nat) (W5 : World) (base : Nat), Wk0 B w2.heap.size base b m v n l0_1 (cuts n l0_1) a2 a3 w W5 ∧ B = wx.heap.size ∧ W5 = (wx.alloc (.cells #[.pointer (some ⟨b, 0, none⟩), .func (.func 61) #[.agg #[.string a2, .string a3]] #[], .nilFunc, .nilFunc, .int .i64 0, .int .i64 0] 97)) := ⟨_, _, _, Wk0.after hI hV5 hT5 hB5, rfl, rfl⟩; rw [← hWe, ← hBe])
   | (obtain ⟨B, W5, base, hS, hBe, hWe⟩ : ∃ (B : Nat) (W5 : World) (base : Nat), Wk0 B w2.heap.size base b m v n l0_1 (cuts n l0_1) a2 a3 w W5 ∧ B = w2.heap.size + 1 ∧ W5 = ((((((wx.setCell ⟨(w2.heap.size + 1), 0, none⟩ (.pointer (some ⟨b, 0, none⟩))).setCell ⟨(w2.heap.size + 1), 1, none⟩ (.func (.func 61) #[.agg #[.string a2, .string a3]] #[])).setCell ⟨(w2.heap.size + 1), 2, none⟩ .nilFunc).setCell ⟨(w2.heap.size + 1), 3, none⟩ .nilFunc).setCell ⟨(w2.heap.size + 1), 4, none⟩ (.int .i64 0)).setCell ⟨(w2.heap.size + 1), 5, none⟩ (.int .i64 0)) := ⟨_, _, _, Wk0.first (z := #[.pointer none, .nilFunc, .nilFunc, .nilFunc, .int .i64 0, .int .i64 0]) rfl hI (by show w2.heap.size + 1 < _; simp; omega) hV5 (by omega) hT5 (by have := HB2s.out; omega) hB5 (by have := HB2s.out; omega) (by rw [← hz3]; exact (hbx.block W3.heap.size (by simp)).trans (heap_alloc_new W3 _)), rfl, rfl⟩; rw [← hWe, ← hBe])
   have HS := Lib.hid hS; clear hS hBe hWe hx hT5 hV5 hB5 ht5 hcx hfx hI hbx q0 q1 v0 v1; have s2 : W5.cell? ⟨B, 2, none⟩ = some .nilFunc := (cell_of_row _ _ _ _ _ _ HS.out.row).trans rfl; have s3 : W5.cell? ⟨B, 3, none⟩ = some .nilFunc := (cell_of_row _ _ _ _ _ _ HS.out.row).trans rfl; have f2 : W5.frozen? ⟨B, 2, none⟩ = false := frozen_of_row _ _ _ _ _ HS.out.row; have f3 : W5.frozen? ⟨B, 3, none⟩ = false := frozen_of_row _ _ _ _ _ HS.out.row
   go_upto_region 7 with fail
   obtain ⟨W7, hW7⟩ : ∃ W7, W7 = ((W5.setCell ⟨B, 2, none⟩ (.func (.func 62) #[] #[])).setCell ⟨B, 3, none⟩ (.func (.func 63) #[] #[.pointer (some ⟨w2.heap.size, 0, none⟩)])) := ⟨_, rfl⟩
   rw [← hW7]; have hk := HS.out.wk; rw [← hW7] at hk; have HK := Lib.hid hk.1; have HBK := Lib.hid hk.2; have hgeB := HS.out.ge; have hsome := walkG_some n l0_1 a1 a2 a3; have hh := HH.out; obtain ⟨⟨ps, s', c'⟩, hg⟩ : ∃ r, walkG n l0_1 a1 a2 a3 = r := ⟨_, rfl⟩
   rw [hg] at hsome hh; dsimp only at hh; have HSO := Lib.hid hsome; have HH2 := Lib.hid hh; clear hW7 hk s2 s3 f2 f3 hsome hg hh HH HS
   go_upto_region 8 with (go_at_call 65; go_loud (refine (walk_any B w2.heap.size base b m v n l0_1 (cuts n l0_1) a2 a3 hn2 hl2 502 0 a1 ⟨#[]⟩ ⟨#[]⟩ ⟨#[]⟩ ps s' c' _ HK.out hroot (by decide) (by decide) (by decide) HSO.out).mono ?_; rintro e w8 ⟨u, rfl, hR8, hW8, hg8⟩))
   have r5 : w8.cell? ⟨B, 5, none⟩ = some (.int .i64 c') := (cell_of_row _ _ _ _ _ _ hW8.row).trans rfl; have HBF := Lib.hid (HBK.out.trans (below_of_grownBy hg8 HBK.out.size (fun k hk => by have := Option.some.inj hk; omega))); have HRF8 := Lib.hid (Kd.R_lower hR8 HBK.out.size); clear hR8 hW8 hg8; have h := HH2.out
   by_cases hc : c' = 0
   ·subst hc; rw [if_neg (by decide)] at h; simp only [Prod.mk.injEq] at h; obtain ⟨rfl, rfl⟩ := h
    go_wp2_with fail
    go_ret2
    exact ⟨u, rfl, HRF8.out, HBF.out⟩
   ·rw [if_pos hc] at h; simp only [Prod.mk.injEq] at h; obtain ⟨rfl, rfl⟩ := h; have hcb : (c' != 0) = true := bne_iff_ne.2 hc
    go_upto_region 9 with fail
    refine wp_region_quiet_lit (by kernel_rfl) (by kernel_rfl) ?_
    repeat (quiet_step (fail))
    refine wpQuiet_nil ?_; intro _ hw'; obtain ⟨nq, hw''⟩ := hw'; subst hw''
    go_wp2_with fail
    go_ret2
    exact ⟨_, rfl, Kd.R_nil _ _ _ _ _, bdrewN HBF.out nq⟩
 ·have he : a1.toList.isEmpty = false := by
   cases h : a1.toList with
   | nil =>
    have h3 : a1.data.toList = [] := by rw [← ByteArray.toList_eq]; exact h
    have h4 : a1.data.toList.length = a1.size := rfl; rw [h3] at h4; simp at h4; omega
   | cons => rfl
  have hne : ((a1.size : Int) != (n : Int)) = false := bne_eq_false_iff_eq.2 hs; clear hs
  go_enter Tryd.func19, Tryd.ntmps19
  go_upto_region 1 with fail
  rw [← HWE.out]
  go_upto_region 4 with (go_at_call 59; refine (impl_Pool_valid.calls _ A0_1 c0_1 l0_1 _ _ HRW.out hc0_1 HPV.out).mono ?_; rintro e w2 ⟨rfl, hb2⟩; obtain ⟨hc2, hf2⟩ := bcell hb2; have hz2 := hb2.size; have HB2 := Lib.hid (HB1.out.trans (hb2.mono HB1.out.size)); have HP2 := Lib.hid ((hb2.block w.heap.size (by omega)).trans HP1.out); clear hb2)
  obtain ⟨W3, hW3⟩ : ∃ W3, W3 = w2.alloc (.cells #[.string a2, .string a3] 90) := ⟨_, rfl⟩
  rw [← hW3]; have hz3 : W3.heap.size = w2.heap.size + 1 := by rw [hW3]; simp
  have hb3 : Below w2.heap.size w2 W3 := by rw [hW3]; exact (Below.refl _ _).alloc (Nat.le_refl _) _
  have hv3 : W3.heap[w2.heap.size]? = some (.cells #[.string a2, .string a3] 90 (0, 0)) := by rw [hW3]; exact heap_alloc_new _ _
  have HB3 := Lib.hid (HB2.out.trans (hb3.mono HB2.out.size)); have hp3 := (hb3.block w.heap.size (by omega)).trans HP2.out; have q0 : W3.cell? ⟨w.heap.size, 0, none⟩ = some (.int .i64 (n : Int)) := (cell_of_row _ _ _ _ _ _ hp3).trans rfl; have q1 : W3.cell? ⟨w.heap.size, 1, none⟩ = some (.slice A0_1 l0_1.length c0_1) := (cell_of_row _ _ _ _ _ _ hp3).trans rfl; have v0 : W3.cell? ⟨w2.heap.size, 0, none⟩ = some (.string a2) := (cell_of_row _ _ _ _ _ _ hv3).trans rfl; have v1 : W3.cell? ⟨w2.heap.size, 1, none⟩ = some (.string a3) := (cell_of_row _ _ _ _ _ _ hv3).trans rfl; have HV3 := Lib.hid hv3; have HB2s := Lib.hid (show w.heap.size + 1 ≤ w2.heap.size by omega); have HRF : Hid (∀ w', Below W3.heap.size W3 w' → Kd.C Kd.string w' A0_1 l0_1.length l0_1) := Lib.hid (fun w' hb => Kd.C_below HR.out (HB3.out.trans (hb.mono HB3.out.size))); have HTF : Hid (∀ w', Below W3.heap.size W3 w' → Tab w') := Lib.hid (fun w' hb => HT.out.below (HB3.out.trans (hb.mono HB3.out.size))); clear hW3 hb3 hp3 hv3 p0 p1 hc2 hf2 HB2 HP2
  go_region_held3 (fun w' => w'.cell? ⟨w.heap.size, 0, none⟩ = some (.int .i64 (n : Int)) ∧ w'.cell? ⟨w.heap.size, 1, none⟩ = some (.slice A0_1 l0_1.length c0_1) ∧ w'.cell? ⟨w2.heap.size, 0, none⟩ = some (.string a2) ∧ w'.cell? ⟨w2.heap.size, 1, none⟩ = some (.string a3))
   (repeat' (first | (with_reducible assumption) | (with_reducible exact cells4I q0 q1 v0 v1) | (with_reducible refine cells4D ?_) | (with_reducible refine cells4A _ ?_) | ((with_reducible refine cells4S ?_ ?_ ?_ ?_ ?_); rotate_left; (· show w.heap.size ≠ _; omega); (· show w.heap.size ≠ _; omega); (· show w2.heap.size ≠ _; omega); (· show w2.heap.size ≠ _; omega)) | (with_reducible refine cells4B (by assumption) ?_)))
   (first | (go_at_call 60; refine (index_any n hn1 hn2 A0_1 c0_1 l0_1 _ (HRF.out _ zq_67) hc0_1 HSM.out.1 HSM.out.2 (HTF.out _ zq_67)).mono ?_; rintro e wx ⟨⟨b, m, v, rfl, hI⟩, hbx⟩; obtain ⟨hcx, hfx⟩ := bcell hbx; have hzx := hbx.size; (try simp only [World.size_alloc, World.size_drew] at hcx); (try simp only [World.size_alloc, World.size_drew] at hfx); (try simp only [World.size_alloc, World.size_drew] at hzx)))
  all_goals
   have hx : Below W3.heap.size W3 wx := (by first | exact (Below.refl _ _).drew.trans hbx | exact (((Below.refl _ _).alloc (Nat.le_refl _) _).drew).trans (hbx.mono (by simp)))
   have hT5 := HTF.out wx hx; have hV5 := (hx.block w2.heap.size (by omega)).trans HV3.out; have hB5 := HB3.out.trans (hx.mono HB3.out.size); have ht5 : 0 < w.heap.size := World.block_lt_of_cell? _ ⟨0, 0, none⟩ (HT.out 0 (by omega))
   first
   | (obtain ⟨B, W5, base, hS, hBe, hWe⟩ : ∃ (B : Nat) (W5 : World) (base : Nat), Wk0 B w2.heap.size base b m v n l0_1 (cuts n l0_1) a2 a3 w W5 ∧ B = wx.heap.size ∧ W5 = (wx.alloc (.cells #[.pointer (some ⟨b, 0, none⟩), .func (.func 61) #[.agg #[.string a2, .string a3]] #[], .nilFunc, .nilFunc, .int .i64 0, .int .i64 0] 97)) := ⟨_, _, _, Wk0.after hI hV5 hT5 hB5, rfl, rfl⟩; rw [← hWe, ← hBe])
   | (obtain ⟨B, W5, base, hS, hBe, hWe⟩ : ∃ (B : Nat) (W5 : World) (base : Nat), Wk0 B w2.heap.size base b m v n l0_1 (cuts n l0_1) a2 a3 w W5 ∧ B = w2.heap.size + 1 ∧ W5 = ((((((wx.setCell ⟨(w2.heap.size + 1), 0, none⟩ (.pointer (some ⟨b, 0, none⟩))).setCell ⟨(w2.heap.size + 1), 1, none⟩ (.func (.func 61) #[.agg #[.string a2, .string a3]] #[])).setCell ⟨(w2.heap.size + 1), 2, none⟩ .nilFunc).setCell ⟨(w2.heap.size + 1), 3, none⟩ .nilFunc).setCell ⟨(w2.heap.size + 1), 4, none⟩ (.int .i64 0)).setCell ⟨(w2.heap.size + 1), 5, none⟩ (.int .i64 0)) := ⟨_, _, _, Wk0.first (z := #[.pointer none, .nilFunc, .nilFunc, .nilFunc, .int .i64 0, .int .i64 0]) rfl hI (by show w2.heap.size + 1 < _; simp; omega) hV5 (by omega) hT5 (by have := HB2s.out; omega) hB5 (by have := HB2s.out; omega) (by rw [← hz3]; exact (hbx.block W3.heap.size (by simp)).trans (heap_alloc_new W3 _)), rfl, rfl⟩; rw [← hWe, ← hBe])
   have HS := Lib.hid hS; clear hS hBe hWe hx hT5 hV5 hB5 ht5 hcx hfx hI hbx q0 q1 v0 v1; have s2 : W5.cell? ⟨B, 2, none⟩ = some .nilFunc := (cell_of_row _ _ _ _ _ _ HS.out.row).trans rfl; have s3 : W5.cell? ⟨B, 3, none⟩ = some .nilFunc := (cell_of_row _ _ _ _ _ _ HS.out.row).trans rfl; have f2 : W5.frozen? ⟨B, 2, none⟩ = false := frozen_of_row _ _ _ _ _ HS.out.row; have f3 : W5.frozen? ⟨B, 3, none⟩ = false := frozen_of_row _ _ _ _ _ HS.out.row
   go_upto_region 7 with fail
   obtain ⟨W7, hW7⟩ : ∃ W7, W7 = ((W5.setCell ⟨B, 2, none⟩ (.func (.func 62) #[] #[])).setCell ⟨B, 3, none⟩ (.func (.func 63) #[] #[.pointer (some ⟨w2.heap.size, 0, none⟩)])) := ⟨_, rfl⟩
   rw [← hW7]; have hk := HS.out.wk; rw [← hW7] at hk; have HK := Lib.hid hk.1; have HBK := Lib.hid hk.2; have hgeB := HS.out.ge; have hsome := walkG_some n l0_1 a1 a2 a3; have hh := HH.out; obtain ⟨⟨ps, s', c'⟩, hg⟩ : ∃ r, walkG n l0_1 a1 a2 a3 = r := ⟨_, rfl⟩
   rw [hg] at hsome hh; dsimp only at hh; have HSO := Lib.hid hsome; have HH2 := Lib.hid hh; clear hW7 hk s2 s3 f2 f3 hsome hg hh HH HS
   go_upto_region 8 with (go_at_call 65; go_loud (refine (walk_any B w2.heap.size base b m v n l0_1 (cuts n l0_1) a2 a3 hn2 hl2 502 0 a1 ⟨#[]⟩ ⟨#[]⟩ ⟨#[]⟩ ps s' c' _ HK.out hroot (by decide) (by decide) (by decide) HSO.out).mono ?_; rintro e w8 ⟨u, rfl, hR8, hW8, hg8⟩))
   have r5 : w8.cell? ⟨B, 5, none⟩ = some (.int .i64 c') := (cell_of_row _ _ _ _ _ _ hW8.row).trans rfl; have HBF := Lib.hid (HBK.out.trans (below_of_grownBy hg8 HBK.out.size (fun k hk => by have := Option.some.inj hk; omega))); have HRF8 := Lib.hid (Kd.R_lower hR8 HBK.out.size); clear hR8 hW8 hg8; have h := HH2.out
   by_cases hc : c' = 0
   ·subst hc; rw [if_neg (by decide)] at h; simp only [Prod.mk.injEq] at h; obtain ⟨rfl, rfl⟩ := h
    go_wp2_with fail
    go_ret2
    exact ⟨u, rfl, HRF8.out, HBF.out⟩
   ·rw [if_pos hc] at h; simp only [Prod.mk.injEq] at h; obtain ⟨rfl, rfl⟩ := h; have hcb : (c' != 0) = true := bne_iff_ne.2 hc
    go_upto_region 9 with fail
    refine wp_region_quiet_lit (by kernel_rfl) (by kernel_rfl) ?_
    repeat (quiet_step (fail))
    refine wpQuiet_nil ?_; intro _ hw'; obtain ⟨nq, hw''⟩ := hw'; subst hw''
    go_wp2_with fail
    go_ret2
    exact ⟨_, rfl, Kd.R_nil _ _ _ _ _, bdrewN HBF.out nq⟩
end Go.Proofs.YthnnphinfiobmaaDoor.Z
end
section
namespace Go.Proofs.YthnnphinfiobmaaDoor.Z
open RowKit YthnnphinfiobmaaDoorW.PrintWords YthnnphinfiobmaaDoorW.PrintLast YthnnphinfiobmaaDoorW.PrintMore
attribute [local go_sem] max2_int min2_int max_two min_two max_three min_three max_four min_four
set_option linter.all false
def impl_Load.f (a0_0 : Int) (l0_1 : List ByteArray) (a1 : ByteArray) : Option ((List (S65)) × Int) := (impl_Range.f a0_0 l0_1 a1 (⟨#[]⟩ : ByteArray) (⟨#[]⟩ : ByteArray)).bind fun bt250002 => (some (bt250002.1, bt250002.2))
set_option maxHeartbeats 8000000 in
set_option maxRecDepth 100000 in
theorem impl_Load.calls (a0_0 : Int) (A0_1 : Option Addr) (c0_1 : Nat) (l0_1 : List ByteArray) (a1 : ByteArray) (r1 : List (S65)) (r2 : Int) (w : World) (hr0_1 : Kd.C Kd.string w A0_1 l0_1.length l0_1) (hc0_1 : l0_1.length ≤ c0_1) (h : impl_Load.f a0_0 l0_1 a1 = some (r1, r2)) (hTab : Tab w := by exact Tab.below (by assumption) zq_46) :
  Calls Tryd.prog 25 #[.agg #[.int .i64 a0_0, .slice A0_1 l0_1.length c0_1], .string a1] w fun e w' => ∃ v0_ : Value, e = .returned (.tuple #[v0_, .int .i64 r2]) ∧ Kd.R k65 65 w' w.heap.size (fun _ => True) v0_ r1 ∧ Below w.heap.size w w' := by
 have hu38 := Tryd.underlying38; have HR0_1 := Aside0.mk hr0_1; have HC0_1 := Aside0.mk hc0_1; clear hr0_1 hc0_1; have HB := Aside0.mk (Below.refl w.heap.size w); have H : ((impl_Range.f a0_0 l0_1 a1 (⟨#[]⟩ : ByteArray) (⟨#[]⟩ : ByteArray)).bind fun bt250002 => (some (bt250002.1, bt250002.2))) = some (r1, r2) := h; clear h; replace H := Option.bind_eq_some_iff.mp H; obtain ⟨⟨t250002, t250005⟩, A30, H⟩ := H; (try dsimp only at H); have A3 := Aside0.mk A30; clear A30; simp only [Option.some.injEq, Prod.mk.injEq] at H; obtain ⟨rfl, rfl⟩ := H
 go_enter Tryd.func25, Tryd.ntmps25
 go_wp2_with (first | ((with_reducible refine gate_dst (N := 2) rfl ?_); refine box_event ?hg (N := 2) ?hd (cs := #[.int .i64 a0_0, .slice A0_1 l0_1.length c0_1]) (t := 38) ?hr ?_; (case hd => rfl); (case hg => rfl); (case hr => exact zq_13); intro gb250001 hg w4 hbox hb; have n0_ := Aside0.mk (below_step zq_0 hb); have n1_ := Aside0.mk (hbox); have n2_ := Aside0.mk ((by rw [hg]; exact (below_size zq_0) : w.heap.size ≤ gb250001)); have n3_ := Aside0.mk ((by rw [hg]; exact (below_size zq_0) : w.heap.size ≤ gb250001)); clear HB; have HB := n0_; have BK250001 := n1_; have GW250001 := n2_; have GE250001 := n3_; clear n0_ n1_ n2_ n3_; clear hb hbox hg; have hcz5_0 : w4.cell? ⟨gb250001, 0, none⟩ = some (.int .i64 a0_0) := (blk_cell BK250001.out 0).trans rfl; have hcz5_1 : w4.cell? ⟨gb250001, 1, none⟩ = some (.slice A0_1 l0_1.length c0_1) := (blk_cell BK250001.out 1).trans rfl; have hfz5_0 := blk_frozen BK250001.out 0; have hfz5_1 := blk_frozen BK250001.out 1) | ((with_reducible refine gate_callee (f := 19) rfl ?_); refine goesL_ (some 8) rfl rfl Tryd.func19 (by kernel_rfl) rfl #[.agg #[.int .i64 a0_0, .slice A0_1 l0_1.length c0_1], .string a1, .string (⟨#[]⟩ : ByteArray), .string (⟨#[]⟩ : ByteArray)] rfl zq_1 ?_; (with_reducible refine (impl_Range.calls a0_0 _ _ l0_1 a1 (⟨#[]⟩ : ByteArray) (⟨#[]⟩ : ByteArray) t250002 t250005 _ ?side1 ?side2 A3.out).mono ?_); (case side1 => exact zq_3); (case side2 => exact HC0_1.out); rintro e w6 ⟨v250003, rfl, ho0, hb⟩; refine ⟨_, rfl, ?_⟩; have n0_ := Aside0.mk (Kd.R_lower ho0 (below_size (by repeat (first | (with_reducible first | exact HB.out | apply below_alloc | apply pw_below_drewN | apply below_drew1 | refine below_set ?_ GE250001.out) | exact HB.out)))); have n1_ := Aside0.mk (blk_below (g := gb250001) (o := .cells #[.int .i64 a0_0, .slice A0_1 l0_1.length c0_1] 38 (0, 0)) (by (with_reducible repeat (first | refine blk_drewN ?_ _ | refine blk_drew ?_ | refine blk_alloc ?_ _)); exact BK250001.out) hb); have n2_ := Aside0.mk (below_step (by repeat (first | (with_reducible first | exact HB.out | apply below_alloc | apply pw_below_drewN | apply below_drew1 | refine below_set ?_ GE250001.out) | exact HB.out)) hb); clear BK250001; clear HB; have HO250004 := n0_; have BK250001 := n1_; have HB := n2_; clear n0_ n1_ n2_; (try clear hb); (try clear hb2); (try clear hk); (try clear hi); (try clear ho0)))
 go_ret2
 exact ⟨_, by first | rfl | (simp [errW_none, errW_some] <;> rfl) | (simp [*, errW_none, errW_some] <;> rfl), by (with_reducible repeat (first | apply Kd.R_alloc | apply Kd.R_drewN | apply Kd.R_drew)); exact HO250004.out, by repeat (first | (with_reducible first | exact HB.out | apply below_alloc | apply pw_below_drewN | apply below_drew1 | refine below_set ?_ GE250001.out) | exact HB.out)⟩
def impl_Diff.f (k : Nat) (a0_0 : Int) (l0_1 : List ByteArray) (a1 : ByteArray) (a2 : ByteArray) : Option ((List (S120)) × Int) := if a1.toList = a2.toList then (some (([] : List (S120)), 0)) else ((impl_Load.f a0_0 l0_1 a1).bind fun bt320002 => (if bt320002.2 = 0 then ((impl_Load.f a0_0 l0_1 a2).bind fun bt320006 => (if bt320006.2 = 0 then ((impl_changes.f k bt320002.1 bt320006.1).bind fun t320010 => (some (t320010, 0))) else (some (([] : List (S120)), bt320006.2)))) else (some (([] : List (S120)), bt320002.2))))
set_option maxHeartbeats 8000000 in
set_option maxRecDepth 100000 in
theorem impl_Diff.calls (k : Nat) (a0_0 : Int) (A0_1 : Option Addr) (c0_1 : Nat) (l0_1 : List ByteArray) (a1 : ByteArray) (a2 : ByteArray) (r1 : List (S120)) (r2 : Int) (w : World) (hr0_1 : Kd.C Kd.string w A0_1 l0_1.length l0_1) (hc0_1 : l0_1.length ≤ c0_1) (h : impl_Diff.f k a0_0 l0_1 a1 a2 = some (r1, r2)) (hTab : Tab w := by exact Tab.below (by assumption) zq_46) :
  Calls Tryd.prog 32 #[.agg #[.int .i64 a0_0, .slice A0_1 l0_1.length c0_1], .string a1, .string a2] w fun e w' => ∃ v0_ : Value, e = .returned (.tuple #[v0_, .int .i64 r2]) ∧ Kd.R k120 120 w' w.heap.size (fun _ => True) v0_ r1 ∧ Below w.heap.size w w' := by
 have hu38 := Tryd.underlying38; have HR0_1 := Aside0.mk hr0_1; have HC0_1 := Aside0.mk hc0_1; clear hr0_1 hc0_1; have HB := Aside0.mk (Below.refl w.heap.size w); have H : (if a1.toList = a2.toList then (some (([] : List (S120)), 0)) else ((impl_Load.f a0_0 l0_1 a1).bind fun bt320002 => (if bt320002.2 = 0 then ((impl_Load.f a0_0 l0_1 a2).bind fun bt320006 => (if bt320006.2 = 0 then ((impl_changes.f k bt320002.1 bt320006.1).bind fun t320010 => (some (t320010, 0))) else (some (([] : List (S120)), bt320006.2)))) else (some (([] : List (S120)), bt320002.2))))) = some (r1, r2) := h; clear h
 by_cases c4 : a1.toList = a2.toList
 ·rw [if_pos c4] at H; have c4b0 : (a1.toList == a2.toList) = true := beq_iff_eq.mpr c4; have c4b1 : (a1.toList != a2.toList) = false := bne_eq_false_iff_eq.mpr c4; clear c4; simp only [Option.some.injEq, Prod.mk.injEq] at H; obtain ⟨rfl, rfl⟩ := H
  go_enter Tryd.func32, Tryd.ntmps32
  go_wp2_with (first | ((with_reducible refine gate_dst (N := 3) rfl ?_); refine box_event ?hg (N := 3) ?hd (cs := #[.int .i64 a0_0, .slice A0_1 l0_1.length c0_1]) (t := 38) ?hr ?_; (case hd => rfl); (case hg => rfl); (case hr => exact zq_13); intro gb320001 hg w5 hbox hb; have n0_ := Aside0.mk (below_step zq_0 hb); have n1_ := Aside0.mk (hbox); have n2_ := Aside0.mk ((by rw [hg]; exact (below_size zq_0) : w.heap.size ≤ gb320001)); have n3_ := Aside0.mk ((by rw [hg]; exact (below_size zq_0) : w.heap.size ≤ gb320001)); clear HB; have HB := n0_; have BK320001 := n1_; have GW320001 := n2_; have GE320001 := n3_; clear n0_ n1_ n2_ n3_; clear hb hbox hg))
  go_ret2
  exact ⟨_, by first | rfl | (simp [errW_none, errW_some] <;> rfl) | (simp [*, errW_none, errW_some] <;> rfl), by first | exact Kd.R_nil _ _ _ _ _ | exact Kd.N_nil _ _ _ _ _ | exact Kd.V_nil _ _ _ _ _ | exact Kd.Q_nil _ _ _ _ _ | exact Kd.S_nil _ _ _ _ _, by repeat (first | (with_reducible first | exact HB.out | apply below_alloc | apply pw_below_drewN | apply below_drew1 | refine below_set ?_ GE320001.out) | exact HB.out)⟩
 ·rw [if_neg c4] at H; have c4b0 : (a1.toList == a2.toList) = false := beq_eq_false_iff_ne.mpr c4; have c4b1 : (a1.toList != a2.toList) = true := bne_iff_ne.mpr c4; replace H := Option.bind_eq_some_iff.mp H; obtain ⟨⟨t320002, t320005⟩, A60, H⟩ := H; (try dsimp only at H); have A6 := Aside0.mk A60; clear A60
  by_cases c7 : t320005 = 0
  ·rw [if_pos c7] at H; have c7b0 : (t320005 == 0) = true := beq_iff_eq.mpr c7; have c7b1 : (t320005 != 0) = false := bne_eq_false_iff_eq.mpr c7; clear c7; replace H := Option.bind_eq_some_iff.mp H; obtain ⟨⟨t320006, t320009⟩, A80, H⟩ := H; (try dsimp only at H); have A8 := Aside0.mk A80; clear A80
   by_cases c9 : t320009 = 0
   ·rw [if_pos c9] at H; have c9b0 : (t320009 == 0) = true := beq_iff_eq.mpr c9; have c9b1 : (t320009 != 0) = false := bne_eq_false_iff_eq.mpr c9; clear c9; replace H := Option.bind_eq_some_iff.mp H; obtain ⟨t320010, A100, H⟩ := H; (try dsimp only at H); have A10 := Aside0.mk A100; clear A100; simp only [Option.some.injEq, Prod.mk.injEq] at H; obtain ⟨rfl, rfl⟩ := H
    go_enter Tryd.func32, Tryd.ntmps32
    go_wp2_with (first | ((with_reducible refine gate_dst (N := 3) rfl ?_); refine box_event ?hg (N := 3) ?hd (cs := #[.int .i64 a0_0, .slice A0_1 l0_1.length c0_1]) (t := 38) ?hr ?_; (case hd => rfl); (case hg => rfl); (case hr => exact zq_13); intro gb320001 hg w11 hbox hb; have n0_ := Aside0.mk (below_step zq_0 hb); have n1_ := Aside0.mk (hbox); have n2_ := Aside0.mk ((by rw [hg]; exact (below_size zq_0) : w.heap.size ≤ gb320001)); have n3_ := Aside0.mk ((by rw [hg]; exact (below_size zq_0) : w.heap.size ≤ gb320001)); clear HB; have HB := n0_; have BK320001 := n1_; have GW320001 := n2_; have GE320001 := n3_; clear n0_ n1_ n2_ n3_; clear hb hbox hg; have hcz12_0 : w11.cell? ⟨gb320001, 0, none⟩ = some (.int .i64 a0_0) := (blk_cell BK320001.out 0).trans rfl; have hcz12_1 : w11.cell? ⟨gb320001, 1, none⟩ = some (.slice A0_1 l0_1.length c0_1) := (blk_cell BK320001.out 1).trans rfl; have hfz12_0 := blk_frozen BK320001.out 0; have hfz12_1 := blk_frozen BK320001.out 1) | ((with_reducible refine gate_callee (f := 25) rfl ?_); refine goesL_ (some 17) rfl rfl Tryd.func25 (by kernel_rfl) rfl #[.agg #[.int .i64 a0_0, .slice A0_1 l0_1.length c0_1], .string a1] rfl zq_1 ?_; (with_reducible refine (impl_Load.calls a0_0 _ _ l0_1 a1 t320002 t320005 _ ?side1 ?side2 A6.out).mono ?_); (case side1 => exact zq_3); (case side2 => exact HC0_1.out); rintro e w13 ⟨v320003, rfl, ho0, hb⟩; refine ⟨_, rfl, ?_⟩; have n0_ := Aside0.mk (Kd.R_lower ho0 (below_size zq_17)); have n1_ := Aside0.mk (blk_below (g := gb320001) (o := .cells #[.int .i64 a0_0, .slice A0_1 l0_1.length c0_1] 38 (0, 0)) zq_42 hb); have n2_ := Aside0.mk (below_step zq_17 hb); clear BK320001; clear HB; have HO320004 := n0_; have BK320001 := n1_; have HB := n2_; clear n0_ n1_ n2_; (try clear hb); (try clear hb2); (try clear hk); (try clear hi); (try clear ho0); have hcz14_0 : w13.cell? ⟨gb320001, 0, none⟩ = some (.int .i64 a0_0) := (blk_cell BK320001.out 0).trans rfl; have hcz14_1 : w13.cell? ⟨gb320001, 1, none⟩ = some (.slice A0_1 l0_1.length c0_1) := (blk_cell BK320001.out 1).trans rfl; have hfz14_0 := blk_frozen BK320001.out 0; have hfz14_1 := blk_frozen BK320001.out 1) | ((with_reducible refine gate_callee (f := 25) rfl ?_); refine goesL_ (some 26) rfl rfl Tryd.func25 (by kernel_rfl) rfl #[.agg #[.int .i64 a0_0, .slice A0_1 l0_1.length c0_1], .string a2] rfl zq_1 ?_; (with_reducible refine (impl_Load.calls a0_0 _ _ l0_1 a2 t320006 t320009 _ ?side1 ?side2 A8.out).mono ?_); (case side1 => exact zq_3); (case side2 => exact HC0_1.out); rintro e w15 ⟨v320007, rfl, ho0, hb⟩; refine ⟨_, rfl, ?_⟩; have n0_ := Aside0.mk (Kd.R_elder' zq_50 (Kd.R_base ho0) hb); have n1_ := Aside0.mk (Kd.R_lower (Kd.R_new' ho0 (Kd.R_lt zq_50)) (below_size zq_17)); have n2_ := Aside0.mk (blk_below (g := gb320001) (o := .cells #[.int .i64 a0_0, .slice A0_1 l0_1.length c0_1] 38 (0, 0)) zq_42 hb); have n3_ := Aside0.mk (below_step zq_17 hb); clear HO320004; clear BK320001; clear HB; have HO320004 := n0_; have HO320008 := n1_; have BK320001 := n2_; have HB := n3_; clear n0_ n1_ n2_ n3_; (try clear hb); (try clear hb2); (try clear hk); (try clear hi); (try clear ho0); obtain ⟨Ao16, co16, eo16⟩ := Kd.R_slice HO320004.out; subst eo16; obtain ⟨Ao17, co17, eo17⟩ := Kd.R_slice HO320008.out; subst eo17) | ((with_reducible refine gate_callee (f := 79) rfl ?_); refine goesL_ (some 34) rfl rfl Tryd.func79 (by kernel_rfl) rfl #[.slice Ao16 t320002.length co16, .slice Ao17 t320006.length co17] rfl zq_1 ?_; (with_reducible refine (impl_changes.calls k (fun k_ => some k_ = (.slice Ao16 t320002.length co16 : Value).ownBlock) _ _ t320002 (fun k_ => some k_ = (.slice Ao17 t320006.length co17 : Value).ownBlock) _ _ t320006 t320010 _ ?side1 ?side2 A10.out).mono ?_); (case side1 => exact Kd.R_V (Kd.R_tight rfl (Kd.R_types (HO320004.out) BK320001.out (by decide)))); (case side2 => exact Kd.R_V (Kd.R_tight rfl (Kd.R_types (HO320008.out) BK320001.out (by decide)))); rintro e w18 ⟨v320011, rfl, ho0, hb⟩; refine ⟨_, rfl, ?_⟩; have n0_ := Aside0.mk (Kd.R_below zq_50 hb); have n1_ := Aside0.mk (Kd.R_below (by (with_reducible repeat (first | apply Kd.R_alloc | apply Kd.R_drewN | apply Kd.R_drew)); exact HO320008.out) hb); have n2_ := Aside0.mk (Kd.R_lower (Kd.R_mono (ok' := fun k_ => True) ho0 (fun _ hk_ => trivial)) (below_size zq_17)); have n3_ := Aside0.mk (blk_below (g := gb320001) (o := .cells #[.int .i64 a0_0, .slice A0_1 l0_1.length c0_1] 38 (0, 0)) zq_42 hb); have n4_ := Aside0.mk (below_step zq_17 hb); clear HO320004; clear HO320008; clear BK320001; clear HB; have HO320004 := n0_; have HO320008 := n1_; have HO320012 := n2_; have BK320001 := n3_; have HB := n4_; clear n0_ n1_ n2_ n3_ n4_; (try clear hb); (try clear hb2); (try clear hk); (try clear hi); (try clear ho0)))
    go_ret2
    exact ⟨_, by first | rfl | (simp [errW_none, errW_some] <;> rfl) | (simp [*, errW_none, errW_some] <;> rfl), by (with_reducible repeat (first | apply Kd.R_alloc | apply Kd.R_drewN | apply Kd.R_drew)); exact HO320012.out, by repeat (first | (with_reducible first | exact HB.out | apply below_alloc | apply pw_below_drewN | apply below_drew1 | refine below_set ?_ GE320001.out) | exact HB.out)⟩
   ·rw [if_neg c9] at H; have c9b0 : (t320009 == 0) = false := beq_eq_false_iff_ne.mpr c9; have c9b1 : (t320009 != 0) = true := bne_iff_ne.mpr c9; simp only [Option.some.injEq, Prod.mk.injEq] at H; obtain ⟨rfl, rfl⟩ := H
    go_enter Tryd.func32, Tryd.ntmps32
    go_wp2_with (first | ((with_reducible refine gate_dst (N := 3) rfl ?_); refine box_event ?hg (N := 3) ?hd (cs := #[.int .i64 a0_0, .slice A0_1 l0_1.length c0_1]) (t := 38) ?hr ?_; (case hd => rfl); (case hg => rfl); (case hr => exact zq_13); intro gb320001 hg w19 hbox hb; have n0_ := Aside0.mk (below_step zq_0 hb); have n1_ := Aside0.mk (hbox); have n2_ := Aside0.mk ((by rw [hg]; exact (below_size zq_0) : w.heap.size ≤ gb320001)); have n3_ := Aside0.mk ((by rw [hg]; exact (below_size zq_0) : w.heap.size ≤ gb320001)); clear HB; have HB := n0_; have BK320001 := n1_; have GW320001 := n2_; have GE320001 := n3_; clear n0_ n1_ n2_ n3_; clear hb hbox hg; have hcz20_0 : w19.cell? ⟨gb320001, 0, none⟩ = some (.int .i64 a0_0) := (blk_cell BK320001.out 0).trans rfl; have hcz20_1 : w19.cell? ⟨gb320001, 1, none⟩ = some (.slice A0_1 l0_1.length c0_1) := (blk_cell BK320001.out 1).trans rfl; have hfz20_0 := blk_frozen BK320001.out 0; have hfz20_1 := blk_frozen BK320001.out 1) | ((with_reducible refine gate_callee (f := 25) rfl ?_); refine goesL_ (some 17) rfl rfl Tryd.func25 (by kernel_rfl) rfl #[.agg #[.int .i64 a0_0, .slice A0_1 l0_1.length c0_1], .string a1] rfl zq_1 ?_; (with_reducible refine (impl_Load.calls a0_0 _ _ l0_1 a1 t320002 t320005 _ ?side1 ?side2 A6.out).mono ?_); (case side1 => exact zq_3); (case side2 => exact HC0_1.out); rintro e w21 ⟨v320003, rfl, ho0, hb⟩; refine ⟨_, rfl, ?_⟩; have n0_ := Aside0.mk (Kd.R_lower ho0 (below_size zq_17)); have n1_ := Aside0.mk (blk_below (g := gb320001) (o := .cells #[.int .i64 a0_0, .slice A0_1 l0_1.length c0_1] 38 (0, 0)) zq_42 hb); have n2_ := Aside0.mk (below_step zq_17 hb); clear BK320001; clear HB; have HO320004 := n0_; have BK320001 := n1_; have HB := n2_; clear n0_ n1_ n2_; (try clear hb); (try clear hb2); (try clear hk); (try clear hi); (try clear ho0); have hcz22_0 : w21.cell? ⟨gb320001, 0, none⟩ = some (.int .i64 a0_0) := (blk_cell BK320001.out 0).trans rfl; have hcz22_1 : w21.cell? ⟨gb320001, 1, none⟩ = some (.slice A0_1 l0_1.length c0_1) := (blk_cell BK320001.out 1).trans rfl; have hfz22_0 := blk_frozen BK320001.out 0; have hfz22_1 := blk_frozen BK320001.out 1) | ((with_reducible refine gate_callee (f := 25) rfl ?_); refine goesL_ (some 26) rfl rfl Tryd.func25 (by kernel_rfl) rfl #[.agg #[.int .i64 a0_0, .slice A0_1 l0_1.length c0_1], .string a2] rfl zq_1 ?_; (with_reducible refine (impl_Load.calls a0_0 _ _ l0_1 a2 t320006 t320009 _ ?side1 ?side2 A8.out).mono ?_); (case side1 => exact zq_3); (case side2 => exact HC0_1.out); rintro e w23 ⟨v320007, rfl, ho0, hb⟩; refine ⟨_, rfl, ?_⟩; have n0_ := Aside0.mk (Kd.R_elder' zq_50 (Kd.R_base ho0) hb); have n1_ := Aside0.mk (Kd.R_lower (Kd.R_new' ho0 (Kd.R_lt zq_50)) (below_size zq_17)); have n2_ := Aside0.mk (blk_below (g := gb320001) (o := .cells #[.int .i64 a0_0, .slice A0_1 l0_1.length c0_1] 38 (0, 0)) zq_42 hb); have n3_ := Aside0.mk (below_step zq_17 hb); clear HO320004; clear BK320001; clear HB; have HO320004 := n0_; have HO320008 := n1_; have BK320001 := n2_; have HB := n3_; clear n0_ n1_ n2_ n3_; (try clear hb); (try clear hb2); (try clear hk); (try clear hi); (try clear ho0)))
    go_ret2
    exact ⟨_, by first | rfl | (simp [errW_none, errW_some] <;> rfl) | (simp [*, errW_none, errW_some] <;> rfl), by first | exact Kd.R_nil _ _ _ _ _ | exact Kd.N_nil _ _ _ _ _ | exact Kd.V_nil _ _ _ _ _ | exact Kd.Q_nil _ _ _ _ _ | exact Kd.S_nil _ _ _ _ _, by repeat (first | (with_reducible first | exact HB.out | apply below_alloc | apply pw_below_drewN | apply below_drew1 | refine below_set ?_ GE320001.out) | exact HB.out)⟩
  ·rw [if_neg c7] at H; have c7b0 : (t320005 == 0) = false := beq_eq_false_iff_ne.mpr c7; have c7b1 : (t320005 != 0) = true := bne_iff_ne.mpr c7; simp only [Option.some.injEq, Prod.mk.injEq] at H; obtain ⟨rfl, rfl⟩ := H
   go_enter Tryd.func32, Tryd.ntmps32
   go_wp2_with (first | ((with_reducible refine gate_dst (N := 3) rfl ?_); refine box_event ?hg (N := 3) ?hd (cs := #[.int .i64 a0_0, .slice A0_1 l0_1.length c0_1]) (t := 38) ?hr ?_; (case hd => rfl); (case hg => rfl); (case hr => exact zq_13); intro gb320001 hg w24 hbox hb; have n0_ := Aside0.mk (below_step zq_0 hb); have n1_ := Aside0.mk (hbox); have n2_ := Aside0.mk ((by rw [hg]; exact (below_size zq_0) : w.heap.size ≤ gb320001)); have n3_ := Aside0.mk ((by rw [hg]; exact (below_size zq_0) : w.heap.size ≤ gb320001)); clear HB; have HB := n0_; have BK320001 := n1_; have GW320001 := n2_; have GE320001 := n3_; clear n0_ n1_ n2_ n3_; clear hb hbox hg; have hcz25_0 : w24.cell? ⟨gb320001, 0, none⟩ = some (.int .i64 a0_0) := (blk_cell BK320001.out 0).trans rfl; have hcz25_1 : w24.cell? ⟨gb320001, 1, none⟩ = some (.slice A0_1 l0_1.length c0_1) := (blk_cell BK320001.out 1).trans rfl; have hfz25_0 := blk_frozen BK320001.out 0; have hfz25_1 := blk_frozen BK320001.out 1) | ((with_reducible refine gate_callee (f := 25) rfl ?_); refine goesL_ (some 17) rfl rfl Tryd.func25 (by kernel_rfl) rfl #[.agg #[.int .i64 a0_0, .slice A0_1 l0_1.length c0_1], .string a1] rfl zq_1 ?_; (with_reducible refine (impl_Load.calls a0_0 _ _ l0_1 a1 t320002 t320005 _ ?side1 ?side2 A6.out).mono ?_); (case side1 => exact zq_3); (case side2 => exact HC0_1.out); rintro e w26 ⟨v320003, rfl, ho0, hb⟩; refine ⟨_, rfl, ?_⟩; have n0_ := Aside0.mk (Kd.R_lower ho0 (below_size zq_17)); have n1_ := Aside0.mk (blk_below (g := gb320001) (o := .cells #[.int .i64 a0_0, .slice A0_1 l0_1.length c0_1] 38 (0, 0)) zq_42 hb); have n2_ := Aside0.mk (below_step zq_17 hb); clear BK320001; clear HB; have HO320004 := n0_; have BK320001 := n1_; have HB := n2_; clear n0_ n1_ n2_; (try clear hb); (try clear hb2); (try clear hk); (try clear hi); (try clear ho0)))
   go_ret2
   exact ⟨_, by first | rfl | (simp [errW_none, errW_some] <;> rfl) | (simp [*, errW_none, errW_some] <;> rfl), by first | exact Kd.R_nil _ _ _ _ _ | exact Kd.N_nil _ _ _ _ _ | exact Kd.V_nil _ _ _ _ _ | exact Kd.Q_nil _ _ _ _ _ | exact Kd.S_nil _ _ _ _ _, by repeat (first | (with_reducible first | exact HB.out | apply below_alloc | apply pw_below_drewN | apply below_drew1 | refine below_set ?_ GE320001.out) | exact HB.out)⟩
def laws_eqChange.f (a0_0 : ByteArray) (a0_1 : Bool) (a0_2 : ByteArray) (a0_3 : Bool) (a0_4 : ByteArray) (a1_0 : ByteArray) (a1_1 : Bool) (a1_2 : ByteArray) (a1_3 : Bool) (a1_4 : ByteArray) : Option (Bool) := if a0_0.toList = a1_0.toList then (if (a0_1 != a1_1) = true then (none) else (if a0_2.toList = a1_2.toList then (if (a0_3 != a1_3) = true then (none) else (if a0_4.toList = a1_4.toList then (some true) else (none))) else (none))) else (none)
set_option maxHeartbeats 8000000 in
set_option maxRecDepth 100000 in
theorem laws_eqChange.calls (a0_0 : ByteArray) (a0_1 : Bool) (a0_2 : ByteArray) (a0_3 : Bool) (a0_4 : ByteArray) (a1_0 : ByteArray) (a1_1 : Bool) (a1_2 : ByteArray) (a1_3 : Bool) (a1_4 : ByteArray) (r : Bool) (w : World) (h : laws_eqChange.f a0_0 a0_1 a0_2 a0_3 a0_4 a1_0 a1_1 a1_2 a1_3 a1_4 = some r) :
  Calls Tryd.prog 80 #[.agg #[.string a0_0, .bool a0_1, .string a0_2, .bool a0_3, .string a0_4], .agg #[.string a1_0, .bool a1_1, .string a1_2, .bool a1_3, .string a1_4]] w fun e w' => e = .returned (.bool r) ∧ Below w.heap.size w w' := by
 have hu120 := Tryd.underlying120; have HB := Aside0.mk (Below.refl w.heap.size w); have H : (if a0_0.toList = a1_0.toList then (if (a0_1 != a1_1) = true then (none) else (if a0_2.toList = a1_2.toList then (if (a0_3 != a1_3) = true then (none) else (if a0_4.toList = a1_4.toList then (some true) else (none))) else (none))) else (none)) = some r := h; clear h
 by_cases c3 : a0_0.toList = a1_0.toList
 ·rw [if_pos c3] at H; have c3b0 : (a0_0.toList == a1_0.toList) = true := beq_iff_eq.mpr c3; have c3b1 : (a0_0.toList != a1_0.toList) = false := bne_eq_false_iff_eq.mpr c3; clear c3
  by_cases c4 : (a0_1 != a1_1) = true
  ·rw [if_pos c4] at H; exact absurd H (by simp)
  ·rw [if_neg c4] at H; have c4b0 : (a0_1 != a1_1) = false := by simpa using c4
   (try (have c4b1 : decide (a0_1 = a1_1) = true := by simpa using c4)); (try (have c4b2 : (a0_1 == a1_1) = true := by simpa using c4)); clear c4
   by_cases c10 : a0_2.toList = a1_2.toList
   ·rw [if_pos c10] at H; have c10b0 : (a0_2.toList == a1_2.toList) = true := beq_iff_eq.mpr c10; have c10b1 : (a0_2.toList != a1_2.toList) = false := bne_eq_false_iff_eq.mpr c10; clear c10
    by_cases c11 : (a0_3 != a1_3) = true
    ·rw [if_pos c11] at H; exact absurd H (by simp)
    ·rw [if_neg c11] at H; have c11b0 : (a0_3 != a1_3) = false := by simpa using c11
     (try (have c11b1 : decide (a0_3 = a1_3) = true := by simpa using c11)); (try (have c11b2 : (a0_3 == a1_3) = true := by simpa using c11)); clear c11
     by_cases c17 : a0_4.toList = a1_4.toList
     ·rw [if_pos c17] at H; have c17b0 : (a0_4.toList == a1_4.toList) = true := beq_iff_eq.mpr c17; have c17b1 : (a0_4.toList != a1_4.toList) = false := bne_eq_false_iff_eq.mpr c17; clear c17; obtain rfl := Option.some.inj H
      go_enter Tryd.func80, Tryd.ntmps80
      go_wp2_with (first | ((with_reducible refine gate_dst (N := 2) rfl ?_); refine box_event ?hg (N := 2) ?hd (cs := #[.string a0_0, .bool a0_1, .string a0_2, .bool a0_3, .string a0_4]) (t := 120) ?hr ?_; (case hd => rfl); (case hg => rfl); (case hr => exact zq_13); intro gb800001 hg w18 hbox hb; have n0_ := Aside0.mk (below_step zq_0 hb); have n1_ := Aside0.mk (hbox); have n2_ := Aside0.mk ((by rw [hg]; exact (below_size zq_0) : w.heap.size ≤ gb800001)); have n3_ := Aside0.mk ((by rw [hg]; exact (below_size zq_0) : w.heap.size ≤ gb800001)); clear HB; have HB := n0_; have BK800001 := n1_; have GW800001 := n2_; have GE800001 := n3_; clear n0_ n1_ n2_ n3_; clear hb hbox hg) | ((with_reducible refine gate_dst (N := 3) rfl ?_); refine box_event ?hg (N := 3) ?hd (cs := #[.string a1_0, .bool a1_1, .string a1_2, .bool a1_3, .string a1_4]) (t := 120) ?hr ?_; (case hd => rfl); (case hg => rfl); (case hr => exact zq_13); intro gb800002 hg w19 hbox hb; have n0_ := Aside0.mk (blk_below (g := gb800001) (o := .cells #[.string a0_0, .bool a0_1, .string a0_2, .bool a0_3, .string a0_4] 120 (0, 0)) zq_69 hb); have n1_ := Aside0.mk (below_step zq_57 hb); have n2_ := Aside0.mk (hbox); have n3_ := Aside0.mk ((by rw [hg]; exact (below_size zq_57) : w.heap.size ≤ gb800002)); have n4_ := Aside0.mk ((by rw [hg]; exact (below_size zq_57) : w.heap.size ≤ gb800002)); have n5_ := Aside0.mk ((by rw [hg]; exact Nat.ne_of_lt (blk_lt (g := gb800001) (o := .cells #[.string a0_0, .bool a0_1, .string a0_2, .bool a0_3, .string a0_4] 120 (0, 0)) zq_69) : gb800001 ≠ gb800002)); have n6_ := Aside0.mk ((by rw [hg]; exact Nat.ne_of_gt (blk_lt (g := gb800001) (o := .cells #[.string a0_0, .bool a0_1, .string a0_2, .bool a0_3, .string a0_4] 120 (0, 0)) zq_69) : gb800002 ≠ gb800001)); clear BK800001; clear HB; have BK800001 := n0_; have HB := n1_; have BK800002 := n2_; have GW800002 := n3_; have GE800002 := n4_; have NB800001_800002 := n5_; have NB800002_800001 := n6_; clear n0_ n1_ n2_ n3_ n4_ n5_ n6_; clear hb hbox hg; have hnb20 := NB800001_800002.out; have hnc20 := NB800002_800001.out; have hcz21_0 : w19.cell? ⟨gb800001, 0, none⟩ = some (.string a0_0) := (blk_cell BK800001.out 0).trans rfl; have hcz21_1 : w19.cell? ⟨gb800001, 1, none⟩ = some (.bool a0_1) := (blk_cell BK800001.out 1).trans rfl; have hcz21_2 : w19.cell? ⟨gb800001, 2, none⟩ = some (.string a0_2) := (blk_cell BK800001.out 2).trans rfl; have hcz21_3 : w19.cell? ⟨gb800001, 3, none⟩ = some (.bool a0_3) := (blk_cell BK800001.out 3).trans rfl; have hcz21_4 : w19.cell? ⟨gb800001, 4, none⟩ = some (.string a0_4) := (blk_cell BK800001.out 4).trans rfl; have hfz21_0 := blk_frozen BK800001.out 0; have hfz21_1 := blk_frozen BK800001.out 1; have hfz21_2 := blk_frozen BK800001.out 2; have hfz21_3 := blk_frozen BK800001.out 3; have hfz21_4 := blk_frozen BK800001.out 4; have hcz22_0 : w19.cell? ⟨gb800002, 0, none⟩ = some (.string a1_0) := (blk_cell BK800002.out 0).trans rfl; have hcz22_1 : w19.cell? ⟨gb800002, 1, none⟩ = some (.bool a1_1) := (blk_cell BK800002.out 1).trans rfl; have hcz22_2 : w19.cell? ⟨gb800002, 2, none⟩ = some (.string a1_2) := (blk_cell BK800002.out 2).trans rfl; have hcz22_3 : w19.cell? ⟨gb800002, 3, none⟩ = some (.bool a1_3) := (blk_cell BK800002.out 3).trans rfl; have hcz22_4 : w19.cell? ⟨gb800002, 4, none⟩ = some (.string a1_4) := (blk_cell BK800002.out 4).trans rfl; have hfz22_0 := blk_frozen BK800002.out 0; have hfz22_1 := blk_frozen BK800002.out 1; have hfz22_2 := blk_frozen BK800002.out 2; have hfz22_3 := blk_frozen BK800002.out 3; have hfz22_4 := blk_frozen BK800002.out 4))
      go_ret
      exact ⟨by first | rfl | (simp [errW_none, errW_some] <;> rfl) | (simp [*, errW_none, errW_some] <;> rfl), by repeat (first | (with_reducible first | exact HB.out | apply below_alloc | apply pw_below_drewN | apply below_drew1 | refine below_set ?_ GE800001.out | refine below_set ?_ GE800002.out) | exact HB.out)⟩
     ·rw [if_neg c17] at H; exact absurd H (by simp)
   ·rw [if_neg c10] at H; exact absurd H (by simp)
 ·rw [if_neg c3] at H; exact absurd H (by simp)
def laws_eqChangeS.l0 : Nat → List (S120) → List (S120) → Int → Option (Bool)
 | 0, _, _, _ => none
 | k + 1, x0, x1, x5 => if x5 < (x0.length : Int) then (if 0 ≤ x5 then (if x5 < (x1.length : Int) then ((laws_eqChange.f ((rd_T120 x0 x5).f0) ((rd_T120 x0 x5).f1) ((rd_T120 x0 x5).f2) ((rd_T120 x0 x5).f3) ((rd_T120 x0 x5).f4) ((rd_T120 x1 x5).f0) ((rd_T120 x1 x5).f1) ((rd_T120 x1 x5).f2) ((rd_T120 x1 x5).f3) ((rd_T120 x1 x5).f4)).bind fun t330003 => (if t330003 = true then (laws_eqChangeS.l0 k x0 x1 (wrap64 (x5 + 1))) else (none))) else (none)) else (none)) else (some true)
def laws_eqChangeS.f (k : Nat) (l0 : List (S120)) (l1 : List (S120)) : Option (Bool) := if (l0.length : Int) = (l1.length : Int) then (laws_eqChangeS.l0 k l0 l1 0) else (none)
def laws_eqChangeS.T6 : Bool × List (List Nat × List Nat) := (true, [([], []), ([], []), ([0, 1], [0, 1]), ([2], [2]), ([], []), ([], []), ([4, 5], [4, 5]), ([6], [6]), ([3, 7], [3, 7]), ([8], [8])])
def laws_eqChangeS.B6 : List Nat := [0, 0, 3, 7, 0, 0, 48, 112, 255, 511]
theorem laws_eqChangeS.tab6 : rtab .any (opsOf Tryd.f33 6) = laws_eqChangeS.T6 := by kernel_rfl
theorem laws_eqChangeS.bits6 : waitsOk laws_eqChangeS.T6.2 laws_eqChangeS.B6 = true := by kernel_rfl
set_option maxHeartbeats 8000000 in
set_option maxRecDepth 100000 in
theorem laws_eqChangeS.calls (k : Nat) (A0 : Option Addr) (c0 : Nat) (l0 : List (S120)) (A1 : Option Addr) (c1 : Nat) (l1 : List (S120)) (r : Bool) (w : World) (hr0 : Kd.C k120 w A0 l0.length l0) (hc0 : l0.length ≤ c0) (hr1 : Kd.C k120 w A1 l1.length l1) (hc1 : l1.length ≤ c1) (h : laws_eqChangeS.f k l0 l1 = some r) :
  Calls Tryd.prog 33 #[.slice A0 l0.length c0, .slice A1 l1.length c1] w fun e w' => e = .returned (.bool r) ∧ Below w.heap.size w w' := by
 have hu120 := Tryd.underlying120; have HR0 := Aside0.mk hr0; have HC0 := Aside0.mk hc0; clear hr0 hc0; have HR1 := Aside0.mk hr1; have HC1 := Aside0.mk hc1; clear hr1 hc1; have HB := Aside0.mk (Below.refl w.heap.size w); have H : (if (l0.length : Int) = (l1.length : Int) then (laws_eqChangeS.l0 k l0 l1 0) else (none)) = some r := h; clear h
 by_cases c3 : (l0.length : Int) = (l1.length : Int)
 ·rw [if_pos c3] at H; have c3b0 : ((l0.length : Int) == (l1.length : Int)) = true := beq_iff_eq.mpr c3; have c3b1 : ((l0.length : Int) != (l1.length : Int)) = false := bne_eq_false_iff_eq.mpr c3; have c3b2 : (l0.length == l1.length) = true := by first | simpa using c3 | (simp at c3 ⊢; omega)
  clear c3; have H' := Aside0.mk H; clear H
  go_enter Tryd.func33, Tryd.ntmps33
  go_wp2
  go_loopg [5] k (fun kq v5 w' => ∃ (x5_1 : Int), v5 = .int .i64 x5_1 ∧ Aside0 (laws_eqChangeS.l0 kq l0 l1 x5_1 = some r) ∧ Aside0 (kq ≤ k) ∧ Aside0 (Below w.heap.size w w'))
  case atStart => exact ⟨(0), zq_6, H', ⟨Nat.le_refl _⟩, ⟨by repeat (first | (with_reducible first | exact HB.out | apply below_alloc | apply pw_below_drewN | apply below_drew1) | exact HB.out)⟩⟩
  case round =>
   clear H'
   try clear c1
   try clear p2
   try clear c3
   try clear c3b0
   try clear c3b1
   try clear c3b2
   obtain ⟨x5_1, rfl, HA, HK1, HB⟩ := hrel
   cases gk with
   | zero => exact absurd HA.out (by simp [laws_eqChangeS.l0])
   | succ k1 =>
    have H := HA.out; clear HA; simp only [laws_eqChangeS.l0] at H
    by_cases c4 : x5_1 < (l0.length : Int)
    ·rw [if_pos c4] at H; have c4b0 : decide (x5_1 < (l0.length : Int)) = true := decide_eq_true c4; clear c4
     by_cases c5 : 0 ≤ x5_1
     ·rw [if_pos c5] at H; have c5b0 : decide (0 ≤ x5_1) = true := decide_eq_true c5; clear c5
      by_cases c6 : x5_1 < (l1.length : Int)
      ·rw [if_pos c6] at H; have c6b0 : decide (x5_1 < (l1.length : Int)) = true := decide_eq_true c6; clear c6; replace H := Option.bind_eq_some_iff.mp H; obtain ⟨t330003, A70, H⟩ := H; (try dsimp only at H); have A7 := Aside0.mk A70; clear A70
       by_cases c8 : t330003 = true
       ·subst c8; have H1 : (laws_eqChangeS.l0 k1 l0 l1 (wrap64 (x5_1 + 1))) = some r := by rw [if_pos rfl] at H; exact H
        clear H; have H := H1; clear H1; have H' := Aside0.mk H; clear H
        try go_wp2
        have n0_ := Aside0.mk (below_drew1 HB.out); clear HB; have HB := n0_; clear n0_; have p330001 : 0 ≤ (x5_1 : Int) := of_decide_eq_true zq_2; have q330001 : x5_1 < (l0.length : Int) := of_decide_eq_true zq_2; obtain ⟨ad330001, e330001, hx330001_0, hx330001_1, hx330001_2, hx330001_3, hx330001_4⟩ := at_T120 HR0.out x5_1 p330001 q330001; have hw330001_4 := hx330001_4; have hw330001_3 := hx330001_3; have hw330001_2 := hx330001_2; have hw330001_1 := hx330001_1; have hw330001_0 := hx330001_0
        cases e330001
        replace hx330001_0 := (HB.out.cell (World.block_lt_of_cell? w _ hx330001_0)).trans hx330001_0; replace hx330001_1 := (HB.out.cell (World.block_lt_of_cell? w _ hx330001_1)).trans hx330001_1; replace hx330001_2 := (HB.out.cell (World.block_lt_of_cell? w _ hx330001_2)).trans hx330001_2; replace hx330001_3 := (HB.out.cell (World.block_lt_of_cell? w _ hx330001_3)).trans hx330001_3; replace hx330001_4 := (HB.out.cell (World.block_lt_of_cell? w _ hx330001_4)).trans hx330001_4; replace p330001 := eq_true p330001; replace q330001 := eq_true q330001; have p330002 : 0 ≤ (x5_1 : Int) := of_decide_eq_true zq_2; have q330002 : x5_1 < (l1.length : Int) := of_decide_eq_true zq_2; obtain ⟨ad330002, e330002, hx330002_0, hx330002_1, hx330002_2, hx330002_3, hx330002_4⟩ := at_T120 HR1.out x5_1 p330002 q330002; have hw330002_4 := hx330002_4; have hw330002_3 := hx330002_3; have hw330002_2 := hx330002_2; have hw330002_1 := hx330002_1; have hw330002_0 := hx330002_0
        cases e330002
        replace hx330002_0 := (HB.out.cell (World.block_lt_of_cell? w _ hx330002_0)).trans hx330002_0; replace hx330002_1 := (HB.out.cell (World.block_lt_of_cell? w _ hx330002_1)).trans hx330002_1; replace hx330002_2 := (HB.out.cell (World.block_lt_of_cell? w _ hx330002_2)).trans hx330002_2; replace hx330002_3 := (HB.out.cell (World.block_lt_of_cell? w _ hx330002_3)).trans hx330002_3; replace hx330002_4 := (HB.out.cell (World.block_lt_of_cell? w _ hx330002_4)).trans hx330002_4; replace p330002 := eq_true p330002; replace q330002 := eq_true q330002
        refine start_ (n := 10) (S := fun w' => w'.cell? (ad330001.add ((x5_1).toNat * 5)) = some (.string ((rd_T120 l0 x5_1).f0)) ∧ w'.cell? ⟨(ad330001.add ((x5_1).toNat * 5)).block, (ad330001.add ((x5_1).toNat * 5)).off + 1, none⟩ = some (.bool ((rd_T120 l0 x5_1).f1)) ∧ w'.cell? ⟨(ad330001.add ((x5_1).toNat * 5)).block, (ad330001.add ((x5_1).toNat * 5)).off + 2, none⟩ = some (.string ((rd_T120 l0 x5_1).f2)) ∧ w'.cell? ⟨(ad330001.add ((x5_1).toNat * 5)).block, (ad330001.add ((x5_1).toNat * 5)).off + 3, none⟩ = some (.bool ((rd_T120 l0 x5_1).f3)) ∧ w'.cell? ⟨(ad330001.add ((x5_1).toNat * 5)).block, (ad330001.add ((x5_1).toNat * 5)).off + 4, none⟩ = some (.string ((rd_T120 l0 x5_1).f4)) ∧ w'.cell? (ad330002.add ((x5_1).toNat * 5)) = some (.string ((rd_T120 l1 x5_1).f0)) ∧ w'.cell? ⟨(ad330002.add ((x5_1).toNat * 5)).block, (ad330002.add ((x5_1).toNat * 5)).off + 1, none⟩ = some (.bool ((rd_T120 l1 x5_1).f1)) ∧ w'.cell? ⟨(ad330002.add ((x5_1).toNat * 5)).block, (ad330002.add ((x5_1).toNat * 5)).off + 2, none⟩ = some (.string ((rd_T120 l1 x5_1).f2)) ∧ w'.cell? ⟨(ad330002.add ((x5_1).toNat * 5)).block, (ad330002.add ((x5_1).toNat * 5)).off + 3, none⟩ = some (.bool ((rd_T120 l1 x5_1).f3)) ∧ w'.cell? ⟨(ad330002.add ((x5_1).toNat * 5)).block, (ad330002.add ((x5_1).toNat * 5)).off + 4, none⟩ = some (.string ((rd_T120 l1 x5_1).f4))) (ds := []) #[false, false, false, false, false, false, false, false, false, false] (by kernel_rfl) rfl rfl ⟨((HB.out.cell (World.block_lt_of_cell? w _ hw330001_0)).trans hw330001_0), ((HB.out.cell (World.block_lt_of_cell? w _ hw330001_1)).trans hw330001_1), ((HB.out.cell (World.block_lt_of_cell? w _ hw330001_2)).trans hw330001_2), ((HB.out.cell (World.block_lt_of_cell? w _ hw330001_3)).trans hw330001_3), ((HB.out.cell (World.block_lt_of_cell? w _ hw330001_4)).trans hw330001_4), ((HB.out.cell (World.block_lt_of_cell? w _ hw330002_0)).trans hw330002_0), ((HB.out.cell (World.block_lt_of_cell? w _ hw330002_1)).trans hw330002_1), ((HB.out.cell (World.block_lt_of_cell? w _ hw330002_2)).trans hw330002_2), ((HB.out.cell (World.block_lt_of_cell? w _ hw330002_3)).trans hw330002_3), ((HB.out.cell (World.block_lt_of_cell? w _ hw330002_4)).trans hw330002_4)⟩ (fun hHeld => ?_); refine with_tabW laws_eqChangeS.tab6 laws_eqChangeS.bits6 (fun HT_ HW_ => ?_); generalize wr.drew = w9 at HB hx330001_0 hx330001_1 hx330001_2 hx330001_3 hx330001_4 hx330002_0 hx330002_1 hx330002_2 hx330002_3 hx330002_4 hHeld ⊢; refine pq_ (i := 0) (N := some 17) HT_.out ?_
        refine pq_ (i := 1) (N := some 18) HT_.out ?_; refine pq_ (i := 2) (N := some 19) HT_.out ?_; refine pq_ (i := 4) (N := some 21) HT_.out ?_; refine pq_ (i := 5) (N := some 22) HT_.out ?_; refine pq_ (i := 6) (N := some 23) HT_.out ?_; refine tq_ (i := 3) (N := some 20) HT_.out HW_.out hHeld (hy := by rintro w' ⟨s0, s1, s2, s3, s4, s5, s6, s7, s8, s9⟩; go_simp; with_reducible rfl) (h := ?_); refine tq_ (i := 7) (N := some 24) HT_.out HW_.out hHeld (hy := by rintro w' ⟨s0, s1, s2, s3, s4, s5, s6, s7, s8, s9⟩; go_simp; with_reducible rfl) (h := ?_); refine one_ (i := 8) (N := some 25) #[true, true, true, true, true, true, true, true, true, false] rfl rfl (one_of HT_.out (by kernel_rfl)) (by decide) (fun K hK => ?_); refine goes_ Tryd.func80 (by kernel_rfl) rfl #[.agg #[.string ((rd_T120 l0 x5_1).f0), .bool ((rd_T120 l0 x5_1).f1), .string ((rd_T120 l0 x5_1).f2), .bool ((rd_T120 l0 x5_1).f3), .string ((rd_T120 l0 x5_1).f4)], .agg #[.string ((rd_T120 l1 x5_1).f0), .bool ((rd_T120 l1 x5_1).f1), .string ((rd_T120 l1 x5_1).f2), .bool ((rd_T120 l1 x5_1).f3), .string ((rd_T120 l1 x5_1).f4)]] (by rfl) rfl rfl zq_1 ?_
        with_reducible refine (laws_eqChange.calls ((rd_T120 l0 x5_1).f0) ((rd_T120 l0 x5_1).f1) ((rd_T120 l0 x5_1).f2) ((rd_T120 l0 x5_1).f3) ((rd_T120 l0 x5_1).f4) ((rd_T120 l1 x5_1).f0) ((rd_T120 l1 x5_1).f1) ((rd_T120 l1 x5_1).f2) ((rd_T120 l1 x5_1).f3) ((rd_T120 l1 x5_1).f4) true _ A7.out).mono ?_
        rintro e w10 ⟨rfl, hb⟩; refine ⟨_, rfl, ?_⟩; have n0_ := Aside0.mk (below_step zq_0 hb); clear HB; have HB := n0_; clear n0_; (try clear hb); (try clear hb2); (try clear hk); (try clear hi); refine hK.out _ _ ⟨((HB.out.cell (World.block_lt_of_cell? w _ hw330001_0)).trans hw330001_0), ((HB.out.cell (World.block_lt_of_cell? w _ hw330001_1)).trans hw330001_1), ((HB.out.cell (World.block_lt_of_cell? w _ hw330001_2)).trans hw330001_2), ((HB.out.cell (World.block_lt_of_cell? w _ hw330001_3)).trans hw330001_3), ((HB.out.cell (World.block_lt_of_cell? w _ hw330001_4)).trans hw330001_4), ((HB.out.cell (World.block_lt_of_cell? w _ hw330002_0)).trans hw330002_0), ((HB.out.cell (World.block_lt_of_cell? w _ hw330002_1)).trans hw330002_1), ((HB.out.cell (World.block_lt_of_cell? w _ hw330002_2)).trans hw330002_2), ((HB.out.cell (World.block_lt_of_cell? w _ hw330002_3)).trans hw330002_3), ((HB.out.cell (World.block_lt_of_cell? w _ hw330002_4)).trans hw330002_4)⟩ (fun hHeld => ?_); clear hK K; refine norm_ (a' := ?_) ?_ ?_; rotate_left
        ·show Act.put _ (some 25) _ = _; simp only [Act.put, List.setIfInBounds_toArray, List.set_cons_zero, List.set_cons_succ, i64_w, i32_w]; rfl
        refine pq_ (i := 9) (N := some 26) HT_.out ?_; refine done_ (done_of HT_.out (by kernel_rfl)) ?_
        try go_wp2
        go_roundg k1
        case measure => have := HK1.out; omega
        case rel => exact ⟨(wrap64 (x5_1 + 1)), zq_6, H', ⟨by have := HK1.out; omega⟩, ⟨by repeat (first | (with_reducible first | exact HB.out | apply below_alloc | apply pw_below_drewN | apply below_drew1) | exact HB.out)⟩⟩
       ·replace c8 := Bool.eq_false_iff.mpr c8; subst c8; have H1 : (none) = some r := by rw [if_neg (show ¬ (false = true) by decide)] at H; exact H
        exact absurd H1 (by simp)
      ·rw [if_neg c6] at H; exact absurd H (by simp)
     ·rw [if_neg c5] at H; exact absurd H (by simp)
    ·rw [if_neg c4] at H; have c4b0 : decide (x5_1 < (l0.length : Int)) = false := decide_eq_false c4; clear c4; obtain rfl := Option.some.inj H
     go_wp2
     go_ret
     exact ⟨by first | rfl | (simp [errW_none, errW_some] <;> rfl) | (simp [*, errW_none, errW_some] <;> rfl), by repeat (first | (with_reducible first | exact HB.out | apply below_alloc | apply pw_below_drewN | apply below_drew1) | exact HB.out)⟩
 ·rw [if_neg c3] at H; exact absurd H (by simp)
def laws_eqStringS.l0 : Nat → List ByteArray → List ByteArray → Int → Option (Bool)
 | 0, _, _, _ => none
 | k + 1, x0, x1, x5 => if x5 < (x0.length : Int) then (if 0 ≤ x5 then (if x5 < (x1.length : Int) then (if (rdOf ByteArray.empty x0 x5).toList = (rdOf ByteArray.empty x1 x5).toList then (laws_eqStringS.l0 k x0 x1 (wrap64 (x5 + 1))) else (none)) else (none)) else (none)) else (some true)
def laws_eqStringS.f (k : Nat) (l0 : List ByteArray) (l1 : List ByteArray) : Option (Bool) := if (l0.length : Int) = (l1.length : Int) then (laws_eqStringS.l0 k l0 l1 0) else (none)
set_option maxHeartbeats 8000000 in
set_option maxRecDepth 100000 in
theorem laws_eqStringS.calls (k : Nat) (A0 : Option Addr) (c0 : Nat) (l0 : List ByteArray) (A1 : Option Addr) (c1 : Nat) (l1 : List ByteArray) (r : Bool) (w : World) (hr0 : Kd.C Kd.string w A0 l0.length l0) (hc0 : l0.length ≤ c0) (hr1 : Kd.C Kd.string w A1 l1.length l1) (hc1 : l1.length ≤ c1) (h : laws_eqStringS.f k l0 l1 = some r) :
  Calls Tryd.prog 66 #[.slice A0 l0.length c0, .slice A1 l1.length c1] w fun e w' => e = .returned (.bool r) ∧ Drawn0 w w' := by
 have HR0 := Aside0.mk hr0; have HC0 := Aside0.mk hc0; clear hr0 hc0; have HR1 := Aside0.mk hr1; have HC1 := Aside0.mk hc1; clear hr1 hc1; have H : (if (l0.length : Int) = (l1.length : Int) then (laws_eqStringS.l0 k l0 l1 0) else (none)) = some r := h; clear h
 by_cases c3 : (l0.length : Int) = (l1.length : Int)
 ·rw [if_pos c3] at H; have c3b0 : ((l0.length : Int) == (l1.length : Int)) = true := beq_iff_eq.mpr c3; have c3b1 : ((l0.length : Int) != (l1.length : Int)) = false := bne_eq_false_iff_eq.mpr c3; have c3b2 : (l0.length == l1.length) = true := by first | simpa using c3 | (simp at c3 ⊢; omega)
  clear c3; have H' := Aside0.mk H; clear H
  go_enter Tryd.func66, Tryd.ntmps66
  go_wp2
  repeat (go_quiet (fail); try go_wp2)
  go_loopg [5] k (fun kq v5 w' => ∃ (x5_1 : Int), v5 = .int .i64 x5_1 ∧ Aside0 (laws_eqStringS.l0 kq l0 l1 x5_1 = some r) ∧ Aside0 (kq ≤ k) ∧ Drawn0 w w')
  case atStart => exact ⟨(0), zq_6, H', ⟨Nat.le_refl _⟩, by repeat (first | exact Drawn0.refl _ | apply Drawn0.step)⟩
  case round =>
   clear H'
   try clear c1
   try clear p2
   try clear c3
   try clear c3b0
   try clear c3b1
   try clear c3b2
   obtain ⟨x5_1, rfl, HA, HK1, ⟨m1, rfl⟩⟩ := hrel
   cases gk with
   | zero => exact absurd HA.out (by simp [laws_eqStringS.l0])
   | succ k1 =>
    have H := HA.out; clear HA; simp only [laws_eqStringS.l0] at H
    by_cases c4 : x5_1 < (l0.length : Int)
    ·rw [if_pos c4] at H; have c4b0 : decide (x5_1 < (l0.length : Int)) = true := decide_eq_true c4; clear c4
     by_cases c5 : 0 ≤ x5_1
     ·rw [if_pos c5] at H; have c5b0 : decide (0 ≤ x5_1) = true := decide_eq_true c5; clear c5
      by_cases c6 : x5_1 < (l1.length : Int)
      ·rw [if_pos c6] at H; have c6b0 : decide (x5_1 < (l1.length : Int)) = true := decide_eq_true c6; clear c6
       by_cases c7 : (rdOf ByteArray.empty l0 x5_1).toList = (rdOf ByteArray.empty l1 x5_1).toList
       ·rw [if_pos c7] at H; have c7b0 : ((rdOf ByteArray.empty l0 x5_1).toList == (rdOf ByteArray.empty l1 x5_1).toList) = true := beq_iff_eq.mpr c7; have c7b1 : ((rdOf ByteArray.empty l0 x5_1).toList != (rdOf ByteArray.empty l1 x5_1).toList) = false := bne_eq_false_iff_eq.mpr c7; clear c7; have H' := Aside0.mk H; clear H; have p660001 : 0 ≤ (x5_1 : Int) := of_decide_eq_true zq_2; have q660001 : x5_1 < (l0.length : Int) := of_decide_eq_true zq_2; obtain ⟨ad660001, e660001, hx660001_0⟩ := Kd.at_string HR0.out x5_1 p660001 q660001
        cases e660001
        replace p660001 := eq_true p660001; replace q660001 := eq_true q660001; have p660002 : 0 ≤ (x5_1 : Int) := of_decide_eq_true zq_2; have q660002 : x5_1 < (l1.length : Int) := of_decide_eq_true zq_2; obtain ⟨ad660002, e660002, hx660002_0⟩ := Kd.at_string HR1.out x5_1 p660002 q660002
        cases e660002
        replace p660002 := eq_true p660002; replace q660002 := eq_true q660002
        go_wp2
        repeat (go_quiet (fail); try go_wp2)
        go_roundg k1
        case measure => have := HK1.out; omega
        case rel => exact ⟨(wrap64 (x5_1 + 1)), zq_6, H', ⟨by have := HK1.out; omega⟩, by repeat (first | exact Drawn0.refl _ | apply Drawn0.step)⟩
       ·rw [if_neg c7] at H; exact absurd H (by simp)
      ·rw [if_neg c6] at H; exact absurd H (by simp)
     ·rw [if_neg c5] at H; exact absurd H (by simp)
    ·rw [if_neg c4] at H; have c4b0 : decide (x5_1 < (l0.length : Int)) = false := decide_eq_false c4; clear c4; obtain rfl := Option.some.inj H
     go_wp2
     repeat (go_quiet (fail); try go_wp2)
     go_ret
     exact ⟨by first | rfl | (simp; done) | (simp [*]; done), by repeat (first | exact Drawn0.refl _ | apply Drawn0.step)⟩
 ·rw [if_neg c3] at H; exact absurd H (by simp)
def laws_eqPool.f (k : Nat) (a0_0 : Int) (l0_1 : List ByteArray) (a1_0 : Int) (l1_1 : List ByteArray) : Option (Bool) := if a0_0 = a1_0 then ((laws_eqStringS.f k l0_1 l1_1).bind fun t200003 => (if t200003 = true then (some true) else (none))) else (none)
set_option maxHeartbeats 8000000 in
set_option maxRecDepth 100000 in
theorem laws_eqPool.calls (k : Nat) (a0_0 : Int) (A0_1 : Option Addr) (c0_1 : Nat) (l0_1 : List ByteArray) (a1_0 : Int) (A1_1 : Option Addr) (c1_1 : Nat) (l1_1 : List ByteArray) (r : Bool) (w : World) (hr0_1 : Kd.C Kd.string w A0_1 l0_1.length l0_1) (hc0_1 : l0_1.length ≤ c0_1) (hr1_1 : Kd.C Kd.string w A1_1 l1_1.length l1_1) (hc1_1 : l1_1.length ≤ c1_1) (h : laws_eqPool.f k a0_0 l0_1 a1_0 l1_1 = some r) :
  Calls Tryd.prog 20 #[.agg #[.int .i64 a0_0, .slice A0_1 l0_1.length c0_1], .agg #[.int .i64 a1_0, .slice A1_1 l1_1.length c1_1]] w fun e w' => e = .returned (.bool r) ∧ Below w.heap.size w w' := by
 have hu38 := Tryd.underlying38; have HR0_1 := Aside0.mk hr0_1; have HC0_1 := Aside0.mk hc0_1; clear hr0_1 hc0_1; have HR1_1 := Aside0.mk hr1_1; have HC1_1 := Aside0.mk hc1_1; clear hr1_1 hc1_1; have HB := Aside0.mk (Below.refl w.heap.size w); have H : (if a0_0 = a1_0 then ((laws_eqStringS.f k l0_1 l1_1).bind fun t200003 => (if t200003 = true then (some true) else (none))) else (none)) = some r := h; clear h
 by_cases c3 : a0_0 = a1_0
 ·rw [if_pos c3] at H; have c3b0 : (a0_0 == a1_0) = true := beq_iff_eq.mpr c3; have c3b1 : (a0_0 != a1_0) = false := bne_eq_false_iff_eq.mpr c3; clear c3; replace H := Option.bind_eq_some_iff.mp H; obtain ⟨t200003, A40, H⟩ := H; (try dsimp only at H); have A4 := Aside0.mk A40; clear A40
  by_cases c5 : t200003 = true
  ·subst c5; have H1 : (some true) = some r := by rw [if_pos rfl] at H; exact H
   clear H; have H := H1; clear H1; obtain rfl := Option.some.inj H
   go_enter Tryd.func20, Tryd.ntmps20
   go_wp2_with (first | ((with_reducible refine gate_dst (N := 2) rfl ?_); refine box_event ?hg (N := 2) ?hd (cs := #[.int .i64 a0_0, .slice A0_1 l0_1.length c0_1]) (t := 38) ?hr ?_; (case hd => rfl); (case hg => rfl); (case hr => exact zq_13); intro gb200001 hg w6 hbox hb; have n0_ := Aside0.mk (below_step zq_0 hb); have n1_ := Aside0.mk (hbox); have n2_ := Aside0.mk ((by rw [hg]; exact (below_size zq_0) : w.heap.size ≤ gb200001)); have n3_ := Aside0.mk ((by rw [hg]; exact (below_size zq_0) : w.heap.size ≤ gb200001)); clear HB; have HB := n0_; have BK200001 := n1_; have GW200001 := n2_; have GE200001 := n3_; clear n0_ n1_ n2_ n3_; clear hb hbox hg) | ((with_reducible refine gate_dst (N := 3) rfl ?_); refine box_event ?hg (N := 3) ?hd (cs := #[.int .i64 a1_0, .slice A1_1 l1_1.length c1_1]) (t := 38) ?hr ?_; (case hd => rfl); (case hg => rfl); (case hr => exact zq_13); intro gb200002 hg w7 hbox hb; have n0_ := Aside0.mk (blk_below (g := gb200001) (o := .cells #[.int .i64 a0_0, .slice A0_1 l0_1.length c0_1] 38 (0, 0)) zq_70 hb); have n1_ := Aside0.mk (below_step zq_58 hb); have n2_ := Aside0.mk (hbox); have n3_ := Aside0.mk ((by rw [hg]; exact (below_size zq_58) : w.heap.size ≤ gb200002)); have n4_ := Aside0.mk ((by rw [hg]; exact (below_size zq_58) : w.heap.size ≤ gb200002)); have n5_ := Aside0.mk ((by rw [hg]; exact Nat.ne_of_lt (blk_lt (g := gb200001) (o := .cells #[.int .i64 a0_0, .slice A0_1 l0_1.length c0_1] 38 (0, 0)) zq_70) : gb200001 ≠ gb200002)); have n6_ := Aside0.mk ((by rw [hg]; exact Nat.ne_of_gt (blk_lt (g := gb200001) (o := .cells #[.int .i64 a0_0, .slice A0_1 l0_1.length c0_1] 38 (0, 0)) zq_70) : gb200002 ≠ gb200001)); clear BK200001; clear HB; have BK200001 := n0_; have HB := n1_; have BK200002 := n2_; have GW200002 := n3_; have GE200002 := n4_; have NB200001_200002 := n5_; have NB200002_200001 := n6_; clear n0_ n1_ n2_ n3_ n4_ n5_ n6_; clear hb hbox hg; have hnb8 := NB200001_200002.out; have hnc8 := NB200002_200001.out; have hcz9_0 : w7.cell? ⟨gb200001, 0, none⟩ = some (.int .i64 a0_0) := (blk_cell BK200001.out 0).trans rfl; have hcz9_1 : w7.cell? ⟨gb200001, 1, none⟩ = some (.slice A0_1 l0_1.length c0_1) := (blk_cell BK200001.out 1).trans rfl; have hfz9_0 := blk_frozen BK200001.out 0; have hfz9_1 := blk_frozen BK200001.out 1; have hcz10_0 : w7.cell? ⟨gb200002, 0, none⟩ = some (.int .i64 a1_0) := (blk_cell BK200002.out 0).trans rfl; have hcz10_1 : w7.cell? ⟨gb200002, 1, none⟩ = some (.slice A1_1 l1_1.length c1_1) := (blk_cell BK200002.out 1).trans rfl; have hfz10_0 := blk_frozen BK200002.out 0; have hfz10_1 := blk_frozen BK200002.out 1) | ((with_reducible refine gate_callee (f := 66) rfl ?_); refine goesL_ (some 14) rfl rfl Tryd.func66 (by kernel_rfl) rfl #[.slice A0_1 l0_1.length c0_1, .slice A1_1 l1_1.length c1_1] rfl zq_1 ?_; (with_reducible refine (laws_eqStringS.calls k _ _ l0_1 _ _ l1_1 true _ ?side1 ?side2 ?side3 ?side4 A4.out).mono ?_); (case side1 => exact zq_3); (case side2 => exact HC0_1.out); (case side3 => repeat (first | exact (Kd.C_below HR1_1.out HB.out) | (with_reducible refine Kd.C_alloc ?_ _) | (with_reducible refine Kd.C_drewN ?_ _) | (with_reducible refine Kd.C_drew ?_))); (case side4 => exact HC1_1.out); rintro e w' ⟨rfl, ⟨nd, rfl⟩⟩; refine ⟨_, rfl, ?_⟩))
   go_ret
   exact ⟨by first | rfl | (simp [errW_none, errW_some] <;> rfl) | (simp [*, errW_none, errW_some] <;> rfl), by repeat (first | (with_reducible first | exact HB.out | apply below_alloc | apply pw_below_drewN | apply below_drew1 | refine below_set ?_ GE200001.out | refine below_set ?_ GE200002.out) | exact HB.out)⟩
  ·replace c5 := Bool.eq_false_iff.mpr c5; subst c5; have H1 : (none) = some r := by rw [if_neg (show ¬ (false = true) by decide)] at H; exact H
   exact absurd H1 (by simp)
 ·rw [if_neg c3] at H; exact absurd H (by simp)
def laws_markText.l0 : Nat → Int → ByteArray → Option (ByteArray)
 | 0, _, _ => none
 | k + 1, x0, x3 => if x0 > 0 then ((some (([(wrap64 (48 + (Int.tmod x0 10))) % 256] : List Int) : List Int)).bind fun y680001 => (if (strOfNums y680001).size + x3.size ≤ 9223372036854775807 then (laws_markText.l0 k (wrap64 (Int.tdiv x0 10)) ((strOfNums y680001) ++ x3)) else (none))) else (if 1 + x3.size ≤ 9223372036854775807 then (some ((⟨#[109]⟩ : ByteArray) ++ x3)) else (none))
def laws_markText.f (k : Nat) (a0 : Int) : Option (ByteArray) := if a0 ≤ 0 then (some (⟨#[109, 48]⟩ : ByteArray)) else (laws_markText.l0 k a0 (⟨#[]⟩ : ByteArray))
theorem laws_markText.mono_l : ∀ k, (∀ y0 y1, LeO (laws_markText.l0 k y0 y1) (laws_markText.l0 (k + 1) y0 y1))
 | 0 => fun _ _ r h => by simp [laws_markText.l0] at h
 | k + 1 => by
  have ih0 := laws_markText.mono_l k
  ·intro y0 y1; unfold laws_markText.l0
   repeat' first
   | (with_reducible exact ih0 _ _)
   | (with_reducible exact LeO.refl _)
   | (with_reducible exact LeO.none _)
   | (with_reducible refine LeO.ite ?_ ?_)
   | (with_reducible refine LeO.bind ?_ (fun _ => ?_))
   | exact ih0 _ _
   | exact LeO.none _
   | refine LeO.ite ?_ ?_
   | refine LeO.bind ?_ (fun _ => ?_)
theorem laws_markText.mono : ∀ a0 k, LeO (laws_markText.f k a0) (laws_markText.f (k + 1) a0) := by
 intro a0 k; have ih0 := laws_markText.mono_l k; unfold laws_markText.f
 repeat' first
   | (with_reducible exact ih0 _ _)
   | (with_reducible exact LeO.refl _)
   | (with_reducible exact LeO.none _)
   | (with_reducible refine LeO.ite ?_ ?_)
   | (with_reducible refine LeO.bind ?_ (fun _ => ?_))
   | exact ih0 _ _
   | exact LeO.none _
   | refine LeO.ite ?_ ?_
   | refine LeO.bind ?_ (fun _ => ?_)
set_option maxHeartbeats 8000000 in
set_option maxRecDepth 100000 in
theorem laws_markText.calls (k : Nat) (a0 : Int) (r : ByteArray) (w : World) (h : laws_markText.f k a0 = some r) :
  Calls Tryd.prog 68 #[.int .i64 a0] w fun e w' => e = .returned (.string r) ∧ Below w.heap.size w w' := by
 have HB := Aside0.mk (Below.refl w.heap.size w); have H : (if a0 ≤ 0 then (some (⟨#[109, 48]⟩ : ByteArray)) else (laws_markText.l0 k a0 (⟨#[]⟩ : ByteArray))) = some r := h; clear h
 by_cases c2 : a0 ≤ 0
 ·rw [if_pos c2] at H; have c2b0 : decide (a0 ≤ 0) = true := decide_eq_true c2; clear c2; obtain rfl := Option.some.inj H
  go_enter Tryd.func68, Tryd.ntmps68
  go_wp2
  go_ret
  exact ⟨by first | rfl | (simp [errW_none, errW_some] <;> rfl) | (simp [*, errW_none, errW_some] <;> rfl), by repeat (first | (with_reducible first | exact HB.out | apply below_alloc | apply pw_below_drewN | apply below_drew1) | exact HB.out)⟩
 ·rw [if_neg c2] at H; have c2b0 : decide (a0 ≤ 0) = false := decide_eq_false c2; clear c2; have H' := Aside0.mk H; clear H
  go_enter Tryd.func68, Tryd.ntmps68
  go_wp2
  go_loopg [0, 3] k (fun kq v0 v3 w' => ∃ (x0_1 : Int) (x3_1 : ByteArray), v0 = .int .i64 x0_1 ∧ v3 = .string x3_1 ∧ Aside0 (laws_markText.l0 kq x0_1 x3_1 = some r) ∧ Aside0 (kq ≤ k) ∧ Aside0 (Below w.heap.size w w'))
  case atStart => exact ⟨(a0), ((⟨#[]⟩ : ByteArray)), zq_6, zq_6, H', ⟨Nat.le_refl _⟩, ⟨by repeat (first | (with_reducible first | exact HB.out | apply below_alloc | apply pw_below_drewN | apply below_drew1) | exact HB.out)⟩⟩
  case round =>
   clear H'
   try clear c2
   try clear c2b0
   try clear p2
   obtain ⟨x0_1, x3_1, rfl, rfl, HA, HK1, HB⟩ := hrel
   cases gk with
   | zero => exact absurd HA.out (by simp [laws_markText.l0])
   | succ k1 =>
    have H := HA.out; clear HA; simp only [laws_markText.l0] at H
    by_cases c3 : x0_1 > 0
    ·rw [if_pos c3] at H; have c3b0 : decide (0 < x0_1) = true := decide_eq_true c3; clear c3; obtain ⟨y680001, hy680001⟩ : ∃ y_ : List Int, y_ = (([(wrap64 (48 + (Int.tmod x0_1 10))) % 256] : List Int)) := ⟨_, rfl⟩
     replace H : (if (strOfNums y680001).size + x3_1.size ≤ 9223372036854775807 then (laws_markText.l0 k1 (wrap64 (Int.tdiv x0_1 10)) ((strOfNums y680001) ++ x3_1)) else (none)) = some r := by first | (rw [hy680001]; with_reducible exact H) | (have H2_ := (Option.bind_some _ _).symm.trans H; rw [hy680001]; with_reducible exact H2_) | (have H2_ := (Option.bind_some _ _).symm.trans H; with_reducible exact H2_) | with_reducible exact H | (rw [hy680001]; exact H) | exact H
     have Ny680001 := Aside0.mk hy680001; clear hy680001
     by_cases c4 : (strOfNums y680001).size + x3_1.size ≤ 9223372036854775807
     ·rw [if_pos c4] at H; have c4b0 := eq_true c4; have c4b1 : decide ((strOfNums y680001).size + x3_1.size ≤ 9223372036854775807) = true := decide_eq_true c4
      try have c4b2 : (9223372036854775807 < (strOfNums y680001).size + x3_1.size) = False := eq_false (Nat.not_lt.2 c4)
      have H' := Aside0.mk H; clear H
      go_wp2_with (first | ((with_reducible refine gate_dst (N := 12) rfl ?_); refine Kd.R_lit (Kd.int .u8) _ 5 ?hg (N := 12) ?hd (xs := ([(wrap64 (48 + (Int.tmod x0_1 10))) % 256] : List Int)) (inner := [.int .u8 ((wrap64 (48 + (Int.tmod x0_1 10))) % 256)]) (ok := fun _ => True) (okp := fun _ => True) ?hr ?hp (fun _ hk => hk) trivial (Below.refl _ _) (Nat.le_refl _) (by simp) ?_; (case hd => rfl); (case hg => rfl); (case hr => exact zq_13); (case hp => exact (Reps.one (show Kd.M (Kd.int .u8) _ _ _ ((wrap64 (48 + (Int.tmod x0_1 10))) % 256) [.int .u8 ((wrap64 (48 + (Int.tmod x0_1 10))) % 256)] from rfl) (Reps.none _ _))); intro v680002 w5 ho6 hb hg_ hnew_; clear hg_ hnew_; (first | rw [← Ny680001.out] at ho6 | (simp only [Int.reduceToNat] at ho6; rw [← Ny680001.out] at ho6)); have n0_ := Aside0.mk (Kd.R_lower ho6 (below_size zq_0)); have n1_ := Aside0.mk (below_step zq_0 hb); clear HB; have HO680003 := n0_; have HB := n1_; clear n0_ n1_; clear hb ho6; have hcv7 := own_string (P := Tryd.prog) Tryd.underlying133 Tryd.underlying5 Tryd.underlying9 (Kd.own_of_R HO680003.out)))
      go_roundg k1
      case measure => have := HK1.out; omega
      case rel => exact ⟨(wrap64 (Int.tdiv x0_1 10)), ((strOfNums y680001) ++ x3_1), zq_6, zq_6, H', ⟨by have := HK1.out; omega⟩, ⟨by repeat (first | (with_reducible first | exact HB.out | apply below_alloc | apply pw_below_drewN | apply below_drew1) | exact HB.out)⟩⟩
     ·rw [if_neg c4] at H; exact absurd H (by simp)
    ·rw [if_neg c3] at H; have c3b0 : decide (0 < x0_1) = false := decide_eq_false c3; clear c3
     by_cases c8 : 1 + x3_1.size ≤ 9223372036854775807
     ·rw [if_pos c8] at H; have c8b0 := eq_true c8; have c8b1 : decide (1 + x3_1.size ≤ 9223372036854775807) = true := decide_eq_true c8
      try have c8b2 : (9223372036854775807 < 1 + x3_1.size) = False := eq_false (Nat.not_lt.2 c8)
      obtain rfl := Option.some.inj H
      go_wp2
      go_ret
      exact ⟨by first | rfl | (simp [errW_none, errW_some] <;> rfl) | (simp [*, errW_none, errW_some] <;> rfl), by repeat (first | (with_reducible first | exact HB.out | apply below_alloc | apply pw_below_drewN | apply below_drew1) | exact HB.out)⟩
     ·rw [if_neg c8] at H; exact absurd H (by simp)
def laws_heldChangeS.l0 : Nat → List (S120) → Int → Int → Option (Int)
 | 0, _, _, _ => none
 | k + 1, x0, x1, x5 => if x5 < (x0.length : Int) then (if 0 ≤ x5 then ((laws_markText.f k x1).bind fun t350002 => (if ((rd_T120 x0 x5).f0).toList = t350002.toList then (if (((rd_T120 x0 x5).f1) != ((Int.tmod (wrap64 (x1 + 1)) 3) == 0)) = true then (none) else ((laws_markText.f k (wrap64 ((wrap64 (x1 + 1)) + 1))).bind fun t350005 => (if ((rd_T120 x0 x5).f2).toList = t350005.toList then (if (((rd_T120 x0 x5).f3) != ((Int.tmod (wrap64 ((wrap64 ((wrap64 (x1 + 1)) + 1)) + 1)) 3) == 0)) = true then (none) else ((laws_markText.f k (wrap64 ((wrap64 ((wrap64 ((wrap64 (x1 + 1)) + 1)) + 1)) + 1))).bind fun t350008 => (if ((rd_T120 x0 x5).f4).toList = t350008.toList then (laws_heldChangeS.l0 k x0 (wrap64 ((wrap64 ((wrap64 ((wrap64 ((wrap64 (x1 + 1)) + 1)) + 1)) + 1)) + 1)) (wrap64 (x5 + 1))) else (none)))) else (none)))) else (none))) else (none)) else (some x1)
def laws_heldChangeS.f (k : Nat) (l0 : List (S120)) (a1 : Int) : Option (Int) := laws_heldChangeS.l0 k l0 a1 0
def laws_heldChangeS.T4 : Bool × List (List Nat × List Nat) := (true, [([], []), ([], []), ([0, 1], [0, 1]), ([2], [2]), ([3], [3]), ([], []), ([5], [5]), ([4, 6], [4, 6])])
def laws_heldChangeS.B4 : List Nat := [0, 0, 3, 7, 15, 0, 32, 127]
theorem laws_heldChangeS.tab4 : rtab .any (opsOf Tryd.f35 4) = laws_heldChangeS.T4 := by kernel_rfl
theorem laws_heldChangeS.bits4 : waitsOk laws_heldChangeS.T4.2 laws_heldChangeS.B4 = true := by kernel_rfl
def laws_heldChangeS.T10 : Bool × List (List Nat × List Nat) := (true, [([], []), ([], []), ([0, 1], [0, 1]), ([2], [2]), ([3], [3]), ([], []), ([5], [5]), ([4, 6], [4, 6])])
def laws_heldChangeS.B10 : List Nat := [0, 0, 3, 7, 15, 0, 32, 127]
theorem laws_heldChangeS.tab10 : rtab .any (opsOf Tryd.f35 10) = laws_heldChangeS.T10 := by kernel_rfl
theorem laws_heldChangeS.bits10 : waitsOk laws_heldChangeS.T10.2 laws_heldChangeS.B10 = true := by kernel_rfl
def laws_heldChangeS.T16 : Bool × List (List Nat × List Nat) := (true, [([], []), ([], []), ([0, 1], [0, 1]), ([2], [2]), ([3], [3]), ([], []), ([5], [5]), ([4, 6], [4, 6])])
def laws_heldChangeS.B16 : List Nat := [0, 0, 3, 7, 15, 0, 32, 127]
theorem laws_heldChangeS.tab16 : rtab .any (opsOf Tryd.f35 16) = laws_heldChangeS.T16 := by kernel_rfl
theorem laws_heldChangeS.bits16 : waitsOk laws_heldChangeS.T16.2 laws_heldChangeS.B16 = true := by kernel_rfl
set_option maxHeartbeats 8000000 in
set_option maxRecDepth 100000 in
theorem laws_heldChangeS.calls (k : Nat) (A0 : Option Addr) (c0 : Nat) (l0 : List (S120)) (a1 : Int) (r : Int) (w : World) (hr0 : Kd.C k120 w A0 l0.length l0) (hc0 : l0.length ≤ c0) (h : laws_heldChangeS.f k l0 a1 = some r) :
  Calls Tryd.prog 35 #[.slice A0 l0.length c0, .int .i64 a1] w fun e w' => e = .returned (.int .i64 r) ∧ Below w.heap.size w w' := by
 have HR0 := Aside0.mk hr0; have HC0 := Aside0.mk hc0; clear hr0 hc0; have HB := Aside0.mk (Below.refl w.heap.size w); have H : (laws_heldChangeS.l0 k l0 a1 0) = some r := h; clear h; have H' := Aside0.mk H; clear H
 go_enter Tryd.func35, Tryd.ntmps35
 go_wp2
 go_loopg [1, 5] k (fun kq v1 v5 w' => ∃ (x1_1 : Int) (x5_1 : Int), v1 = .int .i64 x1_1 ∧ v5 = .int .i64 x5_1 ∧ Aside0 (laws_heldChangeS.l0 kq l0 x1_1 x5_1 = some r) ∧ Aside0 (kq ≤ k) ∧ Aside0 (Below w.heap.size w w'))
 case atStart => exact ⟨(a1), (0), zq_6, zq_6, H', ⟨Nat.le_refl _⟩, ⟨by repeat (first | (with_reducible first | exact HB.out | apply below_alloc | apply pw_below_drewN | apply below_drew1) | exact HB.out)⟩⟩
 case round =>
  clear H'
  try clear p2
  obtain ⟨x1_1, x5_1, rfl, rfl, HA, HK1, HB⟩ := hrel
  cases gk with
  | zero => exact absurd HA.out (by simp [laws_heldChangeS.l0])
  | succ k1 =>
   have H := HA.out; clear HA; simp only [laws_heldChangeS.l0] at H
   by_cases c3 : x5_1 < (l0.length : Int)
   ·rw [if_pos c3] at H; have c3b0 : decide (x5_1 < (l0.length : Int)) = true := decide_eq_true c3; clear c3
    by_cases c4 : 0 ≤ x5_1
    ·rw [if_pos c4] at H; have c4b0 : decide (0 ≤ x5_1) = true := decide_eq_true c4; clear c4; replace H := Option.bind_eq_some_iff.mp H; obtain ⟨t350002, A50, H⟩ := H; (try dsimp only at H); have A5 := Aside0.mk A50; clear A50
     by_cases c6 : ((rd_T120 l0 x5_1).f0).toList = t350002.toList
     ·rw [if_pos c6] at H; have c6b0 : (((rd_T120 l0 x5_1).f0).toList == t350002.toList) = true := beq_iff_eq.mpr c6; have c6b1 : (((rd_T120 l0 x5_1).f0).toList != t350002.toList) = false := bne_eq_false_iff_eq.mpr c6; clear c6
      by_cases c7 : (((rd_T120 l0 x5_1).f1) != ((Int.tmod (wrap64 (x1_1 + 1)) 3) == 0)) = true
      ·rw [if_pos c7] at H; exact absurd H (by simp)
      ·rw [if_neg c7] at H; have c7b0 : (((rd_T120 l0 x5_1).f1) != ((Int.tmod (wrap64 (x1_1 + 1)) 3) == 0)) = false := by simpa using c7
       (try (have c7b1 : decide (((rd_T120 l0 x5_1).f1) = ((Int.tmod (wrap64 (x1_1 + 1)) 3) == 0)) = true := by simpa using c7)); (try (have c7b2 : (((rd_T120 l0 x5_1).f1) == ((Int.tmod (wrap64 (x1_1 + 1)) 3) == 0)) = true := by simpa using c7)); clear c7; replace H := Option.bind_eq_some_iff.mp H; obtain ⟨t350005, A100, H⟩ := H; (try dsimp only at H); have A10 := Aside0.mk A100; clear A100
       by_cases c11 : ((rd_T120 l0 x5_1).f2).toList = t350005.toList
       ·rw [if_pos c11] at H; have c11b0 : (((rd_T120 l0 x5_1).f2).toList == t350005.toList) = true := beq_iff_eq.mpr c11; have c11b1 : (((rd_T120 l0 x5_1).f2).toList != t350005.toList) = false := bne_eq_false_iff_eq.mpr c11; clear c11
        by_cases c12 : (((rd_T120 l0 x5_1).f3) != ((Int.tmod (wrap64 ((wrap64 ((wrap64 (x1_1 + 1)) + 1)) + 1)) 3) == 0)) = true
        ·rw [if_pos c12] at H; exact absurd H (by simp)
        ·rw [if_neg c12] at H; have c12b0 : (((rd_T120 l0 x5_1).f3) != ((Int.tmod (wrap64 ((wrap64 ((wrap64 (x1_1 + 1)) + 1)) + 1)) 3) == 0)) = false := by simpa using c12
         (try (have c12b1 : decide (((rd_T120 l0 x5_1).f3) = ((Int.tmod (wrap64 ((wrap64 ((wrap64 (x1_1 + 1)) + 1)) + 1)) 3) == 0)) = true := by simpa using c12)); (try (have c12b2 : (((rd_T120 l0 x5_1).f3) == ((Int.tmod (wrap64 ((wrap64 ((wrap64 (x1_1 + 1)) + 1)) + 1)) 3) == 0)) = true := by simpa using c12)); clear c12; replace H := Option.bind_eq_some_iff.mp H; obtain ⟨t350008, A170, H⟩ := H; (try dsimp only at H); have A17 := Aside0.mk A170; clear A170
         by_cases c18 : ((rd_T120 l0 x5_1).f4).toList = t350008.toList
         ·rw [if_pos c18] at H; have c18b0 : (((rd_T120 l0 x5_1).f4).toList == t350008.toList) = true := beq_iff_eq.mpr c18; have c18b1 : (((rd_T120 l0 x5_1).f4).toList != t350008.toList) = false := bne_eq_false_iff_eq.mpr c18; clear c18; have H' := Aside0.mk H; clear H
          try go_wp2
          have n0_ := Aside0.mk (below_drew1 HB.out); clear HB; have HB := n0_; clear n0_; have p350001 : 0 ≤ (x5_1 : Int) := of_decide_eq_true zq_2; have q350001 : x5_1 < (l0.length : Int) := of_decide_eq_true zq_2; obtain ⟨ad350001, e350001, hx350001_0, hx350001_1, hx350001_2, hx350001_3, hx350001_4⟩ := at_T120 HR0.out x5_1 p350001 q350001; have hw350001_4 := hx350001_4; have hw350001_3 := hx350001_3; have hw350001_2 := hx350001_2; have hw350001_1 := hx350001_1; have hw350001_0 := hx350001_0
          cases e350001
          replace hx350001_0 := (HB.out.cell (World.block_lt_of_cell? w _ hx350001_0)).trans hx350001_0; replace hx350001_1 := (HB.out.cell (World.block_lt_of_cell? w _ hx350001_1)).trans hx350001_1; replace hx350001_2 := (HB.out.cell (World.block_lt_of_cell? w _ hx350001_2)).trans hx350001_2; replace hx350001_3 := (HB.out.cell (World.block_lt_of_cell? w _ hx350001_3)).trans hx350001_3; replace hx350001_4 := (HB.out.cell (World.block_lt_of_cell? w _ hx350001_4)).trans hx350001_4; replace p350001 := eq_true p350001; replace q350001 := eq_true q350001; refine start_ (n := 8) (S := fun w' => w'.cell? (ad350001.add ((x5_1).toNat * 5)) = some (.string ((rd_T120 l0 x5_1).f0)) ∧ w'.cell? ⟨(ad350001.add ((x5_1).toNat * 5)).block, (ad350001.add ((x5_1).toNat * 5)).off + 1, none⟩ = some (.bool ((rd_T120 l0 x5_1).f1)) ∧ w'.cell? ⟨(ad350001.add ((x5_1).toNat * 5)).block, (ad350001.add ((x5_1).toNat * 5)).off + 2, none⟩ = some (.string ((rd_T120 l0 x5_1).f2)) ∧ w'.cell? ⟨(ad350001.add ((x5_1).toNat * 5)).block, (ad350001.add ((x5_1).toNat * 5)).off + 3, none⟩ = some (.bool ((rd_T120 l0 x5_1).f3)) ∧ w'.cell? ⟨(ad350001.add ((x5_1).toNat * 5)).block, (ad350001.add ((x5_1).toNat * 5)).off + 4, none⟩ = some (.string ((rd_T120 l0 x5_1).f4))) (ds := []) #[false, false, false, false, false, false, false, false] (by kernel_rfl) rfl rfl ⟨((HB.out.cell (World.block_lt_of_cell? w _ hw350001_0)).trans hw350001_0), ((HB.out.cell (World.block_lt_of_cell? w _ hw350001_1)).trans hw350001_1), ((HB.out.cell (World.block_lt_of_cell? w _ hw350001_2)).trans hw350001_2), ((HB.out.cell (World.block_lt_of_cell? w _ hw350001_3)).trans hw350001_3), ((HB.out.cell (World.block_lt_of_cell? w _ hw350001_4)).trans hw350001_4)⟩ (fun hHeld => ?_); refine with_tabW laws_heldChangeS.tab4 laws_heldChangeS.bits4 (fun HT_ HW_ => ?_); generalize wr.drew = w19 at HB hx350001_0 hx350001_1 hx350001_2 hx350001_3 hx350001_4 hHeld ⊢; refine pq_ (i := 0) (N := some 12) HT_.out ?_; refine pq_ (i := 1) (N := some 13) HT_.out ?_; refine pq_ (i := 2) (N := some 14) HT_.out ?_; refine pq_ (i := 3) (N := some 15) HT_.out ?_; refine pq_ (i := 5) (N := some 17) HT_.out ?_; refine tq_ (i := 4) (N := some 16) HT_.out HW_.out hHeld (hy := by rintro w' ⟨s0, s1, s2, s3, s4⟩; go_simp; with_reducible rfl) (h := ?_); refine one_ (i := 6) (N := some 18) #[true, true, true, true, true, true, true, false] rfl rfl (one_of HT_.out (by kernel_rfl)) (by decide) (fun K hK => ?_)
          refine goes_ Tryd.func68 (by kernel_rfl) rfl #[.int .i64 x1_1] (by rfl) rfl rfl zq_1 ?_
          with_reducible refine (laws_markText.calls k1 x1_1 t350002 _ A5.out).mono ?_
          rintro e w20 ⟨rfl, hb⟩; refine ⟨_, rfl, ?_⟩; have n0_ := Aside0.mk (below_step zq_0 hb); clear HB; have HB := n0_; clear n0_; (try clear hb); (try clear hb2); (try clear hk); (try clear hi); refine hK.out _ _ ⟨((HB.out.cell (World.block_lt_of_cell? w _ hw350001_0)).trans hw350001_0), ((HB.out.cell (World.block_lt_of_cell? w _ hw350001_1)).trans hw350001_1), ((HB.out.cell (World.block_lt_of_cell? w _ hw350001_2)).trans hw350001_2), ((HB.out.cell (World.block_lt_of_cell? w _ hw350001_3)).trans hw350001_3), ((HB.out.cell (World.block_lt_of_cell? w _ hw350001_4)).trans hw350001_4)⟩ (fun hHeld => ?_); clear hK K; refine norm_ (a' := ?_) ?_ ?_; rotate_left
          ·show Act.put _ (some 18) _ = _; simp only [Act.put, List.setIfInBounds_toArray, List.set_cons_zero, List.set_cons_succ, i64_w, i32_w]; rfl
          refine pq_ (i := 7) (N := some 19) HT_.out ?_; refine done_ (done_of HT_.out (by kernel_rfl)) ?_; have p350003 : 0 ≤ (x5_1 : Int) := of_decide_eq_true zq_2; have q350003 : x5_1 < (l0.length : Int) := of_decide_eq_true zq_2; obtain ⟨ad350003, e350003, hx350003_0, hx350003_1, hx350003_2, hx350003_3, hx350003_4⟩ := at_T120 HR0.out x5_1 p350003 q350003; obtain rfl : ad350001 = ad350003 := (by injection e350003)
          replace hx350003_0 := (HB.out.cell (World.block_lt_of_cell? w _ hx350003_0)).trans hx350003_0; replace hx350003_1 := (HB.out.cell (World.block_lt_of_cell? w _ hx350003_1)).trans hx350003_1; replace hx350003_2 := (HB.out.cell (World.block_lt_of_cell? w _ hx350003_2)).trans hx350003_2; replace hx350003_3 := (HB.out.cell (World.block_lt_of_cell? w _ hx350003_3)).trans hx350003_3; replace hx350003_4 := (HB.out.cell (World.block_lt_of_cell? w _ hx350003_4)).trans hx350003_4; replace p350003 := eq_true p350003; replace q350003 := eq_true q350003
          try go_wp2
          have n0_ := Aside0.mk (below_drew1 HB.out); clear HB; have HB := n0_; clear n0_; have p350004 : 0 ≤ (x5_1 : Int) := of_decide_eq_true zq_2; have q350004 : x5_1 < (l0.length : Int) := of_decide_eq_true zq_2; obtain ⟨ad350004, e350004, hx350004_0, hx350004_1, hx350004_2, hx350004_3, hx350004_4⟩ := at_T120 HR0.out x5_1 p350004 q350004; have hw350004_4 := hx350004_4; have hw350004_3 := hx350004_3; have hw350004_2 := hx350004_2; have hw350004_1 := hx350004_1; have hw350004_0 := hx350004_0; obtain rfl : ad350001 = ad350004 := (by injection e350004)
          replace hx350004_0 := (HB.out.cell (World.block_lt_of_cell? w _ hx350004_0)).trans hx350004_0; replace hx350004_1 := (HB.out.cell (World.block_lt_of_cell? w _ hx350004_1)).trans hx350004_1; replace hx350004_2 := (HB.out.cell (World.block_lt_of_cell? w _ hx350004_2)).trans hx350004_2; replace hx350004_3 := (HB.out.cell (World.block_lt_of_cell? w _ hx350004_3)).trans hx350004_3; replace hx350004_4 := (HB.out.cell (World.block_lt_of_cell? w _ hx350004_4)).trans hx350004_4; replace p350004 := eq_true p350004; replace q350004 := eq_true q350004; refine start_ (n := 8) (S := fun w' => w'.cell? (ad350001.add ((x5_1).toNat * 5)) = some (.string ((rd_T120 l0 x5_1).f0)) ∧ w'.cell? ⟨(ad350001.add ((x5_1).toNat * 5)).block, (ad350001.add ((x5_1).toNat * 5)).off + 1, none⟩ = some (.bool ((rd_T120 l0 x5_1).f1)) ∧ w'.cell? ⟨(ad350001.add ((x5_1).toNat * 5)).block, (ad350001.add ((x5_1).toNat * 5)).off + 2, none⟩ = some (.string ((rd_T120 l0 x5_1).f2)) ∧ w'.cell? ⟨(ad350001.add ((x5_1).toNat * 5)).block, (ad350001.add ((x5_1).toNat * 5)).off + 3, none⟩ = some (.bool ((rd_T120 l0 x5_1).f3)) ∧ w'.cell? ⟨(ad350001.add ((x5_1).toNat * 5)).block, (ad350001.add ((x5_1).toNat * 5)).off + 4, none⟩ = some (.string ((rd_T120 l0 x5_1).f4))) (ds := []) #[false, false, false, false, false, false, false, false] (by kernel_rfl) rfl rfl ⟨((HB.out.cell (World.block_lt_of_cell? w _ hw350004_0)).trans hw350004_0), ((HB.out.cell (World.block_lt_of_cell? w _ hw350004_1)).trans hw350004_1), ((HB.out.cell (World.block_lt_of_cell? w _ hw350004_2)).trans hw350004_2), ((HB.out.cell (World.block_lt_of_cell? w _ hw350004_3)).trans hw350004_3), ((HB.out.cell (World.block_lt_of_cell? w _ hw350004_4)).trans hw350004_4)⟩ (fun hHeld => ?_); refine with_tabW laws_heldChangeS.tab10 laws_heldChangeS.bits10 (fun HT_ HW_ => ?_); generalize w20.drew = w21 at HB hx350004_0 hx350004_1 hx350004_2 hx350004_3 hx350004_4 hHeld ⊢; refine pq_ (i := 0) (N := some 33) HT_.out ?_; refine pq_ (i := 1) (N := some 34) HT_.out ?_; refine pq_ (i := 2) (N := some 35) HT_.out ?_; refine pq_ (i := 3) (N := some 36) HT_.out ?_; refine pq_ (i := 5) (N := some 38) HT_.out ?_; refine tq_ (i := 4) (N := some 37) HT_.out HW_.out hHeld (hy := by rintro w' ⟨s0, s1, s2, s3, s4⟩; go_simp; with_reducible rfl) (h := ?_); refine one_ (i := 6) (N := some 39) #[true, true, true, true, true, true, true, false] rfl rfl (one_of HT_.out (by kernel_rfl)) (by decide) (fun K hK => ?_)
          refine goes_ Tryd.func68 (by kernel_rfl) rfl #[.int .i64 (wrap64 ((wrap64 (x1_1 + 1)) + 1))] (by rfl) rfl rfl zq_1 ?_
          with_reducible refine (laws_markText.calls k1 (wrap64 ((wrap64 (x1_1 + 1)) + 1)) t350005 _ A10.out).mono ?_
          rintro e w22 ⟨rfl, hb⟩; refine ⟨_, rfl, ?_⟩; have n0_ := Aside0.mk (below_step zq_0 hb); clear HB; have HB := n0_; clear n0_; (try clear hb); (try clear hb2); (try clear hk); (try clear hi); refine hK.out _ _ ⟨((HB.out.cell (World.block_lt_of_cell? w _ hw350004_0)).trans hw350004_0), ((HB.out.cell (World.block_lt_of_cell? w _ hw350004_1)).trans hw350004_1), ((HB.out.cell (World.block_lt_of_cell? w _ hw350004_2)).trans hw350004_2), ((HB.out.cell (World.block_lt_of_cell? w _ hw350004_3)).trans hw350004_3), ((HB.out.cell (World.block_lt_of_cell? w _ hw350004_4)).trans hw350004_4)⟩ (fun hHeld => ?_); clear hK K; refine norm_ (a' := ?_) ?_ ?_; rotate_left
          ·show Act.put _ (some 39) _ = _; simp only [Act.put, List.setIfInBounds_toArray, List.set_cons_zero, List.set_cons_succ, i64_w, i32_w]; rfl
          refine pq_ (i := 7) (N := some 40) HT_.out ?_; refine done_ (done_of HT_.out (by kernel_rfl)) ?_; have p350006 : 0 ≤ (x5_1 : Int) := of_decide_eq_true zq_2; have q350006 : x5_1 < (l0.length : Int) := of_decide_eq_true zq_2; obtain ⟨ad350006, e350006, hx350006_0, hx350006_1, hx350006_2, hx350006_3, hx350006_4⟩ := at_T120 HR0.out x5_1 p350006 q350006; obtain rfl : ad350001 = ad350006 := (by injection e350006)
          replace hx350006_0 := (HB.out.cell (World.block_lt_of_cell? w _ hx350006_0)).trans hx350006_0; replace hx350006_1 := (HB.out.cell (World.block_lt_of_cell? w _ hx350006_1)).trans hx350006_1; replace hx350006_2 := (HB.out.cell (World.block_lt_of_cell? w _ hx350006_2)).trans hx350006_2; replace hx350006_3 := (HB.out.cell (World.block_lt_of_cell? w _ hx350006_3)).trans hx350006_3; replace hx350006_4 := (HB.out.cell (World.block_lt_of_cell? w _ hx350006_4)).trans hx350006_4; replace p350006 := eq_true p350006; replace q350006 := eq_true q350006
          try go_wp2
          have n0_ := Aside0.mk (below_drew1 HB.out); clear HB; have HB := n0_; clear n0_; have p350007 : 0 ≤ (x5_1 : Int) := of_decide_eq_true zq_2; have q350007 : x5_1 < (l0.length : Int) := of_decide_eq_true zq_2; obtain ⟨ad350007, e350007, hx350007_0, hx350007_1, hx350007_2, hx350007_3, hx350007_4⟩ := at_T120 HR0.out x5_1 p350007 q350007; have hw350007_4 := hx350007_4; have hw350007_3 := hx350007_3; have hw350007_2 := hx350007_2; have hw350007_1 := hx350007_1; have hw350007_0 := hx350007_0; obtain rfl : ad350001 = ad350007 := (by injection e350007)
          replace hx350007_0 := (HB.out.cell (World.block_lt_of_cell? w _ hx350007_0)).trans hx350007_0; replace hx350007_1 := (HB.out.cell (World.block_lt_of_cell? w _ hx350007_1)).trans hx350007_1; replace hx350007_2 := (HB.out.cell (World.block_lt_of_cell? w _ hx350007_2)).trans hx350007_2; replace hx350007_3 := (HB.out.cell (World.block_lt_of_cell? w _ hx350007_3)).trans hx350007_3; replace hx350007_4 := (HB.out.cell (World.block_lt_of_cell? w _ hx350007_4)).trans hx350007_4; replace p350007 := eq_true p350007; replace q350007 := eq_true q350007; refine start_ (n := 8) (S := fun w' => w'.cell? (ad350001.add ((x5_1).toNat * 5)) = some (.string ((rd_T120 l0 x5_1).f0)) ∧ w'.cell? ⟨(ad350001.add ((x5_1).toNat * 5)).block, (ad350001.add ((x5_1).toNat * 5)).off + 1, none⟩ = some (.bool ((rd_T120 l0 x5_1).f1)) ∧ w'.cell? ⟨(ad350001.add ((x5_1).toNat * 5)).block, (ad350001.add ((x5_1).toNat * 5)).off + 2, none⟩ = some (.string ((rd_T120 l0 x5_1).f2)) ∧ w'.cell? ⟨(ad350001.add ((x5_1).toNat * 5)).block, (ad350001.add ((x5_1).toNat * 5)).off + 3, none⟩ = some (.bool ((rd_T120 l0 x5_1).f3)) ∧ w'.cell? ⟨(ad350001.add ((x5_1).toNat * 5)).block, (ad350001.add ((x5_1).toNat * 5)).off + 4, none⟩ = some (.string ((rd_T120 l0 x5_1).f4))) (ds := []) #[false, false, false, false, false, false, false, false] (by kernel_rfl) rfl rfl ⟨((HB.out.cell (World.block_lt_of_cell? w _ hw350007_0)).trans hw350007_0), ((HB.out.cell (World.block_lt_of_cell? w _ hw350007_1)).trans hw350007_1), ((HB.out.cell (World.block_lt_of_cell? w _ hw350007_2)).trans hw350007_2), ((HB.out.cell (World.block_lt_of_cell? w _ hw350007_3)).trans hw350007_3), ((HB.out.cell (World.block_lt_of_cell? w _ hw350007_4)).trans hw350007_4)⟩ (fun hHeld => ?_); refine with_tabW laws_heldChangeS.tab16 laws_heldChangeS.bits16 (fun HT_ HW_ => ?_); generalize w22.drew = w23 at HB hx350007_0 hx350007_1 hx350007_2 hx350007_3 hx350007_4 hHeld ⊢; refine pq_ (i := 0) (N := some 54) HT_.out ?_; refine pq_ (i := 1) (N := some 55) HT_.out ?_; refine pq_ (i := 2) (N := some 56) HT_.out ?_; refine pq_ (i := 3) (N := some 57) HT_.out ?_; refine pq_ (i := 5) (N := some 59) HT_.out ?_; refine tq_ (i := 4) (N := some 58) HT_.out HW_.out hHeld (hy := by rintro w' ⟨s0, s1, s2, s3, s4⟩; go_simp; with_reducible rfl) (h := ?_); refine one_ (i := 6) (N := some 60) #[true, true, true, true, true, true, true, false] rfl rfl (one_of HT_.out (by kernel_rfl)) (by decide) (fun K hK => ?_)
          refine goes_ Tryd.func68 (by kernel_rfl) rfl #[.int .i64 (wrap64 ((wrap64 ((wrap64 ((wrap64 (x1_1 + 1)) + 1)) + 1)) + 1))] (by rfl) rfl rfl zq_1 ?_
          with_reducible refine (laws_markText.calls k1 (wrap64 ((wrap64 ((wrap64 ((wrap64 (x1_1 + 1)) + 1)) + 1)) + 1)) t350008 _ A17.out).mono ?_
          rintro e w24 ⟨rfl, hb⟩; refine ⟨_, rfl, ?_⟩; have n0_ := Aside0.mk (below_step zq_0 hb); clear HB; have HB := n0_; clear n0_; (try clear hb); (try clear hb2); (try clear hk); (try clear hi); refine hK.out _ _ ⟨((HB.out.cell (World.block_lt_of_cell? w _ hw350007_0)).trans hw350007_0), ((HB.out.cell (World.block_lt_of_cell? w _ hw350007_1)).trans hw350007_1), ((HB.out.cell (World.block_lt_of_cell? w _ hw350007_2)).trans hw350007_2), ((HB.out.cell (World.block_lt_of_cell? w _ hw350007_3)).trans hw350007_3), ((HB.out.cell (World.block_lt_of_cell? w _ hw350007_4)).trans hw350007_4)⟩ (fun hHeld => ?_); clear hK K; refine norm_ (a' := ?_) ?_ ?_; rotate_left
          ·show Act.put _ (some 60) _ = _; simp only [Act.put, List.setIfInBounds_toArray, List.set_cons_zero, List.set_cons_succ, i64_w, i32_w]; rfl
          refine pq_ (i := 7) (N := some 61) HT_.out ?_; refine done_ (done_of HT_.out (by kernel_rfl)) ?_
          try go_wp2
          go_roundg k1
          case measure => have := HK1.out; omega
          case rel => exact ⟨(wrap64 ((wrap64 ((wrap64 ((wrap64 ((wrap64 (x1_1 + 1)) + 1)) + 1)) + 1)) + 1)), (wrap64 (x5_1 + 1)), zq_6, zq_6, H', ⟨by have := HK1.out; omega⟩, ⟨by repeat (first | (with_reducible first | exact HB.out | apply below_alloc | apply pw_below_drewN | apply below_drew1) | exact HB.out)⟩⟩
         ·rw [if_neg c18] at H; exact absurd H (by simp)
       ·rw [if_neg c11] at H; exact absurd H (by simp)
     ·rw [if_neg c6] at H; exact absurd H (by simp)
    ·rw [if_neg c4] at H; exact absurd H (by simp)
   ·rw [if_neg c3] at H; have c3b0 : decide (x5_1 < (l0.length : Int)) = false := decide_eq_false c3; clear c3; obtain rfl := Option.some.inj H
    go_wp2
    go_ret
    exact ⟨by first | rfl | (simp [errW_none, errW_some] <;> rfl) | (simp [*, errW_none, errW_some] <;> rfl), by repeat (first | (with_reducible first | exact HB.out | apply below_alloc | apply pw_below_drewN | apply below_drew1) | exact HB.out)⟩
end Go.Proofs.YthnnphinfiobmaaDoor.Z
end
