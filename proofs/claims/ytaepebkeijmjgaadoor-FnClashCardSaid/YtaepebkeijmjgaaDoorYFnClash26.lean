/- Own texts, joined. -/
import Derived.Test.YtaepebkeijmjgaaDoorYFnClash27
import Derived.Test.YtaepebkeijmjgaaDoorYFnClash22
import Derived.Test.YtaepebkeijmjgaaDoorYFnClash25
import Derived.Test.YtaepebkeijmjgaaDoorYFnClash24
import Derived.Test.YtaepebkeijmjgaaDoorYFnClash23
import Derived.Test.YtaepebkeijmjgaaDoorYFnClash0
import Derived.ProofKit
import Derived.OpenShut
import Derived.ChangeSame
section
namespace Go.Proofs.YtaepebkeijmjgaaDoor.Z
open RowKit YtaepebkeijmjgaaDoor YtaepebkeijmjgaaDoorW.PrintWords YtaepebkeijmjgaaDoorW.PrintLast
set_option linter.all false
theorem l4PairOk_f (k v : ByteArray) : spec_l4PairOk.f k v = some (pairOk k v) := by
 unfold spec_l4PairOk.f pairOk
 by_cases h1 : 1 ≤ k.size
 ·rw [if_pos (by omega), decide_eq_true h1]
  by_cases h2 : k.size ≤ 256
  ·rw [if_pos (by omega), decide_eq_true h2]; refine congrArg some ?_; rw [Bool.true_and, Bool.true_and, decide_eq_decide]; omega
  ·rw [if_neg (by omega), decide_eq_false h2]; rfl
 ·rw [if_neg (by omega), decide_eq_false h1]; rfl
def keysOk (l : List S77) : Prop := ∀ p ∈ l, p.f0.size ≤ 1048576
theorem keysOk_get {l : List S77} (h : keysOk l) (i : Nat) (hi : i < l.length) : (l.getD i zP).f0.size ≤ 1048576 := by
 rw [List.getD_eq_getElem?_getD, List.getElem?_eq_getElem hi]; exact h _ (List.getElem_mem _)
theorem l4MapOk_loop (l : List S77) (hl : l.length ≤ 500) (hs : keysOk l) : ∀ (d i k : Nat), l.length = i + d → d + 2100000 < k → spec_l4MapOk.l0 k l (i : Int) = some (okD l i d) := by
 intro d
 induction d with
 | zero =>
  intro i k h hk; obtain ⟨k, rfl⟩ : ∃ j, k = j + 1 := ⟨k - 1, by omega⟩
  simp only [spec_l4MapOk.l0]; rw [if_neg (by omega)]; rfl
 | succ d ih =>
  intro i k h hk; obtain ⟨k, rfl⟩ : ∃ j, k = j + 1 := ⟨k - 1, by omega⟩
  simp only [spec_l4MapOk.l0]; rw [if_pos (by omega), if_pos (by omega), rdP l i (by omega), l4PairOk_f, Option.bind_some]; rw [okD, okAt]
  cases hp : pairOk (l.getD i zP).f0 (l.getD i zP).f1
  ·rw [if_neg (by decide)]; rfl
  rw [if_pos rfl, show wrap64 ((i : Int) + 1) = ((i + 1 : Nat) : Int) from wN (by omega) (by omega), ih (i + 1) k (by omega) (by omega)]
  by_cases h0 : i = 0
  ·rw [if_neg (by omega), decide_eq_true h0]; rfl
  ·have hk1 := keysOk_get hs (i - 1) (by omega); rw [if_pos (by omega), show wrap64 ((i : Int) - 1) = ((i - 1 : Nat) : Int) from wN (by omega) (by omega), if_pos (by omega), if_pos (by omega), rdP l (i - 1) (by omega), decide_eq_false h0, spec_l1Less_f _ _ (by omega) k (by omega), Option.bind_some]
   cases Op.bytesLess (l.getD (i - 1) zP).f0.toList (l.getD i zP).f0.toList <;> rfl
theorem l4MapOk_f (l : List S77) (hs : keysOk l) (k : Nat) (hk : 2101000 < k) : spec_l4MapOk.f k l = some (mapOk l) := by
 unfold spec_l4MapOk.f mapOk
 by_cases h : l.length ≤ 500
 ·rw [if_neg (by omega), decide_eq_true h]; exact l4MapOk_loop l h hs l.length 0 k (by omega) (by omega)
 ·rw [if_pos (by omega), decide_eq_false h]; rfl
theorem less_irr0 : ∀ x : List UInt8, Op.bytesLess x x = false
 | [] => rfl
 | a :: r => by simp [Op.bytesLess, less_irr0 r]
theorem l4Top_loop (l : List S77) (hl : l.length ≤ 1048576) (hs : keysOk l) : ∀ (d i t k : Nat), l.length = i + d → t < l.length → d + 2100000 < k → spec_l4Top.l0 k l (t : Int) (shaV (l.getD t zP).f0) (i : Int) = some ((bestF abP (l.getD t zP) t i (l.drop i)).2 : Int) := by
 intro d
 induction d with
 | zero =>
  intro i t k h ht hk; obtain ⟨k, rfl⟩ : ∃ j, k = j + 1 := ⟨k - 1, by omega⟩
  simp only [spec_l4Top.l0]; rw [if_neg (by omega), List.drop_of_length_le (by omega)]; rfl
 | succ d ih =>
  intro i t k h ht hk; obtain ⟨k, rfl⟩ : ∃ j, k = j + 1 := ⟨k - 1, by omega⟩
  simp only [spec_l4Top.l0]; have hi := keysOk_get hs i (by omega); have hd : l.drop i = l.getD i zP :: l.drop (i + 1) := by
   rw [List.drop_eq_getElem_cons (by omega), List.getD_eq_getElem?_getD, List.getElem?_eq_getElem (by omega)]; rfl
  rw [if_pos (by omega), if_pos (by omega), rdP l i (by omega), rdP l t ht, spec_Sha256_f _ (by omega) k (by omega), Option.bind_some, spec_l1Less_f _ _ (by rw [shaV_size]; omega) k (by rw [shaV_size]; omega), Option.bind_some, hd, bestF, show abP (l.getD i zP) (l.getD t zP) = highB (l.getD i zP).f0 (l.getD t zP).f0 from rfl, highB_eq]; rw [wN (n := i + 1) (by omega) (by omega), ih (i + 1) i k (by omega) (by omega) (by omega), ih (i + 1) t k (by omega) ht (by omega), spec_l1Less_f _ _ (by omega) k (by omega), if_pos (show (0 : Int) ≤ (t : Int) by omega), if_pos (show (t : Int) < (l.length : Int) by omega), Option.bind_some]
  by_cases he : (shaV (l.getD i zP).f0).toList = (shaV (l.getD t zP).f0).toList
  ·rw [if_pos he, if_pos he, ← he, less_irr0, if_neg (by decide)]
   split <;> rfl
  ·rw [if_neg he, if_neg he]
   split <;> rfl
theorem l4Top_f (a : S77) (r : List S77) (hl : (a :: r).length ≤ 1048576) (hs : keysOk (a :: r)) (k : Nat) (hk : (a :: r).length + 2100000 < k) : spec_l4Top.f k (a :: r) = some ((bestF abP a 0 1 r).2 : Int) := by
 unfold spec_l4Top.f; have h0 := hs a (by simp); have hz : rd_T77 (a :: r) 0 = a := rdP (a :: r) 0 (by simp); rw [if_pos (by rw [List.length_cons]; omega), hz, spec_Sha256_f _ (by omega) k (by omega), Option.bind_some]; have h := l4Top_loop (a :: r) hl hs r.length 1 0 k (by rw [List.length_cons]; omega) (by simp) (by rw [List.length_cons] at hk; omega)
 simpa using h
theorem hashSh_ok (W : Nat) (hW : W ≤ 32) (t : Sh S77) : hOk (hashSh W t) W = true := by
 unfold hOk
 cases t with
 | nil => rfl
 | node p l r =>
  rw [hashSh, Int.toNat_natCast, ByteArray.size_extract, shaV_size]; simp only [Bool.or_eq_true, decide_eq_true_eq]; omega
theorem l4Encs_loop (W : Int) (p : S77) (lh rh : ByteArray) (R : List ByteArray) (hR : R.length ≤ 1048576) : ∀ (d i k : Nat) (acc : List ByteArray), R.length = i + d → d + 5001 < k → acc.length + d ≤ 2097152 →
  spec_l4Encs.l0 k W acc R (i : Int) p.f0 p.f1 lh rh = some (acc ++ R.drop i ++ [encNode p.f0 p.f1 lh rh W], nodeHashV p.f0 p.f1 lh rh W) := by
 intro d
 induction d with
 | zero =>
  intro i k acc h hk ha; obtain ⟨k, rfl⟩ : ∃ j, k = j + 1 := ⟨k - 1, by omega⟩
  simp only [spec_l4Encs.l0]; rw [if_neg (by omega), List.drop_of_length_le (by omega), List.append_nil]; unfold spec_EncodeNode.f; rw [Option.bind_some, if_pos (by omega), spec_NodeHash_f _ _ _ _ _ _ (by omega), Option.bind_some]
 | succ d ih =>
  intro i k acc h hk ha; obtain ⟨k, rfl⟩ : ∃ j, k = j + 1 := ⟨k - 1, by omega⟩
  simp only [spec_l4Encs.l0]; have hd : R.drop i = R[i] :: R.drop (i + 1) := List.drop_eq_getElem_cons (by omega); rw [if_pos (by omega), if_pos (by omega), if_pos (by omega), wN (n := i + 1) (by omega) (by omega), rd_at _ R _ (by omega), ih (i + 1) k _ (by omega) (by omega) zq_33, hd]; simp
theorem l4Encs_f (W : Nat) (hW1 : 1 ≤ W) (hW2 : W ≤ 32) : ∀ (n : Nat) (l : List S77) (k : Nat), l.length ≤ n → l.length ≤ 500 → (∀ p ∈ l, 1 ≤ p.f0.size ∧ p.f0.size ≤ 256 ∧ p.f1.size ≤ 2000) → 2200000 + l.length < k →
  spec_l4Encs.f k l W = some (encsSh W (cart abP l), hashSh W (cart abP l))
 | n, [], k, _, _, _, hk => by
  obtain ⟨k, rfl⟩ : ∃ j, k = j + 1 := ⟨k - 1, by omega⟩
  simp only [spec_l4Encs.f]; rw [if_pos (by rfl)]; rfl
 | 0, a :: r, k, h, _, _, _ => by rw [List.length_cons] at h; omega
 | n + 1, a :: r, k, hn, hl, hp, hk => by
  obtain ⟨k, rfl⟩ : ∃ j, k = j + 1 := ⟨k - 1, by omega⟩
  have hb := bestF_lt abP a r; have hg := bestF_get abP a r; have hks : keysOk (a :: r) := fun p h => by have := hp p h; omega
  have hb' : (bestF abP a 0 1 r).2 ≤ r.length := by rw [List.length_cons] at hb; omega
  have hn' : r.length ≤ n := by rw [List.length_cons] at hn; omega
  have hc : (a :: r).length = r.length + 1 := List.length_cons; simp only [spec_l4Encs.f]; rw [if_neg (by rw [List.length_cons]; omega), l4Top_f a r (by omega) hks k (by omega), Option.bind_some, if_pos (by omega), if_pos (by omega), Int.toNat_natCast]; rw [l4Encs_f W hW1 hW2 n _ k (by rw [List.length_take]; omega) (by rw [List.length_take]; omega) (fun p h => hp p (List.mem_of_mem_take h)) (by rw [List.length_take]; omega), Option.bind_some]; rw [wN (n := (bestF abP a 0 1 r).2 + 1) (by omega) (by omega), if_pos (by omega), if_pos (by omega), Int.toNat_natCast]; rw [l4Encs_f W hW1 hW2 n _ k (by rw [List.length_drop]; omega) (by rw [List.length_drop]; omega) (fun p h => hp p (List.mem_of_mem_drop h)) (by rw [List.length_drop]; omega), Option.bind_some]; rw [if_pos (by omega), rd_pair _ _ hb]; have hx : (a :: r)[(bestF abP a 0 1 r).2] = (bestF abP a 0 1 r).1 := by
   rw [List.getElem?_eq_getElem hb] at hg; exact Option.some.inj hg
  have hmem := hp _ (List.getElem_mem hb); rw [hx] at hmem ⊢; dsimp only; have e1 : (encsSh W (cart abP (List.take (bestF abP a 0 1 r).2 (a :: r)))).length ≤ 500 := by rw [encsSh_length, cart_list _ _ (Nat.le_refl _), List.length_take]; omega
  have e2 : (encsSh W (cart abP (List.drop ((bestF abP a 0 1 r).2 + 1) (a :: r)))).length ≤ 500 := by rw [encsSh_length, cart_list _ _ (Nat.le_refl _), List.length_drop]; omega
  rw [show (0 : Int) = ((0 : Nat) : Int) from rfl, l4Encs_loop W _ _ _ _ (by omega) (encsSh W (cart abP (List.drop ((bestF abP a 0 1 r).2 + 1) (a :: r)))).length 0 k _ (by omega) (by omega) (by omega), List.drop_zero, cart_cons, encsSh, hashSh]; rw [nodeHash_ok]; unfold nodeOk isW; rw [hashSh_ok W hW2, hashSh_ok W hW2]; simp only [Bool.and_eq_true, decide_eq_true_eq, Bool.and_true]; omega
theorem spec_Root_f (l : List S77) (W : Int) (hs : keysOk l) (k : Nat) (hk : 2300000 < k) : spec_Root.f k l W = some (rootR l W) := by
 unfold spec_Root.f rootR; rw [l4MapOk_f l hs k (by omega), Option.bind_some]
 cases hm : mapOk l
 ·rw [if_neg (by decide), if_neg (by simp)]
 rw [if_pos rfl, l1Width_f, Option.bind_some]; have hp := mapOk_pair hm
 cases hw : isW W
 ·rw [if_neg (fun g => by unfold widB at g; unfold isW at hw; simp at g hw; omega), if_neg (by simp)]
 ·have hw2 := hw; unfold isW at hw2; simp only [Bool.and_eq_true, decide_eq_true_eq] at hw2; obtain ⟨n, rfl⟩ : ∃ n : Nat, W = (n : Int) := ⟨W.toNat, by omega⟩
  rw [if_pos (by unfold widB; rw [decide_eq_true_eq]; omega), l4Encs_f n (by omega) (by omega) l.length l k (Nat.le_refl _) hp.1 hp.2 (by omega), Option.bind_some, if_pos ⟨rfl, rfl⟩]
def keysB (l : List S77) : Prop := ∀ p ∈ l, p.f0.size ≤ 300
theorem keysB_keys {l : List S77} : keysB l ↔ ∀ x ∈ keysP l, x.size ≤ 300 := by
 unfold keysB keysP; exact ⟨fun h x hx => by obtain ⟨p, hp, rfl⟩ := List.mem_map.1 hx; exact h p hp, fun h p hp => h _ (List.mem_map.2 ⟨p, hp, rfl⟩)⟩
theorem keysB_with {l : List S77} {k v : ByteArray} (h : keysB l) (hk : k.size ≤ 300) : keysB (withP l k v) := by
 rw [keysB_keys] at h ⊢; intro x hx
 rcases (withP_mem l k v x).1 hx with rfl | g
 ·exact hk
 ·exact h x g
theorem keysB_out {l : List S77} {k : ByteArray} (h : keysB l) : keysB (outP k l) := by
 rw [keysB_keys] at h ⊢; intro x hx; exact h x ((outP_mem k l x).1 hx).1
theorem outP_le (k : ByteArray) (l : List S77) : (outP k l).length ≤ l.length := List.length_filter_le _ _
theorem keysB_nil : keysB [] := fun p hp => by cases hp
theorem keysB_app {l m : List S77} (h : keysB l) (g : keysB m) : keysB (l ++ m) := fun p hp => by
 rcases List.mem_append.1 hp with a | a
 ·exact h p a
 ·exact g p a
theorem keysB_one {p : S77} (h : p.f0.size ≤ 300) : keysB [p] := fun q hq => by rw [List.mem_singleton.1 hq]; exact h
theorem keysB_set {l : List S77} {i : Nat} {p : S77} (h : keysB l) (g : p.f0.size ≤ 300) : keysB (l.set i p) := fun q hq => by
 rcases List.mem_or_eq_of_mem_set hq with a | a
 ·exact h q a
 ·rw [a]; exact g
theorem keysB_ok {l : List S77} (h : keysB l) : keysOk l := fun p hp => by have := h p hp; omega
theorem drawMap_l0 {L : List Int} (h : Code L) (n : Nat) (hn : n ≤ 20) : ∀ (d i k : Nat) (p : Int) (l : List S77), i + d = n → 3300000 + d < k → (0 ≤ p ∧ p + 3 * d ≤ 80000000) → keysB l → l.length ≤ i → ∃ r q, spec_l4DrawMap.l0 k L p (n : Int) l (i : Int) = some (r, q) ∧ p ≤ q ∧ q ≤ p + 3 * d ∧ keysB r ∧ r.length ≤ n := by
 intro d
 induction d with
 | zero =>
  intro i k p l hi hk hp hb hl; obtain ⟨k, rfl⟩ : ∃ j, k = j + 1 := ⟨k - 1, by omega⟩
  rw [spec_l4DrawMap.l0, if_neg (by omega)]; exact ⟨l, p, rfl, by omega, by omega, hb, by omega⟩
 | succ d ih =>
  intro i k p l hi hk hp hb hl; obtain ⟨k, rfl⟩ : ∃ j, k = j + 1 := ⟨k - 1, by omega⟩
  obtain ⟨key, hkey, hks⟩ := l1DrawKey_s h p (by omega) k (by omega); obtain ⟨val, hval, hvs⟩ := l2DrawVal_s h (p + 1) (by omega) k (by omega); have hi1 : wrap64 ((i : Int) + 1) = ((i + 1 : Nat) : Int) := by rw [w64D (by omega) (by omega)]; omega
  have hwl := withP_len l key val; rw [spec_l4DrawMap.l0, if_pos (by omega), hkey, Option.bind_some]; dsimp only; rw [hval, Option.bind_some]; dsimp only; rw [l4With_f l key val (by omega) (by omega) k (by omega), Option.bind_some, hi1]; obtain ⟨r, q, hr, q1, q2, hrb, hrl⟩ := ih (i + 1) k (p + 1 + 2) (withP l key val) (by omega) (by omega) (by omega) (keysB_with hb (by omega)) (by omega); exact ⟨r, q, hr, by omega, by omega, hrb, hrl⟩
theorem l1Count_s {L : List Int} (h : Code L) : ∃ n : Nat, spec_l1Count.f L 8 1 14 = some (n : Int) ∧ n ≤ 14 := by
 have hl := h.1; unfold spec_l1Count.f; have hd : (L.length : Int) / 8 = ((L.length / 8 : Nat) : Int) := rfl; have hw : wrap64 (1 + wrap64 ((L.length : Int) / 8)) = ((1 + L.length / 8 : Nat) : Int) := by rw [hd, w64D (x := ((L.length / 8 : Nat) : Int)) (by omega) (by omega), w64D (by omega) (by omega)]; omega
 rw [if_neg (by decide), hw]
 by_cases hg : ((1 + L.length / 8 : Nat) : Int) > 14
 ·rw [if_pos hg]; exact ⟨14, rfl, by omega⟩
 ·rw [if_neg hg]; exact ⟨_, rfl, by omega⟩
theorem l4AnyMap_s {L : List Int} (h : Code L) (p : Int) (hp : 0 ≤ p ∧ p ≤ 60000000) (k : Nat) (hk : 3400000 < k) : ∃ r q, spec_l4AnyMap.f k L p = some (r, q) ∧ p ≤ q ∧ q ≤ p + 100 ∧ keysB r ∧ r.length ≤ 20 := by
 obtain ⟨x, hx, x0, x1⟩ := l1Take_s h p 40 (by omega) k (by omega); obtain ⟨n, hn, hn14⟩ := l1Count_s h; obtain ⟨m, q, hm, q1, q2, hmb, hml⟩ := drawMap_l0 h n (by omega) n 0 k (p + 1) [] (by omega) (by omega) (by omega) keysB_nil (Nat.le_refl _); unfold spec_l4AnyMap.f; rw [hx, Option.bind_some]; dsimp only; rw [hn, Option.bind_some]; unfold spec_l4DrawMap.f; rw [show (0 : Int) = ((0 : Nat) : Int) from rfl, hm, Option.bind_some]; dsimp only; obtain ⟨k, rfl⟩ : ∃ j, k = j + 5 := ⟨k - 5, by omega⟩
 have m2 := tmod_in q 2 (by omega) (by omega); have hw1 : wrap64 (256 + Int.tmod q 2) = 256 + Int.tmod q 2 := w64D (by omega) (by omega); have hw2 : wrap64 (2000 + Int.tmod q 2) = 2000 + Int.tmod q 2 := w64D (by omega) (by omega); have hj4 : ∀ l, keysB l → l.length ≤ 20 → ∃ r, spec_l4AnyMap.j4 (k + 1) x l q = some (r, q) ∧ keysB r ∧ r.length ≤ 20 := by
  intro l hb hl; rw [spec_l4AnyMap.j4, hw1, hw2]; obtain ⟨s1, e1, z1⟩ := l1Long_s (256 + Int.tmod q 2) 107 (by omega) (by omega); obtain ⟨s2, e2, z2⟩ := l1Long_s 2000 118 (by omega) (by omega); obtain ⟨s3, e3, z3⟩ := l1Long_s (2000 + Int.tmod q 2) 118 (by omega) (by omega)
  by_cases h38 : x = 38
  ·rw [if_pos h38, e1, Option.bind_some, e2, Option.bind_some, if_neg (by omega)]; exact ⟨_, rfl, keysB_one (by show s1.size ≤ 300; omega), by simp⟩
  ·rw [if_neg h38]
   by_cases h39 : x = 39
   ·rw [if_pos h39, e3, Option.bind_some]; exact ⟨_, rfl, keysB_one (by show ByteArray.size (⟨#[107]⟩ : ByteArray) ≤ 300; decide), by simp⟩
   ·rw [if_neg h39]; exact ⟨l, rfl, hb, hl⟩
 have hj3 : ∀ l, keysB l → l.length ≤ 19 → ∃ r, spec_l4AnyMap.j3 (k + 2) x l q = some (r, q) ∧ keysB r ∧ r.length ≤ 20 := by
  intro l hb hl; rw [spec_l4AnyMap.j3]
  by_cases h37 : x = 37
  ·rw [if_pos h37, Option.bind_some, if_pos (by simp; omega)]; exact hj4 _ (keysB_app (keysB_one (by decide)) hb) (by simp; omega)
  ·rw [if_neg h37]; exact hj4 l hb (by omega)
 have hj2 : ∀ l b, keysB l → l.length ≤ 18 → (b = true → 0 < l.length) → ∃ r, spec_l4AnyMap.j2 (k + 3) x l q b = some (r, q) ∧ keysB r ∧ r.length ≤ 20 := by
  intro l b hb hl hbt; rw [spec_l4AnyMap.j2]
  by_cases hbb : b = true
  ·have h0 := hbt hbb; have hw : wrap64 ((l.length : Int) - 1) = ((l.length - 1 : Nat) : Int) := by rw [w64D (by omega) (by omega)]; omega
   rw [if_pos hbb, hw, if_pos (by omega), if_pos (by omega), if_pos (by omega), rdI_at l (l.length - 1) (by omega)]; exact hj3 _ (keysB_app hb (keysB_one (hb _ (List.getElem_mem _)))) zq_33
  ·rw [if_neg hbb]; exact hj3 l hb (by omega)
 have hj1 : ∀ l, keysB l → l.length ≤ 18 → ∃ r, spec_l4AnyMap.j1 (k + 4) x l q = some (r, q) ∧ keysB r ∧ r.length ≤ 20 := by
  intro l hb hl; rw [spec_l4AnyMap.j1]
  by_cases h36 : x = 36
  ·rw [if_pos h36]; exact hj2 l _ hb hl (fun e => by have := of_decide_eq_true e; omega)
  ·rw [if_neg h36]; exact hj2 l _ hb hl (fun e => by cases e)
 have hj0 : ∀ b : Bool, (b = true → 1 < m.length) → ∃ r, spec_l4AnyMap.j0 (k + 5) x m q b = some (r, q) ∧ keysB r ∧ r.length ≤ 20 := by
  intro b hb; rw [spec_l4AnyMap.j0]
  by_cases hbb : b = true
  ·have h0 := hb hbb; rw [if_pos hbb, if_pos (by omega), if_pos (by omega)]; rw [show (1 : Int) = ((1 : Nat) : Int) from rfl, show (0 : Int) = ((0 : Nat) : Int) from rfl, rdI_at m 1 (by omega), rdI_at m 0 (by omega)]; exact hj1 _ (keysB_set (keysB_set hmb (hmb _ (List.getElem_mem _))) (hmb _ (List.getElem_mem _))) (by rw [List.length_set, List.length_set]; omega)
  ·rw [if_neg hbb]; exact hj1 m hmb (by omega)
 by_cases h35 : x = 35
 ·rw [if_pos h35]; obtain ⟨r, hr, hrb, hrl⟩ := hj0 (decide ((m.length : Int) > 1)) (fun e => by have := of_decide_eq_true e; omega); exact ⟨r, q, hr, by omega, by omega, hrb, hrl⟩
 ·rw [if_neg h35]; obtain ⟨r, hr, hrb, hrl⟩ := hj0 false (fun e => by cases e); exact ⟨r, q, hr, by omega, by omega, hrb, hrl⟩
theorem near_l0 {L : List Int} (h : Code L) (n : Nat) (hn : n ≤ 4) : ∀ (d i k : Nat) (p : Int) (l : List S77), i + d = n → 3300000 + d < k → (0 ≤ p ∧ p + 4 * d ≤ 80000000) → keysB l → l.length ≤ 100 + i → ∃ r q, spec_l4Near.l0 k L p l (n : Int) (i : Int) = some (r, q) ∧ p ≤ q ∧ q ≤ p + 4 * d ∧ keysB r ∧ r.length ≤ 100 + n := by
 intro d
 induction d with
 | zero =>
  intro i k p l hi hk hp hb hl; obtain ⟨k, rfl⟩ : ∃ j, k = j + 1 := ⟨k - 1, by omega⟩
  rw [spec_l4Near.l0, if_neg (by omega)]; exact ⟨l, p, rfl, by omega, by omega, hb, by omega⟩
 | succ d ih =>
  intro i k p l hi hk hp hb hl; obtain ⟨k, rfl⟩ : ∃ j, k = j + 1 := ⟨k - 1, by omega⟩
  obtain ⟨a, ha, a0, a1⟩ := l1Take_s h p 3 (by omega) k (by omega); obtain ⟨key, hkey, hks⟩ := l1DrawKey_s h (p + 1) (by omega) k (by omega); obtain ⟨val, hval, hvs⟩ := l2DrawVal_s h (p + 1 + 1) (by omega) k (by omega); have hi1 : wrap64 ((i : Int) + 1) = ((i + 1 : Nat) : Int) := by rw [w64D (by omega) (by omega)]; omega
  have hwl := withP_len l key val; have hol := outP_le key l; rw [spec_l4Near.l0, if_pos (by omega), ha, Option.bind_some]; dsimp only; rw [hkey, Option.bind_some]; dsimp only; rw [hval, Option.bind_some]; dsimp only; rw [hi1]
  by_cases h0 : a = 0
  ·rw [if_pos h0, l4Without_f l key (by omega) k (by omega), Option.bind_some]; obtain ⟨r, q, hr, q1, q2, hrb, hrl⟩ := ih (i + 1) k (p + 1 + 1 + 2) (outP key l) (by omega) (by omega) (by omega) (keysB_out hb) (by omega); exact ⟨r, q, hr, by omega, by omega, hrb, hrl⟩
  ·rw [if_neg h0, l4With_f l key val (by omega) (by omega) k (by omega), Option.bind_some]; obtain ⟨r, q, hr, q1, q2, hrb, hrl⟩ := ih (i + 1) k (p + 1 + 1 + 2) (withP l key val) (by omega) (by omega) (by omega) (keysB_with hb (by omega)) (by omega); exact ⟨r, q, hr, by omega, by omega, hrb, hrl⟩
theorem l4Near_s {L : List Int} (h : Code L) (p : Int) (hp : 0 ≤ p ∧ p ≤ 60000000) (l : List S77) (hb : keysB l) (hl : l.length ≤ 100) (k : Nat) (hk : 3400000 < k) : ∃ r q, spec_l4Near.f k L p l = some (r, q) ∧ p ≤ q ∧ q ≤ p + 100 ∧ keysB r ∧ r.length ≤ 104 := by
 obtain ⟨a, ha, a0, a1⟩ := l1Take_s h p 4 (by omega) k (by omega); obtain ⟨n, rfl⟩ := Int.eq_ofNat_of_zero_le a0; obtain ⟨r, q, hr, q1, q2, hrb, hrl⟩ := near_l0 h n (by omega) n 0 k (p + 1) l (by omega) (by omega) (by omega) hb (by omega); unfold spec_l4Near.f; rw [ha, Option.bind_some]; exact ⟨r, q, hr, by omega, by omega, hrb, by omega⟩
theorem twin_l2 (l : List S77) (w : Int) (at_ : Nat) (hat : at_ < l.length) (hl : l.length ≤ 1000) (hb : keysB l) (want key a b : ByteArray) : ∀ (d i k : Nat) (v : ByteArray), i + d = 1200 → 3300000 + d < k → ∃ r q, spec_l4Twin.l2 k l w (at_ : Int) want (i : Int) key v a b = some (r, q) ∧ keysB r := by
 intro d
 induction d with
 | zero =>
  intro i k v hi hk; obtain ⟨k, rfl⟩ : ∃ j, k = j + 1 := ⟨k - 1, by omega⟩
  rw [spec_l4Twin.l2, if_neg (by omega)]; exact ⟨l, false, rfl, hb⟩
 | succ d ih =>
  intro i k v hi hk; obtain ⟨k, rfl⟩ : ∃ j, k = j + 1 := ⟨k - 1, by omega⟩
  obtain ⟨s1, e1, z1⟩ := l2Byte_s (Int.tmod (i : Int) 256); obtain ⟨s2, e2, z2⟩ := l2Byte_s (wrap64 (Int.tdiv (i : Int) 256)); have hi1 : wrap64 ((i : Int) + 1) = ((i + 1 : Nat) : Int) := by rw [w64D (by omega) (by omega)]; omega
  have h116 : ByteArray.size (⟨#[116]⟩ : ByteArray) = 1 := rfl; have hkey : l[at_].f0.size ≤ 300 := hb _ (List.getElem_mem _); rw [spec_l4Twin.l2, if_pos (by omega), e1, Option.bind_some, if_pos (by omega), e2, Option.bind_some, if_pos (by rw [ba_sz]; omega), if_pos (by omega), if_pos (by omega), rdI_at l at_ hat, hi1]
  by_cases he : (((⟨#[116]⟩ : ByteArray) ++ s1) ++ s2).toList = l[at_].f1.toList
  ·rw [if_pos he]; exact ih (i + 1) k _ (by omega) (by omega)
  ·rw [if_neg he, spec_NodeHash_f _ _ _ _ _ k (by omega), Option.bind_some]
   split
   ·rw [l4With_f l _ _ (by omega) (by omega) k (by omega), Option.bind_some]; exact ⟨_, _, rfl, keysB_with hb hkey⟩
   ·exact ih (i + 1) k _ (by omega) (by omega)
theorem keysB_sub {l m : List S77} (h : keysB l) (hs : ∀ p ∈ m, p ∈ l) : keysB m := fun p hp => h p (hs p hp)
theorem twin_j3 (l : List S77) (w : Int) (at_ lo hi : Nat) (hat : at_ < l.length) (hlo : lo ≤ at_) (hh1 : at_ + 1 ≤ hi) (hh2 : hi ≤ l.length) (hl : l.length ≤ 1000) (hb : keysB l) (k : Nat) (hk : 3310000 < k) : ∃ r q, spec_l4Twin.j3 k l w (at_ : Int) (lo : Int) (hi : Int) = some (r, q) ∧ keysB r := by
 obtain ⟨k, rfl⟩ : ∃ j, k = j + 1 := ⟨k - 1, by omega⟩
 have hw : wrap64 ((at_ : Int) + 1) = ((at_ + 1 : Nat) : Int) := by rw [w64D (by omega) (by omega)]; omega
 have k1 : keysOk ((l.take at_).drop lo) := keysB_ok (keysB_sub hb (fun p hp => List.mem_of_mem_take (List.mem_of_mem_drop hp))); have k2 : keysOk ((l.take hi).drop (at_ + 1)) := keysB_ok (keysB_sub hb (fun p hp => List.mem_of_mem_take (List.mem_of_mem_drop hp))); rw [spec_l4Twin.j3, hw]; simp only [Int.toNat_natCast]; rw [if_pos (by omega), if_pos (by omega), if_pos (by omega), if_pos (by omega), if_pos (by omega), spec_Root_f _ w k1 k (by omega), Option.bind_some, if_pos (by omega), if_pos (by omega), if_pos (by omega), spec_Root_f _ w k2 k (by omega), Option.bind_some, spec_NodeHash_f _ _ _ _ _ k (by omega), Option.bind_some]; exact twin_l2 l w at_ hat hl hb _ _ _ _ 1200 0 k _ (by omega) (by omega)
theorem twin_l1 (l : List S77) (w : Int) (at_ lo : Nat) (hat : at_ < l.length) (hlo : lo ≤ at_) (hl : l.length ≤ 1000) (hb : keysB l) : ∀ (d hi k : Nat), hi + d = l.length → 3320000 + d < k → at_ + 1 ≤ hi → ∃ r q, spec_l4Twin.l1 k l w (at_ : Int) (lo : Int) (hi : Int) = some (r, q) ∧ keysB r := by
 intro d
 induction d with
 | zero =>
  intro hi k hd hk hh; obtain ⟨k, rfl⟩ : ∃ j, k = j + 1 := ⟨k - 1, by omega⟩
  rw [spec_l4Twin.l1, if_neg (by omega)]; exact twin_j3 l w at_ lo hi hat hlo hh (by omega) hl hb k (by omega)
 | succ d ih =>
  intro hi k hd hk hh; obtain ⟨k, rfl⟩ : ∃ j, k = j + 1 := ⟨k - 1, by omega⟩
  have h1 : l[at_].f0.size ≤ 300 := hb _ (List.getElem_mem _); have h2 : (l[hi]'(by omega)).f0.size ≤ 300 := hb _ (List.getElem_mem _); have hw : wrap64 ((hi : Int) + 1) = ((hi + 1 : Nat) : Int) := by rw [w64D (by omega) (by omega)]; omega
  rw [spec_l4Twin.l1, if_pos (by omega), if_pos (by omega), if_pos (by omega), if_pos (by omega), rdI_at l at_ hat, rdI_at l hi (by omega), spec_Higher_f _ _ (by omega) (by omega) k (by omega), Option.bind_some, hw]
  split
  ·exact ih (hi + 1) k (by omega) (by omega) (by omega)
  ·exact twin_j3 l w at_ lo hi hat hlo hh (by omega) hl hb k (by omega)
theorem twin_l0 (l : List S77) (w : Int) (at_ : Nat) (hat : at_ < l.length) (hl : l.length ≤ 1000) (hb : keysB l) : ∀ (lo k : Nat), lo ≤ at_ → 3330000 + lo < k → ∃ r q, spec_l4Twin.l0 k l w (at_ : Int) (lo : Int) ((at_ + 1 : Nat) : Int) = some (r, q) ∧ keysB r := by
 intro lo; have hj1 : ∀ (lo k : Nat), lo ≤ at_ → 3325000 < k → ∃ r q, spec_l4Twin.j1 k l w (at_ : Int) (lo : Int) ((at_ + 1 : Nat) : Int) = some (r, q) ∧ keysB r := by
  intro lo k hlo hk; obtain ⟨k, rfl⟩ : ∃ j, k = j + 1 := ⟨k - 1, by omega⟩
  rw [spec_l4Twin.j1]; exact twin_l1 l w at_ lo hat hlo hl hb (l.length - (at_ + 1)) (at_ + 1) k (by omega) (by omega) (Nat.le_refl _)
 induction lo with
 | zero =>
  intro k hlo hk; obtain ⟨k, rfl⟩ : ∃ j, k = j + 1 := ⟨k - 1, by omega⟩
  rw [spec_l4Twin.l0, if_neg (by omega)]; exact hj1 0 k hlo (by omega)
 | succ lo ih =>
  intro k hlo hk; obtain ⟨k, rfl⟩ : ∃ j, k = j + 1 := ⟨k - 1, by omega⟩
  have h1 : l[at_].f0.size ≤ 300 := hb _ (List.getElem_mem _); have h2 : (l[lo]'(by omega)).f0.size ≤ 300 := hb _ (List.getElem_mem _); have hw : wrap64 (((lo + 1 : Nat) : Int) - 1) = (lo : Int) := by rw [w64D (by omega) (by omega)]; omega
  rw [spec_l4Twin.l0, if_pos (by omega), if_pos (by omega), if_pos (by omega), hw, if_pos (by omega), if_pos (by omega), rdI_at l at_ hat, rdI_at l lo (by omega), spec_Higher_f _ _ (by omega) (by omega) k (by omega), Option.bind_some]
  split
  ·exact ih k (by omega) (by omega)
  ·exact hj1 (lo + 1) k hlo (by omega)
theorem l4Twin_s (l : List S77) (w : Int) (at_ : Nat) (hat : at_ < l.length) (hl : l.length ≤ 1000) (hb : keysB l) (k : Nat) (hk : 3340000 < k) : ∃ r q, spec_l4Twin.f k l w (at_ : Int) = some (r, q) ∧ keysB r := by
 have hw : wrap64 ((at_ : Int) + 1) = ((at_ + 1 : Nat) : Int) := by rw [w64D (by omega) (by omega)]; omega
 unfold spec_l4Twin.f; rw [hw]; exact twin_l0 l w at_ hat hl hb at_ k (Nat.le_refl _) (by omega)
theorem spec_DrawClash_s {L : List Int} (h : Code L) (k : Nat) (hk : 3500000 < k) : ∃ ps qs w, spec_DrawClash.f k L = some (ps, qs, w) ∧ keysB ps ∧ keysB qs := by
 obtain ⟨t, ht, t0, t1⟩ := l1Take_s h 0 16 (by omega) k (by omega); obtain ⟨w, hw, w0, w1⟩ := l2DrawWidth_s h 1 (by omega) k (by omega); obtain ⟨ps, z, hps, z1, z2, hpb, hpl⟩ := l4AnyMap_s h (1 + 1) (by omega) k (by omega); obtain ⟨qs, y, hqs, y1, y2, hqb, hql⟩ := l4Near_s h z (by omega) ps hpb (by omega) k (by omega); unfold spec_DrawClash.f; rw [ht, Option.bind_some]; dsimp only; rw [show (0 : Int) + 1 = 1 from rfl, hw, Option.bind_some]; dsimp only; rw [hps, Option.bind_some]; dsimp only; rw [hqs, Option.bind_some]; dsimp only
 by_cases h13 : 13 ≤ t
 ·rw [if_pos h13]; exact ⟨_, _, _, rfl, hpb, hqb⟩
 rw [if_neg h13, l4MapOk_f ps (keysB_ok hpb) k (by omega), Option.bind_some]
 cases hm : mapOk ps
 ·rw [if_neg (by decide)]; exact ⟨_, _, _, rfl, hpb, hqb⟩
 rw [if_pos rfl]
 by_cases h0 : (ps.length : Int) = 0
 ·rw [if_pos h0]; exact ⟨_, _, _, rfl, hpb, hqb⟩
 rw [if_neg h0]; obtain ⟨a, ha, a0, a1⟩ := l1Take_s h y (ps.length : Int) (by omega) k (by omega); obtain ⟨n, rfl⟩ := Int.eq_ofNat_of_zero_le a0; obtain ⟨r, q, hr, hrb⟩ := l4Twin_s ps 1 n (by omega) (by omega) hpb k (by omega); rw [ha, Option.bind_some]; dsimp only; rw [hr, Option.bind_some]; exact ⟨_, _, _, rfl, hpb, hrb⟩
end Go.Proofs.YtaepebkeijmjgaaDoor.Z
end
section
namespace Go.Proofs.YtaepebkeijmjgaaDoor.Z
open RowKit YtaepebkeijmjgaaDoor
set_option linter.all false
theorem okD_of (l : List S77) : ∀ (d i : Nat), (∀ j, i ≤ j → j < i + d → okAt l j = true) → okD l i d = true
 | 0, i, _ => rfl
 | d + 1, i, h => by
  rw [okD, h i (Nat.le_refl _) (by omega), okD_of l d (i + 1) (fun j h1 h2 => h j (by omega) (by omega))]; rfl
theorem mapOk_iff (l : List S77) : mapOk l = true ↔ l.length ≤ 500 ∧ ∀ j, j < l.length → okAt l j = true := by
 unfold mapOk; rw [Bool.and_eq_true, decide_eq_true_eq]; exact ⟨fun h => ⟨h.1, fun j hj => okD_all l l.length 0 h.2 j (by omega) (by omega)⟩, fun h => ⟨h.1, okD_of l l.length 0 (fun j _ hj => h.2 j (by omega))⟩⟩
theorem getD_take {l : List S77} {t j : Nat} (h : j < t) : (l.take t).getD j zP = l.getD j zP := by
 rw [List.getD_eq_getElem?_getD, List.getD_eq_getElem?_getD, List.getElem?_take, if_pos h]
theorem getD_drop {l : List S77} {t j : Nat} : (l.drop t).getD j zP = l.getD (t + j) zP := by
 rw [List.getD_eq_getElem?_getD, List.getD_eq_getElem?_getD, List.getElem?_drop]
theorem mapOk_take {l : List S77} (h : mapOk l = true) (t : Nat) : mapOk (l.take t) = true := by
 rw [mapOk_iff] at h ⊢; rw [List.length_take]; refine ⟨by omega, fun j hj => ?_⟩; have := h.2 j (by omega); unfold okAt at this ⊢; rw [getD_take (by omega), getD_take (by omega)]; exact this
theorem mapOk_drop {l : List S77} (h : mapOk l = true) (t : Nat) : mapOk (l.drop t) = true := by
 rw [mapOk_iff] at h ⊢; rw [List.length_drop]; refine ⟨by omega, fun j hj => ?_⟩; have := h.2 (t + j) (by omega); unfold okAt at this ⊢; rw [getD_drop, getD_drop]; simp only [Bool.and_eq_true, Bool.or_eq_true, decide_eq_true_eq] at this ⊢; refine ⟨this.1, ?_⟩
 rcases this.2 with h0 | h0
 ·exact .inl (by omega)
 ·by_cases hz : j = 0
  ·exact .inl hz
  ·rw [show t + j - 1 = t + (j - 1) by omega] at h0; exact .inr h0
theorem pair_eta (p q : S77) (h0 : p.f0 = q.f0) (h1 : p.f1 = q.f1) : p = q := by cases p; cases q; cases h0; cases h1; rfl
theorem l4SameMap_loop (ps qs : List S77) (hl : ps.length = qs.length) (hs : ps.length ≤ 500000) : ∀ (d i k : Nat), ps.length = i + d → d < k → spec_l4SameMap.l0 k ps qs (i : Int) = some (decide (ps.drop i = qs.drop i)) := by
 intro d
 induction d with
 | zero =>
  intro i k h hk; obtain ⟨k, rfl⟩ : ∃ j, k = j + 1 := ⟨k - 1, by omega⟩
  simp only [spec_l4SameMap.l0]; rw [if_neg (by omega), List.drop_of_length_le (by omega), List.drop_of_length_le (by omega)]; simp
 | succ d ih =>
  intro i k h hk; obtain ⟨k, rfl⟩ : ∃ j, k = j + 1 := ⟨k - 1, by omega⟩
  simp only [spec_l4SameMap.l0]; rw [if_pos (by omega), if_pos (by omega), if_pos (by omega), rdI_at ps i (by omega), rdI_at qs i (by omega), wN (n := i + 1) (by omega) (by omega), ih (i + 1) k (by omega) (by omega), List.drop_eq_getElem_cons (show i < ps.length by omega), List.drop_eq_getElem_cons (show i < qs.length by omega)]
  by_cases h0 : ps[i].f0 = qs[i].f0
  ·rw [if_pos (listK.mpr h0)]
   by_cases h1 : ps[i].f1 = qs[i].f1
   ·rw [if_pos (listK.mpr h1), pair_eta _ _ h0 h1]; exact congrArg some (by rw [decide_eq_decide]; simp only [List.cons.injEq, true_and])
   ·rw [if_neg (fun e => h1 (listK.mp e)), decide_eq_false (fun e => h1 (by rw [List.cons.injEq] at e; rw [e.1]))]
  ·rw [if_neg (fun e => h0 (listK.mp e)), decide_eq_false (fun e => h0 (by rw [List.cons.injEq] at e; rw [e.1]))]
theorem l4SameMap_f (ps qs : List S77) (hs : ps.length ≤ 500000) (k : Nat) (hk : 500000 < k) : spec_l4SameMap.f k ps qs = some (decide (ps = qs)) := by
 unfold spec_l4SameMap.f
 by_cases hl : ps.length = qs.length
 ·rw [if_pos (by omega)]; exact l4SameMap_loop ps qs hl hs ps.length 0 k (by omega) (by omega)
 ·rw [if_neg (by omega), decide_eq_false (fun e => hl (by rw [e]))]
theorem encs_last (W : Int) (t : Sh S77) (n : Nat) (h : n < (encsSh W t).length) (hn : n + 1 = (encsSh W t).length) : (encsSh W t)[n] = encSh W t := by
 cases t with
 | nil => simp [encsSh] at h
 | node p l r =>
  simp only [encsSh, encSh]; rw [encsSh, List.length_append, List.length_singleton] at hn; rw [List.getElem_append_right (by omega)]; simp
theorem l4Enc_f (W : Nat) (hW1 : 1 ≤ W) (hW2 : W ≤ 32) (l : List S77) (hn : l ≠ []) (hm : mapOk l = true) (k : Nat) (hk : 2200500 < k) : spec_l4Enc.f k l W = some (encSh W (cart abP l)) := by
 unfold spec_l4Enc.f; have hp := mapOk_pair hm; rw [l4Encs_f W hW1 hW2 l.length l k (Nat.le_refl _) hp.1 hp.2 (by omega), Option.bind_some]; dsimp only
 match l, hn with
 | a :: r, _ =>
 have e1 : (encsSh W (cart abP (a :: r))).length = (a :: r).length := by rw [encsSh_length, cart_list _ _ (Nat.le_refl _)]
 have e2 : (a :: r).length = r.length + 1 := List.length_cons; have h5 := hp.1; rw [e1, e2, show wrap64 (((r.length + 1 : Nat) : Int) - 1) = ((r.length : Nat) : Int) from wN (by omega) (by omega), if_pos (by omega), if_pos (by omega)]; refine congrArg some ?_; rw [rd_at _ _ _ (by omega)]; exact encs_last W _ _ (by omega) (by omega)
theorem rootR_eq {l : List S77} {W : Int} (h : mapOk l = true) (hw : isW W = true) : rootR l W = hashSh W (cart abP l) := by unfold rootR; rw [if_pos ⟨h, hw⟩]
theorem l2Text_fC (s : ByteArray) (h : s.size ≤ 1048576) : spec_l2Text.f s = some (nText s) := by
 unfold spec_l2Text.f; rw [if_pos (by omega)]; rfl
theorem clash_rec (W : Nat) (hW1 : 1 ≤ W) (hW2 : W ≤ 32) : ∀ (n : Nat) (l0 l1 : List S77) (k : Nat), l0.length ≤ n → mapOk l0 = true → mapOk l1 = true → Cl W (cart abP l0) (cart abP l1) → 2400000 + 2 * n < k →
  spec_Clash.f k l0 l1 W = some (nText (clashS W (cart abP l0) (cart abP l1)).1, nText (clashS W (cart abP l0) (cart abP l1)).2, true) := by
 intro n
 induction n with
 | zero =>
  intro l0 l1 k hl hm0 hm1 hc hk; obtain rfl := List.eq_nil_of_length_eq_zero (Nat.le_zero.1 hl); obtain ⟨⟨p, l, r, e⟩, _⟩ := hc.nodes hW1 hW2
  cases e
 | succ n ih =>
  intro l0 l1 k hl hm0 hm1 hc hk; obtain ⟨k, rfl⟩ : ∃ j, k = j + 2 := ⟨k - 2, by omega⟩
  have hw : isW (W : Int) = true := by unfold isW; simp; omega
  have hp0 := mapOk_pair hm0; have hp1 := mapOk_pair hm1; have hk0 : keysOk l0 := fun p hp => by have := hp0.2 p hp; omega
  have hk1 : keysOk l1 := fun p hp => by have := hp1.2 p hp; omega
  have hne : l0 ≠ l1 := fun e => hc.ne (by rw [e])
  have h1 := hc.hash
  match l0, l1 with
  | [], _ => obtain ⟨⟨p, l, r, e⟩, _⟩ := hc.nodes hW1 hW2; cases e
  | _ :: _, [] => obtain ⟨_, ⟨p, l, r, e⟩⟩ := hc.nodes hW1 hW2; cases e
  | a :: r, b :: s =>
  have ha := bestF_lt abP a r; have hb := bestF_lt abP b s; have h50 := hp0.1; have h51 := hp1.1; rw [spec_Clash.f, l4MapOk_f _ hk0 _ (by omega), Option.bind_some, hm0, if_pos rfl, l4MapOk_f _ hk1 _ (by omega), Option.bind_some, hm1, if_pos rfl, l1Width_f, Option.bind_some, if_pos ((widB_isW _).trans hw), l4SameMap_f _ _ (by omega) _ (by omega), Option.bind_some, decide_eq_false hne, if_neg (by decide), spec_Root_f _ _ hk0 _ (by omega), Option.bind_some, spec_Root_f _ _ hk1 _ (by omega), Option.bind_some, rootR_eq hm0 hw, rootR_eq hm1 hw, h1]; rw [show ((hashSh (W : Int) (cart abP (b :: s))).toList != (hashSh (W : Int) (cart abP (b :: s))).toList) = false by simp, spec_Clash.j0, if_neg (by decide), l4Enc_f W hW1 hW2 _ (by simp) hm0 _ (by omega), Option.bind_some, l4Enc_f W hW1 hW2 _ (by simp) hm1 _ (by omega), Option.bind_some]; have hca := cart_cons abP a r; have hcb := cart_cons abP b s; rw [hca, hcb] at hc
  by_cases he : encSh W (cart abP (a :: r)) = encSh W (cart abP (b :: s))
  ·rw [if_pos (listK.mpr he), l4Top_f a r (by omega) hk0 _ (by omega), Option.bind_some, l4Top_f b s (by omega) hk1 _ (by omega), Option.bind_some, if_pos (by omega), if_pos (by omega), if_pos (by omega), if_pos (by omega), Int.toNat_natCast, Int.toNat_natCast, l4SameMap_f _ _ (by rw [List.length_take]; omega) _ (by omega), Option.bind_some]; have he2 := he; rw [hca, hcb] at he2 ⊢; rw [clashS, if_pos he2]
   by_cases hs : (a :: r).take (bestF abP a 0 1 r).2 = (b :: s).take (bestF abP b 0 1 s).2
   ·have hs2 : (cart abP ((a :: r).take (bestF abP a 0 1 r).2)).list = (cart abP ((b :: s).take (bestF abP b 0 1 s).2)).list := by rw [cart_list _ _ (Nat.le_refl _), cart_list _ _ (Nat.le_refl _), hs]
    rw [decide_eq_true hs, if_pos rfl, if_pos hs2, wN (n := (bestF abP a 0 1 r).2 + 1) (by omega) (by omega), wN (n := (bestF abP b 0 1 s).2 + 1) (by omega) (by omega), if_pos (by omega), if_pos (by omega), if_pos (by omega), if_pos (by omega), Int.toNat_natCast, Int.toNat_natCast, ih _ _ _ (by rw [List.length_drop]; omega) (mapOk_drop hm0 _) (mapOk_drop hm1 _) (hc.right hW1 hW2 he2 hs2) (by omega), Option.bind_some]
   ·have hs2 : (cart abP ((a :: r).take (bestF abP a 0 1 r).2)).list ≠ (cart abP ((b :: s).take (bestF abP b 0 1 s).2)).list := by rw [cart_list _ _ (Nat.le_refl _), cart_list _ _ (Nat.le_refl _)]; exact hs
    rw [decide_eq_false hs, if_neg (by decide), if_neg hs2, ih _ _ _ (by rw [List.length_take]; omega) (mapOk_take hm0 _) (mapOk_take hm1 _) (hc.left hW1 hW2 he2 hs2) (by omega), Option.bind_some]
  ·rw [if_neg (fun e => he (listK.mp e)), l2Text_fC _ (by rw [hca]; simp only [encSh]; have := encNode_size_le (bestF abP a 0 1 r).1.f0 (bestF abP a 0 1 r).1.f1 (hashSh W (cart abP ((a :: r).take (bestF abP a 0 1 r).2))) (hashSh W (cart abP ((a :: r).drop ((bestF abP a 0 1 r).2 + 1)))) W; omega), Option.bind_some, l2Text_fC _ (by rw [hcb]; simp only [encSh]; have := encNode_size_le (bestF abP b 0 1 s).1.f0 (bestF abP b 0 1 s).1.f1 (hashSh W (cart abP ((b :: s).take (bestF abP b 0 1 s).2))) (hashSh W (cart abP ((b :: s).drop ((bestF abP b 0 1 s).2 + 1)))) W; omega), Option.bind_some]; rw [hca, hcb] at he ⊢; rw [clashS, if_neg he]
theorem spec_Clash_f (l0 l1 : List S77) (W : Int) (hk0 : keysOk l0) (hk1 : keysOk l1) (k : Nat) (hk : 2900000 < k) : spec_Clash.f k l0 l1 W = some (clashR l0 l1 W) := by
 unfold clashR
 by_cases hall : mapOk l0 = true ∧ mapOk l1 = true ∧ isW W = true ∧ l0 ≠ l1 ∧ hashSh W (cart abP l0) = hashSh W (cart abP l1)
 ·rw [if_pos hall]; obtain ⟨hm0, hm1, hw, he, hh⟩ := hall; have hp0 := mapOk_pair hm0; have hp1 := mapOk_pair hm1; unfold isW at hw; simp only [Bool.and_eq_true, decide_eq_true_eq] at hw; obtain ⟨n, rfl⟩ : ∃ n : Nat, W = (n : Int) := ⟨W.toNat, by omega⟩
  exact clash_rec n (by omega) (by omega) l0.length l0 l1 k (Nat.le_refl _) hm0 hm1 ⟨hh, by rw [cart_list _ _ (Nat.le_refl _), cart_list _ _ (Nat.le_refl _)]; exact he, by unfold okT; rw [cart_list _ _ (Nat.le_refl _)]; exact hp0.2, by unfold okT; rw [cart_list _ _ (Nat.le_refl _)]; exact hp1.2, by rw [cart_list _ _ (Nat.le_refl _)]; exact hp0.1, by rw [cart_list _ _ (Nat.le_refl _)]; exact hp1.1⟩ (by omega)
 ·rw [if_neg hall]; obtain ⟨k, rfl⟩ : ∃ j, k = j + 2 := ⟨k - 2, by omega⟩
  have hj : ∀ l0 l1 : List S77, spec_Clash.j0 (k + 1) l0 l1 W true = some (⟨#[]⟩, ⟨#[]⟩, false) := fun l0 l1 => by rw [spec_Clash.j0, if_pos rfl]
  rw [spec_Clash.f, l4MapOk_f _ hk0 _ (by omega), Option.bind_some]
  cases hm0 : mapOk l0
  ·rw [if_neg (by decide), hj]
  rw [if_pos rfl, l4MapOk_f _ hk1 _ (by omega), Option.bind_some]
  cases hm1 : mapOk l1
  ·rw [if_neg (by decide), hj]
  rw [if_pos rfl, l1Width_f, Option.bind_some, widB_isW]
  cases hw : isW W
  ·rw [if_neg (by decide), hj]
  rw [if_pos rfl, l4SameMap_f _ _ (by have := mapOk_pair hm0; omega) _ (by omega), Option.bind_some]
  by_cases he : l0 = l1
  ·rw [decide_eq_true he, if_pos rfl, hj]
  rw [decide_eq_false he, if_neg (by decide), spec_Root_f _ _ hk0 _ (by omega), Option.bind_some, spec_Root_f _ _ hk1 _ (by omega), Option.bind_some, rootR_eq hm0 hw, rootR_eq hm1 hw]; rw [show ((hashSh W (cart abP l0)).toList != (hashSh W (cart abP l1)).toList) = true by
   rw [bne_iff_ne]; exact fun e => hall ⟨hm0, hm1, hw, he, listK.mp e⟩, hj]
end Go.Proofs.YtaepebkeijmjgaaDoor.Z
namespace Go.Proofs.YtaepebkeijmjgaaDoor
open RowKit YtaepebkeijmjgaaDoor.Z
end Go.Proofs.YtaepebkeijmjgaaDoor
end
section
namespace Go.Proofs.YtaepebkeijmjgaaDoor.Z
open RowKit YtaepebkeijmjgaaDoor YtaepebkeijmjgaaDoorW.PrintWords YtaepebkeijmjgaaDoorW.PrintLast
set_option linter.all false
theorem clash_good {W : Nat} (h1 : 1 ≤ W) (h2 : W ≤ 32) : ∀ (a b : Sh S77), Cl W a b → (clashS W a b).1 ≠ (clashS W a b).2 ∧ digV (nText (clashS W a b).1) (W : Int) = digV (nText (clashS W a b).2) (W : Int) ∧ (clashS W a b).1.size ≤ 4000 ∧ (clashS W a b).2.size ≤ 4000 := by
 intro a
 induction a with
 | nil =>
  intro b h; obtain ⟨⟨p, l, r, e⟩, _⟩ := h.nodes h1 h2
  cases e
 | node p l r ihl ihr =>
  intro b h; obtain ⟨_, q, l', r', rfl⟩ := h.nodes h1 h2; rw [clashS]
  by_cases he : encSh W (.node p l r) = encSh W (.node q l' r')
  ·rw [if_pos he]
   by_cases hl : l.list = l'.list
   ·rw [if_pos hl]; exact ihr _ (h.right h1 h2 he hl)
   ·rw [if_neg hl]; exact ihl _ (h.left h1 h2 he hl)
  ·rw [if_neg he]; have hw : widB (W : Int) = true := by unfold widB; rw [decide_eq_true_eq]; omega
   have hh := h.hash; rw [hashSh, hashSh] at hh; refine ⟨he, ?_, ?_, ?_⟩
   ·rw [digV_yes hw, digV_yes hw]; exact hh
   ·simp only [encSh]; exact encNode_size_le _ _ _ _ _
   ·simp only [encSh]; exact encNode_size_le _ _ _ _ _
theorem nText_inj {a b : ByteArray} (h : nText a = nText b) : a = b := by
 unfold nText at h; have h2 := congrArg (fun s : ByteArray => s.data.toList) h; simp at h2; exact ByteArray.ext h2
theorem nText_sz (s : ByteArray) : (nText s).size = 1 + s.size := by unfold nText; rw [ByteArray.size_append]; rfl
theorem laws_FnClash_f (L : List Int) (hb : ∀ x ∈ L, 0 ≤ x ∧ x < 256) : laws_FnClash.f 4000000 L = some true := by
 unfold laws_FnClash.f
 by_cases hl : (L.length : Int) > 1048576
 ·rw [if_pos hl]
 rw [if_neg hl]; obtain ⟨ps, qs, w, hd, hps, hqs⟩ := spec_DrawClash_s (L := L) ⟨by omega, hb⟩ 4000000 (by omega); have k1 := keysB_ok hps; have k2 := keysB_ok hqs; rw [hd, Option.bind_some, Option.bind_some]; dsimp only; rw [spec_Clash_f ps qs w k1 k2 _ (by omega), Option.bind_some]; have hI : impl_Clash.f ps qs w = some (clashR ps qs w) := rfl; obtain ⟨K, hK⟩ : ∃ K : Nat, 4000000 = K + 1 := ⟨3999999, rfl⟩
 by_cases hall : mapOk ps = true ∧ mapOk qs = true ∧ isW w = true ∧ ps ≠ qs ∧ hashSh w (cart abP ps) = hashSh w (cart abP qs)
 ·have hr : clashR ps qs w = (nText (clashS w (cart abP ps) (cart abP qs)).1, nText (clashS w (cart abP ps) (cart abP qs)).2, true) := by unfold clashR; rw [if_pos hall]
  obtain ⟨hm0, hm1, hw, he, hh⟩ := hall; have hp0 := mapOk_pair hm0; have hp1 := mapOk_pair hm1; have hw' := hw; unfold isW at hw'; simp only [Bool.and_eq_true, decide_eq_true_eq] at hw'; obtain ⟨n, rfl⟩ : ∃ n : Nat, w = (n : Int) := ⟨w.toNat, by omega⟩
  have hcl : Cl n (cart abP ps) (cart abP qs) := ⟨hh, by rw [cart_list _ _ (Nat.le_refl _), cart_list _ _ (Nat.le_refl _)]; exact he, by unfold okT; rw [cart_list _ _ (Nat.le_refl _)]; exact hp0.2, by unfold okT; rw [cart_list _ _ (Nat.le_refl _)]; exact hp1.2, by rw [cart_list _ _ (Nat.le_refl _)]; exact hp0.1, by rw [cart_list _ _ (Nat.le_refl _)]; exact hp1.1⟩
  obtain ⟨⟨p, l, r, hnode⟩, _⟩ := hcl.nodes (by omega) (by omega); have hg := clash_good (by omega) (by omega) _ _ hcl; obtain ⟨⟨x, y⟩, hxy⟩ : ∃ c, clashS (n : Int) (cart abP ps) (cart abP qs) = c := ⟨_, rfl⟩
  rw [hxy] at hg hr; dsimp only at hg hr; have hsz : (rootR ps (n : Int)).size = n := by rw [rootR_eq hm0 hw, hnode, hashSh_size n (by omega)]
  have hroot : rootR ps (n : Int) = rootR qs (n : Int) := by rw [rootR_eq hm0 hw, rootR_eq hm1 hw, hh]
  rw [hr]; dsimp only; rw [if_pos rfl, spec_Root_f ps n k1 _ (by omega), Option.bind_some, if_neg (by omega)]; unfold impl_Root.f; rw [Option.bind_some, Option.bind_some, hroot, bne_self_eq_false, hK, laws_FnClash.j0, if_neg (by decide), hI, hr, Option.bind_some]; dsimp only; rw [if_neg (by decide), if_pos rfl, if_neg (fun e => hg.1 (nText_inj (listK.mp e))), spec_Digest_f _ _ (by rw [nText_sz]; omega) K (by rw [nText_sz]; omega), Option.bind_some, spec_Digest_f _ _ (by rw [nText_sz]; omega) K (by rw [nText_sz]; omega), Option.bind_some, hg.2.1, beq_self_eq_true]
 ·have hr : clashR ps qs w = (⟨#[]⟩, ⟨#[]⟩, false) := by unfold clashR; rw [if_neg hall]
  rw [hr]; dsimp only; rw [if_neg (by decide), hK, laws_FnClash.j0, if_neg (by decide), hI, hr, Option.bind_some]; dsimp only; rw [if_neg (by decide), if_neg (by decide), if_pos (show ((ByteArray.size (⟨#[]⟩ : ByteArray) : Nat) : Int) = 0 from rfl)]; rfl
end Go.Proofs.YtaepebkeijmjgaaDoor.Z
namespace Go.Proofs.YtaepebkeijmjgaaDoor
open RowKit YtaepebkeijmjgaaDoor.Z
theorem lawFnClash (A0 : Option Addr) (c0 : Nat) (l0 : List Int) (w : World) (hr0 : YtaepebkeijmjgaaDoorW.PrintWords.Kd.C (YtaepebkeijmjgaaDoorW.PrintWords.Kd.int .u8) w A0 l0.length l0) (hc0 : l0.length ≤ c0) (_hl : c0 ≤ maxLen) (hs : ∀ x ∈ l0, 0 ≤ x ∧ x < 256) (hTab : Z.Tab w) :
  Calls Tryd.prog 7 #[.slice A0 l0.length c0] w fun e w' => e = .returned (.bool true) ∧ Below w.heap.size w w' :=
 laws_FnClash.calls 4000000 A0 c0 l0 true w hTab hr0 hc0 (laws_FnClash_f l0 hs)
end Go.Proofs.YtaepebkeijmjgaaDoor
end
section
namespace Go.Proofs.YtaepebkeijmjgaaDoor.Z
open RowKit Go.ChangeShapes Go.WideShapes Go.ChangeAt YtaepebkeijmjgaaDoorW.PrintWords
set_option linter.all false
section
variable {H : Type} {enc : TypeId × Value → H} {P : Program} {W : World} {base : Nat} {spare : Nat → Bool} {held : Bool}
theorem add_add (a : Addr) (i j : Nat) : (a.add i).add j = a.add (i + j) := by
 unfold Addr.add
 split <;> split <;> simp_all <;> omega
theorem list_of {α : Type} (Q : Nat → α → Prop) : ∀ n, (∀ i, i < n → ∃ x, Q i x) → ∃ l : List α, l.length = n ∧ ∀ i x, l[i]? = some x → Q i x
 | 0, _ => ⟨[], rfl, fun i x h => by simp at h⟩
 | n + 1, h => by
  obtain ⟨l, hl, hq⟩ := list_of Q n (fun i hi => h i (by omega)); obtain ⟨x, hx⟩ := h n (by omega); refine ⟨l ++ [x], by simp [hl], fun i y hy => ?_⟩
  rcases Nat.lt_or_ge i l.length with h1 | h1
  ·rw [List.getElem?_append_left h1] at hy; exact hq i y hy
  ·rw [List.getElem?_append_right h1] at hy
   rcases Nat.eq_zero_or_pos (i - l.length) with h2 | h2
   ·rw [h2] at hy; obtain rfl := Option.some.inj hy; obtain rfl : i = n := by omega
    exact hx
   ·rw [List.getElem?_eq_none (by simp; omega)] at hy; cases hy
theorem open_kd {α : Type} (d : Kd α) (Q : α → Prop) {t e : TypeId} {fuel : Nat} {v : Value} {x : DataW H × List MemPlace} (ht : P.underlying t = some (.slice e)) (hc : P.cellsOf e = d.sz)
  (hK : ∀ cs n y, cs.length = d.sz → DataW.trod enc P W base spare held n e cs = some y → ∃ x, d.K W x cs ∧ Q x) (h : DataW.trod enc P W base spare held fuel t [v] = some x) :
  ∃ A c, ∃ l : List α, v = .slice A l.length c ∧ l.length ≤ c ∧ c ≤ maxLen ∧ d.C W A l.length l ∧ ∀ x ∈ l, Q x := by
 rcases DataW.trod_slice ht h with ⟨hcs, _⟩ | ⟨a, len, cap, elems, rest, m, _, hcs, hx, _, hl, hcap, hlen, hel, _⟩
 ·simp at hcs; subst hcs; refine ⟨none, 0, [], rfl, Nat.le_refl _, Nat.zero_le _, ⟨rfl, Nat.zero_le _, fun h => absurd h (Nat.lt_irrefl _)⟩, fun x hx => by cases hx⟩
 ·simp at hcs; subst hcs; have hp : ∀ i, i < len → ∃ x : α, ∃ cs, W.cells? base (a.add (i * d.sz)) d.sz = some cs ∧ cs.length = d.sz ∧ d.K W x cs ∧ Q x := by
   intro i hi; have h1 := hel i hi; rw [List.getElem?_eq_getElem (by omega), hc] at h1; obtain ⟨cs, hcs, hy⟩ := Option.bind_eq_some_iff.1 h1; have hln := (World.cells?_some hcs).2.1; obtain ⟨x, hx1, hx2⟩ := hK cs m _ hln hy; exact ⟨x, cs, hcs, hln, hx1, hx2⟩
  obtain ⟨l, hll, hq⟩ := list_of _ len hp; subst hll; refine ⟨some a, cap, l, rfl, hl, hcap, ⟨rfl, by unfold maxLen at hcap; omega, fun _ => ⟨a, rfl, fun j p hj => ?_⟩⟩, fun x hx => ?_⟩
  ·obtain ⟨cs, h1, h2, h3, _⟩ := hq j p hj; refine ⟨cs, h2, h3, fun i u hu => ?_⟩; have h4 := (World.cells?_some h1).2.2 i (by rw [← h2]; exact (List.getElem?_eq_some_iff.1 hu).1); rw [← add_add]; exact h4.trans hu
  ·obtain ⟨i, hi, rfl⟩ := List.getElem_of_mem hx; obtain ⟨cs, _, _, _, h5⟩ := hq i _ (List.getElem?_eq_getElem hi); exact h5
theorem open_code {t e : TypeId} {fuel : Nat} {v : Value} {x : DataW H × List MemPlace} (ht : P.underlying t = some (.slice e)) (he : P.underlying e = some (.int .u8)) (hc : P.cellsOf e = 1) (h : DataW.trod enc P W base spare held fuel t [v] = some x) :
  ∃ A c, ∃ l : List Int, v = .slice A l.length c ∧ l.length ≤ c ∧ c ≤ maxLen ∧ Kd.C (Kd.int .u8) W A l.length l ∧ ∀ s ∈ l, 0 ≤ s ∧ s < 256 :=
 open_kd (Kd.int .u8) (fun s => 0 ≤ s ∧ s < 256) ht hc (fun cs n y hl hy => by
  obtain ⟨s, rfl, _, hs⟩ := DataW.trod_int he hy; refine ⟨s, rfl, ?_⟩; simp [Lit.wf, IntKind.min, IntKind.max, IntKind.signed, IntKind.bits] at hs; omega) h
end
end Go.Proofs.YtaepebkeijmjgaaDoor.Z
end
