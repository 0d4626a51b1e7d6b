/- Own texts and the print's words that they use, joined by a program of this session. -/
import Derived.Test.YtmfejehhfmaodabDoorYFnExactPoolFind26
import Derived.Test.YtmfejehhfmaodabDoorYFnExactPoolFind28
import Derived.Test.YtmfejehhfmaodabDoorYFnExactPoolFind0
import Derived.ProofKit
import Derived.OpenShut
section
namespace Go.Proofs.YtmfejehhfmaodabDoor.Z
open Go.RowKit Go.Proofs.YtmfejehhfmaodabDoor Go.Proofs.YtmfejehhfmaodabDoorW.PrintWords Go.Proofs.YtmfejehhfmaodabDoorW.PrintLast
set_option linter.unusedVariables false
set_option linter.unusedSimpArgs false
theorem wN {x : Int} {n : Nat} (h : x = (n : Int)) (hn : n ≤ 9223372036854775807) : wrap64 x = (n : Int) := by rw [h]; unfold wrap64; omega
theorem rd_at {α : Type} (d : α) (l : List α) (i : Nat) (h : i < l.length) : rdOf d l (i : Int) = l[i] := by
  unfold rdOf; rw [Int.toNat_natCast, List.getD_eq_getElem?_getD, List.getElem?_eq_getElem h]; rfl
theorem toStringS_loop (l : List ByteArray) (hl : l.length ≤ 4294967296) : ∀ (d i k : Nat), l.length = i + d → d < k → laws_toStringS.l0 k l (l.take i ++ List.replicate (l.length - i) ⟨#[]⟩) (i : Int) = some l := by
  intro d
  induction d with
  | zero =>
    intro i k h hk
    obtain ⟨k, rfl⟩ : ∃ j, k = j + 1 := ⟨k - 1, by omega⟩
    simp only [laws_toStringS.l0]
    rw [if_neg (by omega), List.take_of_length_le (by omega), show l.length - i = 0 by omega, List.replicate_zero, List.append_nil]
  | succ d ih =>
    intro i k h hk
    obtain ⟨k, rfl⟩ : ∃ j, k = j + 1 := ⟨k - 1, by omega⟩
    simp only [laws_toStringS.l0]
    have hL : (l.take i ++ List.replicate (l.length - i) (⟨#[]⟩ : ByteArray)).length = l.length := by rw [List.length_append, List.length_take, List.length_replicate]; omega
    rw [if_pos (by omega), if_pos (by omega), if_pos (by rw [hL]; omega), rd_at _ _ _ (by omega), Int.toNat_natCast, wN (n := i + 1) (by omega) (by omega)]
    have := ih (i + 1) k (by omega) (by omega)
    rw [show l.take (i + 1) ++ List.replicate (l.length - (i + 1)) (⟨#[]⟩ : ByteArray) = (l.take i ++ List.replicate (l.length - i) (⟨#[]⟩ : ByteArray)).set i l[i] by
      rw [List.set_append_right _ _ (by rw [List.length_take]; omega), List.length_take, Nat.min_eq_left (by omega), Nat.sub_self, show l.length - i = (l.length - (i + 1)) + 1 by omega, List.replicate_succ, List.set_cons_zero, List.take_succ_eq_append_getElem (by omega), List.append_assoc]
      rfl] at this
    exact this
theorem toStringS_f (l : List ByteArray) (hl : l.length ≤ 4294967296) (k : Nat) (hk : l.length < k) : laws_toStringS.f k l = some l := by
  unfold laws_toStringS.f
  rw [if_pos (by omega), if_pos (by omega), Int.toNat_natCast]
  have := toStringS_loop l hl l.length 0 k (by omega) hk
  rw [List.take_zero, List.nil_append, Nat.sub_zero] at this
  exact this
theorem toPool_f (W : Int) (l : List ByteArray) (hl : l.length ≤ 4294967296) (k : Nat) (hk : l.length < k) : laws_toPool.f k W l = some (W, l) := by
  unfold laws_toPool.f
  rw [toStringS_f l hl k hk]; rfl
theorem szStringS_loop (l : List ByteArray) (hs : ∀ s ∈ l, s.size ≤ 9223372036854775807) : ∀ (d i k : Nat) (a : Int), l.length = i + d → d < k → 0 ≤ a → a ≤ 1048576 → l.length ≤ 4294967296 →
    ∃ t, laws_szStringS.l0 k l a (i : Int) = some t ∧ t ≤ a ∧ (0 ≤ t → ∀ j (h : j < l.length), i ≤ j → (l[j].size : Int) ≤ a) := by
  intro d
  induction d with
  | zero =>
    intro i k a h hk h0 h1 hl
    obtain ⟨k, rfl⟩ : ∃ j, k = j + 1 := ⟨k - 1, by omega⟩
    refine ⟨a, ?_, by omega, fun _ j hj hij => by omega⟩
    simp only [laws_szStringS.l0]
    rw [if_neg (by omega)]
  | succ d ih =>
    intro i k a h hk h0 h1 hl
    obtain ⟨k, rfl⟩ : ∃ j, k = j + 1 := ⟨k - 1, by omega⟩
    simp only [laws_szStringS.l0]
    have hsi := hs l[i] (List.getElem_mem _)
    rw [if_pos (by omega), if_pos (by omega), rd_at _ _ _ (by omega)]
    obtain ⟨z, hz⟩ : ∃ z : Nat, l[i].size = z := ⟨_, rfl⟩
    rw [hz] at hsi
    rw [hz]
    have hw : wrap64 (a - (z : Int)) = a - (z : Int) := by unfold wrap64; omega
    rw [hw]
    by_cases hn : a - (z : Int) < 0
    · rw [if_pos hn]
      exact ⟨-1, rfl, by omega, fun h => by omega⟩
    · rw [if_neg hn, wN (n := i + 1) (by omega) (by omega)]
      obtain ⟨t, h3, h4, h5⟩ := ih (i + 1) k (a - (z : Int)) (by omega) (by omega) (by omega) (by omega) hl
      refine ⟨t, h3, by omega, fun ht j hj hij => ?_⟩
      rcases Nat.eq_or_lt_of_le hij with e | e
      · subst e; rw [hz]; omega
      · have := h5 ht j hj (by omega); omega
theorem szStringS_f (l : List ByteArray) (hs : ∀ s ∈ l, s.size ≤ 9223372036854775807) (hl : l.length ≤ 9223372036854775807) (a : Int) (h0 : 0 ≤ a) (h1 : a ≤ 1048576) (k : Nat) (hk : 1048577 < k) :
    ∃ t, laws_szStringS.f k l a = some t ∧ (0 ≤ t → t ≤ a ∧ (l.length : Int) ≤ a ∧ ∀ s ∈ l, (s.size : Int) ≤ a) := by
  unfold laws_szStringS.f
  have hw : wrap64 (a - (l.length : Int)) = a - (l.length : Int) := by unfold wrap64; omega
  rw [hw]
  by_cases hn : a - (l.length : Int) < 0
  · rw [if_pos hn]; exact ⟨-1, rfl, fun h => by omega⟩
  · rw [if_neg hn]
    obtain ⟨t, h3, h4, h5⟩ := szStringS_loop l hs l.length 0 k (a - l.length) (by omega) (by omega) (by omega) (by omega) (by omega)
    refine ⟨t, h3, fun ht => ⟨by omega, by omega, fun s hs => ?_⟩⟩
    obtain ⟨j, hj, rfl⟩ := List.getElem_of_mem hs
    have := h5 ht j hj (by omega)
    omega
theorem szPool_f (W : Int) (l : List ByteArray) (hs : ∀ s ∈ l, s.size ≤ 9223372036854775807) (hl : l.length ≤ 9223372036854775807) (k : Nat) (hk : 1048577 < k) :
    ∃ t, laws_szPool.f k W l 1048576 = some t ∧ (0 ≤ t → t ≤ 1048576 ∧ small l) := by
  obtain ⟨t, h1, h2⟩ := szStringS_f l hs hl 1048576 (by omega) (by omega) k hk
  unfold laws_szPool.f
  rw [h1, Option.bind_some]
  by_cases hn : t < 0
  · rw [if_pos hn]; exact ⟨-1, rfl, fun h => by omega⟩
  · rw [if_neg hn]
    obtain ⟨h3, h4, h5⟩ := h2 (by omega)
    exact ⟨t, rfl, fun _ => ⟨h3, by omega, fun s hs => by have := h5 s hs; omega⟩⟩
theorem eqStringS_loop (l : List ByteArray) (hl : l.length ≤ 4294967296) : ∀ (d i k : Nat), l.length = i + d → d < k → laws_eqStringS.l0 k l l (i : Int) = some true := by
  intro d
  induction d with
  | zero =>
    intro i k h hk
    obtain ⟨k, rfl⟩ : ∃ j, k = j + 1 := ⟨k - 1, by omega⟩
    simp only [laws_eqStringS.l0]
    rw [if_neg (by omega)]
  | succ d ih =>
    intro i k h hk
    obtain ⟨k, rfl⟩ : ∃ j, k = j + 1 := ⟨k - 1, by omega⟩
    simp only [laws_eqStringS.l0, if_true]
    rw [if_pos (by omega), if_pos (by omega), if_pos (by omega), wN (n := i + 1) (by omega) (by omega)]
    exact ih (i + 1) k (by omega) (by omega)
theorem eqStringS_f (l : List ByteArray) (hl : l.length ≤ 4294967296) (k : Nat) (hk : l.length < k) : laws_eqStringS.f k l l = some true := by
  unfold laws_eqStringS.f
  rw [if_pos rfl]
  exact eqStringS_loop l hl l.length 0 k (by omega) hk
theorem eqPool_f (W : Int) (l : List ByteArray) (hl : l.length ≤ 4294967296) (k : Nat) (hk : l.length < k) : laws_eqPool.f k W l W l = some true := by
  unfold laws_eqPool.f
  rw [if_pos rfl, eqStringS_f l hl k hk, Option.bind_some, if_pos rfl]
end Go.Proofs.YtmfejehhfmaodabDoor.Z
end
section
namespace Go.Proofs.YtmfejehhfmaodabDoor.Z
open Go.RowKit Go.Proofs.YtmfejehhfmaodabDoor Go.Proofs.YtmfejehhfmaodabDoorW.PrintWords Go.Proofs.YtmfejehhfmaodabDoorW.PrintLast
set_option linter.unusedVariables false
set_option linter.unusedSimpArgs false
theorem l3PoolOk_f (W : Int) (l : List ByteArray) : spec_l3PoolOk.f W l = some (poolOk W l) := by
  unfold spec_l3PoolOk.f
  rw [l1Width_f, Option.bind_some]
  unfold poolOk widB
  by_cases h1 : 1 ≤ W ∧ W ≤ 32
  · rw [decide_eq_true h1, if_pos rfl]
    refine congrArg some ?_
    rw [decide_eq_decide]; omega
  · rw [decide_eq_false h1, if_neg (by decide), decide_eq_false (by omega)]
def hashS (W : Int) (l : List ByteArray) : List ByteArray := l.map fun s => digV (nText s) W
theorem l3Hashes_loop (W : Int) (l : List ByteArray) (hl : l.length ≤ 1048576) (hs : ∀ s ∈ l, s.size ≤ 1048576) : ∀ (d i k : Nat), l.length = i + d → d + 1050000 < k → spec_l3Hashes.l0 k (hashS W (l.take i)) (i : Int) W l = some (hashS W l) := by
  intro d
  induction d with
  | zero =>
    intro i k h hk
    obtain ⟨k, rfl⟩ : ∃ j, k = j + 1 := ⟨k - 1, by omega⟩
    simp only [spec_l3Hashes.l0]
    rw [if_neg (by omega), List.take_of_length_le (by omega)]
  | succ d ih =>
    intro i k h hk
    obtain ⟨k, rfl⟩ : ∃ j, k = j + 1 := ⟨k - 1, by omega⟩
    simp only [spec_l3Hashes.l0]
    have hsi := hs l[i] (List.getElem_mem _)
    have hn : (nText l[i]).size = 1 + l[i].size := by unfold nText; rw [ByteArray.size_append]; rfl
    have ht : spec_l2Text.f l[i] = some (nText l[i]) := by unfold spec_l2Text.f; rw [if_pos (by omega)]; rfl
    rw [if_pos (by omega), if_pos (by omega), rd_at _ _ _ (by omega), ht, Option.bind_some, spec_Digest_f _ _ (by omega) _ (by omega), Option.bind_some]
    have hlen : (hashS W (l.take i)).length = i := by unfold hashS; rw [List.length_map, List.length_take]; omega
    rw [if_pos (by omega), wN (n := i + 1) (by omega) (by omega)]
    have := ih (i + 1) k (by omega) (by omega)
    rw [List.take_succ_eq_append_getElem (by omega)] at this
    unfold hashS at this ⊢
    rw [List.map_append] at this
    exact this
theorem l3Hashes_f (W : Int) (l : List ByteArray) (hl : small l) (k : Nat) (hk : 2100000 < k) : spec_l3Hashes.f k W l = some (hashS W l) := by
  unfold spec_l3Hashes.f
  exact l3Hashes_loop W l hl.1 hl.2 l.length 0 k (by omega) (by have := hl.1; omega)
def firstS : List ByteArray → ByteArray → Option Nat
  | [], _ => none
  | h :: r, s => if h.toList = s.toList then some 0 else (firstS r s).map (· + 1)
def finR : ByteArray × ByteArray × ByteArray × ByteArray × Bool → ByteArray × ByteArray × ByteArray × ByteArray × Int
  | (a, b, c, d, ok) => if ok = true then (a, b, c, d, 0) else (⟨#[]⟩, ⟨#[]⟩, ⟨#[]⟩, ⟨#[]⟩, 3)
def findS (W : Int) (l H : List ByteArray) (s : ByteArray) (i : Nat) : ByteArray × ByteArray × ByteArray × ByteArray × Int :=
  match firstS H s with
  | none => (⟨#[]⟩, ⟨#[]⟩, ⟨#[]⟩, ⟨#[]⟩, 2)
  | some j => finR (decT (decI (l.getD (i + j) ⟨#[]⟩) W))
theorem l3Find_loop (W : Int) (l H : List ByteArray) (s : ByteArray) (hH : H.length = l.length) (hl : l.length ≤ 1048576) (hs : ∀ s ∈ l, s.size ≤ 1048576) : ∀ (d i k : Nat), l.length = i + d → d < k → spec_l3Find.l0 k H s (i : Int) W l = some (findS W l (H.drop i) s i) := by
  intro d
  induction d with
  | zero =>
    intro i k h hk
    obtain ⟨k, rfl⟩ : ∃ j, k = j + 1 := ⟨k - 1, by omega⟩
    simp only [spec_l3Find.l0]
    rw [if_neg (by omega), List.drop_of_length_le (by omega)]
    rfl
  | succ d ih =>
    intro i k h hk
    obtain ⟨k, rfl⟩ : ∃ j, k = j + 1 := ⟨k - 1, by omega⟩
    simp only [spec_l3Find.l0]
    have hd : H.drop i = H[i] :: H.drop (i + 1) := List.drop_eq_getElem_cons (by omega)
    rw [if_pos (by omega), if_pos (by omega), rd_at _ H _ (by omega), hd]
    by_cases he : H[i].toList = s.toList
    · rw [if_pos he, if_pos (by omega), rd_at _ l _ (by omega)]
      have hsi := hs l[i] (List.getElem_mem _)
      unfold spec_DecodeNode.f
      rw [if_pos (by omega), Option.bind_some]
      unfold findS firstS
      rw [if_pos he]
      dsimp only
      rw [Nat.add_zero, List.getD_eq_getElem?_getD, List.getElem?_eq_getElem (by omega), Option.getD_some]
      obtain ⟨a, b, c, d, ok⟩ := decT (decI l[i] W)
      cases ok <;> rfl
    · rw [if_neg he, wN (n := i + 1) (by omega) (by omega), ih (i + 1) k (by omega) (by omega)]
      unfold findS
      rw [show firstS (H[i] :: H.drop (i + 1)) s = (firstS (H.drop (i + 1)) s).map (· + 1) by rw [firstS, if_neg he]]
      cases firstS (H.drop (i + 1)) s with
      | none => rfl
      | some j => simp only [Option.map_some]; rw [show i + (j + 1) = i + 1 + j by omega]
theorem strOfNums_ints (l : List Int) (hb : ∀ x ∈ l, 0 ≤ x ∧ x < 256) (t : List UInt8) : (strOfNums l).data.toList = t ↔ l = ints t := by
  rw [strOfNums_data]
  constructor
  · rintro rfl
    unfold ints
    rw [List.map_map]
    refine (List.map_id' l).symm.trans (List.map_congr_left fun x hx => ?_)
    have := hb x hx
    simp only [Function.comp]
    rw [UInt8.toNat_ofNat']
    omega
  · rintro rfl
    unfold ints
    rw [List.map_map]
    refine (List.map_congr_left fun x hx => ?_).trans (List.map_id' t)
    simp
theorem cut_root (s root : ByteArray) (n : Nat) (hn1 : 1 ≤ n) (hn2 : n ≤ 32) (hr : root.size = n) : cutL s n = rootL root ↔ (digV (nText s) n).toList = root.toList := by
  have hl : root.data.toList.length = n := hr
  have hw : widB (n : Int) = true := by unfold widB; rw [decide_eq_true_eq]; omega
  rw [digV_yes hw, Int.toNat_natCast]
  unfold shaV
  rw [← strOfNums_take, ByteArray.toList_eq, ByteArray.toList_eq]
  rw [strOfNums_ints _ (fun x hx => shaL_mem _ x (List.mem_of_mem_take hx))]
  unfold cutL rootL
  rw [hr]
  constructor
  · intro e
    exact (List.append_inj e (by rw [List.length_take, shaL_length, ints_length, hl]; omega)).1
  · intro e
    rw [e]
theorem first_cuts (n : Nat) (hn1 : 1 ≤ n) (hn2 : n ≤ 32) (root : ByteArray) (hr : root.size = n) : ∀ l : List ByteArray, firstAt (cuts n l) (rootL root) = firstS (hashS n l) root
  | [] => rfl
  | s :: r => by
    have ih := first_cuts n hn1 hn2 root hr r
    have e := cut_root s root n hn1 hn2 hr
    unfold cuts hashS at ih ⊢
    rw [List.map_cons, List.map_cons, firstAt, firstS, ih]
    by_cases h : cutL s n = rootL root
    · rw [if_pos h, if_pos (e.1 h)]
    · rw [if_neg h, if_neg (fun h2 => h (e.2 h2))]
theorem findR_S (n : Nat) (hn1 : 1 ≤ n) (hn2 : n ≤ 32) (root : ByteArray) (hr : root.size = n) (l : List ByteArray) : findR n l (cuts n l) root = findS n l (hashS n l) root 0 := by
  unfold findR findS
  rw [first_cuts n hn1 hn2 root hr l]
  cases firstS (hashS n l) root with
  | none => rfl
  | some j =>
    dsimp only
    rw [Nat.zero_add]
    rcases decI (l.getD j ⟨#[]⟩) n with _ | ⟨a, b, c, d⟩ <;> rfl
theorem l3Find_f (W : Int) (l : List ByteArray) (s : ByteArray) (hl : small l) (k : Nat) (hk : 1048577 < k) : spec_l3Find.f k W l (hashS W l) s = some (findS W l (hashS W l) s 0) := by
  unfold spec_l3Find.f
  exact l3Find_loop W l (hashS W l) s (by unfold hashS; rw [List.length_map]) hl.1 hl.2 l.length 0 k (by omega) (by have := hl.1; omega)
theorem spec_PoolFind_f (W : Int) (l : List ByteArray) (s : ByteArray) (hl : small l) (k : Nat) (hk : 2200000 < k) : spec_PoolFind.f k W l s = some (poolFindR W l s) := by
  unfold spec_PoolFind.f
  obtain ⟨k, rfl⟩ : ∃ j, k = j + 1 := ⟨k - 1, by omega⟩
  rw [l3PoolOk_f, Option.bind_some]
  by_cases hv : poolOk W l = true
  · rw [if_pos hv]
    by_cases hs : (s.size : Int) = W
    · rw [bne_eq_false_iff_eq.2 hs]
      simp only [spec_PoolFind.j0]
      rw [if_neg (by decide), l3Hashes_f W l hl k (by omega), Option.bind_some, l3Find_f W l s hl k (by omega), Option.bind_some]
      unfold poolFindR
      rw [if_pos ⟨hv, hs⟩]
      have h1 := poolOk_iff.1 hv
      obtain ⟨n, rfl⟩ : ∃ n : Nat, W = (n : Int) := ⟨W.toNat, by omega⟩
      rw [Int.toNat_natCast, findR_S n (by omega) (by omega) s (by omega)]
    · rw [bne_iff_ne.2 hs]
      simp only [spec_PoolFind.j0, if_true]
      unfold poolFindR
      rw [if_neg (fun g => hs g.2)]
  · rw [if_neg hv]
    simp only [spec_PoolFind.j0, if_true]
    unfold poolFindR
    rw [if_neg (fun g => hv g.1)]
end Go.Proofs.YtmfejehhfmaodabDoor.Z
end
section
namespace Go.Proofs.YtmfejehhfmaodabDoor.Z
open Go.RowKit Go.Proofs.YtmfejehhfmaodabDoor
set_option linter.unusedVariables false
set_option linter.unusedSimpArgs false
theorem laws_FnExactPoolFind_f (W : Int) (l : List ByteArray) (s : ByteArray) (hs : ∀ s ∈ l, s.size ≤ 9223372036854775807) (hl : l.length ≤ 9223372036854775807) : laws_FnExactPoolFind.f 3000000 W l s = some true := by
  unfold laws_FnExactPoolFind.f
  obtain ⟨K, hK⟩ : ∃ K : Nat, 3000000 = K + 1 ∧ K = 2999999 := ⟨2999999, rfl, rfl⟩
  by_cases h0 : (s.size : Int) > 1048576
  · rw [if_pos h0]
  · rw [if_neg h0]
    obtain ⟨t, h1, h2⟩ := szPool_f W l hs hl 3000000 (by omega)
    rw [h1, Option.bind_some]
    by_cases hn : t < 0
    · rw [if_pos hn]
    · obtain ⟨h3, hsm⟩ := h2 (by omega)
      have hll := hsm.1
      rw [if_neg hn, toPool_f W l (by omega) _ (by omega), Option.bind_some]
      dsimp only
      rw [spec_PoolFind_f W l s hsm _ (by omega), Option.bind_some, Option.bind_some]
      unfold impl_PoolFind.f
      rw [if_pos hsm, Option.bind_some]
      obtain ⟨a, b, c, d, z⟩ := poolFindR W l s
      unfold laws_eqNode.f
      dsimp only
      rw [if_pos rfl, if_pos rfl, if_pos rfl, if_pos rfl, Option.bind_some, if_pos rfl, bne_self_eq_false, hK.1]
      simp only [laws_FnExactPoolFind.j0]
      rw [if_neg (by decide), toPool_f W l (by omega) _ (by omega), Option.bind_some]
      dsimp only
      rw [eqPool_f W l (by omega) _ (by omega), Option.bind_some, if_pos rfl]
end Go.Proofs.YtmfejehhfmaodabDoor.Z
namespace Go.Proofs.YtmfejehhfmaodabDoor
open Go.RowKit Go.Proofs.YtmfejehhfmaodabDoor.Z
theorem lawFnExactPoolFind (a0_0 : Int) (A0_1 : Option Addr) (c0_1 : Nat) (l0_1 : List ByteArray) (a1 : ByteArray) (w : World) (hr0_1 : YtmfejehhfmaodabDoorW.PrintWords.Kd.C YtmfejehhfmaodabDoorW.PrintWords.Kd.string w A0_1 l0_1.length l0_1) (hc0_1 : l0_1.length ≤ c0_1) (hl : c0_1 ≤ maxLen) (hs : ∀ s ∈ l0_1, s.size ≤ maxLen) (hTab : Z.Tab w) :
    Calls Tryd.prog 3 #[.agg #[.int .i64 a0_0, .slice A0_1 l0_1.length c0_1], .string a1] w fun e w' => e = .returned (.bool true) ∧ Below w.heap.size w w' :=
  laws_FnExactPoolFind.calls 3000000 a0_0 A0_1 c0_1 l0_1 a1 true w hTab hr0_1 hc0_1 (laws_FnExactPoolFind_f a0_0 l0_1 a1 (fun s h => by have := hs s h; unfold maxLen at this; omega) (by unfold maxLen at hl; omega))
end Go.Proofs.YtmfejehhfmaodabDoor
end
section
namespace Go.Proofs.YtmfejehhfmaodabDoor.Z
open Go.RowKit Go.ChangeShapes Go.WideShapes Go.ChangeAt Go.Proofs.YtmfejehhfmaodabDoorW.PrintWords
set_option linter.unusedVariables false
set_option linter.unusedSimpArgs false
section
variable {H : Type} {enc : TypeId × Value → H} {P : Program} {W : World} {base : Nat} {spare : Nat → Bool} {held : Bool}
theorem add_add (a : Addr) (i j : Nat) : (a.add i).add j = a.add (i + j) := by
  unfold Addr.add
  split <;> split <;> simp_all <;> omega
theorem list_of {α : Type} (Q : Nat → α → Prop) : ∀ n, (∀ i, i < n → ∃ x, Q i x) → ∃ l : List α, l.length = n ∧ ∀ i x, l[i]? = some x → Q i x
  | 0, _ => ⟨[], rfl, fun i x h => by simp at h⟩
  | n + 1, h => by
    obtain ⟨l, hl, hq⟩ := list_of Q n (fun i hi => h i (by omega))
    obtain ⟨x, hx⟩ := h n (by omega)
    refine ⟨l ++ [x], by simp [hl], fun i y hy => ?_⟩
    rcases Nat.lt_or_ge i l.length with h1 | h1
    · rw [List.getElem?_append_left h1] at hy; exact hq i y hy
    · rw [List.getElem?_append_right h1] at hy
      rcases Nat.eq_zero_or_pos (i - l.length) with h2 | h2
      · rw [h2] at hy
        obtain rfl := Option.some.inj hy
        obtain rfl : i = n := by omega
        exact hx
      · rw [List.getElem?_eq_none (by simp; omega)] at hy; cases hy
theorem open_kd {α : Type} (d : Kd α) (Q : α → Prop) {t e : TypeId} {fuel : Nat} {v : Value} {x : DataW H × List MemPlace} (ht : P.underlying t = some (.slice e)) (hc : P.cellsOf e = d.sz)
    (hK : ∀ cs n y, cs.length = d.sz → DataW.trod enc P W base spare held n e cs = some y → ∃ x, d.K W x cs ∧ Q x) (h : DataW.trod enc P W base spare held fuel t [v] = some x) :
    ∃ A c, ∃ l : List α, v = .slice A l.length c ∧ l.length ≤ c ∧ c ≤ maxLen ∧ d.C W A l.length l ∧ ∀ x ∈ l, Q x := by
  rcases DataW.trod_slice ht h with ⟨hcs, _⟩ | ⟨a, len, cap, elems, rest, m, _, hcs, hx, _, hl, hcap, hlen, hel, _⟩
  · simp at hcs; subst hcs
    refine ⟨none, 0, [], rfl, Nat.le_refl _, Nat.zero_le _, ⟨rfl, Nat.zero_le _, fun h => absurd h (Nat.lt_irrefl _)⟩, fun x hx => by cases hx⟩
  · simp at hcs; subst hcs
    have hp : ∀ i, i < len → ∃ x : α, ∃ cs, W.cells? base (a.add (i * d.sz)) d.sz = some cs ∧ cs.length = d.sz ∧ d.K W x cs ∧ Q x := by
      intro i hi
      have h1 := hel i hi
      rw [List.getElem?_eq_getElem (by omega), hc] at h1
      obtain ⟨cs, hcs, hy⟩ := Option.bind_eq_some_iff.1 h1
      have hln := (World.cells?_some hcs).2.1
      obtain ⟨x, hx1, hx2⟩ := hK cs m _ hln hy
      exact ⟨x, cs, hcs, hln, hx1, hx2⟩
    obtain ⟨l, hll, hq⟩ := list_of _ len hp
    subst hll
    refine ⟨some a, cap, l, rfl, hl, hcap, ⟨rfl, by unfold maxLen at hcap; omega, fun _ => ⟨a, rfl, fun j p hj => ?_⟩⟩, fun x hx => ?_⟩
    · obtain ⟨cs, h1, h2, h3, _⟩ := hq j p hj
      refine ⟨cs, h2, h3, fun i u hu => ?_⟩
      have h4 := (World.cells?_some h1).2.2 i (by rw [← h2]; exact (List.getElem?_eq_some_iff.1 hu).1)
      rw [← add_add]
      exact h4.trans hu
    · obtain ⟨i, hi, rfl⟩ := List.getElem_of_mem hx
      obtain ⟨cs, _, _, _, h5⟩ := hq i _ (List.getElem?_eq_getElem hi)
      exact h5
theorem open_strs {t e : TypeId} {fuel : Nat} {v : Value} {x : DataW H × List MemPlace} (ht : P.underlying t = some (.slice e)) (he : P.underlying e = some .string) (hc : P.cellsOf e = 1) (h : DataW.trod enc P W base spare held fuel t [v] = some x) :
    ∃ A c, ∃ l : List ByteArray, v = .slice A l.length c ∧ l.length ≤ c ∧ c ≤ maxLen ∧ Kd.C Kd.string W A l.length l ∧ ∀ s ∈ l, s.size ≤ maxLen :=
  open_kd Kd.string (fun s => s.size ≤ maxLen) ht hc (fun cs n y hl hy => by
    obtain ⟨s, rfl, _, hs⟩ := DataW.trod_string he hy
    exact ⟨s, rfl, hs⟩) h
end
end Go.Proofs.YtmfejehhfmaodabDoor.Z
end
