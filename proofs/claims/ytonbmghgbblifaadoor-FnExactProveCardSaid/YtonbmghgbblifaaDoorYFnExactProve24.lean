/- Own texts, joined. -/
import Derived.Test.YtonbmghgbblifaaDoorYFnExactProve25
import Derived.Test.YtonbmghgbblifaaDoorYFnExactProve26
import Derived.Test.YtonbmghgbblifaaDoorYFnExactProve21
import Derived.Test.YtonbmghgbblifaaDoorYFnExactProve23
import Derived.Test.YtonbmghgbblifaaDoorYFnExactProve22
import Derived.Laws.EntriesVeiled
import Derived.Deep.CutBlock
import Derived.Test.YtonbmghgbblifaaDoorYFnExactProve0
import Derived.ProofKit
import Derived.OpenShut
import Derived.ChangeSame
section
namespace Go.Proofs.YtonbmghgbblifaaDoor.Z
open RowKit YtonbmghgbblifaaDoorW.PrintWords YtonbmghgbblifaaDoorW.PrintLast YtonbmghgbblifaaDoorW.PrintMore
attribute [local go_sem] max2_int min2_int max_two min_two max_three min_three max_four min_four
set_option linter.all false
def spec_Higher.f (k : Nat) (a0 : ByteArray) (a1 : ByteArray) : Option (Bool) := (spec_Sha256.f k a0).bind fun t1370001 => ((spec_Sha256.f k a1).bind fun t1370002 => (if t1370001.toList = t1370002.toList then ((spec_l1Less.f k a0 a1).bind fun t1370003 => (some t1370003)) else ((spec_l1Less.f k t1370002 t1370001).bind fun t1370004 => (some t1370004))))
set_option maxHeartbeats 8000000 in
set_option maxRecDepth 100000 in
theorem spec_Higher.calls (k : Nat) (a0 : ByteArray) (a1 : ByteArray) (r : Bool) (w : World) (h : spec_Higher.f k a0 a1 = some r) :
  Calls Tryd.prog 137 #[.string a0, .string a1] w fun e w' => e = .returned (.bool r) ∧ Below w.heap.size w w' := by
 have HB := Aside0.mk (Below.refl w.heap.size w); have H : ((spec_Sha256.f k a0).bind fun t1370001 => ((spec_Sha256.f k a1).bind fun t1370002 => (if t1370001.toList = t1370002.toList then ((spec_l1Less.f k a0 a1).bind fun t1370003 => (some t1370003)) else ((spec_l1Less.f k t1370002 t1370001).bind fun t1370004 => (some t1370004))))) = some r := h; clear h; replace H := Option.bind_eq_some_iff.mp H; obtain ⟨t1370001, A30, H⟩ := H; (try dsimp only at H); have A3 := Aside0.mk A30; clear A30; replace H := Option.bind_eq_some_iff.mp H; obtain ⟨t1370002, A40, H⟩ := H; (try dsimp only at H); have A4 := Aside0.mk A40; clear A40
 by_cases c5 : t1370001.toList = t1370002.toList
 ·rw [if_pos c5] at H; have c5b0 : (t1370001.toList == t1370002.toList) = true := beq_iff_eq.mpr c5; have c5b1 : (t1370001.toList != t1370002.toList) = false := bne_eq_false_iff_eq.mpr c5; clear c5; replace H := Option.bind_eq_some_iff.mp H; obtain ⟨t1370003, A60, H⟩ := H; (try dsimp only at H); have A6 := Aside0.mk A60; clear A60; obtain rfl := Option.some.inj H
  go_enter Tryd.func137, Tryd.ntmps137
  go_wp2_with (first | ((with_reducible refine gate_callee (f := 88) rfl ?_); refine goesL_ (some 8) rfl rfl Tryd.func88 (by kernel_rfl) rfl #[.string a0] rfl zq_1 ?_; (with_reducible refine (spec_Sha256.calls k a0 t1370001 _ A3.out).mono ?_); rintro e w7 ⟨rfl, hb⟩; refine ⟨_, rfl, ?_⟩; have n0_ := Aside0.mk (below_step zq_0 hb); clear HB; have HB := n0_; clear n0_; (try clear hb); (try clear hb2); (try clear hk); (try clear hi)) | ((with_reducible refine gate_callee (f := 88) rfl ?_); refine goesL_ (some 10) rfl rfl Tryd.func88 (by kernel_rfl) rfl #[.string a1] rfl zq_1 ?_; (with_reducible refine (spec_Sha256.calls k a1 t1370002 _ A4.out).mono ?_); rintro e w8 ⟨rfl, hb⟩; refine ⟨_, rfl, ?_⟩; have n0_ := Aside0.mk (below_step zq_0 hb); clear HB; have HB := n0_; clear n0_; (try clear hb); (try clear hb2); (try clear hk); (try clear hi)) | ((with_reducible refine gate_callee (f := 97) rfl ?_); refine goesL_ (some 19) rfl rfl Tryd.func97 (by kernel_rfl) rfl #[.string a0, .string a1] rfl zq_1 ?_; (with_reducible refine (spec_l1Less.calls k a0 a1 t1370003 _ A6.out).mono ?_); rintro e w' ⟨rfl, ⟨nd, rfl⟩⟩; refine ⟨_, rfl, ?_⟩))
  go_ret
  exact ⟨by first | rfl | (simp [errW_none, errW_some] <;> rfl) | (simp [*, errW_none, errW_some] <;> rfl), by repeat (first | (with_reducible first | exact HB.out | apply below_alloc | apply pw_below_drewN | apply below_drew1) | exact HB.out)⟩
 ·rw [if_neg c5] at H; have c5b0 : (t1370001.toList == t1370002.toList) = false := beq_eq_false_iff_ne.mpr c5; have c5b1 : (t1370001.toList != t1370002.toList) = true := bne_iff_ne.mpr c5; replace H := Option.bind_eq_some_iff.mp H; obtain ⟨t1370004, A90, H⟩ := H; (try dsimp only at H); have A9 := Aside0.mk A90; clear A90; obtain rfl := Option.some.inj H
  go_enter Tryd.func137, Tryd.ntmps137
  go_wp2_with (first | ((with_reducible refine gate_callee (f := 88) rfl ?_); refine goesL_ (some 8) rfl rfl Tryd.func88 (by kernel_rfl) rfl #[.string a0] rfl zq_1 ?_; (with_reducible refine (spec_Sha256.calls k a0 t1370001 _ A3.out).mono ?_); rintro e w10 ⟨rfl, hb⟩; refine ⟨_, rfl, ?_⟩; have n0_ := Aside0.mk (below_step zq_0 hb); clear HB; have HB := n0_; clear n0_; (try clear hb); (try clear hb2); (try clear hk); (try clear hi)) | ((with_reducible refine gate_callee (f := 88) rfl ?_); refine goesL_ (some 10) rfl rfl Tryd.func88 (by kernel_rfl) rfl #[.string a1] rfl zq_1 ?_; (with_reducible refine (spec_Sha256.calls k a1 t1370002 _ A4.out).mono ?_); rintro e w11 ⟨rfl, hb⟩; refine ⟨_, rfl, ?_⟩; have n0_ := Aside0.mk (below_step zq_0 hb); clear HB; have HB := n0_; clear n0_; (try clear hb); (try clear hb2); (try clear hk); (try clear hi)) | ((with_reducible refine gate_callee (f := 97) rfl ?_); refine goesL_ (some 16) rfl rfl Tryd.func97 (by kernel_rfl) rfl #[.string t1370002, .string t1370001] rfl zq_1 ?_; (with_reducible refine (spec_l1Less.calls k t1370002 t1370001 t1370004 _ A9.out).mono ?_); rintro e w' ⟨rfl, ⟨nd, rfl⟩⟩; refine ⟨_, rfl, ?_⟩))
  go_ret
  exact ⟨by first | rfl | (simp [errW_none, errW_some] <;> rfl) | (simp [*, errW_none, errW_some] <;> rfl), by repeat (first | (with_reducible first | exact HB.out | apply below_alloc | apply pw_below_drewN | apply below_drew1) | exact HB.out)⟩
end Go.Proofs.YtonbmghgbblifaaDoor.Z
end
section
namespace Go.Proofs.YtonbmghgbblifaaDoor.Z
open RowKit YtonbmghgbblifaaDoor YtonbmghgbblifaaDoorW.PrintWords YtonbmghgbblifaaDoorW.PrintLast
set_option linter.all false
theorem l1Width_f (n : Int) : spec_l1Width.f n = some (widB n) := by
 unfold spec_l1Width.f widB
 by_cases h : n ≥ 1
 ·rw [if_pos h]; congr 1; simp; omega
 ·rw [if_neg h]; congr 1; simp; omega
theorem spec_Digest_f (a0 : ByteArray) (a1 : Int) (ha : a0.size ≤ 4294967296) (k : Nat) (hk : a0.size + 100 < k) : spec_Digest.f k a0 a1 = some (digV a0 a1) := by
 unfold spec_Digest.f; rw [l1Width_f]; simp only [Option.bind_some]
 by_cases hw : widB a1 = true
 ·have hr : 1 ≤ a1 ∧ a1 ≤ 32 := by unfold widB at hw; exact of_decide_eq_true hw
  rw [if_pos hw, digV_yes hw, spec_Sha256_f a0 ha k hk]; simp only [Option.bind_some]; rw [if_pos (by omega), if_pos (by rw [shaV_size]; omega)]
 ·rw [if_neg hw, digV_no (Bool.eq_false_iff.2 hw)]
theorem bt_get (s : ByteArray) (i : Nat) (h : i < s.size) : bt s (i : Int) = ((s.data.toList[i]'h).toNat : Int) := by
 unfold bt; rw [Int.toNat_natCast, dif_pos h]; rfl
theorem bytesLess_drop (a b : List UInt8) (i : Nat) (h1 : i < a.length) (h2 : i < b.length) : Op.bytesLess (a.drop i) (b.drop i) = (a[i] < b[i] || (a[i] == b[i] && Op.bytesLess (a.drop (i + 1)) (b.drop (i + 1)))) := by
 rw [List.drop_eq_getElem_cons h1, List.drop_eq_getElem_cons h2]; rfl
theorem l1Less_loop (a b : ByteArray) (ha : a.size ≤ 4611686018427387904) : ∀ (d i k : Nat), a.size = i + d → 2 * d + 1 < k →
  (i ≤ b.size) → spec_l1Less.l0 k a b (i : Int) = some (Op.bytesLess (a.data.toList.drop i) (b.data.toList.drop i)) := by
 intro d; have hal : a.data.toList.length = a.size := rfl; have hbl : b.data.toList.length = b.size := rfl
 induction d with
 | zero =>
  intro i k hi hk hb; obtain ⟨k, rfl⟩ : ∃ j, k = j + 2 := ⟨k - 2, by omega⟩
  simp only [spec_l1Less.l0]; rw [if_neg (by omega)]; simp only [spec_l1Less.j1]; rw [if_neg (by decide), List.drop_eq_nil_of_le (show a.data.toList.length ≤ i by omega)]
  congr 1
  by_cases h : i < b.size
  ·rw [List.drop_eq_getElem_cons (show i < b.data.toList.length by omega)]; simp [Op.bytesLess]; omega
  ·rw [List.drop_eq_nil_of_le (show b.data.toList.length ≤ i by omega)]; simp [Op.bytesLess]; omega
 | succ d ih =>
  intro i k hi hk hb; obtain ⟨k, rfl⟩ : ∃ j, k = j + 2 := ⟨k - 2, by omega⟩
  simp only [spec_l1Less.l0]; rw [if_pos (by omega)]; simp only [spec_l1Less.j1]
  by_cases h : i < b.size
  ·rw [if_pos (by simp; omega), if_pos (by omega), if_pos (by omega), if_pos (by omega)]; rw [bt_get a i (by omega), bt_get b i h, bytesLess_drop _ _ i (by omega) (by omega)]; have e1 : wrap64 ((i : Int) + 1) = ((i + 1 : Nat) : Int) := by rw [w64 (by omega) (by omega)]; omega
   rw [e1]; clear e1; have hlt : ∀ x y : UInt8, (x < y) ↔ ((x.toNat : Int) < (y.toNat : Int)) := by intro x y; rw [UInt8.lt_iff_toNat_lt]; omega
   have heq : ∀ x y : UInt8, (x = y) ↔ ((x.toNat : Int) = (y.toNat : Int)) := by intro x y; rw [← UInt8.toNat_inj]; omega
   generalize a.data.toList[i]'(by omega) = x; generalize b.data.toList[i]'(by omega) = y
   by_cases hxy : x = y
   ·subst hxy; rw [if_pos rfl, ih (i + 1) k (by omega) (by omega) (by omega)]; simp
   ·rw [if_neg (fun e => hxy ((heq x y).2 e))]; simp [hxy, hlt x y]
  ·rw [if_neg (by simp; omega), List.drop_eq_nil_of_le (show b.data.toList.length ≤ i by omega)]
   congr 1
   rw [decide_eq_false (by omega)]
   cases a.data.toList.drop i <;> rfl
theorem spec_l1Less_f (a b : ByteArray) (ha : a.size ≤ 4294967296) (k : Nat) (hk : 2 * a.size + 1 < k) : spec_l1Less.f k a b = some (Op.bytesLess a.toList b.toList) := by
 unfold spec_l1Less.f; rw [ByteArray.toList_eq, ByteArray.toList_eq]; have h := l1Less_loop a b (by omega) a.size 0 k (by omega) hk (by omega)
 simpa using h
theorem bytesLess_swap : ∀ (x y : List UInt8), x ≠ y → Op.bytesLess y x = !Op.bytesLess x y
 | [], [], h => absurd rfl h
 | [], _ :: _, _ => rfl
 | _ :: _, [], _ => rfl
 | a :: x, b :: y, h => by
  simp only [Op.bytesLess]
  by_cases hab : a = b
  ·subst hab; have := bytesLess_swap x y (fun e => h (by rw [e])); have hl : ¬ a < a := by rw [UInt8.lt_iff_toNat_lt]; omega
   simp [this, hl]
  ·have h1 : ¬ b = a := fun e => hab e.symm
   have hn : a.toNat ≠ b.toNat := fun e => hab (UInt8.toNat_inj.1 e)
   simp only [beq_eq_false_iff_ne.2 hab, beq_eq_false_iff_ne.2 h1, Bool.false_and, Bool.or_false]; rw [Bool.eq_iff_iff]; simp only [decide_eq_true_eq, Bool.not_eq_true', decide_eq_false_iff_not, UInt8.lt_iff_toNat_lt]; omega
theorem strOfNums_inj : ∀ (l m : List Int), (∀ x ∈ l, 0 ≤ x ∧ x < 256) → (∀ x ∈ m, 0 ≤ x ∧ x < 256) → strOfNums l = strOfNums m → l = m := by
 have key : ∀ (l m : List Int), (∀ x ∈ l, 0 ≤ x ∧ x < 256) → (∀ x ∈ m, 0 ≤ x ∧ x < 256) → l.map (fun x => UInt8.ofNat x.toNat) = m.map (fun x => UInt8.ofNat x.toNat) → l = m := by
  intro l
  induction l with
  | nil => intro m _ _ h; cases m with | nil => rfl | cons => simp at h
  | cons a l ih =>
   intro m hl hm h
   cases m with
   | nil => simp at h
   | cons b m =>
    simp only [List.map_cons, List.cons.injEq] at h; have h1 := hl a (by simp); have h2 := hm b (by simp); have h3 := congrArg UInt8.toNat h.1; rw [UInt8.toNat_ofNat', UInt8.toNat_ofNat'] at h3; rw [ih m (fun x hx => hl x (by simp [hx])) (fun x hx => hm x (by simp [hx])) h.2, show a = b by omega]
 intro l m hl hm h; refine key l m hl hm ?_; unfold strOfNums at h; have := congrArg (fun s : ByteArray => s.data.toList) h
 simpa using this
theorem outB_range (h : List Int) : ∀ n, ∀ x ∈ outB h n, 0 ≤ x ∧ x < 256
 | 0, x, hx => by simp [outB] at hx
 | n + 1, x, hx => by
  rw [outB, List.mem_append] at hx
  rcases hx with hx | hx
  ·exact outB_range h n x hx
  ·simp only [wordB, List.mem_cons, List.not_mem_nil, or_false] at hx
   rcases hx with rfl | rfl | rfl | rfl <;> omega
theorem shaL_range (l : List UInt8) : ∀ x ∈ shaL l, 0 ≤ x ∧ x < 256 := outB_range _ _
theorem toList_inj {a b : ByteArray} : a.toList = b.toList ↔ a = b := by
 rw [ByteArray.toList_eq, ByteArray.toList_eq]; exact ⟨fun h => ByteArray.ext (Array.toList_inj.mp h), fun h => by rw [h]⟩
theorem highB_eq (a b : ByteArray) : highB a b = if (shaV a).toList = (shaV b).toList then Op.bytesLess a.toList b.toList else Op.bytesLess (shaV b).toList (shaV a).toList := by
 unfold highB aboveB
 by_cases h : shaL a.data.toList = shaL b.data.toList
 ·rw [if_pos h, if_pos (by unfold shaV; rw [h])]
 ·have h2 : (shaV a).toList ≠ (shaV b).toList := fun e => h (strOfNums_inj _ _ (shaL_range _) (shaL_range _) (toList_inj.1 e))
  rw [if_neg h, if_neg h2]; show (!Op.bytesLess (shaV a).toList (shaV b).toList && !((shaV a).toList == (shaV b).toList)) = _; rw [beq_eq_false_iff_ne.2 h2, bytesLess_swap _ _ h2]; simp
theorem spec_Higher_f (a b : ByteArray) (ha : a.size ≤ 4294967296) (hb : b.size ≤ 4294967296) (k : Nat) (hk : 2 * a.size + 2 * b.size + 200 < k) : spec_Higher.f k a b = some (highB a b) := by
 unfold spec_Higher.f; rw [spec_Sha256_f a ha k (by omega), spec_Sha256_f b hb k (by omega)]; simp only [Option.bind_some]; rw [spec_l1Less_f a b ha k (by omega), spec_l1Less_f _ _ (by rw [shaV_size]; omega) k (by rw [shaV_size]; omega), highB_eq]; simp only [Option.bind_some]
 split <;> rfl
end Go.Proofs.YtonbmghgbblifaaDoor.Z
end
section
namespace Go.Proofs.YtonbmghgbblifaaDoor.Z
open RowKit YtonbmghgbblifaaDoor YtonbmghgbblifaaDoorW.PrintWords YtonbmghgbblifaaDoorW.PrintLast
theorem wN {x : Int} {n : Nat} (h : x = (n : Int)) (hn : n ≤ 9223372036854775807) : wrap64 x = (n : Int) := by rw [h]; unfold wrap64; omega
theorem rd_at {α : Type} (d : α) (l : List α) (i : Nat) (h : i < l.length) : rdOf d l (i : Int) = l[i] := by
 unfold rdOf; rw [Int.toNat_natCast, List.getD_eq_getElem?_getD, List.getElem?_eq_getElem h]; rfl
end Go.Proofs.YtonbmghgbblifaaDoor.Z
end
section
namespace Go.Proofs.YtonbmghgbblifaaDoor.Z
open RowKit YtonbmghgbblifaaDoor YtonbmghgbblifaaDoorW.PrintWords YtonbmghgbblifaaDoorW.PrintLast
set_option linter.all false
theorem toStringS_loop (l : List ByteArray) (hl : l.length ≤ 4294967296) : ∀ (d i k : Nat), l.length = i + d → d < k → laws_toStringS.l0 k l (l.take i ++ List.replicate (l.length - i) ⟨#[]⟩) (i : Int) = some l := by
 intro d
 induction d with
 | zero =>
  intro i k h hk; obtain ⟨k, rfl⟩ : ∃ j, k = j + 1 := ⟨k - 1, by omega⟩
  simp only [laws_toStringS.l0]; rw [if_neg (by omega), List.take_of_length_le (by omega), show l.length - i = 0 by omega, List.replicate_zero, List.append_nil]
 | succ d ih =>
  intro i k h hk; obtain ⟨k, rfl⟩ : ∃ j, k = j + 1 := ⟨k - 1, by omega⟩
  simp only [laws_toStringS.l0]; have hL : (l.take i ++ List.replicate (l.length - i) (⟨#[]⟩ : ByteArray)).length = l.length := by rw [List.length_append, List.length_take, List.length_replicate]; omega
  rw [if_pos (by omega), if_pos (by omega), if_pos (by rw [hL]; omega), rd_at _ _ _ (by omega), Int.toNat_natCast, wN (n := i + 1) (by omega) (by omega)]; have := ih (i + 1) k (by omega) (by omega); rw [show l.take (i + 1) ++ List.replicate (l.length - (i + 1)) (⟨#[]⟩ : ByteArray) = (l.take i ++ List.replicate (l.length - i) (⟨#[]⟩ : ByteArray)).set i l[i] by
   rw [List.set_append_right _ _ (by rw [List.length_take]; omega), List.length_take, Nat.min_eq_left (by omega), Nat.sub_self, show l.length - i = (l.length - (i + 1)) + 1 by omega, List.replicate_succ, List.set_cons_zero, List.take_succ_eq_append_getElem (by omega), List.append_assoc]; rfl] at this
  exact this
theorem toStringS_f (l : List ByteArray) (hl : l.length ≤ 4294967296) (k : Nat) (hk : l.length < k) : laws_toStringS.f k l = some l := by
 unfold laws_toStringS.f; rw [if_pos (by omega), if_pos (by omega), Int.toNat_natCast]; have := toStringS_loop l hl l.length 0 k (by omega) hk; rw [List.take_zero, List.nil_append, Nat.sub_zero] at this; exact this
theorem toPool_f (W : Int) (l : List ByteArray) (hl : l.length ≤ 4294967296) (k : Nat) (hk : l.length < k) : laws_toPool.f k W l = some (W, l) := by
 unfold laws_toPool.f; rw [toStringS_f l hl k hk]; rfl
theorem szStringS_loop (l : List ByteArray) (hs : ∀ s ∈ l, s.size ≤ 9223372036854775807) : ∀ (d i k : Nat) (a : Int), l.length = i + d → d < k → 0 ≤ a → a ≤ 1048576 → l.length ≤ 4294967296 →
  ∃ t, laws_szStringS.l0 k l a (i : Int) = some t ∧ t ≤ a ∧ (0 ≤ t → ∀ j (h : j < l.length), i ≤ j → (l[j].size : Int) ≤ a) := by
 intro d
 induction d with
 | zero =>
  intro i k a h hk h0 h1 hl; obtain ⟨k, rfl⟩ : ∃ j, k = j + 1 := ⟨k - 1, by omega⟩
  refine ⟨a, ?_, by omega, fun _ j hj hij => by omega⟩; simp only [laws_szStringS.l0]; rw [if_neg (by omega)]
 | succ d ih =>
  intro i k a h hk h0 h1 hl; obtain ⟨k, rfl⟩ : ∃ j, k = j + 1 := ⟨k - 1, by omega⟩
  simp only [laws_szStringS.l0]; have hsi := hs l[i] (List.getElem_mem _); rw [if_pos (by omega), if_pos (by omega), rd_at _ _ _ (by omega)]; obtain ⟨z, hz⟩ : ∃ z : Nat, l[i].size = z := ⟨_, rfl⟩
  rw [hz] at hsi; rw [hz]; have hw : wrap64 (a - (z : Int)) = a - (z : Int) := by unfold wrap64; omega
  rw [hw]
  by_cases hn : a - (z : Int) < 0
  ·rw [if_pos hn]; exact ⟨-1, rfl, by omega, fun h => by omega⟩
  ·rw [if_neg hn, wN (n := i + 1) (by omega) (by omega)]; obtain ⟨t, h3, h4, h5⟩ := ih (i + 1) k (a - (z : Int)) (by omega) (by omega) (by omega) (by omega) hl; refine ⟨t, h3, by omega, fun ht j hj hij => ?_⟩
   rcases Nat.eq_or_lt_of_le hij with e | e
   ·subst e; rw [hz]; omega
   ·have := h5 ht j hj (by omega); omega
theorem szStringS_f (l : List ByteArray) (hs : ∀ s ∈ l, s.size ≤ 9223372036854775807) (hl : l.length ≤ 9223372036854775807) (a : Int) (h0 : 0 ≤ a) (h1 : a ≤ 1048576) (k : Nat) (hk : 1048577 < k) :
  ∃ t, laws_szStringS.f k l a = some t ∧ (0 ≤ t → t ≤ a ∧ (l.length : Int) ≤ a ∧ ∀ s ∈ l, (s.size : Int) ≤ a) := by
 unfold laws_szStringS.f; have hw : wrap64 (a - (l.length : Int)) = a - (l.length : Int) := by unfold wrap64; omega
 rw [hw]
 by_cases hn : a - (l.length : Int) < 0
 ·rw [if_pos hn]; exact ⟨-1, rfl, fun h => by omega⟩
 ·rw [if_neg hn]; obtain ⟨t, h3, h4, h5⟩ := szStringS_loop l hs l.length 0 k (a - l.length) (by omega) (by omega) (by omega) (by omega) (by omega); refine ⟨t, h3, fun ht => ⟨by omega, by omega, fun s hs => ?_⟩⟩; obtain ⟨j, hj, rfl⟩ := List.getElem_of_mem hs; have := h5 ht j hj (by omega); omega
theorem szPool_f (W : Int) (l : List ByteArray) (hs : ∀ s ∈ l, s.size ≤ 9223372036854775807) (hl : l.length ≤ 9223372036854775807) (k : Nat) (hk : 1048577 < k) :
  ∃ t, laws_szPool.f k W l 1048576 = some t ∧ (0 ≤ t → t ≤ 1048576 ∧ small l) := by
 obtain ⟨t, h1, h2⟩ := szStringS_f l hs hl 1048576 (by omega) (by omega) k hk; unfold laws_szPool.f; rw [h1, Option.bind_some]
 by_cases hn : t < 0
 ·rw [if_pos hn]; exact ⟨-1, rfl, fun h => by omega⟩
 ·rw [if_neg hn]; obtain ⟨h3, h4, h5⟩ := h2 (by omega); exact ⟨t, rfl, fun _ => ⟨h3, by omega, fun s hs => by have := h5 s hs; omega⟩⟩
theorem eqStringS_loop (l : List ByteArray) (hl : l.length ≤ 4294967296) : ∀ (d i k : Nat), l.length = i + d → d < k → laws_eqStringS.l0 k l l (i : Int) = some true := by
 intro d
 induction d with
 | zero =>
  intro i k h hk; obtain ⟨k, rfl⟩ : ∃ j, k = j + 1 := ⟨k - 1, by omega⟩
  simp only [laws_eqStringS.l0]; rw [if_neg (by omega)]
 | succ d ih =>
  intro i k h hk; obtain ⟨k, rfl⟩ : ∃ j, k = j + 1 := ⟨k - 1, by omega⟩
  simp only [laws_eqStringS.l0, if_true]; rw [if_pos (by omega), if_pos (by omega), if_pos (by omega), wN (n := i + 1) (by omega) (by omega)]; exact ih (i + 1) k (by omega) (by omega)
theorem eqStringS_f (l : List ByteArray) (hl : l.length ≤ 4294967296) (k : Nat) (hk : l.length < k) : laws_eqStringS.f k l l = some true := by
 unfold laws_eqStringS.f; rw [if_pos rfl]; exact eqStringS_loop l hl l.length 0 k (by omega) hk
theorem eqPool_f (W : Int) (l : List ByteArray) (hl : l.length ≤ 4294967296) (k : Nat) (hk : l.length < k) : laws_eqPool.f k W l W l = some true := by
 unfold laws_eqPool.f; rw [if_pos rfl, eqStringS_f l hl k hk, Option.bind_some, if_pos rfl]
theorem l3PoolOk_f (W : Int) (l : List ByteArray) : spec_l3PoolOk.f W l = some (poolOk W l) := by
 unfold spec_l3PoolOk.f; rw [l1Width_f, Option.bind_some]; unfold poolOk widB
 by_cases h1 : 1 ≤ W ∧ W ≤ 32
 ·rw [decide_eq_true h1, if_pos rfl]; refine congrArg some ?_; rw [decide_eq_decide]; omega
 ·rw [decide_eq_false h1, if_neg (by decide), decide_eq_false (by omega)]
def hashS (W : Int) (l : List ByteArray) : List ByteArray := l.map fun s => digV (nText s) W
theorem l3Hashes_loop (W : Int) (l : List ByteArray) (hl : l.length ≤ 1048576) (hs : ∀ s ∈ l, s.size ≤ 1048576) : ∀ (d i k : Nat), l.length = i + d → d + 1050000 < k → spec_l3Hashes.l0 k (hashS W (l.take i)) (i : Int) W l = some (hashS W l) := by
 intro d
 induction d with
 | zero =>
  intro i k h hk; obtain ⟨k, rfl⟩ : ∃ j, k = j + 1 := ⟨k - 1, by omega⟩
  simp only [spec_l3Hashes.l0]; rw [if_neg (by omega), List.take_of_length_le (by omega)]
 | succ d ih =>
  intro i k h hk; obtain ⟨k, rfl⟩ : ∃ j, k = j + 1 := ⟨k - 1, by omega⟩
  simp only [spec_l3Hashes.l0]; have hsi := hs l[i] (List.getElem_mem _); have hn : (nText l[i]).size = 1 + l[i].size := by unfold nText; rw [ByteArray.size_append]; rfl
  have ht : spec_l2Text.f l[i] = some (nText l[i]) := by unfold spec_l2Text.f; rw [if_pos (by omega)]; rfl
  rw [if_pos (by omega), if_pos (by omega), rd_at _ _ _ (by omega), ht, Option.bind_some, spec_Digest_f _ _ (by omega) _ (by omega), Option.bind_some]; have hlen : (hashS W (l.take i)).length = i := by unfold hashS; rw [List.length_map, List.length_take]; omega
  rw [if_pos (by omega), wN (n := i + 1) (by omega) (by omega)]; have := ih (i + 1) k (by omega) (by omega); rw [List.take_succ_eq_append_getElem (by omega)] at this; unfold hashS at this ⊢; rw [List.map_append] at this; exact this
theorem l3Hashes_f (W : Int) (l : List ByteArray) (hl : small l) (k : Nat) (hk : 2100000 < k) : spec_l3Hashes.f k W l = some (hashS W l) := by
 unfold spec_l3Hashes.f; exact l3Hashes_loop W l hl.1 hl.2 l.length 0 k (by omega) (by have := hl.1; omega)
def firstS : List ByteArray → ByteArray → Option Nat
 | [], _ => none
 | h :: r, s => if h.toList = s.toList then some 0 else (firstS r s).map (· + 1)
def finR : ByteArray × ByteArray × ByteArray × ByteArray × Bool → ByteArray × ByteArray × ByteArray × ByteArray × Int
 | (a, b, c, d, ok) => if ok = true then (a, b, c, d, 0) else (⟨#[]⟩, ⟨#[]⟩, ⟨#[]⟩, ⟨#[]⟩, 3)
def findS (W : Int) (l H : List ByteArray) (s : ByteArray) (i : Nat) : ByteArray × ByteArray × ByteArray × ByteArray × Int :=
 match firstS H s with
 | none => (⟨#[]⟩, ⟨#[]⟩, ⟨#[]⟩, ⟨#[]⟩, 2)
 | some j => finR (decT (decI (l.getD (i + j) ⟨#[]⟩) W))
theorem l3Find_loop (W : Int) (l H : List ByteArray) (s : ByteArray) (hH : H.length = l.length) (hl : l.length ≤ 1048576) (hs : ∀ s ∈ l, s.size ≤ 1048576) : ∀ (d i k : Nat), l.length = i + d → d < k → spec_l3Find.l0 k H s (i : Int) W l = some (findS W l (H.drop i) s i) := by
 intro d
 induction d with
 | zero =>
  intro i k h hk; obtain ⟨k, rfl⟩ : ∃ j, k = j + 1 := ⟨k - 1, by omega⟩
  simp only [spec_l3Find.l0]; rw [if_neg (by omega), List.drop_of_length_le (by omega)]; rfl
 | succ d ih =>
  intro i k h hk; obtain ⟨k, rfl⟩ : ∃ j, k = j + 1 := ⟨k - 1, by omega⟩
  simp only [spec_l3Find.l0]; have hd : H.drop i = H[i] :: H.drop (i + 1) := List.drop_eq_getElem_cons (by omega); rw [if_pos (by omega), if_pos (by omega), rd_at _ H _ (by omega), hd]
  by_cases he : H[i].toList = s.toList
  ·rw [if_pos he, if_pos (by omega), rd_at _ l _ (by omega)]; have hsi := hs l[i] (List.getElem_mem _); unfold spec_DecodeNode.f; rw [if_pos (by omega), Option.bind_some]; unfold findS firstS; rw [if_pos he]; dsimp only; rw [Nat.add_zero, List.getD_eq_getElem?_getD, List.getElem?_eq_getElem (by omega), Option.getD_some]; obtain ⟨a, b, c, d, ok⟩ := decT (decI l[i] W)
   cases ok <;> rfl
  ·rw [if_neg he, wN (n := i + 1) (by omega) (by omega), ih (i + 1) k (by omega) (by omega)]; unfold findS; rw [show firstS (H[i] :: H.drop (i + 1)) s = (firstS (H.drop (i + 1)) s).map (· + 1) by rw [firstS, if_neg he]]
   cases firstS (H.drop (i + 1)) s with
   | none => rfl
   | some j => simp only [Option.map_some]; rw [show i + (j + 1) = i + 1 + j by omega]
theorem strOfNums_ints (l : List Int) (hb : ∀ x ∈ l, 0 ≤ x ∧ x < 256) (t : List UInt8) : (strOfNums l).data.toList = t ↔ l = ints t := by
 rw [strOfNums_data]
 constructor
 ·rintro rfl; unfold ints; rw [List.map_map]; refine (List.map_id' l).symm.trans (List.map_congr_left fun x hx => ?_); have := hb x hx; simp only [Function.comp]; rw [UInt8.toNat_ofNat']; omega
 ·rintro rfl; unfold ints; rw [List.map_map]; refine (List.map_congr_left fun x hx => ?_).trans (List.map_id' t); simp
theorem cut_root (s root : ByteArray) (n : Nat) (hn1 : 1 ≤ n) (hn2 : n ≤ 32) (hr : root.size = n) : cutL s n = rootL root ↔ (digV (nText s) n).toList = root.toList := by
 have hl : root.data.toList.length = n := hr; have hw : widB (n : Int) = true := by unfold widB; rw [decide_eq_true_eq]; omega
 rw [digV_yes hw, Int.toNat_natCast]; unfold shaV; rw [← strOfNums_take, ByteArray.toList_eq, ByteArray.toList_eq]; rw [strOfNums_ints _ (fun x hx => shaL_mem _ x (List.mem_of_mem_take hx))]; unfold cutL rootL; rw [hr]
 constructor
 ·intro e; exact (List.append_inj e (by rw [List.length_take, shaL_length, ints_length, hl]; omega)).1
 ·intro e; rw [e]
theorem first_cuts (n : Nat) (hn1 : 1 ≤ n) (hn2 : n ≤ 32) (root : ByteArray) (hr : root.size = n) : ∀ l : List ByteArray, firstAt (cuts n l) (rootL root) = firstS (hashS n l) root
 | [] => rfl
 | s :: r => by
  have ih := first_cuts n hn1 hn2 root hr r; have e := cut_root s root n hn1 hn2 hr; unfold cuts hashS at ih ⊢; rw [List.map_cons, List.map_cons, firstAt, firstS, ih]
  by_cases h : cutL s n = rootL root
  ·rw [if_pos h, if_pos (e.1 h)]
  ·rw [if_neg h, if_neg (fun h2 => h (e.2 h2))]
theorem findR_S (n : Nat) (hn1 : 1 ≤ n) (hn2 : n ≤ 32) (root : ByteArray) (hr : root.size = n) (l : List ByteArray) : findR n l (cuts n l) root = findS n l (hashS n l) root 0 := by
 unfold findR findS; rw [first_cuts n hn1 hn2 root hr l]
 cases firstS (hashS n l) root with
 | none => rfl
 | some j =>
  dsimp only; rw [Nat.zero_add]
  rcases decI (l.getD j ⟨#[]⟩) n with _ | ⟨a, b, c, d⟩ <;> rfl
theorem l3Find_f (W : Int) (l : List ByteArray) (s : ByteArray) (hl : small l) (k : Nat) (hk : 1048577 < k) : spec_l3Find.f k W l (hashS W l) s = some (findS W l (hashS W l) s 0) := by
 unfold spec_l3Find.f; exact l3Find_loop W l (hashS W l) s (by unfold hashS; rw [List.length_map]) hl.1 hl.2 l.length 0 k (by omega) (by have := hl.1; omega)
end Go.Proofs.YtonbmghgbblifaaDoor.Z
end
section
namespace Go.Proofs.YtonbmghgbblifaaDoor.Z
open RowKit YtonbmghgbblifaaDoorW.PrintWords YtonbmghgbblifaaDoorW.PrintLast YtonbmghgbblifaaDoorW.PrintMore
attribute [local go_sem] max2_int min2_int max_two min_two max_three min_three max_four min_four
set_option linter.all false
def spec_l4Inside.f (k : Nat) (a0 : ByteArray) (a1_0 : ByteArray) (a1_1 : ByteArray) : Option (Bool) := if (a1_0.size : Int) = 0 then (if (a1_1.size : Int) = 0 then (some true) else ((spec_l1Less.f k a0 a1_1).bind fun t1360002 => (some t1360002))) else ((spec_l1Less.f k a1_0 a0).bind fun t1360003 => (if t1360003 = true then (if (a1_1.size : Int) = 0 then (some true) else ((spec_l1Less.f k a0 a1_1).bind fun t1360004 => (some t1360004))) else (some false)))
set_option maxHeartbeats 8000000 in
set_option maxRecDepth 100000 in
theorem spec_l4Inside.calls (k : Nat) (a0 : ByteArray) (a1_0 : ByteArray) (a1_1 : ByteArray) (r : Bool) (w : World) (h : spec_l4Inside.f k a0 a1_0 a1_1 = some r) :
  Calls Tryd.prog 136 #[.string a0, .agg #[.string a1_0, .string a1_1]] w fun e w' => e = .returned (.bool r) ∧ Below w.heap.size w w' := by
 have hu86 := Tryd.underlying86; have HB := Aside0.mk (Below.refl w.heap.size w); have H : (if (a1_0.size : Int) = 0 then (if (a1_1.size : Int) = 0 then (some true) else ((spec_l1Less.f k a0 a1_1).bind fun t1360002 => (some t1360002))) else ((spec_l1Less.f k a1_0 a0).bind fun t1360003 => (if t1360003 = true then (if (a1_1.size : Int) = 0 then (some true) else ((spec_l1Less.f k a0 a1_1).bind fun t1360004 => (some t1360004))) else (some false)))) = some r := h; clear h
 by_cases c3 : (a1_0.size : Int) = 0
 ·rw [if_pos c3] at H; have c3b0 : ((a1_0.size : Int) == 0) = true := beq_iff_eq.mpr c3; have c3b1 : ((a1_0.size : Int) != 0) = false := bne_eq_false_iff_eq.mpr c3; clear c3
  by_cases c4 : (a1_1.size : Int) = 0
  ·rw [if_pos c4] at H; have c4b0 : ((a1_1.size : Int) == 0) = true := beq_iff_eq.mpr c4; have c4b1 : ((a1_1.size : Int) != 0) = false := bne_eq_false_iff_eq.mpr c4; clear c4; obtain rfl := Option.some.inj H
   go_enter Tryd.func136, Tryd.ntmps136
   go_wp2_with (first | ((with_reducible refine gate_dst (N := 3) rfl ?_); (try (refine gate_guard (by rfl) ?_; dsimp only)); refine box_event ?hg (N := 3) ?hd (cs := #[.string a1_0, .string a1_1]) (t := 86) ?hr ?_; (case hd => rfl); (case hg => rfl); (case hr => exact zq_14); intro gb1360001 hg w5 hbox hb; have n0_ := Aside0.mk (below_step zq_0 hb); have n1_ := Aside0.mk (hbox); have n2_ := Aside0.mk ((by rw [hg]; exact (below_size zq_0) : w.heap.size ≤ gb1360001)); have n3_ := Aside0.mk ((by rw [hg]; exact (below_size zq_0) : w.heap.size ≤ gb1360001)); clear HB; have HB := n0_; have BK1360001 := n1_; have GW1360001 := n2_; have GE1360001 := n3_; clear n0_ n1_ n2_ n3_; clear hb hbox hg; have hcz6_0 : w5.cell? ⟨gb1360001, 0, none⟩ = some (.string a1_0) := (blk_cell BK1360001.out 0).trans rfl; have hcz6_1 : w5.cell? ⟨gb1360001, 1, none⟩ = some (.string a1_1) := (blk_cell BK1360001.out 1).trans rfl; have hfz6_0 := blk_frozen BK1360001.out 0; have hfz6_1 := blk_frozen BK1360001.out 1))
   go_ret
   exact ⟨by first | rfl | (simp [errW_none, errW_some] <;> rfl) | (simp [*, errW_none, errW_some] <;> rfl), by repeat (first | (with_reducible first | exact HB.out | apply below_alloc | apply pw_below_drewN | apply below_drew1 | refine below_set ?_ GE1360001.out) | exact HB.out)⟩
  ·rw [if_neg c4] at H; have c4b0 : ((a1_1.size : Int) == 0) = false := beq_eq_false_iff_ne.mpr c4; have c4b1 : ((a1_1.size : Int) != 0) = true := bne_iff_ne.mpr c4; replace H := Option.bind_eq_some_iff.mp H; obtain ⟨t1360002, A70, H⟩ := H; (try dsimp only at H); have A7 := Aside0.mk A70; clear A70; obtain rfl := Option.some.inj H
   go_enter Tryd.func136, Tryd.ntmps136
   go_wp2_with (first | ((with_reducible refine gate_dst (N := 3) rfl ?_); (try (refine gate_guard (by rfl) ?_; dsimp only)); refine box_event ?hg (N := 3) ?hd (cs := #[.string a1_0, .string a1_1]) (t := 86) ?hr ?_; (case hd => rfl); (case hg => rfl); (case hr => exact zq_14); intro gb1360001 hg w8 hbox hb; have n0_ := Aside0.mk (below_step zq_0 hb); have n1_ := Aside0.mk (hbox); have n2_ := Aside0.mk ((by rw [hg]; exact (below_size zq_0) : w.heap.size ≤ gb1360001)); have n3_ := Aside0.mk ((by rw [hg]; exact (below_size zq_0) : w.heap.size ≤ gb1360001)); clear HB; have HB := n0_; have BK1360001 := n1_; have GW1360001 := n2_; have GE1360001 := n3_; clear n0_ n1_ n2_ n3_; clear hb hbox hg; have hcz9_0 : w8.cell? ⟨gb1360001, 0, none⟩ = some (.string a1_0) := (blk_cell BK1360001.out 0).trans rfl; have hcz9_1 : w8.cell? ⟨gb1360001, 1, none⟩ = some (.string a1_1) := (blk_cell BK1360001.out 1).trans rfl; have hfz9_0 := blk_frozen BK1360001.out 0; have hfz9_1 := blk_frozen BK1360001.out 1) | (go_at_call 97; (with_reducible refine (spec_l1Less.calls k a0 a1_1 t1360002 _ A7.out).mono ?_); rintro e w' ⟨rfl, ⟨nd, rfl⟩⟩))
   go_ret
   exact ⟨by first | rfl | (simp [errW_none, errW_some] <;> rfl) | (simp [*, errW_none, errW_some] <;> rfl), by repeat (first | (with_reducible first | exact HB.out | apply below_alloc | apply pw_below_drewN | apply below_drew1 | refine below_set ?_ GE1360001.out) | exact HB.out)⟩
 ·rw [if_neg c3] at H; have c3b0 : ((a1_0.size : Int) == 0) = false := beq_eq_false_iff_ne.mpr c3; have c3b1 : ((a1_0.size : Int) != 0) = true := bne_iff_ne.mpr c3; replace H := Option.bind_eq_some_iff.mp H; obtain ⟨t1360003, A100, H⟩ := H; (try dsimp only at H); have A10 := Aside0.mk A100; clear A100
  by_cases c11 : t1360003 = true
  ·subst c11; have H1 : (if (a1_1.size : Int) = 0 then (some true) else ((spec_l1Less.f k a0 a1_1).bind fun t1360004 => (some t1360004))) = some r := by rw [if_pos rfl] at H; exact H
   clear H; have H := H1; clear H1
   by_cases c12 : (a1_1.size : Int) = 0
   ·rw [if_pos c12] at H; have c12b0 : ((a1_1.size : Int) == 0) = true := beq_iff_eq.mpr c12; have c12b1 : ((a1_1.size : Int) != 0) = false := bne_eq_false_iff_eq.mpr c12; clear c12; obtain rfl := Option.some.inj H
    go_enter Tryd.func136, Tryd.ntmps136
    go_wp2_with (first | ((with_reducible refine gate_dst (N := 3) rfl ?_); (try (refine gate_guard (by rfl) ?_; dsimp only)); refine box_event ?hg (N := 3) ?hd (cs := #[.string a1_0, .string a1_1]) (t := 86) ?hr ?_; (case hd => rfl); (case hg => rfl); (case hr => exact zq_14); intro gb1360001 hg w13 hbox hb; have n0_ := Aside0.mk (below_step zq_0 hb); have n1_ := Aside0.mk (hbox); have n2_ := Aside0.mk ((by rw [hg]; exact (below_size zq_0) : w.heap.size ≤ gb1360001)); have n3_ := Aside0.mk ((by rw [hg]; exact (below_size zq_0) : w.heap.size ≤ gb1360001)); clear HB; have HB := n0_; have BK1360001 := n1_; have GW1360001 := n2_; have GE1360001 := n3_; clear n0_ n1_ n2_ n3_; clear hb hbox hg; have hcz14_0 : w13.cell? ⟨gb1360001, 0, none⟩ = some (.string a1_0) := (blk_cell BK1360001.out 0).trans rfl; have hcz14_1 : w13.cell? ⟨gb1360001, 1, none⟩ = some (.string a1_1) := (blk_cell BK1360001.out 1).trans rfl; have hfz14_0 := blk_frozen BK1360001.out 0; have hfz14_1 := blk_frozen BK1360001.out 1) | (go_at_call 97; (with_reducible refine (spec_l1Less.calls k a1_0 a0 true _ A10.out).mono ?_); rintro e w' ⟨rfl, ⟨nd, rfl⟩⟩))
    go_ret
    exact ⟨by first | rfl | (simp [errW_none, errW_some] <;> rfl) | (simp [*, errW_none, errW_some] <;> rfl), by repeat (first | (with_reducible first | exact HB.out | apply below_alloc | apply pw_below_drewN | apply below_drew1 | refine below_set ?_ GE1360001.out) | exact HB.out)⟩
   ·rw [if_neg c12] at H; have c12b0 : ((a1_1.size : Int) == 0) = false := beq_eq_false_iff_ne.mpr c12; have c12b1 : ((a1_1.size : Int) != 0) = true := bne_iff_ne.mpr c12; replace H := Option.bind_eq_some_iff.mp H; obtain ⟨t1360004, A150, H⟩ := H; (try dsimp only at H); have A15 := Aside0.mk A150; clear A150; obtain rfl := Option.some.inj H
    go_enter Tryd.func136, Tryd.ntmps136
    go_wp2_with (first | ((with_reducible refine gate_dst (N := 3) rfl ?_); (try (refine gate_guard (by rfl) ?_; dsimp only)); refine box_event ?hg (N := 3) ?hd (cs := #[.string a1_0, .string a1_1]) (t := 86) ?hr ?_; (case hd => rfl); (case hg => rfl); (case hr => exact zq_14); intro gb1360001 hg w16 hbox hb; have n0_ := Aside0.mk (below_step zq_0 hb); have n1_ := Aside0.mk (hbox); have n2_ := Aside0.mk ((by rw [hg]; exact (below_size zq_0) : w.heap.size ≤ gb1360001)); have n3_ := Aside0.mk ((by rw [hg]; exact (below_size zq_0) : w.heap.size ≤ gb1360001)); clear HB; have HB := n0_; have BK1360001 := n1_; have GW1360001 := n2_; have GE1360001 := n3_; clear n0_ n1_ n2_ n3_; clear hb hbox hg; have hcz17_0 : w16.cell? ⟨gb1360001, 0, none⟩ = some (.string a1_0) := (blk_cell BK1360001.out 0).trans rfl; have hcz17_1 : w16.cell? ⟨gb1360001, 1, none⟩ = some (.string a1_1) := (blk_cell BK1360001.out 1).trans rfl; have hfz17_0 := blk_frozen BK1360001.out 0; have hfz17_1 := blk_frozen BK1360001.out 1) | (go_at_call 97; (with_reducible refine (spec_l1Less.calls k a1_0 a0 true _ A10.out).mono ?_); rintro e w' ⟨rfl, ⟨nd, rfl⟩⟩) | (go_at_call 97; (with_reducible refine (spec_l1Less.calls k a0 a1_1 t1360004 _ A15.out).mono ?_); rintro e w' ⟨rfl, ⟨nd, rfl⟩⟩))
    go_ret
    exact ⟨by first | rfl | (simp [errW_none, errW_some] <;> rfl) | (simp [*, errW_none, errW_some] <;> rfl), by repeat (first | (with_reducible first | exact HB.out | apply below_alloc | apply pw_below_drewN | apply below_drew1 | refine below_set ?_ GE1360001.out) | exact HB.out)⟩
  ·replace c11 := Bool.eq_false_iff.mpr c11; subst c11; have H1 : (some false) = some r := by rw [if_neg (show ¬ (false = true) by decide)] at H; exact H
   clear H; have H := H1; clear H1; obtain rfl := Option.some.inj H
   go_enter Tryd.func136, Tryd.ntmps136
   go_wp2_with (first | ((with_reducible refine gate_dst (N := 3) rfl ?_); (try (refine gate_guard (by rfl) ?_; dsimp only)); refine box_event ?hg (N := 3) ?hd (cs := #[.string a1_0, .string a1_1]) (t := 86) ?hr ?_; (case hd => rfl); (case hg => rfl); (case hr => exact zq_14); intro gb1360001 hg w18 hbox hb; have n0_ := Aside0.mk (below_step zq_0 hb); have n1_ := Aside0.mk (hbox); have n2_ := Aside0.mk ((by rw [hg]; exact (below_size zq_0) : w.heap.size ≤ gb1360001)); have n3_ := Aside0.mk ((by rw [hg]; exact (below_size zq_0) : w.heap.size ≤ gb1360001)); clear HB; have HB := n0_; have BK1360001 := n1_; have GW1360001 := n2_; have GE1360001 := n3_; clear n0_ n1_ n2_ n3_; clear hb hbox hg; have hcz19_0 : w18.cell? ⟨gb1360001, 0, none⟩ = some (.string a1_0) := (blk_cell BK1360001.out 0).trans rfl; have hcz19_1 : w18.cell? ⟨gb1360001, 1, none⟩ = some (.string a1_1) := (blk_cell BK1360001.out 1).trans rfl; have hfz19_0 := blk_frozen BK1360001.out 0; have hfz19_1 := blk_frozen BK1360001.out 1) | (go_at_call 97; (with_reducible refine (spec_l1Less.calls k a1_0 a0 false _ A10.out).mono ?_); rintro e w' ⟨rfl, ⟨nd, rfl⟩⟩))
   go_ret
   exact ⟨by first | rfl | (simp [errW_none, errW_some] <;> rfl) | (simp [*, errW_none, errW_some] <;> rfl), by repeat (first | (with_reducible first | exact HB.out | apply below_alloc | apply pw_below_drewN | apply below_drew1 | refine below_set ?_ GE1360001.out) | exact HB.out)⟩
end Go.Proofs.YtonbmghgbblifaaDoor.Z
end
section
namespace Go.Proofs.YtonbmghgbblifaaDoor.Z
open RowKit YtonbmghgbblifaaDoor YtonbmghgbblifaaDoorW.PrintWords YtonbmghgbblifaaDoorW.PrintLast
set_option linter.all false
theorem less_irrefl : ∀ x : List UInt8, Op.bytesLess x x = false
 | [] => rfl
 | a :: r => by simp [Op.bytesLess, less_irrefl r]
theorem leS_eq (a b : ByteArray) : leS a b = !ltS b a := by
 unfold leS ltS
 by_cases h : a.toList = b.toList
 ·rw [h, less_irrefl]; simp
 ·rw [bytesLess_swap _ _ h]; rw [show (a.toList == b.toList) = false from beq_eq_false_iff_ne.2 h]; simp
theorem emp_size (s : ByteArray) : emp s = decide ((s.size : Int) = 0) := by
 have h3 : s.toList = s.data.toList := ByteArray.toList_eq s; have h4 : s.data.toList.length = s.size := rfl; unfold emp; rw [h3]
 cases h : s.data.toList with
 | nil => rw [h] at h4; simp at h4; rw [← h4]; rfl
 | cons a r => rw [h] at h4; simp at h4; rw [show decide ((s.size : Int) = 0) = false by rw [decide_eq_false_iff_not]; omega]; rfl
theorem wants_prop (A B C : Prop) [Decidable A] [Decidable B] [Decidable C] (x p q : Bool) : (if x = true then some false else (if ¬ A then (if p = true then (if B then some true else (if C then some true else some q)) else some false) else (if B then some true else (if C then some true else some q)))) = some (!x && !(!decide A && !p) && (decide C || decide B || q)) := by
 by_cases a : A <;> by_cases b : B <;> by_cases c : C <;> cases x <;> cases p <;> cases q <;> simp [a, b, c]
theorem inside_prop (A B : Prop) [Decidable A] [Decidable B] (p q : Bool) : (if A then (if B then some true else some q) else (if p = true then (if B then some true else some q) else some false)) = some ((decide A || !!p) && (decide B || q)) := by
 by_cases a : A <;> by_cases b : B <;> cases p <;> cases q <;> simp [a, b]
theorem l4Wants_f (blo bhi lo hi : ByteArray) (h1 : blo.size ≤ 1048576) (h2 : bhi.size ≤ 1048576) (h3 : lo.size ≤ 1048576) (h4 : hi.size ≤ 1048576) (k : Nat) (hk : 2100000 < k) : spec_l4Wants.f k blo bhi lo hi = some (meetsB lo hi blo bhi) := by
 have key : ∀ (j : Nat) (x : Bool), 2099999 < j → spec_l4Wants.j0 (j + 1) lo hi x blo bhi = some (!x && !(!emp bhi && !ltS lo bhi) && (emp hi || emp blo || ltS blo hi)) := by
  intro j x hj; simp only [spec_l4Wants.j0]; rw [spec_l1Less_f lo bhi (by omega) j (by omega), spec_l1Less_f blo hi (by omega) j (by omega)]; simp only [Option.bind_some]; rw [emp_size, emp_size, emp_size]; unfold ltS; have g : ((bhi.size : Int) > 0) = ¬ ((bhi.size : Int) = 0) := propext (by omega); simp only [g]; exact wants_prop _ _ _ _ _ _
 unfold spec_l4Wants.f meetsB; rw [leS_eq, leS_eq]; obtain ⟨k, rfl⟩ : ∃ j, k = j + 1 := ⟨k - 1, by omega⟩
 rw [spec_l1Less_f lo hi (by omega) _ (by omega), Option.bind_some]; rw [key k _ (by omega), key k _ (by omega)]; rw [emp_size hi]; unfold ltS
 by_cases e3 : (hi.size : Int) = 0
 ·rw [if_neg (by omega), decide_eq_true e3]; generalize emp bhi = a; generalize emp blo = b; generalize Op.bytesLess lo.toList bhi.toList = c; generalize Op.bytesLess blo.toList hi.toList = d; generalize Op.bytesLess lo.toList hi.toList = e
  cases a <;> cases b <;> cases c <;> cases d <;> cases e <;> rfl
 ·rw [if_pos (by omega), decide_eq_false e3]; generalize emp bhi = a; generalize emp blo = b; generalize Op.bytesLess lo.toList bhi.toList = c; generalize Op.bytesLess blo.toList hi.toList = d; generalize Op.bytesLess lo.toList hi.toList = e
  cases a <;> cases b <;> cases c <;> cases d <;> cases e <;> rfl
theorem l4Inside_f (key blo bhi : ByteArray) (h1 : blo.size ≤ 1048576) (h2 : bhi.size ≤ 1048576) (h3 : key.size ≤ 1048576) (k : Nat) (hk : 2100000 < k) : spec_l4Inside.f k key blo bhi = some (holdsB blo bhi key) := by
 unfold spec_l4Inside.f holdsB; rw [leS_eq, emp_size, emp_size]; rw [spec_l1Less_f key bhi (by omega) k (by omega), spec_l1Less_f blo key (by omega) k (by omega)]; simp only [Option.bind_some]; unfold ltS; exact inside_prop _ _ _ _
end Go.Proofs.YtonbmghgbblifaaDoor.Z
end
section
namespace Go.Proofs.YtonbmghgbblifaaDoor.Z
open RowKit YtonbmghgbblifaaDoor YtonbmghgbblifaaDoorW.PrintWords YtonbmghgbblifaaDoorW.PrintLast
set_option linter.all false
set_option maxRecDepth 100000
theorem walkI_some (n : Nat) (encs : List ByteArray) (C : List (List Int)) (lo hi : ByteArray) : ∀ (k : Nat) (seen : Int) (root above blo bhi : ByteArray), 0 ≤ seen → seen ≤ 500 → 500 - seen < k → ∃ r, walkI n encs C lo hi k seen root above blo bhi = some r := by
 intro k
 induction k with
 | zero => intro seen root above blo bhi h0 h1 h2; omega
 | succ k ih =>
  intro seen root above blo bhi h0 h1 h2; unfold walkI
  split
  ·exact ⟨_, rfl⟩
  split
  ·exact ⟨_, rfl⟩
  split
  ·exact ⟨_, rfl⟩
  split
  ·exact ⟨_, rfl⟩
  rename_i h6
  obtain ⟨⟨l, s1, c1⟩, hL⟩ := ih (seen + 1) (findR n encs C root).2.2.1 (findR n encs C root).1 blo (findR n encs C root).1 (by omega) (by omega) (by omega); have iL := walkI_len _ _ _ _ _ _ _ _ _ _ _ _ _ _ hL (by omega) (by omega); rw [hL, Option.bind_some]; dsimp only
  split
  ·exact ⟨_, rfl⟩
  obtain ⟨⟨r, s2, c2⟩, hR⟩ := ih s1 (findR n encs C root).2.2.2.1 (findR n encs C root).1 (findR n encs C root).1 bhi (by omega) (by omega) (by omega); rw [hR, Option.bind_some]; dsimp only
  split
  ·exact ⟨_, rfl⟩
  ·exact ⟨_, rfl⟩
def walkG (n : Nat) (l : List ByteArray) (root lo hi : ByteArray) : List S78 × Int × Int := (walkI n l (cuts n l) lo hi 502 0 root ⟨#[]⟩ ⟨#[]⟩ ⟨#[]⟩).getD ([], 0, 99)
theorem walkG_some (n : Nat) (l : List ByteArray) (root lo hi : ByteArray) : walkI n l (cuts n l) lo hi 502 0 root ⟨#[]⟩ ⟨#[]⟩ ⟨#[]⟩ = some (walkG n l root lo hi) := by
 obtain ⟨r, hr⟩ := walkI_some n l (cuts n l) lo hi 502 0 root ⟨#[]⟩ ⟨#[]⟩ ⟨#[]⟩ (by omega) (by omega) (by omega); unfold walkG; rw [hr]; rfl
def rangeR (W : Int) (l : List ByteArray) (root lo hi : ByteArray) : List S78 × Int :=
 if poolOk W l = true ∧ (emp root = true ∨ (root.size : Int) = W) then (if (walkG W.toNat l root lo hi).2.2 ≠ 0 then ([], (walkG W.toNat l root lo hi).2.2) else ((walkG W.toNat l root lo hi).1, 0)) else ([], 1)
section
variable {B V base b m : Nat} {v : Value} {n : Nat} {encs : List ByteArray} {C : List (List Int)} {lo hi : ByteArray} {w0 wx w : World}
end
end Go.Proofs.YtonbmghgbblifaaDoor.Z
end
section
namespace Go.Proofs.YtonbmghgbblifaaDoor.Z
open RowKit YtonbmghgbblifaaDoor YtonbmghgbblifaaDoorW.PrintWords YtonbmghgbblifaaDoorW.PrintLast
set_option linter.all false
set_option maxRecDepth 100000
def specR : List S78 × Int × Int → List S78 × Int × Int
 | (ps, s, c) => if c = 0 then (ps, s, 0) else ([], 0, c)
theorem specR_bad {ps : List S78} {s c : Int} (h : c ≠ 0) : specR (ps, s, c) = ([], 0, c) := by
 show (if c = 0 then (ps, s, 0) else ([], 0, c)) = _; rw [if_neg h]
theorem decI_hash {s : ByteArray} {n : Nat} {a b c d : ByteArray} (h : decI s n = some (a, b, c, d)) : (c.size = n ∨ c.size = 0) ∧ (d.size = n ∨ d.size = 0) := by
 unfold decI at h; dsimp only at h
 split at h
 ·rename_i hc
  obtain ⟨_, _, _, _, h5⟩ := hc; simp only [Option.some.injEq, Prod.mk.injEq] at h; obtain ⟨rfl, rfl, rfl, rfl⟩ := h; unfold nodeOk hOk at h5; simp only [Bool.and_eq_true, Bool.or_eq_true, decide_eq_true_eq] at h5; omega
 ·cases h
theorem findR_hash {n : Nat} {encs : List ByteArray} {C : List (List Int)} {root : ByteArray} (h : (findR n encs C root).2.2.2.2 = 0) : ((findR n encs C root).2.2.1.size = n ∨ (findR n encs C root).2.2.1.size = 0) ∧ ((findR n encs C root).2.2.2.1.size = n ∨ (findR n encs C root).2.2.2.1.size = 0) := by
 unfold findR at h ⊢
 split at h
 ·simp at h
 ·rename_i i hi
  rcases hz : decI (encs.getD i ⟨#[]⟩) n with _ | ⟨a, b, c, d⟩
  ·rw [hz] at h; simp at h
  ·exact decI_hash hz
structure GoRows (g : Nat) (W : Int) (A0 : Option Addr) (m c0 : Nat) (blo bhi : ByteArray) (w : World) : Prop where
 r0 : w.heap[g]? = some (.cells #[.int .i64 W, .slice A0 m c0] 34 (0, 0))
 r1 : w.heap[g + 1]? = some (.cells #[.string blo, .string bhi] 86 (0, 0))
 r2 : w.heap[g + 1 + 1]? = some (.cells #[.slice none 0 0, .int .i64 0, .int .i64 0] 158 (0, 0))
theorem GoRows.below {g : Nat} {W : Int} {A0 : Option Addr} {m c0 : Nat} {blo bhi : ByteArray} {w w1 : World} (h : GoRows g W A0 m c0 blo bhi w) (hb : Below w.heap.size w w1) : GoRows g W A0 m c0 blo bhi w1 :=
 ⟨(hb.block _ (lt_of_block h.r0)).trans h.r0, (hb.block _ (lt_of_block h.r1)).trans h.r1, (hb.block _ (lt_of_block h.r2)).trans h.r2⟩
theorem GoRows.start (W : Int) (A0 : Option Addr) (m c0 : Nat) (blo bhi : ByteArray) (w : World) : GoRows w.heap.size W A0 m c0 blo bhi (((w.alloc (.cells #[.int .i64 W, .slice A0 m c0] 34)).alloc (.cells #[.string blo, .string bhi] 86)).alloc (.cells #[.slice none 0 0, .int .i64 0, .int .i64 0] 158)) := by
 refine ⟨?_, ?_, ?_⟩
 ·rw [heap_alloc_old _ _ (by simp; omega), heap_alloc2_old]
 ·rw [heap_alloc_old _ _ (by simp), heap_alloc2_new]
 ·have := heap_alloc_new ((w.alloc (.cells #[.int .i64 W, .slice A0 m c0] 34)).alloc (.cells #[.string blo, .string bhi] 86)) (.cells #[.slice none 0 0, .int .i64 0, .int .i64 0] 158)
  simpa using this
theorem set3 (w : World) (B : Nat) (a b c : Value) : w.grownBy (((w.setCell ⟨B, 0, none⟩ a).setCell ⟨B, 1, none⟩ b).setCell ⟨B, 2, none⟩ c) (some B) :=
 grown_two (grown_two (grownBy_set w B 0 a) (grownBy_set _ B 1 b) (.inl rfl)) (grownBy_set _ B 2 c) (.inl rfl)
theorem goRes {g : Nat} {W : Int} {A0 : Option Addr} {m c0 base : Nat} {blo bhi : ByteArray} {w0 wx : World} {v : Value} {ps : List S78} (s c : Int) (hg : GoRows g W A0 m c0 blo bhi wx) (hw : w0.heap.size = g) (hB : Below w0.heap.size w0 wx) (hR : Kd.R k78 78 wx base (fun _ => True) v ps) (hb : g + 3 ≤ base) :
  (((wx.setCell ⟨g + 1 + 1, 0, none⟩ v).setCell ⟨g + 1 + 1, 1, none⟩ (.int .i64 s)).setCell ⟨g + 1 + 1, 2, none⟩ (.int .i64 c)).heap[g + 1 + 1]? = some (.cells #[v, .int .i64 s, .int .i64 c] 158 (0, 0)) ∧
  Kd.R k78 78 (((wx.setCell ⟨g + 1 + 1, 0, none⟩ v).setCell ⟨g + 1 + 1, 1, none⟩ (.int .i64 s)).setCell ⟨g + 1 + 1, 2, none⟩ (.int .i64 c)) w0.heap.size (fun _ => True) v ps ∧
  Below w0.heap.size w0 (((wx.setCell ⟨g + 1 + 1, 0, none⟩ v).setCell ⟨g + 1 + 1, 1, none⟩ (.int .i64 s)).setCell ⟨g + 1 + 1, 2, none⟩ (.int .i64 c)) := by
 refine ⟨blk_put (blk_put (blk_put hg.r2 0 _ rfl) 1 _ rfl) 2 _ rfl, Kd.R_lower (R_past hR (set3 wx (g + 1 + 1) v _ _) (by omega)) (by omega), hB.grown (set3 wx (g + 1 + 1) v _ _) hB.size (fun k hk => ?_)⟩; have := Option.some.inj hk; omega
structure OutIs (g : Nat) (W : Int) (A0 : Option Addr) (m c0 : Nat) (blo bhi : ByteArray) (rb : Nat) (u : Value) (s : Int) (rq : List S78) (w0 : World) (out : List S78) (v : Value) (w : World) : Prop where
 r : Kd.R k78 78 w w0.heap.size (fun _ => True) v out
 q : Kd.R k78 78 w w0.heap.size (fun _ => True) u rq
 ap : ∀ k, v.ownBlock = some k → some k ≠ u.ownBlock
 far : ∀ k, v.ownBlock = some k → g + 3 ≤ k ∧ k ≠ rb
 rows : GoRows g W A0 m c0 blo bhi w
 row : w.heap[rb]? = some (.cells #[u, .int .i64 s, .int .i64 0] 158 (0, 0))
 below : Below w0.heap.size w0 w
 hg : w0.heap.size = g
theorem OutIs.app {g : Nat} {W : Int} {A0 : Option Addr} {m c0 : Nat} {blo bhi : ByteArray} {rb : Nat} {u : Value} {s : Int} {rq : List S78} {w0 : World} {out out1 : List S78} {v v1 : Value} {w w1 : World} (h : OutIs g W A0 m c0 blo bhi rb u s rq w0 out v w)
  (hr : Kd.R k78 78 w1 w0.heap.size (fun _ => True) v1 out1) (hb : Below w0.heap.size w0 w1) (hg : w.grownBy w1 v.ownBlock) (hv : v1.ownBlock = v.ownBlock ∨ ∃ b, v1.ownBlock = some b ∧ w.heap.size ≤ b) : OutIs g W A0 m c0 blo bhi rb u s rq w0 out1 v1 w1 := by
 have hu := Kd.R_lt h.q; have hrl := lt_of_block h.row; have h0 := lt_of_block h.rows.r2; have keep : ∀ k, k < w.heap.size → (k < g + 3 ∨ k = rb) → w1.heap[k]? = w.heap[k]? := fun k hk hk2 => hg.block k hk (fun e => by have := h.far k e.symm; omega)
 refine ⟨hr, Kd.R_grown2 h.q rfl hg (fun k hk => h.ap k hk), fun k hk => ?_, fun k hk => ?_, ⟨?_, ?_, ?_⟩, (keep rb hrl (.inr rfl)).trans h.row, hb, h.hg⟩
 ·rcases hv with e | ⟨b, e, hb2⟩
  ·exact h.ap k (e ▸ hk)
  ·rw [e] at hk; cases hk; intro e2; have := hu k e2.symm; omega
 ·rcases hv with e | ⟨b, e, hb2⟩
  ·exact h.far k (e ▸ hk)
  ·rw [e] at hk; cases hk; omega
 ·exact (keep g (by omega) (.inl (by omega))).trans h.rows.r0
 ·exact (keep (g + 1) (by omega) (.inl (by omega))).trans h.rows.r1
 ·exact (keep (g + 1 + 1) (by omega) (.inl (by omega))).trans h.rows.r2
def GoSays (n : Nat) (l H : List ByteArray) (lo hi : ByteArray) (kk : Nat) : Prop :=
 ∀ (seen : Int) (root above blo bhi : ByteArray) (r : List S78 × Int × Int) (w : World) (A0 : Option Addr) (c0 : Nat) (A1 : Option Addr) (c1 : Nat), Kd.C Kd.string w A0 l.length l → l.length ≤ c0 → Kd.C Kd.string w A1 H.length H → H.length ≤ c1 →
  (root.size = n ∨ root.size = 0) → above.size ≤ 256 → blo.size ≤ 256 → bhi.size ≤ 256 → 0 ≤ seen → seen ≤ 500 → walkI n l (cuts n l) lo hi kk seen root above blo bhi = some r →
  Calls Tryd.prog 104 #[.agg #[.int .i64 n, .slice A0 l.length c0], .slice A1 H.length c1, .string root, .string above, .agg #[.string blo, .string bhi], .string lo, .string hi, .int .i64 seen] w
   fun e w' => ∃ v0_ : Value, e = .returned (.agg #[v0_, .int .i64 (specR r).2.1, .int .i64 (specR r).2.2]) ∧ Kd.R k78 78 w' w.heap.size (fun _ => True) v0_ (specR r).1 ∧ Below w.heap.size w w'
set_option maxHeartbeats 4000000 in
theorem specGo_any (n : Nat) (hn1 : 1 ≤ n) (hn2 : n ≤ 32) (l : List ByteArray) (hsm : small l) (lo hi : ByteArray) (hlo : lo.size ≤ 1048576) (hhi : hi.size ≤ 1048576) : ∀ kk, GoSays n l (hashS n l) lo hi kk := by
 intro kk
 induction kk with
 | zero => intro seen root above blo bhi r w A0 c0 A1 c1 _ _ _ _ _ _ _ _ _ _ h; cases h
 | succ kk ih =>
 intro seen root above blo bhi r w A0 c0 A1 c1 hA0 hc0 hA1 hc1 hroot habove hblo hbhi h0 h5 h; obtain ⟨H, hH⟩ : ∃ H, hashS n l = H := ⟨_, rfl⟩
 rw [hH] at hA1 hc1 ih ⊢; obtain ⟨W1, hWE⟩ : ∃ W1, W1 = ((w.alloc (.cells #[.int .i64 (n : Int), .slice A0 l.length c0] 34)).alloc (.cells #[.string blo, .string bhi] 86)).alloc (.cells #[.slice none 0 0, .int .i64 0, .int .i64 0] 158) := ⟨_, rfl⟩
 have hg1 : GoRows w.heap.size n A0 l.length c0 blo bhi W1 := by rw [hWE]; exact GoRows.start _ _ _ _ _ _ _
 have hz1 : W1.heap.size = w.heap.size + 3 := by rw [hWE]; simp
 have hB1 : Below w.heap.size w W1 := by rw [hWE]; exact ((((Below.refl _ _).alloc (Nat.le_refl _) _).alloc (by simp) _).alloc (by simp; omega) _)
 have HA0 := Lib.hid hA0; have HA1 := Lib.hid hA1; have HI := Lib.hid ih; have HH := Lib.hid h; have HHS := Lib.hid hH; have HSM := Lib.hid hsm; have HWE := Lib.hid hWE; have HG1 := Lib.hid hg1; have HB1 := Lib.hid hB1; have HRT := Lib.hid hroot; clear hA0 hA1 ih h hH hsm hWE hg1 hB1 hroot
 go_enter Tryd.func104, Tryd.ntmps104
 go_upto_region 1 with fail
 rw [← HWE.out]
 go_upto_region 2 with ((with_reducible refine gate_dst (N := 24) rfl ?_); refine Kd.R_lit k78 _ 78 ?hg (N := 24) ?hd (xs := ([] : List S78)) (inner := []) (ok := fun _ => True) (okp := fun _ => True) ?hr ?hp (fun _ hk => hk) trivial (Below.refl _ _) (Nat.le_refl _) (by simp) ?_; (case hd => rfl); (case hg => rfl); (case hr => exact zq_14); (case hp => exact (Reps.none _ _)); intro v3 w2 ho8 hb2 hg_ hnew_; obtain ⟨A3, c3, rfl⟩ := Kd.R_slice ho8; have HO3 := Lib.hid ho8; have HB2 := Lib.hid hb2; clear hg_ hnew_ ho8 hb2)
 have hz2 := HB2.out.size; obtain ⟨W3, hW3⟩ : ∃ W3, W3 = w2.alloc (.cells #[.slice A3 0 c3, .int .i64 seen, .int .i64 0] 158) := ⟨_, rfl⟩
 rw [← hW3]; obtain ⟨g4, hg4⟩ : ∃ g4, w2.heap.size = g4 := ⟨_, rfl⟩
 have hb3 : Below W1.heap.size W1 W3 := by rw [hW3]; exact HB2.out.alloc hz2 _
 have hr3 : W3.heap[g4]? = some (.cells #[.slice A3 0 c3, .int .i64 seen, .int .i64 0] 158 (0, 0)) := by rw [hW3, ← hg4]; exact heap_alloc_new _ _
 have ho3 : Kd.R k78 78 W3 W1.heap.size (fun _ => True) (.slice A3 0 c3) [] := by rw [hW3]; exact Kd.R_below HO3.out ((Below.refl _ _).alloc (Nat.le_refl _) _)
 rw [hg4]; have HG3 := Lib.hid (HG1.out.below hb3); have HB3 := Lib.hid (HB1.out.trans (hb3.mono (by omega))); have HR3 := Lib.hid hr3; have HO3' := Lib.hid ho3; clear hW3 hg4 hb3 hr3 ho3 HO3 HB2 hz2 HG1 HB1 HWE
 by_cases he : root.size = 0
 ·have HX : Hid (specR r = ([], seen, 0)) := Lib.hid (by
   have h := HH.out; unfold walkI at h; rw [if_pos (.inl (by rw [emp_size]; exact decide_eq_true (by omega)))] at h
   cases h; rfl)
  have h1 : ((root.size : Int) == 0) = true := beq_iff_eq.2 (by omega)
  (have p0 : W3.cell? ⟨w.heap.size, 0, none⟩ = some (.int .i64 (n : Int)) := (cell_of_row _ _ _ _ _ _ HG3.out.r0).trans rfl); (have p1 : W3.cell? ⟨w.heap.size, 1, none⟩ = some (.slice A0 l.length c0) := (cell_of_row _ _ _ _ _ _ HG3.out.r0).trans rfl); (have b0 : W3.cell? ⟨w.heap.size + 1, 0, none⟩ = some (.string blo) := (cell_of_row _ _ _ _ _ _ HG3.out.r1).trans rfl); (have b1 : W3.cell? ⟨w.heap.size + 1, 1, none⟩ = some (.string bhi) := (cell_of_row _ _ _ _ _ _ HG3.out.r1).trans rfl); (have r0 : W3.cell? ⟨w.heap.size + 1 + 1, 0, none⟩ = some (.slice none 0 0) := (cell_of_row _ _ _ _ _ _ HG3.out.r2).trans rfl); (have r1 : W3.cell? ⟨w.heap.size + 1 + 1, 1, none⟩ = some (.int .i64 0) := (cell_of_row _ _ _ _ _ _ HG3.out.r2).trans rfl); (have r2 : W3.cell? ⟨w.heap.size + 1 + 1, 2, none⟩ = some (.int .i64 0) := (cell_of_row _ _ _ _ _ _ HG3.out.r2).trans rfl); (have f0 := frozen_of_row _ _ 0 _ _ HG3.out.r2); (have f1 := frozen_of_row _ _ 1 _ _ HG3.out.r2); (have f2 := frozen_of_row _ _ 2 _ _ HG3.out.r2)
  have z0 : W3.cell? ⟨g4, 0, none⟩ = some (.slice A3 0 c3) := (cell_of_row _ _ _ _ _ _ HR3.out).trans rfl; have z1 : W3.cell? ⟨g4, 1, none⟩ = some (.int .i64 seen) := (cell_of_row _ _ _ _ _ _ HR3.out).trans rfl; have z2 : W3.cell? ⟨g4, 2, none⟩ = some (.int .i64 0) := (cell_of_row _ _ _ _ _ _ HR3.out).trans rfl; clear he
  go_wp2_with fail
  (have hres := goRes seen 0 HG3.out rfl HB3.out (HO3'.out) (by omega)); refine bodyPost_ret (results_cell_row Tryd.results104 _ _ (w.heap.size + 1 + 1) 158 #[.slice A3 0 c3, .int .i64 seen, .int .i64 0] (0, 0) _ rfl (by exact hres.1) Tryd.underlying158 rfl (by kernel_rfl)) rfl ⟨.slice A3 0 c3, by rw [HX.out], by rw [HX.out]; exact hres.2.1, hres.2.2⟩
 have he2 : ((root.size : Int) == 0) = false := beq_eq_false_iff_ne.2 (by omega); have HW := Lib.hid (l4Wants_f blo bhi lo hi (by omega) (by omega) hlo hhi 3000000 (by decide))
 cases hm : meetsB lo hi blo bhi
 ·have HX : Hid (specR r = ([], seen, 0)) := Lib.hid (by
   have h := HH.out; unfold walkI at h; rw [if_pos (.inr hm)] at h
   cases h; rfl)
  rw [hm] at HW; clear hm he
  (have p0 : W3.cell? ⟨w.heap.size, 0, none⟩ = some (.int .i64 (n : Int)) := (cell_of_row _ _ _ _ _ _ HG3.out.r0).trans rfl); (have p1 : W3.cell? ⟨w.heap.size, 1, none⟩ = some (.slice A0 l.length c0) := (cell_of_row _ _ _ _ _ _ HG3.out.r0).trans rfl); (have b0 : W3.cell? ⟨w.heap.size + 1, 0, none⟩ = some (.string blo) := (cell_of_row _ _ _ _ _ _ HG3.out.r1).trans rfl); (have b1 : W3.cell? ⟨w.heap.size + 1, 1, none⟩ = some (.string bhi) := (cell_of_row _ _ _ _ _ _ HG3.out.r1).trans rfl); (have r0 : W3.cell? ⟨w.heap.size + 1 + 1, 0, none⟩ = some (.slice none 0 0) := (cell_of_row _ _ _ _ _ _ HG3.out.r2).trans rfl); (have r1 : W3.cell? ⟨w.heap.size + 1 + 1, 1, none⟩ = some (.int .i64 0) := (cell_of_row _ _ _ _ _ _ HG3.out.r2).trans rfl); (have r2 : W3.cell? ⟨w.heap.size + 1 + 1, 2, none⟩ = some (.int .i64 0) := (cell_of_row _ _ _ _ _ _ HG3.out.r2).trans rfl); (have f0 := frozen_of_row _ _ 0 _ _ HG3.out.r2); (have f1 := frozen_of_row _ _ 1 _ _ HG3.out.r2); (have f2 := frozen_of_row _ _ 2 _ _ HG3.out.r2)
  go_wp2_with (go_at_call 105; refine (spec_l4Wants.calls 3000000 blo bhi lo hi _ _ HW.out).mono ?_; rintro e w4 ⟨rfl, hb4⟩; have HG4 := Lib.hid (HG3.out.below hb4); have HB4 := Lib.hid (HB3.out.trans (hb4.mono HB3.out.size)); have hr4 := (hb4.block g4 (lt_of_block HR3.out)).trans HR3.out; have HO4 := Lib.hid (Kd.R_below HO3'.out hb4); clear p0 p1 b0 b1 r0 r1 r2 f0 f1 f2 hb4; (have p0 : w4.cell? ⟨w.heap.size, 0, none⟩ = some (.int .i64 (n : Int)) := (cell_of_row _ _ _ _ _ _ HG4.out.r0).trans rfl); (have p1 : w4.cell? ⟨w.heap.size, 1, none⟩ = some (.slice A0 l.length c0) := (cell_of_row _ _ _ _ _ _ HG4.out.r0).trans rfl); (have b0 : w4.cell? ⟨w.heap.size + 1, 0, none⟩ = some (.string blo) := (cell_of_row _ _ _ _ _ _ HG4.out.r1).trans rfl); (have b1 : w4.cell? ⟨w.heap.size + 1, 1, none⟩ = some (.string bhi) := (cell_of_row _ _ _ _ _ _ HG4.out.r1).trans rfl); (have r0 : w4.cell? ⟨w.heap.size + 1 + 1, 0, none⟩ = some (.slice none 0 0) := (cell_of_row _ _ _ _ _ _ HG4.out.r2).trans rfl); (have r1 : w4.cell? ⟨w.heap.size + 1 + 1, 1, none⟩ = some (.int .i64 0) := (cell_of_row _ _ _ _ _ _ HG4.out.r2).trans rfl); (have r2 : w4.cell? ⟨w.heap.size + 1 + 1, 2, none⟩ = some (.int .i64 0) := (cell_of_row _ _ _ _ _ _ HG4.out.r2).trans rfl); (have f0 := frozen_of_row _ _ 0 _ _ HG4.out.r2); (have f1 := frozen_of_row _ _ 1 _ _ HG4.out.r2); (have f2 := frozen_of_row _ _ 2 _ _ HG4.out.r2); have z0 : w4.cell? ⟨g4, 0, none⟩ = some (.slice A3 0 c3) := (cell_of_row _ _ _ _ _ _ hr4).trans rfl; have z1 : w4.cell? ⟨g4, 1, none⟩ = some (.int .i64 seen) := (cell_of_row _ _ _ _ _ _ hr4).trans rfl; have z2 : w4.cell? ⟨g4, 2, none⟩ = some (.int .i64 0) := (cell_of_row _ _ _ _ _ _ hr4).trans rfl; clear hr4)
  (have hres := goRes seen 0 HG4.out rfl HB4.out (HO4.out) (by omega)); refine bodyPost_ret (results_cell_row Tryd.results104 _ _ (w.heap.size + 1 + 1) 158 #[.slice A3 0 c3, .int .i64 seen, .int .i64 0] (0, 0) _ rfl (by exact hres.1) Tryd.underlying158 rfl (by kernel_rfl)) rfl ⟨.slice A3 0 c3, by rw [HX.out], by rw [HX.out]; exact hres.2.1, hres.2.2⟩
 rw [hm] at HW
 -- a node is sought
 have h := HH.out; unfold walkI at h; rw [if_neg (fun g => by rcases g with g | g; (rw [emp_size, decide_eq_true_eq] at g; omega); (rw [hm] at g; cases g))] at h; have hrn : root.size = n := by rcases HRT.out with g | g; exact g; omega
 have hfnd := l3Find_f (n : Int) l root HSM.out 3000000 (by decide); rw [← findR_S n hn1 hn2 root hrn l, HHS.out] at hfnd; have hsz := @findR_sizes n l (cuts n l) root hn2; have hhs := @findR_hash n l (cuts n l) root; have hcd := findR_code n l (cuts n l) root; have hlenI := walkI_len n l (cuts n l) lo hi; obtain ⟨⟨k0, k1, k2, k3, cd⟩, hR⟩ : ∃ R, findR n l (cuts n l) root = R := ⟨_, rfl⟩
 rw [hR] at h hsz hhs hcd hfnd; dsimp only at h hsz hhs hcd; have HF := Lib.hid hfnd; have HSZ := Lib.hid hsz; have HHA := Lib.hid hhs; have HCD := Lib.hid hcd; have HLN := Lib.hid hlenI; have HH2 := Lib.hid h; clear h hsz hhs hcd hlenI hfnd hR HH hm he hrn
 (have p0 : W3.cell? ⟨w.heap.size, 0, none⟩ = some (.int .i64 (n : Int)) := (cell_of_row _ _ _ _ _ _ HG3.out.r0).trans rfl); (have p1 : W3.cell? ⟨w.heap.size, 1, none⟩ = some (.slice A0 l.length c0) := (cell_of_row _ _ _ _ _ _ HG3.out.r0).trans rfl); (have b0 : W3.cell? ⟨w.heap.size + 1, 0, none⟩ = some (.string blo) := (cell_of_row _ _ _ _ _ _ HG3.out.r1).trans rfl); (have b1 : W3.cell? ⟨w.heap.size + 1, 1, none⟩ = some (.string bhi) := (cell_of_row _ _ _ _ _ _ HG3.out.r1).trans rfl); (have r0 : W3.cell? ⟨w.heap.size + 1 + 1, 0, none⟩ = some (.slice none 0 0) := (cell_of_row _ _ _ _ _ _ HG3.out.r2).trans rfl); (have r1 : W3.cell? ⟨w.heap.size + 1 + 1, 1, none⟩ = some (.int .i64 0) := (cell_of_row _ _ _ _ _ _ HG3.out.r2).trans rfl); (have r2 : W3.cell? ⟨w.heap.size + 1 + 1, 2, none⟩ = some (.int .i64 0) := (cell_of_row _ _ _ _ _ _ HG3.out.r2).trans rfl); (have f0 := frozen_of_row _ _ 0 _ _ HG3.out.r2); (have f1 := frozen_of_row _ _ 1 _ _ HG3.out.r2); (have f2 := frozen_of_row _ _ 2 _ _ HG3.out.r2)
 go_upto_region 4 with (go_at_call 105; refine (spec_l4Wants.calls 3000000 blo bhi lo hi _ _ HW.out).mono ?_; rintro e w4 ⟨rfl, hb4⟩; have HG4 := Lib.hid (HG3.out.below hb4); have HB4 := Lib.hid (HB3.out.trans (hb4.mono HB3.out.size)); clear p0 p1 b0 b1 r0 r1 r2 f0 f1 f2 hb4)
 clear HG3 HB3 HR3 HO3' HW
 (have p0 : w4.cell? ⟨w.heap.size, 0, none⟩ = some (.int .i64 (n : Int)) := (cell_of_row _ _ _ _ _ _ HG4.out.r0).trans rfl); (have p1 : w4.cell? ⟨w.heap.size, 1, none⟩ = some (.slice A0 l.length c0) := (cell_of_row _ _ _ _ _ _ HG4.out.r0).trans rfl); (have b0 : w4.cell? ⟨w.heap.size + 1, 0, none⟩ = some (.string blo) := (cell_of_row _ _ _ _ _ _ HG4.out.r1).trans rfl); (have b1 : w4.cell? ⟨w.heap.size + 1, 1, none⟩ = some (.string bhi) := (cell_of_row _ _ _ _ _ _ HG4.out.r1).trans rfl); (have r0 : w4.cell? ⟨w.heap.size + 1 + 1, 0, none⟩ = some (.slice none 0 0) := (cell_of_row _ _ _ _ _ _ HG4.out.r2).trans rfl); (have r1 : w4.cell? ⟨w.heap.size + 1 + 1, 1, none⟩ = some (.int .i64 0) := (cell_of_row _ _ _ _ _ _ HG4.out.r2).trans rfl); (have r2 : w4.cell? ⟨w.heap.size + 1 + 1, 2, none⟩ = some (.int .i64 0) := (cell_of_row _ _ _ _ _ _ HG4.out.r2).trans rfl); (have f0 := frozen_of_row _ _ 0 _ _ HG4.out.r2); (have f1 := frozen_of_row _ _ 1 _ _ HG4.out.r2); (have f2 := frozen_of_row _ _ 2 _ _ HG4.out.r2)
 have HC0 := Lib.hid (Kd.C_below HA0.out HB4.out); have HC1 := Lib.hid (Kd.C_below HA1.out HB4.out)
 go_upto_region 5 with (go_at_call 106; refine (spec_l3Find.calls 3000000 n A0 c0 l A1 c1 H root k0 k1 k2 k3 cd _ HC0.out hc0 HC1.out hc1 HF.out).mono ?_; rintro e w5 ⟨rfl, hb5⟩; have HG5 := Lib.hid (HG4.out.below hb5); have HB5 := Lib.hid (HB4.out.trans (hb5.mono HB4.out.size)); clear p0 p1 b0 b1 r0 r1 r2 f0 f1 f2 hb5)
 obtain ⟨W6, hW6⟩ : ∃ W6, W6 = w5.alloc (.cells #[.string k0, .string k1, .string k2, .string k3] 49) := ⟨_, rfl⟩
 rw [← hW6]; obtain ⟨nb, hnb⟩ : ∃ nb, w5.heap.size = nb := ⟨_, rfl⟩
 have hz6 : W6.heap.size = nb + 1 := by rw [hW6, ← hnb]; simp
 have hb6 : Below w5.heap.size w5 W6 := by rw [hW6]; exact (Below.refl _ _).alloc (Nat.le_refl _) _
 have hn6 : W6.heap[nb]? = some (.cells #[.string k0, .string k1, .string k2, .string k3] 49 (0, 0)) := by rw [hW6, ← hnb]; exact heap_alloc_new _ _
 rw [hnb]; have HG6 := Lib.hid (HG5.out.below hb6); have HB6 := Lib.hid (HB5.out.trans (hb6.mono HB5.out.size)); have HN6 := Lib.hid hn6; have hnw : w.heap.size + 3 ≤ nb := by have := lt_of_block HG5.out.r2; omega
 clear hW6 hnb hb6 hn6 HG5 HB5 HC0 HC1 HG4 HB4 HF
 by_cases h2 : cd = 2
 ·have HX : Hid (specR r = ([], 0, 2)) := Lib.hid (by
   have h := HH2.out; rw [if_pos h2] at h
   cases h; rfl)
  subst h2
  (have p0 : W6.cell? ⟨w.heap.size, 0, none⟩ = some (.int .i64 (n : Int)) := (cell_of_row _ _ _ _ _ _ HG6.out.r0).trans rfl); (have p1 : W6.cell? ⟨w.heap.size, 1, none⟩ = some (.slice A0 l.length c0) := (cell_of_row _ _ _ _ _ _ HG6.out.r0).trans rfl); (have b0 : W6.cell? ⟨w.heap.size + 1, 0, none⟩ = some (.string blo) := (cell_of_row _ _ _ _ _ _ HG6.out.r1).trans rfl); (have b1 : W6.cell? ⟨w.heap.size + 1, 1, none⟩ = some (.string bhi) := (cell_of_row _ _ _ _ _ _ HG6.out.r1).trans rfl); (have r0 : W6.cell? ⟨w.heap.size + 1 + 1, 0, none⟩ = some (.slice none 0 0) := (cell_of_row _ _ _ _ _ _ HG6.out.r2).trans rfl); (have r1 : W6.cell? ⟨w.heap.size + 1 + 1, 1, none⟩ = some (.int .i64 0) := (cell_of_row _ _ _ _ _ _ HG6.out.r2).trans rfl); (have r2 : W6.cell? ⟨w.heap.size + 1 + 1, 2, none⟩ = some (.int .i64 0) := (cell_of_row _ _ _ _ _ _ HG6.out.r2).trans rfl); (have f0 := frozen_of_row _ _ 0 _ _ HG6.out.r2); (have f1 := frozen_of_row _ _ 1 _ _ HG6.out.r2); (have f2 := frozen_of_row _ _ 2 _ _ HG6.out.r2)
  go_wp2_with fail
  (have hres := goRes 0 2 HG6.out rfl HB6.out (Kd.R_nil _ _ _ _ _) (Nat.le_refl _)); refine bodyPost_ret (results_cell_row Tryd.results104 _ _ (w.heap.size + 1 + 1) 158 #[.slice none 0 0, .int .i64 0, .int .i64 2] (0, 0) _ rfl (by exact hres.1) Tryd.underlying158 rfl (by kernel_rfl)) rfl ⟨.slice none 0 0, by rw [HX.out], by rw [HX.out]; exact hres.2.1, hres.2.2⟩
 have h := HH2.out; rw [if_neg h2] at h; have e2 : (cd == 2) = false := beq_eq_false_iff_ne.2 h2; obtain ⟨bad, hbad⟩ : ∃ bad, (decide (cd ≠ 0) || !holdsB blo bhi k0 || (!emp above && !highB above k0)) = bad := ⟨_, rfl⟩
 have HBAD := Lib.hid hbad; have HIN := Lib.hid (fun hk : k0.size ≤ 256 => l4Inside_f k0 blo bhi (by omega) (by omega) (by omega) 3000000 (by decide)); have HHI := Lib.hid (fun hk : k0.size ≤ 256 => spec_Higher_f above k0 (by omega) (by omega) 3000000 (by omega)); have HH3 := Lib.hid h; clear h hbad HH2
 go_upto_region 7 with fail
 go_cut [68] (fun v68 wc => v68 = .bool bad ∧ Below W6.heap.size W6 wc)
 case first =>
  have n0 : W6.cell? ⟨nb, 0, none⟩ = some (.string k0) := (cell_of_row _ _ _ _ _ _ HN6.out).trans rfl
  (have p0 : W6.cell? ⟨w.heap.size, 0, none⟩ = some (.int .i64 (n : Int)) := (cell_of_row _ _ _ _ _ _ HG6.out.r0).trans rfl); (have p1 : W6.cell? ⟨w.heap.size, 1, none⟩ = some (.slice A0 l.length c0) := (cell_of_row _ _ _ _ _ _ HG6.out.r0).trans rfl); (have b0 : W6.cell? ⟨w.heap.size + 1, 0, none⟩ = some (.string blo) := (cell_of_row _ _ _ _ _ _ HG6.out.r1).trans rfl); (have b1 : W6.cell? ⟨w.heap.size + 1, 1, none⟩ = some (.string bhi) := (cell_of_row _ _ _ _ _ _ HG6.out.r1).trans rfl); (have r0 : W6.cell? ⟨w.heap.size + 1 + 1, 0, none⟩ = some (.slice none 0 0) := (cell_of_row _ _ _ _ _ _ HG6.out.r2).trans rfl); (have r1 : W6.cell? ⟨w.heap.size + 1 + 1, 1, none⟩ = some (.int .i64 0) := (cell_of_row _ _ _ _ _ _ HG6.out.r2).trans rfl); (have r2 : W6.cell? ⟨w.heap.size + 1 + 1, 2, none⟩ = some (.int .i64 0) := (cell_of_row _ _ _ _ _ _ HG6.out.r2).trans rfl); (have f0 := frozen_of_row _ _ 0 _ _ HG6.out.r2); (have f1 := frozen_of_row _ _ 1 _ _ HG6.out.r2); (have f2 := frozen_of_row _ _ 2 _ _ HG6.out.r2)
  by_cases h3 : cd = 0
  ·subst h3; have hks := (HSZ.out rfl).1; have HIN2 := Lib.hid (HIN.out hks); have HHI2 := Lib.hid (HHI.out hks)
   cases hin : holdsB blo bhi k0
   ·have hb : bad = true := by rw [← HBAD.out, hin]; rfl
    rw [hin] at HIN2; have HBT := Lib.hid hb; clear hin hb e2
    go_wp2_with (go_at_call 136; refine (spec_l4Inside.calls 3000000 k0 blo bhi _ _ HIN2.out).mono ?_; rintro e w7 ⟨rfl, hb7⟩; have HB7 := Lib.hid hb7; clear hb7)
    go_meet
    exact ⟨by rw [HBT.out], HB7.out⟩
   ·rw [hin] at HIN2
    by_cases ha : above.size = 0
    ·have hb : bad = false := by rw [← HBAD.out, hin, emp_size, decide_eq_true (show ((above.size : Int) = 0) by omega)]; rfl
     have HBT := Lib.hid hb; have a1 : decide (0 < (above.size : Int)) = false := decide_eq_false (by omega); have a2 : decide (0 < above.size) = false := decide_eq_false (by omega); clear hin hb ha e2
     go_wp2_with (go_at_call 136; refine (spec_l4Inside.calls 3000000 k0 blo bhi _ _ HIN2.out).mono ?_; rintro e w7 ⟨rfl, hb7⟩; have HB7 := Lib.hid hb7; clear hb7)
     go_meet
     exact ⟨by rw [HBT.out], HB7.out⟩
    ·have a1 : decide (0 < (above.size : Int)) = true := decide_eq_true (by omega); have a2 : decide (0 < above.size) = true := decide_eq_true (by omega); have hb : bad = !highB above k0 := by rw [← HBAD.out, hin, emp_size, decide_eq_false (show ¬ ((above.size : Int) = 0) by omega)]; rfl
     have HBT := Lib.hid hb; clear hin hb ha e2
     go_wp2_with (first | (go_at_call 136; refine (spec_l4Inside.calls 3000000 k0 blo bhi _ _ HIN2.out).mono ?_; rintro e w7 ⟨rfl, hb7⟩; have HB7 := Lib.hid hb7; have m0 := cellB hb7 n0; clear hb7) | (go_at_call 137; refine (spec_Higher.calls 3000000 above k0 _ _ HHI2.out).mono ?_; rintro e w8 ⟨rfl, hb8⟩; have HB8 := Lib.hid (HB7.out.trans (hb8.mono HB7.out.size)); clear hb8))
     go_meet
     exact ⟨by rw [HBT.out], HB8.out⟩
  ·have h4 : cd = 3 := by rcases HCD.out with g | g | g <;> omega
   have hb : bad = true := by rw [← HBAD.out, decide_eq_true h3]; rfl
   have HBT := Lib.hid hb; subst h4; clear hb e2
   go_wp2_with fail
   go_meet
   exact ⟨by rw [HBT.out], Below.refl _ _⟩
 case rest =>
  obtain ⟨rfl, hbc⟩ := hcut; have HGc := Lib.hid (HG6.out.below hbc); have HBc := Lib.hid (HB6.out.trans (hbc.mono HB6.out.size)); have HNc := Lib.hid ((hbc.block nb (by omega)).trans HN6.out); have hzc := hbc.size; clear hbc HG6 HB6 HN6
  cases bad with
  | true =>
   have HX : Hid (specR r = ([], 0, 3)) := Lib.hid (by
    have h := HH3.out; have hb := HBAD.out; rw [if_pos (by
     rw [Bool.or_eq_true, Bool.or_eq_true, decide_eq_true_eq, Bool.and_eq_true] at hb
     rcases hb with (g | g) | ⟨g, g2⟩
     ·exact .inl g
     ·exact .inr (.inl (by simpa using g))
     ·exact .inr (.inr ⟨by simpa using g, by simpa using g2⟩))] at h
    cases h; rfl)
   (have p0 : wc.cell? ⟨w.heap.size, 0, none⟩ = some (.int .i64 (n : Int)) := (cell_of_row _ _ _ _ _ _ HGc.out.r0).trans rfl); (have p1 : wc.cell? ⟨w.heap.size, 1, none⟩ = some (.slice A0 l.length c0) := (cell_of_row _ _ _ _ _ _ HGc.out.r0).trans rfl); (have b0 : wc.cell? ⟨w.heap.size + 1, 0, none⟩ = some (.string blo) := (cell_of_row _ _ _ _ _ _ HGc.out.r1).trans rfl); (have b1 : wc.cell? ⟨w.heap.size + 1, 1, none⟩ = some (.string bhi) := (cell_of_row _ _ _ _ _ _ HGc.out.r1).trans rfl); (have r0 : wc.cell? ⟨w.heap.size + 1 + 1, 0, none⟩ = some (.slice none 0 0) := (cell_of_row _ _ _ _ _ _ HGc.out.r2).trans rfl); (have r1 : wc.cell? ⟨w.heap.size + 1 + 1, 1, none⟩ = some (.int .i64 0) := (cell_of_row _ _ _ _ _ _ HGc.out.r2).trans rfl); (have r2 : wc.cell? ⟨w.heap.size + 1 + 1, 2, none⟩ = some (.int .i64 0) := (cell_of_row _ _ _ _ _ _ HGc.out.r2).trans rfl); (have f0 := frozen_of_row _ _ 0 _ _ HGc.out.r2); (have f1 := frozen_of_row _ _ 1 _ _ HGc.out.r2); (have f2 := frozen_of_row _ _ 2 _ _ HGc.out.r2)
   go_wp2_with fail
   (have hres := goRes 0 3 HGc.out rfl HBc.out (Kd.R_nil _ _ _ _ _) (Nat.le_refl _)); refine bodyPost_ret (results_cell_row Tryd.results104 _ _ (w.heap.size + 1 + 1) 158 #[.slice none 0 0, .int .i64 0, .int .i64 3] (0, 0) _ rfl (by exact hres.1) Tryd.underlying158 rfl (by kernel_rfl)) rfl ⟨.slice none 0 0, by rw [HX.out], by rw [HX.out]; exact hres.2.1, hres.2.2⟩
  | false =>
   have hb := HBAD.out; rw [Bool.or_eq_false_iff, Bool.or_eq_false_iff, decide_eq_false_iff_not] at hb; have hcd0 : cd = 0 := by have := hb.1.1; omega
   have h := HH3.out; rw [if_neg (by
    rintro (g | g | ⟨g, g2⟩)
    ·exact g hcd0
    ·rw [g] at hb; exact absurd hb.1.2 (by decide)
    ·rw [g, g2] at hb; exact absurd hb.2 (by decide))] at h
   have hsz := HSZ.out hcd0; have hhs := HHA.out hcd0
   by_cases h6 : seen = 500
   ·have HX : Hid (specR r = ([], 0, 6)) := Lib.hid (by
     rw [if_pos h6] at h
     cases h; rfl)
    subst h6; clear h hb
    (have p0 : wc.cell? ⟨w.heap.size, 0, none⟩ = some (.int .i64 (n : Int)) := (cell_of_row _ _ _ _ _ _ HGc.out.r0).trans rfl); (have p1 : wc.cell? ⟨w.heap.size, 1, none⟩ = some (.slice A0 l.length c0) := (cell_of_row _ _ _ _ _ _ HGc.out.r0).trans rfl); (have b0 : wc.cell? ⟨w.heap.size + 1, 0, none⟩ = some (.string blo) := (cell_of_row _ _ _ _ _ _ HGc.out.r1).trans rfl); (have b1 : wc.cell? ⟨w.heap.size + 1, 1, none⟩ = some (.string bhi) := (cell_of_row _ _ _ _ _ _ HGc.out.r1).trans rfl); (have r0 : wc.cell? ⟨w.heap.size + 1 + 1, 0, none⟩ = some (.slice none 0 0) := (cell_of_row _ _ _ _ _ _ HGc.out.r2).trans rfl); (have r1 : wc.cell? ⟨w.heap.size + 1 + 1, 1, none⟩ = some (.int .i64 0) := (cell_of_row _ _ _ _ _ _ HGc.out.r2).trans rfl); (have r2 : wc.cell? ⟨w.heap.size + 1 + 1, 2, none⟩ = some (.int .i64 0) := (cell_of_row _ _ _ _ _ _ HGc.out.r2).trans rfl); (have f0 := frozen_of_row _ _ 0 _ _ HGc.out.r2); (have f1 := frozen_of_row _ _ 1 _ _ HGc.out.r2); (have f2 := frozen_of_row _ _ 2 _ _ HGc.out.r2)
    go_wp2_with fail
    (have hres := goRes 0 6 HGc.out rfl HBc.out (Kd.R_nil _ _ _ _ _) (Nat.le_refl _)); refine bodyPost_ret (results_cell_row Tryd.results104 _ _ (w.heap.size + 1 + 1) 158 #[.slice none 0 0, .int .i64 0, .int .i64 6] (0, 0) _ rfl (by exact hres.1) Tryd.underlying158 rfl (by kernel_rfl)) rfl ⟨.slice none 0 0, by rw [HX.out], by rw [HX.out]; exact hres.2.1, hres.2.2⟩
   rw [if_neg h6] at h; obtain ⟨⟨lp, s1, x1⟩, hL, h⟩ := Option.bind_eq_some_iff.mp h; dsimp only at h hL; have iL := HLN.out _ _ _ _ _ _ _ _ _ hL (by omega) (by omega); have hcl := HI.out (seen + 1) k2 k0 blo k0 _ wc A0 c0 A1 c1 (Kd.C_below HA0.out HBc.out) hc0 (Kd.C_below HA1.out HBc.out) hc1 hhs.1 hsz.1 hblo hsz.1 (by omega) (by omega) hL; have hwr : IntKind.i64.wrap (seen + 1) = seen + 1 := wrap_small _ (by omega) (by omega); have hs5 : ¬ 500 < seen + 1 := by omega
   by_cases hx1 : x1 = 0
   rotate_left
   ·have hsp : specR (lp, s1, x1) = ([], 0, x1) := specR_bad hx1; have HX : Hid (specR r = ([], 0, x1)) := Lib.hid (by
     rw [if_pos hx1] at h
     cases h
     exact specR_bad hx1)
    rw [hsp] at hcl; have HCL := Lib.hid hcl; have hxb : (x1 != 0) = true := bne_iff_ne.2 hx1; clear hcl hsp hL h hx1 hb
    (have p0 : wc.cell? ⟨w.heap.size, 0, none⟩ = some (.int .i64 (n : Int)) := (cell_of_row _ _ _ _ _ _ HGc.out.r0).trans rfl); (have p1 : wc.cell? ⟨w.heap.size, 1, none⟩ = some (.slice A0 l.length c0) := (cell_of_row _ _ _ _ _ _ HGc.out.r0).trans rfl); (have b0 : wc.cell? ⟨w.heap.size + 1, 0, none⟩ = some (.string blo) := (cell_of_row _ _ _ _ _ _ HGc.out.r1).trans rfl); (have b1 : wc.cell? ⟨w.heap.size + 1, 1, none⟩ = some (.string bhi) := (cell_of_row _ _ _ _ _ _ HGc.out.r1).trans rfl); (have r0 : wc.cell? ⟨w.heap.size + 1 + 1, 0, none⟩ = some (.slice none 0 0) := (cell_of_row _ _ _ _ _ _ HGc.out.r2).trans rfl); (have r1 : wc.cell? ⟨w.heap.size + 1 + 1, 1, none⟩ = some (.int .i64 0) := (cell_of_row _ _ _ _ _ _ HGc.out.r2).trans rfl); (have r2 : wc.cell? ⟨w.heap.size + 1 + 1, 2, none⟩ = some (.int .i64 0) := (cell_of_row _ _ _ _ _ _ HGc.out.r2).trans rfl); (have f0 := frozen_of_row _ _ 0 _ _ HGc.out.r2); (have f1 := frozen_of_row _ _ 1 _ _ HGc.out.r2); (have f2 := frozen_of_row _ _ 2 _ _ HGc.out.r2)
    have n0 : wc.cell? ⟨nb, 0, none⟩ = some (.string k0) := (cell_of_row _ _ _ _ _ _ HNc.out).trans rfl; have n2 : wc.cell? ⟨nb, 2, none⟩ = some (.string k2) := (cell_of_row _ _ _ _ _ _ HNc.out).trans rfl
    go_upto_region 12 with (go_at_call 104; refine HCL.out.mono ?_; rintro e w8 ⟨u1, rfl, hR8, hb8⟩; obtain ⟨B1, d1, rfl⟩ := Kd.R_slice hR8; have HR8 := Lib.hid hR8; have HB8 := Lib.hid hb8; clear p0 p1 b0 b1 r0 r1 r2 f0 f1 f2 n0 n2 hb8 hR8)
    obtain ⟨W9, hW9⟩ : ∃ W9, W9 = w8.alloc (.cells #[.slice B1 0 d1, .int .i64 0, .int .i64 x1] 158) := ⟨_, rfl⟩
    rw [← hW9]; have hb9 : Below wc.heap.size wc W9 := by rw [hW9]; exact HB8.out.alloc HB8.out.size _
    have hl9 : W9.heap[w8.heap.size]? = some (.cells #[.slice B1 0 d1, .int .i64 0, .int .i64 x1] 158 (0, 0)) := by rw [hW9]; exact heap_alloc_new _ _
    have HG9 := Lib.hid (HGc.out.below hb9); have HB9 := Lib.hid (HBc.out.trans (hb9.mono HBc.out.size)); have HR9 : Hid (Kd.R k78 78 W9 wc.heap.size (fun _ => True) (.slice B1 0 d1) []) := Lib.hid (by rw [hW9]; exact Kd.R_below HR8.out ((Below.refl _ _).alloc (Nat.le_refl _) _)); have l0 : W9.cell? ⟨w8.heap.size, 0, none⟩ = some (.slice B1 0 d1) := (cell_of_row _ _ _ _ _ _ hl9).trans rfl; have l1 : W9.cell? ⟨w8.heap.size, 1, none⟩ = some (.int .i64 0) := (cell_of_row _ _ _ _ _ _ hl9).trans rfl; have l2 : W9.cell? ⟨w8.heap.size, 2, none⟩ = some (.int .i64 x1) := (cell_of_row _ _ _ _ _ _ hl9).trans rfl
    (have p0 : W9.cell? ⟨w.heap.size, 0, none⟩ = some (.int .i64 (n : Int)) := (cell_of_row _ _ _ _ _ _ HG9.out.r0).trans rfl); (have p1 : W9.cell? ⟨w.heap.size, 1, none⟩ = some (.slice A0 l.length c0) := (cell_of_row _ _ _ _ _ _ HG9.out.r0).trans rfl); (have b0 : W9.cell? ⟨w.heap.size + 1, 0, none⟩ = some (.string blo) := (cell_of_row _ _ _ _ _ _ HG9.out.r1).trans rfl); (have b1 : W9.cell? ⟨w.heap.size + 1, 1, none⟩ = some (.string bhi) := (cell_of_row _ _ _ _ _ _ HG9.out.r1).trans rfl); (have r0 : W9.cell? ⟨w.heap.size + 1 + 1, 0, none⟩ = some (.slice none 0 0) := (cell_of_row _ _ _ _ _ _ HG9.out.r2).trans rfl); (have r1 : W9.cell? ⟨w.heap.size + 1 + 1, 1, none⟩ = some (.int .i64 0) := (cell_of_row _ _ _ _ _ _ HG9.out.r2).trans rfl); (have r2 : W9.cell? ⟨w.heap.size + 1 + 1, 2, none⟩ = some (.int .i64 0) := (cell_of_row _ _ _ _ _ _ HG9.out.r2).trans rfl); (have f0 := frozen_of_row _ _ 0 _ _ HG9.out.r2); (have f1 := frozen_of_row _ _ 1 _ _ HG9.out.r2); (have f2 := frozen_of_row _ _ 2 _ _ HG9.out.r2)
    clear hW9 hb9 hl9
    go_wp2_with fail
    (have hres := goRes 0 x1 HG9.out rfl HB9.out (HR9.out) (by omega)); refine bodyPost_ret (results_cell_row Tryd.results104 _ _ (w.heap.size + 1 + 1) 158 #[.slice B1 0 d1, .int .i64 0, .int .i64 x1] (0, 0) _ rfl (by exact hres.1) Tryd.underlying158 rfl (by kernel_rfl)) rfl ⟨.slice B1 0 d1, by rw [HX.out], by rw [HX.out]; exact hres.2.1, hres.2.2⟩
   subst hx1; rw [if_neg (by decide)] at h; obtain ⟨⟨rp, s2, x2⟩, hR, h⟩ := Option.bind_eq_some_iff.mp h; dsimp only at h hR; have hsp : specR (lp, s1, 0) = (lp, s1, 0) := rfl; rw [hsp] at hcl; have HCL := Lib.hid hcl; have HRR := Lib.hid hR; have HH4 := Lib.hid h; have HHS3 := Lib.hid hhs.2; have hk0s := hsz.1; clear hcl hsp hL h hR hhs hsz hb
   (have p0 : wc.cell? ⟨w.heap.size, 0, none⟩ = some (.int .i64 (n : Int)) := (cell_of_row _ _ _ _ _ _ HGc.out.r0).trans rfl); (have p1 : wc.cell? ⟨w.heap.size, 1, none⟩ = some (.slice A0 l.length c0) := (cell_of_row _ _ _ _ _ _ HGc.out.r0).trans rfl); (have b0 : wc.cell? ⟨w.heap.size + 1, 0, none⟩ = some (.string blo) := (cell_of_row _ _ _ _ _ _ HGc.out.r1).trans rfl); (have b1 : wc.cell? ⟨w.heap.size + 1, 1, none⟩ = some (.string bhi) := (cell_of_row _ _ _ _ _ _ HGc.out.r1).trans rfl); (have r0 : wc.cell? ⟨w.heap.size + 1 + 1, 0, none⟩ = some (.slice none 0 0) := (cell_of_row _ _ _ _ _ _ HGc.out.r2).trans rfl); (have r1 : wc.cell? ⟨w.heap.size + 1 + 1, 1, none⟩ = some (.int .i64 0) := (cell_of_row _ _ _ _ _ _ HGc.out.r2).trans rfl); (have r2 : wc.cell? ⟨w.heap.size + 1 + 1, 2, none⟩ = some (.int .i64 0) := (cell_of_row _ _ _ _ _ _ HGc.out.r2).trans rfl); (have f0 := frozen_of_row _ _ 0 _ _ HGc.out.r2); (have f1 := frozen_of_row _ _ 1 _ _ HGc.out.r2); (have f2 := frozen_of_row _ _ 2 _ _ HGc.out.r2)
   have n0 : wc.cell? ⟨nb, 0, none⟩ = some (.string k0) := (cell_of_row _ _ _ _ _ _ HNc.out).trans rfl; have n2 : wc.cell? ⟨nb, 2, none⟩ = some (.string k2) := (cell_of_row _ _ _ _ _ _ HNc.out).trans rfl
   go_upto_region 12 with (go_at_call 104; refine HCL.out.mono ?_; rintro e w8 ⟨u1, rfl, hR8, hb8⟩; obtain ⟨B1, d1, rfl⟩ := Kd.R_slice hR8; have HR8 := Lib.hid hR8; have HB8 := Lib.hid hb8; clear p0 p1 b0 b1 r0 r1 r2 f0 f1 f2 n0 n2 hb8 hR8)
   obtain ⟨W9, hW9⟩ : ∃ W9, W9 = w8.alloc (.cells #[.slice B1 lp.length d1, .int .i64 s1, .int .i64 0] 158) := ⟨_, rfl⟩
   rw [← hW9]; obtain ⟨lb, hlb⟩ : ∃ lb, w8.heap.size = lb := ⟨_, rfl⟩
   have hz9 : W9.heap.size = lb + 1 := by rw [hW9, ← hlb]; simp
   have hb9 : Below wc.heap.size wc W9 := by rw [hW9]; exact HB8.out.alloc HB8.out.size _
   have hl9 : W9.heap[lb]? = some (.cells #[.slice B1 lp.length d1, .int .i64 s1, .int .i64 0] 158 (0, 0)) := by rw [hW9, ← hlb]; exact heap_alloc_new _ _
   have HG9 := Lib.hid (HGc.out.below hb9); have HB9 := Lib.hid (HBc.out.trans (hb9.mono HBc.out.size)); have HN9 := Lib.hid ((hb9.block nb (by omega)).trans HNc.out); have HL9 := Lib.hid hl9; have HR9 : Hid (Kd.R k78 78 W9 wc.heap.size (fun _ => True) (.slice B1 lp.length d1) lp) := Lib.hid (by rw [hW9]; exact Kd.R_below HR8.out ((Below.refl _ _).alloc (Nat.le_refl _) _)); have hzl : wc.heap.size ≤ lb := by rw [← hlb]; exact HB8.out.size
   rw [hlb]; clear hW9 hlb hb9 hl9 HR8 HB8 HCL HGc HBc HNc; have hcr := HI.out s1 k3 k0 k0 bhi _ W9 A0 c0 A1 c1 (Kd.C_below HA0.out HB9.out) hc0 (Kd.C_below HA1.out HB9.out) hc1 HHS3.out hk0s hk0s hbhi (by omega) (by omega) HRR.out; have iR := HLN.out _ _ _ _ _ _ _ _ _ HRR.out (by omega) (by omega); have HCR := Lib.hid hcr; clear hcr; have l1 : W9.cell? ⟨lb, 1, none⟩ = some (.int .i64 s1) := (cell_of_row _ _ _ _ _ _ HL9.out).trans rfl; have l2 : W9.cell? ⟨lb, 2, none⟩ = some (.int .i64 0) := (cell_of_row _ _ _ _ _ _ HL9.out).trans rfl; have n0 : W9.cell? ⟨nb, 0, none⟩ = some (.string k0) := (cell_of_row _ _ _ _ _ _ HN9.out).trans rfl; have n3 : W9.cell? ⟨nb, 3, none⟩ = some (.string k3) := (cell_of_row _ _ _ _ _ _ HN9.out).trans rfl
   (have p0 : W9.cell? ⟨w.heap.size, 0, none⟩ = some (.int .i64 (n : Int)) := (cell_of_row _ _ _ _ _ _ HG9.out.r0).trans rfl); (have p1 : W9.cell? ⟨w.heap.size, 1, none⟩ = some (.slice A0 l.length c0) := (cell_of_row _ _ _ _ _ _ HG9.out.r0).trans rfl); (have b0 : W9.cell? ⟨w.heap.size + 1, 0, none⟩ = some (.string blo) := (cell_of_row _ _ _ _ _ _ HG9.out.r1).trans rfl); (have b1 : W9.cell? ⟨w.heap.size + 1, 1, none⟩ = some (.string bhi) := (cell_of_row _ _ _ _ _ _ HG9.out.r1).trans rfl); (have r0 : W9.cell? ⟨w.heap.size + 1 + 1, 0, none⟩ = some (.slice none 0 0) := (cell_of_row _ _ _ _ _ _ HG9.out.r2).trans rfl); (have r1 : W9.cell? ⟨w.heap.size + 1 + 1, 1, none⟩ = some (.int .i64 0) := (cell_of_row _ _ _ _ _ _ HG9.out.r2).trans rfl); (have r2 : W9.cell? ⟨w.heap.size + 1 + 1, 2, none⟩ = some (.int .i64 0) := (cell_of_row _ _ _ _ _ _ HG9.out.r2).trans rfl); (have f0 := frozen_of_row _ _ 0 _ _ HG9.out.r2); (have f1 := frozen_of_row _ _ 1 _ _ HG9.out.r2); (have f2 := frozen_of_row _ _ 2 _ _ HG9.out.r2)
   go_upto_region 15 with (go_at_call 104; refine HCR.out.mono ?_; rintro e w10 ⟨u2, rfl, hR10, hb10⟩; obtain ⟨B2, d2, rfl⟩ := Kd.R_slice hR10; have HR10 := Lib.hid hR10; have HB10 := Lib.hid hb10; clear p0 p1 b0 b1 r0 r1 r2 f0 f1 f2 n0 n3 l1 l2 hb10 hR10)
   obtain ⟨⟨rq, s3, x3⟩, hq⟩ : ∃ q, specR (rp, s2, x2) = q := ⟨_, rfl⟩
   rw [hq] at HR10 ⊢; dsimp only at HR10 ⊢; obtain ⟨W11, hW11⟩ : ∃ W11, W11 = w10.alloc (.cells #[.slice B2 rq.length d2, .int .i64 s3, .int .i64 x3] 158) := ⟨_, rfl⟩
   rw [← hW11]; obtain ⟨rb, hrb⟩ : ∃ rb, w10.heap.size = rb := ⟨_, rfl⟩
   have hz11 : W11.heap.size = rb + 1 := by rw [hW11, ← hrb]; simp
   have hb11 : Below W9.heap.size W9 W11 := by rw [hW11]; exact HB10.out.alloc HB10.out.size _
   have hr11 : W11.heap[rb]? = some (.cells #[.slice B2 rq.length d2, .int .i64 s3, .int .i64 x3] 158 (0, 0)) := by rw [hW11, ← hrb]; exact heap_alloc_new _ _
   have HG11 := Lib.hid (HG9.out.below hb11); have HB11 := Lib.hid (HB9.out.trans (hb11.mono HB9.out.size)); have HN11 := Lib.hid ((hb11.block nb (by omega)).trans HN9.out); have HL11 := Lib.hid ((hb11.block lb (by omega)).trans HL9.out); have HR11 := Lib.hid hr11; have HP1 := Lib.hid (Kd.R_below HR9.out hb11); have HP2 : Hid (Kd.R k78 78 W11 W9.heap.size (fun _ => True) (.slice B2 rq.length d2) rq) := Lib.hid (by rw [hW11]; exact Kd.R_below HR10.out ((Below.refl _ _).alloc (Nat.le_refl _) _)); have hzr : lb < rb := by have := HB10.out.size; omega
   have HU1 := Lib.hid (Kd.R_lt HR9.out); rw [hrb]; clear hW11 hrb hb11 hr11 HR10 HB10 HCR HG9 HB9 HN9 HL9 HR9; have q2 : W11.cell? ⟨rb, 2, none⟩ = some (.int .i64 x3) := (cell_of_row _ _ _ _ _ _ HR11.out).trans rfl; have HQ := Lib.hid hq; clear hq
   by_cases hx2 : x2 = 0
   rotate_left
   ·have hq2 : specR (rp, s2, x2) = ([], 0, x2) := specR_bad hx2; have hq3 := HQ.out; rw [hq2] at hq3
    cases hq3
    have HX : Hid (specR r = ([], 0, x2)) := Lib.hid (by
     have h := HH4.out; rw [if_pos hx2] at h
     cases h
     exact specR_bad hx2)
    have hxb : (x2 != 0) = true := bne_iff_ne.2 hx2; have q0 : W11.cell? ⟨rb, 0, none⟩ = some (.slice B2 0 d2) := (cell_of_row _ _ _ _ _ _ HR11.out).trans rfl; have q1 : W11.cell? ⟨rb, 1, none⟩ = some (.int .i64 0) := (cell_of_row _ _ _ _ _ _ HR11.out).trans rfl; clear hq2 hx2
    (have p0 : W11.cell? ⟨w.heap.size, 0, none⟩ = some (.int .i64 (n : Int)) := (cell_of_row _ _ _ _ _ _ HG11.out.r0).trans rfl); (have p1 : W11.cell? ⟨w.heap.size, 1, none⟩ = some (.slice A0 l.length c0) := (cell_of_row _ _ _ _ _ _ HG11.out.r0).trans rfl); (have b0 : W11.cell? ⟨w.heap.size + 1, 0, none⟩ = some (.string blo) := (cell_of_row _ _ _ _ _ _ HG11.out.r1).trans rfl); (have b1 : W11.cell? ⟨w.heap.size + 1, 1, none⟩ = some (.string bhi) := (cell_of_row _ _ _ _ _ _ HG11.out.r1).trans rfl); (have r0 : W11.cell? ⟨w.heap.size + 1 + 1, 0, none⟩ = some (.slice none 0 0) := (cell_of_row _ _ _ _ _ _ HG11.out.r2).trans rfl); (have r1 : W11.cell? ⟨w.heap.size + 1 + 1, 1, none⟩ = some (.int .i64 0) := (cell_of_row _ _ _ _ _ _ HG11.out.r2).trans rfl); (have r2 : W11.cell? ⟨w.heap.size + 1 + 1, 2, none⟩ = some (.int .i64 0) := (cell_of_row _ _ _ _ _ _ HG11.out.r2).trans rfl); (have f0 := frozen_of_row _ _ 0 _ _ HG11.out.r2); (have f1 := frozen_of_row _ _ 1 _ _ HG11.out.r2); (have f2 := frozen_of_row _ _ 2 _ _ HG11.out.r2)
    go_wp2_with fail
    (have hres := goRes 0 x2 HG11.out rfl HB11.out (HP2.out) (by omega)); refine bodyPost_ret (results_cell_row Tryd.results104 _ _ (w.heap.size + 1 + 1) 158 #[.slice B2 0 d2, .int .i64 0, .int .i64 x2] (0, 0) _ rfl (by exact hres.1) Tryd.underlying158 rfl (by kernel_rfl)) rfl ⟨.slice B2 0 d2, by rw [HX.out], by rw [HX.out]; exact hres.2.1, hres.2.2⟩
   subst hx2; have hq3 := HQ.out; rw [show specR (rp, s2, 0) = (rp, s2, 0) from rfl] at hq3
   cases hq3
   clear HQ; have l0 : W11.cell? ⟨lb, 0, none⟩ = some (.slice B1 lp.length d1) := (cell_of_row _ _ _ _ _ _ HL11.out).trans rfl
   go_upto_region 18 with fail
   go_cut [131] (fun v131 wd => v131 = .bool (holdsW lo hi k0) ∧ Below W11.heap.size W11 wd)
   case first =>
    clear l0 q2; have n0 : W11.cell? ⟨nb, 0, none⟩ = some (.string k0) := (cell_of_row _ _ _ _ _ _ HN11.out).trans rfl; have HX1 := Lib.hid (spec_l1Less_f k0 lo (by omega) 3000000 (by omega)); have HX2 := Lib.hid (spec_l1Less_f k0 hi (by omega) 3000000 (by omega)); have HHW := Lib.hid (show holdsW lo hi k0 = (!ltS k0 lo && (emp hi || ltS k0 hi)) from rfl)
    cases h1 : Op.bytesLess k0.toList lo.toList
    ·rw [h1] at HX1
     by_cases h2 : hi.size = 0
     ·have e1 : ((hi.size : Int) == 0) = true := beq_iff_eq.2 (by omega); have HBT : Hid (holdsW lo hi k0 = true) := Lib.hid (by rw [HHW.out, emp_size, decide_eq_true (show ((hi.size : Int) = 0) by omega)]; unfold ltS; rw [h1]; rfl); clear h1 h2
      go_wp2_with (go_at_call 97; refine (spec_l1Less.calls 3000000 k0 lo _ _ HX1.out).mono ?_; rintro e w12 ⟨rfl, hd⟩; have HB12 := Lib.hid hd.below; clear hd)
      go_meet
      exact ⟨by rw [HBT.out], HB12.out⟩
     ·have e1 : ((hi.size : Int) == 0) = false := beq_eq_false_iff_ne.2 (by omega); have HBT : Hid (holdsW lo hi k0 = Op.bytesLess k0.toList hi.toList) := Lib.hid (by rw [HHW.out, emp_size, decide_eq_false (show ¬ ((hi.size : Int) = 0) by omega)]; unfold ltS; rw [h1]; rfl); clear h1 h2
      go_wp2_with (first | (go_at_call 97; (with_reducible refine (spec_l1Less.calls 3000000 k0 lo _ _ HX1.out).mono ?_); rintro e w12 ⟨rfl, hd⟩; have HB12 := Lib.hid hd.below; have m0 := cellB hd.below n0; clear hd) | (go_at_call 97; (with_reducible refine (spec_l1Less.calls 3000000 k0 hi _ _ HX2.out).mono ?_); rintro e w13 ⟨rfl, hd⟩; have HB13 := Lib.hid (HB12.out.trans (hd.below.mono HB12.out.size)); clear hd))
      go_meet
      exact ⟨by rw [HBT.out], HB13.out⟩
    ·rw [h1] at HX1; have HBT : Hid (holdsW lo hi k0 = false) := Lib.hid (by rw [HHW.out]; unfold ltS; rw [h1]; rfl); clear h1
     go_wp2_with (go_at_call 97; refine (spec_l1Less.calls 3000000 k0 lo _ _ HX1.out).mono ?_; rintro e w12 ⟨rfl, hd⟩; have HB12 := Lib.hid hd.below; clear hd)
     go_meet
     exact ⟨by rw [HBT.out], HB12.out⟩
   case rest =>
    obtain ⟨rfl, hbd⟩ := hcut; have ho : OutIs w.heap.size n A0 l.length c0 blo bhi rb (.slice B2 rp.length d2) s2 rp w lp (.slice B1 lp.length d1) wc :=
     ⟨Kd.R_lower (Kd.R_below HP1.out hbd) (by omega), Kd.R_lower (Kd.R_below HP2.out hbd) (by omega), fun q hq e => by have h1 := HU1.out q hq; have h2 := Kd.R_base HP2.out q e.symm; omega, fun q hq => ⟨by have := Kd.R_base HP1.out q hq; omega, by have h1 := HU1.out q hq; omega⟩, HG11.out.below hbd, (hbd.block rb (by omega)).trans HR11.out, HB11.out.trans (hbd.mono HB11.out.size), rfl⟩
    have HO := Lib.hid ho; have HNd := Lib.hid ((hbd.block nb (by omega)).trans HN11.out); clear ho hbd HG11 HB11 HN11 HL11 HR11 HP1 HP2 l0 q2; obtain ⟨out0, hout⟩ : ∃ out0, (if holdsW lo hi k0 = true then lp ++ [(⟨k0, k1⟩ : S78)] else lp) = out0 := ⟨_, rfl⟩
    have HX : Hid (specR r = (out0 ++ rp, s2, 0)) := Lib.hid (by
     have h := HH4.out; rw [if_neg (by decide), hout] at h
     cases h; rfl)
    have HOUT := Lib.hid hout; have hol : out0.length ≤ lp.length + 1 := by
     rw [← hout]; split
     ·rw [List.length_append, List.length_singleton]; omega
     ·omega
    clear hout HH4
    go_upto_if 131 with (fail)
    go_cut [22] (fun v22 we => OutIs w.heap.size n A0 l.length c0 blo bhi rb (.slice B2 rp.length d2) s2 rp w out0 v22 we)
    case first =>
     have n0 : wc.cell? ⟨nb, 0, none⟩ = some (.string k0) := (cell_of_row _ _ _ _ _ _ HNd.out).trans rfl; have n1 : wc.cell? ⟨nb, 1, none⟩ = some (.string k1) := (cell_of_row _ _ _ _ _ _ HNd.out).trans rfl
     cases hh : holdsW lo hi k0
     ·have HE : Hid (out0 = lp) := Lib.hid (by rw [← HOUT.out, hh]; rfl); clear hh
      go_wp2_with fail
      go_meet
      rw [HE.out]; exact HO.out
     ·have HE : Hid (out0 = lp ++ [⟨k0, k1⟩]) := Lib.hid (by rw [← HOUT.out, hh]; rfl); clear hh
      go_wp2_with ((with_reducible refine gate_builtin (b := .append) (xs := #[.tmp 132, .tmp 138]) rfl ?_); at_builtin; refine Kd.R_append k78 (w0 := w) w.heap.size rfl (.tmp 132) (.tmp 138) 22 78 (.agg #[(.string ⟨#[]⟩), (.string ⟨#[]⟩)]) 32 rfl Tryd.underlying22 info78 rfl (by decide) (by omega) _ _ (⟨k0, k1⟩ : S78) [.string k0, .string k1] (fun _ => True) (fun _ => False) rfl rfl (k78_mkM _ _ _ (⟨k0, k1⟩ : S78)) (fun _ h => h.elim) (fun _ _ => trivial) HO.out.r HO.out.below (by have := HO.out.below.size; omega) (by omega) ?_; intro v4 w14 ho4 hb4 hg4 ha4; have HO4 := Lib.hid (HO.out.app ho4 hb4 hg4 ha4); clear ho4 hb4 hg4 ha4)
      go_meet
      rw [HE.out]; exact HO4.out
    case rest =>
     have HO5 := Lib.hid hcut; clear hcut HO HNd
     go_upto_block 0 with fail
     go_cut [22] (fun v22 we => OutIs w.heap.size n A0 l.length c0 blo bhi rb (.slice B2 rp.length d2) s2 rp w (out0 ++ rp) v22 we)
     case first =>
      go_wp2_with fail
      go_loopw [22, 23] (fun v i wr => ∃ j : Nat, j ≤ rp.length ∧ i = .int .i64 j ∧ OutIs w.heap.size n A0 l.length c0 blo bhi rb (.slice B2 rp.length d2) s2 rp w (out0 ++ rp.take j) v wr) (fun _ i _ => rp.length - (intOf i).toNat)
      case atStart => exact ⟨0, by omega, rfl, by rw [List.take_zero, List.append_nil]; exact HO5.out⟩
      case round =>
       obtain ⟨j, hj, rfl, hO⟩ := hrel; obtain ⟨A7, d7, hv⟩ := Kd.R_slice hO.r; subst hv; have HO6 := Lib.hid hO; clear hO; have q0 : wr.cell? ⟨rb, 0, none⟩ = some (.slice B2 rp.length d2) := (cell_of_row _ _ _ _ _ _ HO6.out.row).trans rfl; have q1 : wr.cell? ⟨rb, 1, none⟩ = some (.int .i64 s2) := (cell_of_row _ _ _ _ _ _ HO6.out.row).trans rfl
       by_cases hl : j < rp.length
       ·obtain ⟨_, hcd, hC⟩ := Kd.R_reads' HO6.out.q; obtain ⟨ad, ea, hx0, hx1⟩ := at_T78 hC (j : Int) (by omega) (by omega); subst ea; have hrd : rd_T78 rp (j : Int) = rp[j] := by
         unfold rd_T78; rw [Int.toNat_natCast, List.getD_eq_getElem?_getD, List.getElem?_eq_getElem hl]; rfl
        rw [hrd, Int.toNat_natCast] at hx0 hx1; obtain ⟨⟨pk, pv⟩, hp⟩ : ∃ p, rp[j] = p := ⟨_, rfl⟩
        rw [hp] at hx0 hx1; have HP := Lib.hid hp; dsimp only at hx0 hx1; have hlen : (out0 ++ rp.take j).length ≤ 2000 := by rw [List.length_append, List.length_take]; omega
        have j0 : (0 : Int) ≤ (j : Int) := by omega
        clear hp hrd hC
        go_wp2_with ((with_reducible refine gate_builtin (b := .append) (xs := #[.tmp 147, .tmp 153]) rfl ?_); at_builtin; refine Kd.R_append k78 (w0 := w) w.heap.size rfl (.tmp 147) (.tmp 153) 22 78 (.agg #[(.string ⟨#[]⟩), (.string ⟨#[]⟩)]) 32 rfl Tryd.underlying22 info78 rfl (by decide) (by omega) _ _ (⟨pk, pv⟩ : S78) [.string pk, .string pv] (fun _ => True) (fun _ => False) rfl rfl (k78_mkM _ _ _ (⟨pk, pv⟩ : S78)) (fun _ h => h.elim) (fun _ _ => trivial) HO6.out.r HO6.out.below (by have := HO6.out.below.size; omega) (by omega) ?_; intro v4 w14 ho4 hb4 hg4 ha4; have HO4 := Lib.hid (HO6.out.app ho4 hb4 hg4 ha4); clear ho4 hb4 hg4 ha4)
        go_roundw
        case rel =>
         refine ⟨j + 1, by omega, by go_num, ?_⟩; rw [List.take_succ_eq_append_getElem hl, HP.out, ← List.append_assoc]; exact HO4.out
        case measure => simp [intOf]; omega
       ·obtain rfl : j = rp.length := by omega
        rw [List.take_length] at HO6 ⊢
        go_wp2_with fail
        go_meet
        exact HO6.out
     case rest =>
      obtain ⟨A7, d7, hv⟩ := Kd.R_slice hcut.r; subst hv; have HO6 := Lib.hid hcut; clear hcut; have q1 : wc.cell? ⟨rb, 1, none⟩ = some (.int .i64 s2) := (cell_of_row _ _ _ _ _ _ HO6.out.row).trans rfl; obtain ⟨N, hN⟩ : ∃ N, (out0 ++ rp).length = N := ⟨_, rfl⟩
      rw [hN] at HO6 ⊢; have HI7 : Hid ((Tryd.prog.info? 158).map (·.size) = some (#[Value.slice A7 N d7, .int .i64 s2, .int .i64 0].size)) := Lib.hid (by kernel_rfl); have H17 : Hid ((#[Value.slice A7 N d7, .int .i64 s2, .int .i64 0] : Array Value).all (·.oneCell') = true) := Lib.hid (by simp [Value.oneCell']); clear hN; have HROW := Lib.hid (setRow_heap wc (w.heap.size + 1 + 1) _ #[.slice A7 N d7, .int .i64 s2, .int .i64 0] _ _ HO6.out.rows.r2); have hgr : wc.grownBy (wc.setRow (w.heap.size + 1 + 1) #[.slice A7 N d7, .int .i64 s2, .int .i64 0]) (some (w.heap.size + 1 + 1)) :=
       ⟨rfl, rfl, rfl, by rw [setRow_size]; exact Nat.le_refl _, fun k _ hne => setRow_other _ _ _ _ (fun e => hne (by rw [e]))⟩
      go_wp2_with (refine wpList_store_row rfl 158 _ _ rfl (w.heap.size + 1 + 1) _ rfl rfl _ _ HO6.out.rows.r2 HI7.out rfl H17.out ?_; rename_i K hK; refine (show K _ _ → _ from fun h => h) (hK _ _ ?_); refine wp_ret ?_; refine bodyPost_ret (results_cell_row Tryd.results104 _ _ (w.heap.size + 1 + 1) 158 #[.slice A7 N d7, .int .i64 s2, .int .i64 0] (0, 0) _ rfl HROW.out Tryd.underlying158 rfl HI7.out) rfl ⟨.slice A7 N d7, by rw [HX.out], by rw [HX.out]; exact Kd.R_grown2 HO6.out.r rfl hgr (fun k hk e => by have h1 := HO6.out.far k e.symm; have h2 : w.heap.size + 1 + 1 = k := Option.some.inj hk; omega), HO6.out.below.grown hgr HO6.out.below.size (fun k hk => by have h2 : w.heap.size + 1 + 1 = k := Option.some.inj hk; omega)⟩)
def goOk (W : Int) (l H : List ByteArray) (root above blo bhi lo hi : ByteArray) (seen : Int) : Prop :=
 small l ∧ 1 ≤ W ∧ W ≤ 32 ∧ H = hashS W l ∧ ((root.size : Int) = W ∨ (root.size : Int) = 0) ∧ above.size ≤ 256 ∧ blo.size ≤ 256 ∧ bhi.size ≤ 256 ∧ lo.size ≤ 1048576 ∧ hi.size ≤ 1048576 ∧ 0 ≤ seen ∧ seen ≤ 500
instance (W : Int) (l H : List ByteArray) (root above blo bhi lo hi : ByteArray) (seen : Int) : Decidable (goOk W l H root above blo bhi lo hi seen) :=
 inferInstanceAs (Decidable (small l ∧ 1 ≤ W ∧ W ≤ 32 ∧ H = hashS W l ∧ ((root.size : Int) = W ∨ (root.size : Int) = 0) ∧ above.size ≤ 256 ∧ blo.size ≤ 256 ∧ bhi.size ≤ 256 ∧ lo.size ≤ 1048576 ∧ hi.size ≤ 1048576 ∧ 0 ≤ seen ∧ seen ≤ 500))
def spec_l4Go.f (a0_0 : Int) (l0_1 l1 : List ByteArray) (a2 a3 a4_0 a4_1 a5 a6 : ByteArray) (a7 : Int) : Option (List S78 × Int × Int) :=
 if goOk a0_0 l0_1 l1 a2 a3 a4_0 a4_1 a5 a6 a7 then (walkI a0_0.toNat l0_1 (cuts a0_0.toNat l0_1) a5 a6 502 a7 a2 a3 a4_0 a4_1).map specR else none
theorem spec_l4Go.calls (a0_0 : Int) (A0_1 : Option Addr) (c0_1 : Nat) (l0_1 : List ByteArray) (A1 : Option Addr) (c1 : Nat) (l1 : List ByteArray) (a2 a3 a4_0 a4_1 a5 a6 : ByteArray) (a7 : Int) (r1 : List S78) (r2 r3 : Int) (w : World) (hr0_1 : Kd.C Kd.string w A0_1 l0_1.length l0_1) (hc0_1 : l0_1.length ≤ c0_1) (hr1 : Kd.C Kd.string w A1 l1.length l1) (hc1 : l1.length ≤ c1) (h : spec_l4Go.f a0_0 l0_1 l1 a2 a3 a4_0 a4_1 a5 a6 a7 = some (r1, r2, r3)) :
  Calls Tryd.prog 104 #[.agg #[.int .i64 a0_0, .slice A0_1 l0_1.length c0_1], .slice A1 l1.length c1, .string a2, .string a3, .agg #[.string a4_0, .string a4_1], .string a5, .string a6, .int .i64 a7] w
   fun e w' => ∃ v0_ : Value, e = .returned (.agg #[v0_, .int .i64 r2, .int .i64 r3]) ∧ Kd.R k78 78 w' w.heap.size (fun _ => True) v0_ r1 ∧ Below w.heap.size w w' := by
 unfold spec_l4Go.f at h
 split at h
 ·rename_i hk
  obtain ⟨h1, h2, h3, h4, h5, h6, h7, h8, h9, h10, h11, h12⟩ := hk; obtain ⟨n, rfl⟩ : ∃ n : Nat, a0_0 = (n : Int) := ⟨a0_0.toNat, by omega⟩
  rw [Int.toNat_natCast] at h; obtain ⟨r, hr, he⟩ := Option.map_eq_some_iff.1 h; have hs := specGo_any n (by omega) (by omega) l0_1 h1 a5 a6 h9 h10 502 a7 a2 a3 a4_0 a4_1 r w A0_1 c0_1 A1 c1 hr0_1 hc0_1; rw [← h4, he] at hs; exact hs hr1 hc1 (by omega) h6 h7 h8 h11 h12 hr
 ·cases h
end Go.Proofs.YtonbmghgbblifaaDoor.Z
end
section
namespace Go.Proofs.YtonbmghgbblifaaDoor.Z
open RowKit YtonbmghgbblifaaDoorW.PrintWords YtonbmghgbblifaaDoorW.PrintLast YtonbmghgbblifaaDoorW.PrintMore
attribute [local go_sem] max2_int min2_int max_two min_two max_three min_three max_four min_four
set_option linter.all false
def spec_l2HashOk.f (a0 : ByteArray) (a1 : Int) : Option (Bool) := if (a0.size : Int) = 0 then (some true) else (some ((a0.size : Int) == a1))
set_option maxHeartbeats 8000000 in
set_option maxRecDepth 100000 in
theorem spec_l2HashOk.calls (a0 : ByteArray) (a1 : Int) (r : Bool) (w : World) (h : spec_l2HashOk.f a0 a1 = some r) :
  Calls Tryd.prog 94 #[.string a0, .int .i64 a1] w fun e w' => e = .returned (.bool r) ∧ Drawn0 w w' := by
 have H : (if (a0.size : Int) = 0 then (some true) else (some ((a0.size : Int) == a1))) = some r := h; clear h
 by_cases c3 : (a0.size : Int) = 0
 ·rw [if_pos c3] at H; have c3b0 : ((a0.size : Int) == 0) = true := beq_iff_eq.mpr c3; have c3b1 : ((a0.size : Int) != 0) = false := bne_eq_false_iff_eq.mpr c3; clear c3; obtain rfl := Option.some.inj H
  go_enter Tryd.func94, Tryd.ntmps94
  go_wp2
  go_ret
  exact ⟨by first | rfl | (simp; done) | (simp [*]; done), by repeat (first | exact Drawn0.refl _ | apply Drawn0.step)⟩
 ·rw [if_neg c3] at H; have c3b0 : ((a0.size : Int) == 0) = false := beq_eq_false_iff_ne.mpr c3; have c3b1 : ((a0.size : Int) != 0) = true := bne_iff_ne.mpr c3; obtain rfl := Option.some.inj H
  go_enter Tryd.func94, Tryd.ntmps94
  go_wp2
  go_ret
  exact ⟨by first | rfl | (simp; done) | (simp [*]; done), by repeat (first | exact Drawn0.refl _ | apply Drawn0.step)⟩
def spec_Range.j0 : Nat → ByteArray → ByteArray → ByteArray → List (S78) → Bool → Int → List ByteArray → Option ((List (S78)) × Int)
 | 0, _, _, _, _, _, _, _ => none
 | k + 1, x1, x2, x3, x10, x22, x440002000, x440002001 => if x22 = true then (some (x10, 1)) else ((spec_l3Hashes.f k x440002000 x440002001).bind fun t440007 => ((spec_l4Go.f x440002000 x440002001 t440007 x1 (⟨#[]⟩ : ByteArray) (⟨#[]⟩ : ByteArray) (⟨#[]⟩ : ByteArray) x2 x3 0).bind fun bt440010 => (if bt440010.2.2 = 0 then (some (bt440010.1, 0)) else (some (x10, bt440010.2.2)))))
def spec_Range.f (k : Nat) (a0_0 : Int) (l0_1 : List ByteArray) (a1 : ByteArray) (a2 : ByteArray) (a3 : ByteArray) : Option ((List (S78)) × Int) := (some (([] : List (S78)) : List (S78))).bind fun y440002 => ((spec_l3PoolOk.f a0_0 l0_1).bind fun t440005 => (if t440005 = true then ((spec_l2HashOk.f a1 a0_0).bind fun t440006 => (spec_Range.j0 k a1 a2 a3 y440002 (!t440006) a0_0 l0_1)) else (spec_Range.j0 k a1 a2 a3 y440002 true a0_0 l0_1)))
def spec_Range.T4 : Bool × List (List Nat × List Nat) := (true, [([], []), ([], []), ([1], [1]), ([], []), ([], []), ([], []), ([], []), ([0, 2, 3, 4, 5, 6, 2], [0, 2, 3, 4, 5, 6]), ([], []), ([8, 7, 7, 0, 1, 2, 3, 4, 5, 6, 7, 8], [7, 8])])
def spec_Range.B4 : List Nat := [0, 0, 2, 0, 0, 0, 0, 127, 0, 511]
theorem spec_Range.tab4 : rtab .any (opsOf Tryd.f44 4) = spec_Range.T4 := by kernel_rfl
theorem spec_Range.bits4 : waitsOk spec_Range.T4.2 spec_Range.B4 = true := by kernel_rfl
set_option maxHeartbeats 8000000 in
set_option maxRecDepth 100000 in
theorem spec_Range.calls (k : Nat) (a0_0 : Int) (A0_1 : Option Addr) (c0_1 : Nat) (l0_1 : List ByteArray) (a1 : ByteArray) (a2 : ByteArray) (a3 : ByteArray) (r1 : List (S78)) (r2 : Int) (w : World) (hr0_1 : Kd.C Kd.string w A0_1 l0_1.length l0_1) (hc0_1 : l0_1.length ≤ c0_1) (h : spec_Range.f k a0_0 l0_1 a1 a2 a3 = some (r1, r2)) :
  Calls Tryd.prog 44 #[.agg #[.int .i64 a0_0, .slice A0_1 l0_1.length c0_1], .string a1, .string a2, .string a3] w fun e w' => ∃ v0_ : Value, e = .returned (.tuple #[v0_, .int .i64 r2]) ∧ Kd.R k78 78 w' w.heap.size (fun _ => True) v0_ r1 ∧ Below w.heap.size w w' := by
 have hu34 := Tryd.underlying34; have hu86 := Tryd.underlying86; have hu158 := Tryd.underlying158; have HR0_1 := Aside0.mk hr0_1; have HC0_1 := Aside0.mk hc0_1; clear hr0_1 hc0_1; have HB := Aside0.mk (Below.refl w.heap.size w); have H : ((some (([] : List (S78)) : List (S78))).bind fun y440002 => ((spec_l3PoolOk.f a0_0 l0_1).bind fun t440005 => (if t440005 = true then ((spec_l2HashOk.f a1 a0_0).bind fun t440006 => (spec_Range.j0 k a1 a2 a3 y440002 (!t440006) a0_0 l0_1)) else (spec_Range.j0 k a1 a2 a3 y440002 true a0_0 l0_1)))) = some (r1, r2) := h; clear h; obtain ⟨y440002, hy440002⟩ : ∃ y_ : List (S78), y_ = (([] : List (S78))) := ⟨_, rfl⟩
 replace H : ((spec_l3PoolOk.f a0_0 l0_1).bind fun t440005 => (if t440005 = true then ((spec_l2HashOk.f a1 a0_0).bind fun t440006 => (spec_Range.j0 k a1 a2 a3 y440002 (!t440006) a0_0 l0_1)) else (spec_Range.j0 k a1 a2 a3 y440002 true a0_0 l0_1))) = some (r1, r2) := by first | (rw [hy440002]; with_reducible exact H) | (have H2_ := (Option.bind_some _ _).symm.trans H; rw [hy440002]; with_reducible exact H2_) | (have H2_ := (Option.bind_some _ _).symm.trans H; with_reducible exact H2_) | with_reducible exact H | (rw [hy440002]; exact H) | exact H
 have Ny440002 := Aside0.mk hy440002; clear hy440002; have HC5 := Aside0.mk H; clear H
 go_enter Tryd.func44, Tryd.ntmps44
 go_upto_region 2 with (first | ((with_reducible refine gate_dst (N := 4) rfl ?_); refine box_event ?hg (N := 4) ?hd (cs := #[.int .i64 a0_0, .slice A0_1 l0_1.length c0_1]) (t := 34) ?hr ?_; (case hd => rfl); (case hg => rfl); (case hr => exact zq_14); intro gb440001 hg w6 hbox hb; have n0_ := Aside0.mk (below_step zq_0 hb); have n1_ := Aside0.mk (hbox); have n2_ := Aside0.mk ((by rw [hg]; exact (below_size zq_0) : w.heap.size ≤ gb440001)); have n3_ := Aside0.mk ((by rw [hg]; exact (below_size zq_0) : w.heap.size ≤ gb440001)); clear HB; have HB := n0_; have BK440001 := n1_; have GW440001 := n2_; have GE440001 := n3_; clear n0_ n1_ n2_ n3_; clear hb hbox hg) | ((with_reducible refine gate_dst (N := 12) rfl ?_); refine Kd.R_lit k78 _ 78 ?hg (N := 12) ?hd (xs := ([] : List (S78))) (inner := []) (ok := fun _ => True) (okp := fun _ => True) ?hr ?hp (fun _ hk => hk) trivial (Below.refl _ _) (Nat.le_refl _) (by simp) ?_; (case hd => rfl); (case hg => rfl); (case hr => exact zq_14); (case hp => exact (Reps.none _ _)); intro v440003 w7 ho8 hb hg_ hnew_; clear hg_ hnew_; (first | rw [← Ny440002.out] at ho8 | (simp only [Int.reduceToNat] at ho8; rw [← Ny440002.out] at ho8)); have n0_ := Aside0.mk (Kd.R_lower ho8 (below_size zq_2)); have n1_ := Aside0.mk (blk_below (g := gb440001) (o := .cells #[.int .i64 a0_0, .slice A0_1 l0_1.length c0_1] 34 (0, 0)) zq_4 hb); have n2_ := Aside0.mk (below_step zq_2 hb); clear BK440001; clear HB; have HO440004 := n0_; have BK440001 := n1_; have HB := n2_; clear n0_ n1_ n2_; clear hb ho8))
 (try simp only [Act.put, List.setIfInBounds_toArray, List.set_cons_zero, List.set_cons_succ])
 go_cut [22] (fun v22 wc => ∃ (kq : Nat) (x22_4 : Bool), v22 = .bool x22_4 ∧ Aside0 (spec_Range.j0 kq a1 a2 a3 y440002 x22_4 a0_0 l0_1 = some (r1, r2)) ∧ Aside0 (kq ≤ k) ∧ Aside0 (Kd.R k78 78 wc w.heap.size (fun _ => True) v440003 y440002) ∧ Aside0 (wc.heap[gb440001]? = some (.cells #[.int .i64 a0_0, (.slice A0_1 l0_1.length c0_1)] 34 (0, 0))) ∧ Aside0 (Below w.heap.size w wc))
 case first =>
  have H := HC5.out; clear HC5; replace H := Option.bind_eq_some_iff.mp H; obtain ⟨t440005, A90, H⟩ := H; (try dsimp only at H); have A9 := Aside0.mk A90; clear A90
  by_cases c10 : t440005 = true
  ·subst c10; have H1 : ((spec_l2HashOk.f a1 a0_0).bind fun t440006 => (spec_Range.j0 k a1 a2 a3 y440002 (!t440006) a0_0 l0_1)) = some (r1, r2) := by rw [if_pos rfl] at H; exact H
   clear H; have H := H1; clear H1; replace H := Option.bind_eq_some_iff.mp H; obtain ⟨t440006, A110, H⟩ := H; (try dsimp only at H); have A11 := Aside0.mk A110; clear A110; have H' := Aside0.mk H; clear H; have hcz12_0 : w7.cell? ⟨gb440001, 0, none⟩ = some (.int .i64 a0_0) := (blk_cell BK440001.out 0).trans rfl; have hcz12_1 : w7.cell? ⟨gb440001, 1, none⟩ = some (.slice A0_1 l0_1.length c0_1) := (blk_cell BK440001.out 1).trans rfl; have hfz12_0 := blk_frozen BK440001.out 0; have hfz12_1 := blk_frozen BK440001.out 1
   go_wp2_with (first | ((with_reducible refine gate_callee (f := 103) rfl ?_); refine goesL_ (some 14) rfl rfl Tryd.func103 (by kernel_rfl) rfl #[.agg #[.int .i64 a0_0, .slice A0_1 l0_1.length c0_1]] rfl zq_1 ?_; (with_reducible refine (spec_l3PoolOk.calls a0_0 _ _ l0_1 true _ ?side1 ?side2 A9.out).mono ?_); (case side1 => exact zq_3); (case side2 => exact HC0_1.out); rintro e w13 ⟨rfl, hb⟩; refine ⟨_, rfl, ?_⟩; have n0_ := Aside0.mk (Kd.R_below (by (with_reducible repeat (first | apply Kd.R_alloc | apply Kd.R_drewN | apply Kd.R_drew)); exact HO440004.out) hb); have n1_ := Aside0.mk (blk_below (g := gb440001) (o := .cells #[.int .i64 a0_0, .slice A0_1 l0_1.length c0_1] 34 (0, 0)) zq_4 hb); have n2_ := Aside0.mk (below_step zq_2 hb); clear HO440004; clear BK440001; clear HB; have HO440004 := n0_; have BK440001 := n1_; have HB := n2_; clear n0_ n1_ n2_; (try clear hb); (try clear hb2); (try clear hk); (try clear hi); have hcz14_0 : w13.cell? ⟨gb440001, 0, none⟩ = some (.int .i64 a0_0) := (blk_cell BK440001.out 0).trans rfl; have hcz14_1 : w13.cell? ⟨gb440001, 1, none⟩ = some (.slice A0_1 l0_1.length c0_1) := (blk_cell BK440001.out 1).trans rfl; have hfz14_0 := blk_frozen BK440001.out 0; have hfz14_1 := blk_frozen BK440001.out 1) | (go_at_call 94; (with_reducible refine (spec_l2HashOk.calls a1 a0_0 t440006 _ A11.out).mono ?_); rintro e w' ⟨rfl, ⟨nd, rfl⟩⟩))
   go_meet
   case rel => exact ⟨_, (!t440006), zq_13, H', ⟨by first | omega | exact Nat.le_refl _⟩, ⟨by (with_reducible repeat (first | apply Kd.R_alloc | apply Kd.R_drewN | apply Kd.R_drew)); exact HO440004.out⟩, ⟨by (with_reducible repeat (first | refine blk_drewN ?_ _ | refine blk_drew ?_ | refine blk_alloc ?_ _)); exact BK440001.out⟩, ⟨by repeat (first | (with_reducible first | exact HB.out | apply below_alloc | apply pw_below_drewN | apply below_drew1 | refine below_set ?_ GE440001.out) | exact HB.out)⟩⟩
  ·replace c10 := Bool.eq_false_iff.mpr c10; subst c10; have H1 : (spec_Range.j0 k a1 a2 a3 y440002 true a0_0 l0_1) = some (r1, r2) := by rw [if_neg (show ¬ (false = true) by decide)] at H; exact H
   clear H; have H := H1; clear H1; have H' := Aside0.mk H; clear H; have hcz15_0 : w7.cell? ⟨gb440001, 0, none⟩ = some (.int .i64 a0_0) := (blk_cell BK440001.out 0).trans rfl; have hcz15_1 : w7.cell? ⟨gb440001, 1, none⟩ = some (.slice A0_1 l0_1.length c0_1) := (blk_cell BK440001.out 1).trans rfl; have hfz15_0 := blk_frozen BK440001.out 0; have hfz15_1 := blk_frozen BK440001.out 1
   go_wp2_with (first | ((with_reducible refine gate_callee (f := 103) rfl ?_); refine goesL_ (some 14) rfl rfl Tryd.func103 (by kernel_rfl) rfl #[.agg #[.int .i64 a0_0, .slice A0_1 l0_1.length c0_1]] rfl zq_1 ?_; (with_reducible refine (spec_l3PoolOk.calls a0_0 _ _ l0_1 false _ ?side1 ?side2 A9.out).mono ?_); (case side1 => exact zq_3); (case side2 => exact HC0_1.out); rintro e w16 ⟨rfl, hb⟩; refine ⟨_, rfl, ?_⟩; have n0_ := Aside0.mk (Kd.R_below (by (with_reducible repeat (first | apply Kd.R_alloc | apply Kd.R_drewN | apply Kd.R_drew)); exact HO440004.out) hb); have n1_ := Aside0.mk (blk_below (g := gb440001) (o := .cells #[.int .i64 a0_0, .slice A0_1 l0_1.length c0_1] 34 (0, 0)) zq_4 hb); have n2_ := Aside0.mk (below_step zq_2 hb); clear HO440004; clear BK440001; clear HB; have HO440004 := n0_; have BK440001 := n1_; have HB := n2_; clear n0_ n1_ n2_; (try clear hb); (try clear hb2); (try clear hk); (try clear hi)))
   go_meet
   case rel => exact ⟨_, (true), zq_13, H', ⟨by first | omega | exact Nat.le_refl _⟩, ⟨by (with_reducible repeat (first | apply Kd.R_alloc | apply Kd.R_drewN | apply Kd.R_drew)); exact HO440004.out⟩, ⟨by (with_reducible repeat (first | refine blk_drewN ?_ _ | refine blk_drew ?_ | refine blk_alloc ?_ _)); exact BK440001.out⟩, ⟨by repeat (first | (with_reducible first | exact HB.out | apply below_alloc | apply pw_below_drewN | apply below_drew1 | refine below_set ?_ GE440001.out) | exact HB.out)⟩⟩
 case rest =>
  clear HC5
  try clear c1
  try clear p2
  try clear c4
  try clear c10
  try clear hcz12_0
  try clear hcz12_1
  try clear hcz14_0
  try clear hcz14_1
  try clear hcz15_0
  try clear hcz15_1
  try clear hfz12_0
  try clear hfz12_1
  try clear hfz14_0
  try clear hfz14_1
  try clear hfz15_0
  try clear hfz15_1
  obtain ⟨kq, x22_4, rfl, HA, HJ4, HO_10, BK440001, HB⟩ := hcut
  cases kq with
  | zero => exact absurd HA.out (by simp [spec_Range.j0])
  | succ kj4 =>
   have H := HA.out; clear HA; simp only [spec_Range.j0] at H
   by_cases c17 : x22_4 = true
   ·subst c17; have H1 : (some (y440002, 1)) = some (r1, r2) := by rw [if_pos rfl] at H; exact H
    clear H; have H := H1; clear H1; simp only [Option.some.injEq, Prod.mk.injEq] at H; obtain ⟨rfl, rfl⟩ := H
    go_wp2
    go_ret2
    exact ⟨_, by first | rfl | (simp [errW_none, errW_some] <;> rfl) | (simp [*, errW_none, errW_some] <;> rfl), by (with_reducible repeat (first | apply Kd.R_alloc | apply Kd.R_drewN | apply Kd.R_drew)); exact HO_10.out, by repeat (first | (with_reducible first | exact HB.out | apply below_alloc | apply pw_below_drewN | apply below_drew1 | refine below_set ?_ GE440001.out) | exact HB.out)⟩
   ·replace c17 := Bool.eq_false_iff.mpr c17; subst c17; have H1 : ((spec_l3Hashes.f kj4 a0_0 l0_1).bind fun t440007 => ((spec_l4Go.f a0_0 l0_1 t440007 a1 (⟨#[]⟩ : ByteArray) (⟨#[]⟩ : ByteArray) (⟨#[]⟩ : ByteArray) a2 a3 0).bind fun bt440010 => (if bt440010.2.2 = 0 then (some (bt440010.1, 0)) else (some (y440002, bt440010.2.2))))) = some (r1, r2) := by rw [if_neg (show ¬ (false = true) by decide)] at H; exact H
    clear H; have H := H1; clear H1; replace H := Option.bind_eq_some_iff.mp H; obtain ⟨t440007, A180, H⟩ := H; (try dsimp only at H); have A18 := Aside0.mk A180; clear A180; replace H := Option.bind_eq_some_iff.mp H; obtain ⟨⟨t440010, t440013, t440014⟩, A190, H⟩ := H; (try dsimp only at H); have A19 := Aside0.mk A190; clear A190
    by_cases c20 : t440014 = 0
    ·rw [if_pos c20] at H; have c20b0 : (t440014 == 0) = true := beq_iff_eq.mpr c20; have c20b1 : (t440014 != 0) = false := bne_eq_false_iff_eq.mpr c20; clear c20; simp only [Option.some.injEq, Prod.mk.injEq] at H; obtain ⟨rfl, rfl⟩ := H
     try go_wp2
     have n0_ := Aside0.mk (Kd.R_drew HO_10.out); have n1_ := Aside0.mk (blk_drew BK440001.out); have n2_ := Aside0.mk (below_drew1 HB.out); clear HO_10; clear BK440001; clear HB; have HO_10 := n0_; have BK440001 := n1_; have HB := n2_; clear n0_ n1_ n2_; refine start_ (n := 10) (S := fun w' => w'.cell? ⟨gb440001, 0, none⟩ = some (.int .i64 a0_0) ∧ w'.cell? ⟨gb440001, 1, none⟩ = some (.slice A0_1 l0_1.length c0_1)) (ds := []) #[false, false, false, false, false, false, false, false, false, false] (by kernel_rfl) rfl rfl ⟨(blk_cell BK440001.out 0).trans rfl, (blk_cell BK440001.out 1).trans rfl⟩ (fun hHeld => ?_); refine with_tabW spec_Range.tab4 spec_Range.bits4 (fun HT_ HW_ => ?_); generalize wc.drew = w21 at HO_10 BK440001 HB hHeld ⊢; refine pq_ (i := 3) (N := some 27) HT_.out ?_; refine pq_ (i := 4) (N := some 28) HT_.out ?_; refine pq_ (i := 5) (N := some 29) HT_.out ?_; refine pq_ (i := 6) (N := some 30) HT_.out ?_; refine tq_ (i := 0) (N := some 24) HT_.out HW_.out hHeld (hy := by rintro w' ⟨s0, s1⟩; go_simp; with_reducible rfl) (h := ?_); refine tq_ (i := 1) (N := some 25) HT_.out HW_.out hHeld (hy := by rintro w' ⟨s0, s1⟩; go_simp; with_reducible rfl) (h := ?_); refine join_ (σ := Value × Value × Nat) 1 #[true, true, true, true, true, true, true, true, true, false] (fun s_ => [(26, s_.1), (31, .agg #[s_.2.1, .int .i64 t440013, .int .i64 t440014]), (11, .pointer (some ⟨s_.2.2, 0, none⟩))]) (fun s_ w' => (w'.cell? ⟨gb440001, 0, none⟩ = some (.int .i64 a0_0) ∧ w'.cell? ⟨gb440001, 1, none⟩ = some (.slice A0_1 l0_1.length c0_1)) ∧ (Kd.R Kd.string 9 w' w.heap.size (fun _ => True) s_.1 t440007) ∧ (Kd.R k78 78 w' w.heap.size (fun k_ => some k_ ≠ (v440003 : Value).ownBlock) s_.2.1 t440010) ∧ (Kd.R k78 78 w' w.heap.size (fun k_ => some k_ ≠ (s_.2.1 : Value).ownBlock) v440003 y440002) ∧ (w'.heap[gb440001]? = some (.cells #[.int .i64 a0_0, .slice A0_1 l0_1.length c0_1] 34 (0, 0))) ∧ (w'.heap[s_.2.2]? = some (.cells #[.slice none 0 0, .int .i64 0, .int .i64 0] 158 (0, 0))) ∧ (w.heap.size ≤ s_.2.2) ∧ (w.heap.size ≤ s_.2.2) ∧ (gb440001 ≠ s_.2.2) ∧ (s_.2.2 ≠ gb440001) ∧ (Below w.heap.size w w')) ?_ ?_; rotate_left
     ·intro hCont; refine two_ (i := 2) (j := 8) (Ni := some 26) (Nj := some 11) #[true, true, true, true, true, true, true, false, false, false] #[true, true, false, true, true, true, true, false, true, false] rfl rfl rfl rfl (two_of HT_.out (by kernel_rfl)) (by decide) (by decide) (fun K hK => ?_) (fun K hK => ?_)
      ·skip; refine goes_ Tryd.func46 (by kernel_rfl) rfl #[.agg #[.int .i64 a0_0, .slice A0_1 l0_1.length c0_1]] (by rfl) rfl rfl zq_1 ?_
       with_reducible refine (spec_l3Hashes.calls kj4 a0_0 _ _ l0_1 t440007 _ ?side1 ?side2 A18.out).mono ?_
       (case side1 => exact zq_3); (case side2 => exact HC0_1.out); rintro e w22 ⟨v440008, rfl, ho0, hb⟩; refine ⟨_, rfl, ?_⟩; have n0_ := Aside0.mk (Kd.R_below zq_10 hb); have n1_ := Aside0.mk (Kd.R_lower ho0 (below_size zq_2)); have n2_ := Aside0.mk (blk_below (g := gb440001) (o := .cells #[.int .i64 a0_0, .slice A0_1 l0_1.length c0_1] 34 (0, 0)) zq_4 hb); have n3_ := Aside0.mk (below_step zq_2 hb); clear HO_10; clear BK440001; clear HB; have HO_10 := n0_; have HO440009 := n1_; have BK440001 := n2_; have HB := n3_; clear n0_ n1_ n2_ n3_; (try clear hb); (try clear hb2); (try clear hk); (try clear hi); (try clear ho0); obtain ⟨Ao23, co23, eo23⟩ := Kd.R_slice HO440009.out; (first | subst eo23 | (injection eo23 with f1_ f2_ f3_; have f4_ := f1_.symm; have f5_ := f3_.symm; clear f1_ f2_ f3_; subst f4_; subst f5_)); refine hK.out _ _ ⟨(blk_cell BK440001.out 0).trans rfl, (blk_cell BK440001.out 1).trans rfl⟩ (fun hHeld => ?_); clear hK K; refine norm_ (a' := ?_) ?_ ?_; rotate_left
       ·show Act.put _ (some 26) _ = _; simp only [Act.put, List.setIfInBounds_toArray, List.set_cons_zero, List.set_cons_succ, i64_w, i32_w]; rfl
       refine two_ (i := 7) (j := 8) (Ni := some 31) (Nj := some 11) #[true, true, true, true, true, true, true, true, false, false] #[true, true, true, true, true, true, true, false, true, false] rfl rfl rfl rfl (two_of HT_.out (by kernel_rfl)) (by decide) (by decide) (fun K hK => ?_) (fun K hK => ?_)
       ·skip; refine goes_ Tryd.func104 (by kernel_rfl) rfl #[.agg #[.int .i64 a0_0, .slice A0_1 l0_1.length c0_1], .slice Ao23 t440007.length co23, .string a1, .string (⟨#[]⟩ : ByteArray), .agg #[.string (⟨#[]⟩ : ByteArray), .string (⟨#[]⟩ : ByteArray)], .string a2, .string a3, .int .i64 0] (by rfl) rfl rfl zq_1 ?_
        with_reducible refine (spec_l4Go.calls a0_0 _ _ l0_1 _ _ t440007 a1 (⟨#[]⟩ : ByteArray) (⟨#[]⟩ : ByteArray) (⟨#[]⟩ : ByteArray) a2 a3 0 t440010 t440013 t440014 _ ?side1 ?side2 ?side3 ?side4 A19.out).mono ?_
        (case side1 => exact zq_3); (case side2 => exact HC0_1.out); (case side3 => exact zq_30); (case side4 => exact (Kd.R_reads' HO440009.out).2.1); rintro e w24 ⟨v440011, rfl, ho0, hb⟩; refine ⟨_, rfl, ?_⟩; have n0_ := Aside0.mk (Kd.R_elder' zq_10 (Kd.R_base ho0) hb); have n1_ := Aside0.mk (Kd.R_below zq_16 hb); have n2_ := Aside0.mk (Kd.R_lower (Kd.R_new' ho0 (Kd.R_lt zq_10)) (below_size zq_2)); have n3_ := Aside0.mk (blk_below (g := gb440001) (o := .cells #[.int .i64 a0_0, .slice A0_1 l0_1.length c0_1] 34 (0, 0)) zq_4 hb); have n4_ := Aside0.mk (below_step zq_2 hb); clear HO_10; clear HO440009; clear BK440001; clear HB; have HO_10 := n0_; have HO440009 := n1_; have HO440012 := n2_; have BK440001 := n3_; have HB := n4_; clear n0_ n1_ n2_ n3_ n4_; (try clear hb); (try clear hb2); (try clear hk); (try clear hi); (try clear ho0); refine hK.out _ _ ⟨(blk_cell BK440001.out 0).trans rfl, (blk_cell BK440001.out 1).trans rfl⟩ (fun hHeld => ?_); clear hK K; refine norm_ (a' := ?_) ?_ ?_; rotate_left
        ·show Act.put _ (some 31) _ = _; simp only [Act.put, List.setIfInBounds_toArray, List.set_cons_zero, List.set_cons_succ, i64_w, i32_w]; rfl
        refine one_ (i := 8) (N := some 11) #[true, true, true, true, true, true, true, true, true, false] rfl rfl (one_of HT_.out (by kernel_rfl)) (by decide) (fun K hK => ?_); refine box_step ?hg (N := 11) ?hd (cs := #[.slice none 0 0, .int .i64 0, .int .i64 0]) (t := 158) ?hr ?_; (case hd => rfl); (case hg => rfl); (case hr => exact zq_14); intro gb440015 hg w25 hbox hb; have n0_ := Aside0.mk (Kd.R_below zq_10 hb); have n1_ := Aside0.mk (Kd.R_below zq_16 hb); have n2_ := Aside0.mk (Kd.R_below (by (with_reducible repeat (first | apply Kd.R_alloc | apply Kd.R_drewN | apply Kd.R_drew)); exact HO440012.out) hb); have n3_ := Aside0.mk (blk_below (g := gb440001) (o := .cells #[.int .i64 a0_0, .slice A0_1 l0_1.length c0_1] 34 (0, 0)) zq_4 hb); have n4_ := Aside0.mk (below_step zq_2 hb); have n5_ := Aside0.mk (hbox); have n6_ := Aside0.mk ((by rw [hg]; exact (below_size zq_2) : w.heap.size ≤ gb440015)); have n7_ := Aside0.mk ((by rw [hg]; exact (below_size zq_2) : w.heap.size ≤ gb440015)); have n8_ := Aside0.mk ((by rw [hg]; exact Nat.ne_of_lt (blk_lt (g := gb440001) (o := .cells #[.int .i64 a0_0, .slice A0_1 l0_1.length c0_1] 34 (0, 0)) zq_4) : gb440001 ≠ gb440015)); have n9_ := Aside0.mk ((by rw [hg]; exact Nat.ne_of_gt (blk_lt (g := gb440001) (o := .cells #[.int .i64 a0_0, .slice A0_1 l0_1.length c0_1] 34 (0, 0)) zq_4) : gb440015 ≠ gb440001)); clear HO_10; clear HO440009
        clear HO440012; clear BK440001; clear HB; have HO_10 := n0_; have HO440009 := n1_; have HO440012 := n2_; have BK440001 := n3_; have HB := n4_; have BK440015 := n5_; have GW440015 := n6_; have GE440015 := n7_; have NB440001_440015 := n8_; have NB440015_440001 := n9_; clear n0_ n1_ n2_ n3_ n4_ n5_ n6_ n7_ n8_ n9_; clear hb hbox hg; refine hK.out _ _ ⟨(blk_cell BK440001.out 0).trans rfl, (blk_cell BK440001.out 1).trans rfl⟩ (fun hHeld => ?_); clear hK K; refine norm_ (a' := ?_) ?_ ?_; rotate_left
        ·show Act.put _ (some 11) _ = _; simp only [Act.put, List.setIfInBounds_toArray, List.set_cons_zero, List.set_cons_succ, i64_w, i32_w]; rfl
        exact norm_ zq_31 (hCont (.slice Ao23 t440007.length co23, v440011, gb440015) _ ⟨hHeld, zq_16, zq_33, zq_35, zq_4, zq_20, GW440015.out, GE440015.out, NB440001_440015.out, NB440015_440001.out, zq_6⟩)
       ·skip; refine box_step ?hg (N := 11) ?hd (cs := #[.slice none 0 0, .int .i64 0, .int .i64 0]) (t := 158) ?hr ?_; (case hd => rfl); (case hg => rfl); (case hr => exact zq_14); intro gb440015 hg w23 hbox hb; have n0_ := Aside0.mk (Kd.R_below zq_10 hb); have n1_ := Aside0.mk (Kd.R_below zq_16 hb); have n2_ := Aside0.mk (blk_below (g := gb440001) (o := .cells #[.int .i64 a0_0, .slice A0_1 l0_1.length c0_1] 34 (0, 0)) zq_4 hb); have n3_ := Aside0.mk (below_step zq_2 hb); have n4_ := Aside0.mk (hbox); have n5_ := Aside0.mk ((by rw [hg]; exact (below_size zq_2) : w.heap.size ≤ gb440015)); have n6_ := Aside0.mk ((by rw [hg]; exact (below_size zq_2) : w.heap.size ≤ gb440015)); have n7_ := Aside0.mk ((by rw [hg]; exact Nat.ne_of_lt (blk_lt (g := gb440001) (o := .cells #[.int .i64 a0_0, .slice A0_1 l0_1.length c0_1] 34 (0, 0)) zq_4) : gb440001 ≠ gb440015)); have n8_ := Aside0.mk ((by rw [hg]; exact Nat.ne_of_gt (blk_lt (g := gb440001) (o := .cells #[.int .i64 a0_0, .slice A0_1 l0_1.length c0_1] 34 (0, 0)) zq_4) : gb440015 ≠ gb440001)); clear HO_10; clear HO440009; clear BK440001; clear HB; have HO_10 := n0_; have HO440009 := n1_; have BK440001 := n2_; have HB := n3_; have BK440015 := n4_; have GW440015 := n5_; have GE440015 := n6_; have NB440001_440015 := n7_; have NB440015_440001 := n8_; clear n0_ n1_ n2_ n3_ n4_ n5_ n6_ n7_ n8_; clear hb hbox hg
        obtain ⟨Ao24, co24, eo24⟩ := Kd.R_slice HO440009.out; (first | subst eo24 | (injection eo24 with f1_ f2_ f3_; have f4_ := f1_.symm; have f5_ := f3_.symm; clear f1_ f2_ f3_; subst f4_; subst f5_)); refine hK.out _ _ ⟨(blk_cell BK440001.out 0).trans rfl, (blk_cell BK440001.out 1).trans rfl⟩ (fun hHeld => ?_); clear hK K; refine norm_ (a' := ?_) ?_ ?_; rotate_left
        ·show Act.put _ (some 11) _ = _; simp only [Act.put, List.setIfInBounds_toArray, List.set_cons_zero, List.set_cons_succ, i64_w, i32_w]; rfl
        refine one_ (i := 7) (N := some 31) #[true, true, true, true, true, true, true, true, true, false] rfl rfl (one_of HT_.out (by kernel_rfl)) (by decide) (fun K hK => ?_); refine goes_ Tryd.func104 (by kernel_rfl) rfl #[.agg #[.int .i64 a0_0, .slice A0_1 l0_1.length c0_1], .slice Ao24 t440007.length co24, .string a1, .string (⟨#[]⟩ : ByteArray), .agg #[.string (⟨#[]⟩ : ByteArray), .string (⟨#[]⟩ : ByteArray)], .string a2, .string a3, .int .i64 0] (by rfl) rfl rfl zq_1 ?_
        with_reducible refine (spec_l4Go.calls a0_0 _ _ l0_1 _ _ t440007 a1 (⟨#[]⟩ : ByteArray) (⟨#[]⟩ : ByteArray) (⟨#[]⟩ : ByteArray) a2 a3 0 t440010 t440013 t440014 _ ?side1 ?side2 ?side3 ?side4 A19.out).mono ?_
        (case side1 => exact zq_3); (case side2 => exact HC0_1.out); (case side3 => exact zq_30); (case side4 => exact (Kd.R_reads' HO440009.out).2.1); rintro e w25 ⟨v440011, rfl, ho0, hb⟩; refine ⟨_, rfl, ?_⟩; have n0_ := Aside0.mk (Kd.R_elder' zq_10 (Kd.R_base ho0) hb); have n1_ := Aside0.mk (Kd.R_below zq_16 hb); have n2_ := Aside0.mk (Kd.R_lower (Kd.R_new' ho0 (Kd.R_lt zq_10)) (below_size zq_6)); have n3_ := Aside0.mk (blk_below (g := gb440001) (o := .cells #[.int .i64 a0_0, .slice A0_1 l0_1.length c0_1] 34 (0, 0)) zq_4 hb); have n4_ := Aside0.mk (blk_below (g := gb440015) (o := .cells #[.slice none 0 0, .int .i64 0, .int .i64 0] 158 (0, 0)) zq_20 hb); have n5_ := Aside0.mk (below_step zq_6 hb); clear HO_10; clear HO440009; clear BK440001; clear BK440015; clear HB; have HO_10 := n0_; have HO440009 := n1_; have HO440012 := n2_; have BK440001 := n3_; have BK440015 := n4_; have HB := n5_; clear n0_ n1_ n2_ n3_ n4_ n5_; (try clear hb); (try clear hb2); (try clear hk); (try clear hi); (try clear ho0); refine hK.out _ _ ⟨(blk_cell BK440001.out 0).trans rfl, (blk_cell BK440001.out 1).trans rfl⟩ (fun hHeld => ?_); clear hK K; refine norm_ (a' := ?_) ?_ ?_; rotate_left
        ·show Act.put _ (some 31) _ = _; simp only [Act.put, List.setIfInBounds_toArray, List.set_cons_zero, List.set_cons_succ, i64_w, i32_w]; rfl
        exact norm_ zq_31 (hCont (.slice Ao24 t440007.length co24, v440011, gb440015) _ ⟨hHeld, zq_16, zq_33, zq_35, zq_4, zq_20, GW440015.out, GE440015.out, NB440001_440015.out, NB440015_440001.out, zq_6⟩)
      ·skip; refine box_step ?hg (N := 11) ?hd (cs := #[.slice none 0 0, .int .i64 0, .int .i64 0]) (t := 158) ?hr ?_; (case hd => rfl); (case hg => rfl); (case hr => exact zq_14); intro gb440015 hg w22 hbox hb; have n0_ := Aside0.mk (Kd.R_below zq_10 hb); have n1_ := Aside0.mk (blk_below (g := gb440001) (o := .cells #[.int .i64 a0_0, .slice A0_1 l0_1.length c0_1] 34 (0, 0)) zq_4 hb); have n2_ := Aside0.mk (below_step zq_2 hb); have n3_ := Aside0.mk (hbox); have n4_ := Aside0.mk ((by rw [hg]; exact (below_size zq_2) : w.heap.size ≤ gb440015)); have n5_ := Aside0.mk ((by rw [hg]; exact (below_size zq_2) : w.heap.size ≤ gb440015)); have n6_ := Aside0.mk ((by rw [hg]; exact Nat.ne_of_lt (blk_lt (g := gb440001) (o := .cells #[.int .i64 a0_0, .slice A0_1 l0_1.length c0_1] 34 (0, 0)) zq_4) : gb440001 ≠ gb440015)); have n7_ := Aside0.mk ((by rw [hg]; exact Nat.ne_of_gt (blk_lt (g := gb440001) (o := .cells #[.int .i64 a0_0, .slice A0_1 l0_1.length c0_1] 34 (0, 0)) zq_4) : gb440015 ≠ gb440001)); clear HO_10; clear BK440001; clear HB; have HO_10 := n0_; have BK440001 := n1_; have HB := n2_; have BK440015 := n3_; have GW440015 := n4_; have GE440015 := n5_; have NB440001_440015 := n6_; have NB440015_440001 := n7_; clear n0_ n1_ n2_ n3_ n4_ n5_ n6_ n7_; clear hb hbox hg; refine hK.out _ _ ⟨(blk_cell BK440001.out 0).trans rfl, (blk_cell BK440001.out 1).trans rfl⟩ (fun hHeld => ?_); clear hK K; refine norm_ (a' := ?_) ?_ ?_; rotate_left
       ·show Act.put _ (some 11) _ = _; simp only [Act.put, List.setIfInBounds_toArray, List.set_cons_zero, List.set_cons_succ, i64_w, i32_w]; rfl
       refine one_ (i := 2) (N := some 26) #[true, true, true, true, true, true, true, false, true, false] rfl rfl (one_of HT_.out (by kernel_rfl)) (by decide) (fun K hK => ?_); refine goes_ Tryd.func46 (by kernel_rfl) rfl #[.agg #[.int .i64 a0_0, .slice A0_1 l0_1.length c0_1]] (by rfl) rfl rfl zq_1 ?_
       with_reducible refine (spec_l3Hashes.calls kj4 a0_0 _ _ l0_1 t440007 _ ?side1 ?side2 A18.out).mono ?_
       (case side1 => exact zq_3); (case side2 => exact HC0_1.out); rintro e w23 ⟨v440008, rfl, ho0, hb⟩; refine ⟨_, rfl, ?_⟩; have n0_ := Aside0.mk (Kd.R_below zq_10 hb); have n1_ := Aside0.mk (Kd.R_lower ho0 (below_size zq_6)); have n2_ := Aside0.mk (blk_below (g := gb440001) (o := .cells #[.int .i64 a0_0, .slice A0_1 l0_1.length c0_1] 34 (0, 0)) zq_4 hb); have n3_ := Aside0.mk (blk_below (g := gb440015) (o := .cells #[.slice none 0 0, .int .i64 0, .int .i64 0] 158 (0, 0)) zq_20 hb); have n4_ := Aside0.mk (below_step zq_6 hb); clear HO_10; clear BK440001; clear BK440015; clear HB; have HO_10 := n0_; have HO440009 := n1_; have BK440001 := n2_; have BK440015 := n3_; have HB := n4_; clear n0_ n1_ n2_ n3_ n4_; (try clear hb); (try clear hb2); (try clear hk); (try clear hi); (try clear ho0); obtain ⟨Ao24, co24, eo24⟩ := Kd.R_slice HO440009.out; (first | subst eo24 | (injection eo24 with f1_ f2_ f3_; have f4_ := f1_.symm; have f5_ := f3_.symm; clear f1_ f2_ f3_; subst f4_; subst f5_)); refine hK.out _ _ ⟨(blk_cell BK440001.out 0).trans rfl, (blk_cell BK440001.out 1).trans rfl⟩ (fun hHeld => ?_); clear hK K; refine norm_ (a' := ?_) ?_ ?_; rotate_left
       ·show Act.put _ (some 26) _ = _; simp only [Act.put, List.setIfInBounds_toArray, List.set_cons_zero, List.set_cons_succ, i64_w, i32_w]; rfl
       refine one_ (i := 7) (N := some 31) #[true, true, true, true, true, true, true, true, true, false] rfl rfl (one_of HT_.out (by kernel_rfl)) (by decide) (fun K hK => ?_); refine goes_ Tryd.func104 (by kernel_rfl) rfl #[.agg #[.int .i64 a0_0, .slice A0_1 l0_1.length c0_1], .slice Ao24 t440007.length co24, .string a1, .string (⟨#[]⟩ : ByteArray), .agg #[.string (⟨#[]⟩ : ByteArray), .string (⟨#[]⟩ : ByteArray)], .string a2, .string a3, .int .i64 0] (by rfl) rfl rfl zq_1 ?_
       with_reducible refine (spec_l4Go.calls a0_0 _ _ l0_1 _ _ t440007 a1 (⟨#[]⟩ : ByteArray) (⟨#[]⟩ : ByteArray) (⟨#[]⟩ : ByteArray) a2 a3 0 t440010 t440013 t440014 _ ?side1 ?side2 ?side3 ?side4 A19.out).mono ?_
       (case side1 => exact zq_3); (case side2 => exact HC0_1.out); (case side3 => exact zq_30); (case side4 => exact (Kd.R_reads' HO440009.out).2.1); rintro e w25 ⟨v440011, rfl, ho0, hb⟩; refine ⟨_, rfl, ?_⟩; have n0_ := Aside0.mk (Kd.R_elder' zq_10 (Kd.R_base ho0) hb); have n1_ := Aside0.mk (Kd.R_below zq_16 hb); have n2_ := Aside0.mk (Kd.R_lower (Kd.R_new' ho0 (Kd.R_lt zq_10)) (below_size zq_6)); have n3_ := Aside0.mk (blk_below (g := gb440001) (o := .cells #[.int .i64 a0_0, .slice A0_1 l0_1.length c0_1] 34 (0, 0)) zq_4 hb); have n4_ := Aside0.mk (blk_below (g := gb440015) (o := .cells #[.slice none 0 0, .int .i64 0, .int .i64 0] 158 (0, 0)) zq_20 hb); have n5_ := Aside0.mk (below_step zq_6 hb); clear HO_10; clear HO440009; clear BK440001; clear BK440015; clear HB; have HO_10 := n0_; have HO440009 := n1_; have HO440012 := n2_; have BK440001 := n3_; have BK440015 := n4_; have HB := n5_; clear n0_ n1_ n2_ n3_ n4_ n5_; (try clear hb); (try clear hb2); (try clear hk); (try clear hi); (try clear ho0); refine hK.out _ _ ⟨(blk_cell BK440001.out 0).trans rfl, (blk_cell BK440001.out 1).trans rfl⟩ (fun hHeld => ?_); clear hK K; refine norm_ (a' := ?_) ?_ ?_; rotate_left
       ·show Act.put _ (some 31) _ = _; simp only [Act.put, List.setIfInBounds_toArray, List.set_cons_zero, List.set_cons_succ, i64_w, i32_w]; rfl
       exact norm_ zq_31 (hCont (.slice Ao24 t440007.length co24, v440011, gb440015) _ ⟨hHeld, zq_16, zq_33, zq_35, zq_4, zq_20, GW440015.out, GE440015.out, NB440001_440015.out, NB440015_440001.out, zq_6⟩)
     rintro ⟨v440008, v440011, gb440015⟩ w26 ⟨hS_, h0_, h1_, h2_, h3_, h4_, h5_, h6_, h7_, h8_, h9_⟩; have n0_ : Aside0 (Kd.R Kd.string 9 w26 w.heap.size (fun _ => True) v440008 t440007) := ⟨h0_⟩
     have n1_ : Aside0 (Kd.R k78 78 w26 w.heap.size (fun k_ => some k_ ≠ (v440003 : Value).ownBlock) v440011 t440010) := ⟨h1_⟩
     have n2_ : Aside0 (Kd.R k78 78 w26 w.heap.size (fun k_ => some k_ ≠ (v440011 : Value).ownBlock) v440003 y440002) := ⟨h2_⟩
     have n3_ : Aside0 (w26.heap[gb440001]? = some (.cells #[.int .i64 a0_0, .slice A0_1 l0_1.length c0_1] 34 (0, 0))) := ⟨h3_⟩
     have n4_ : Aside0 (w26.heap[gb440015]? = some (.cells #[.slice none 0 0, .int .i64 0, .int .i64 0] 158 (0, 0))) := ⟨h4_⟩
     have n5_ : Aside0 (w.heap.size ≤ gb440015) := ⟨h5_⟩
     have n6_ : Aside0 (w.heap.size ≤ gb440015) := ⟨h6_⟩
     have n7_ : Aside0 (gb440001 ≠ gb440015) := ⟨h7_⟩
     have n8_ : Aside0 (gb440015 ≠ gb440001) := ⟨h8_⟩
     have n9_ : Aside0 (Below w.heap.size w w26) := ⟨h9_⟩
     clear HO_10; clear BK440001; clear HB; clear h0_ h1_ h2_ h3_ h4_ h5_ h6_ h7_ h8_ h9_; have HO440009 := n0_; have HO440012 := n1_; have HO_10 := n2_; have BK440001 := n3_; have BK440015 := n4_; have GW440015 := n5_; have GE440015 := n6_; have NB440001_440015 := n7_; have NB440015_440001 := n8_; have HB := n9_; clear n0_ n1_ n2_ n3_ n4_ n5_ n6_ n7_ n8_ n9_; have hHeld : w26.cell? ⟨gb440001, 0, none⟩ = some (.int .i64 a0_0) ∧ w26.cell? ⟨gb440001, 1, none⟩ = some (.slice A0_1 l0_1.length c0_1) := hS_; obtain ⟨Ao27, co27, eo27⟩ := Kd.R_slice HO440012.out; (first | subst eo27 | (injection eo27 with f1_ f2_ f3_; have f4_ := f1_.symm; have f5_ := f3_.symm; clear f1_ f2_ f3_; subst f4_; subst f5_)); refine norm_ (a' := ?_) ?_ ?_; rotate_left
     ·simp only [putAll, Act.put, List.setIfInBounds_toArray, List.set_cons_zero, List.set_cons_succ]; rfl
     refine one_ (i := 9) (N := none) #[true, true, true, true, true, true, true, true, true, true] rfl rfl (one_of HT_.out (by kernel_rfl)) (by decide) (fun K hK => ?_); have hs28 : w26.cell? ⟨gb440015, 0, none⟩ = some (.slice none 0 0) := (blk_cell BK440015.out 0).trans rfl; have hfs28 := blk_frozen BK440015.out 0; have hns28_0 := NB440001_440015.out; have hms28_0 := NB440015_440001.out; have hs29 : w26.cell? ⟨gb440015, 1, none⟩ = some (.int .i64 0) := (blk_cell BK440015.out 1).trans rfl; have hfs29 := blk_frozen BK440015.out 1; have hns29_0 := NB440001_440015.out; have hms29_0 := NB440015_440001.out; have hs30 : w26.cell? ⟨gb440015, 2, none⟩ = some (.int .i64 0) := (blk_cell BK440015.out 2).trans rfl; have hfs30 := blk_frozen BK440015.out 2; have hns30_0 := NB440001_440015.out; have hms30_0 := NB440015_440001.out; refine skip_ (w1 := ?_) (by rfl) rfl ?_ ?_; rotate_left
     ·go_simp; rfl
     refine hK.out _ _ ⟨((cell_far (p := ⟨gb440015, _, none⟩) NB440001_440015.out _).trans (((cell_far (p := ⟨gb440015, _, none⟩) NB440001_440015.out _).trans (((cell_far (p := ⟨gb440015, _, none⟩) NB440001_440015.out _).trans (hHeld.1)))))), ((cell_far (p := ⟨gb440015, _, none⟩) NB440001_440015.out _).trans (((cell_far (p := ⟨gb440015, _, none⟩) NB440001_440015.out _).trans (((cell_far (p := ⟨gb440015, _, none⟩) NB440001_440015.out _).trans (hHeld.2))))))⟩ (fun hHeld => ?_); clear hK K; refine done_ (done_of HT_.out (by kernel_rfl)) ?_; have hnb31 := NB440015_440001.out; have hnc31 := NB440001_440015.out; have hcz32_0 : w26.cell? ⟨gb440015, 0, none⟩ = some (.slice none 0 0) := (blk_cell BK440015.out 0).trans rfl; have hcz32_1 : w26.cell? ⟨gb440015, 1, none⟩ = some (.int .i64 0) := (blk_cell BK440015.out 1).trans rfl; have hcz32_2 : w26.cell? ⟨gb440015, 2, none⟩ = some (.int .i64 0) := (blk_cell BK440015.out 2).trans rfl; have hfz32_0 := blk_frozen BK440015.out 0; have hfz32_1 := blk_frozen BK440015.out 1; have hfz32_2 := blk_frozen BK440015.out 2
     try go_wp2
     go_ret2
     exact ⟨_, by first | rfl | (simp [errW_none, errW_some] <;> rfl) | (simp [*, errW_none, errW_some] <;> rfl), by (with_reducible repeat (first | apply Kd.R_alloc | apply Kd.R_drewN | apply Kd.R_drew)); exact Kd.R_mono (Kd.R_far (p := ⟨gb440015, 2, none⟩) (Kd.R_far (p := ⟨gb440015, 1, none⟩) (Kd.R_far (p := ⟨gb440015, 0, none⟩) (Kd.R_types HO440012.out BK440015.out (by decide)) (fun _ hk => hk.2) (.slice Ao27 t440010.length co27)) (fun _ hk => hk.2) (.int .i64 t440013)) (fun _ hk => hk.2) (.int .i64 t440014)) (fun _ hk => trivial), by repeat (first | (with_reducible first | exact HB.out | apply below_alloc | apply pw_below_drewN | apply below_drew1 | refine below_set ?_ GE440001.out | refine below_set ?_ GE440015.out) | exact HB.out)⟩
    ·rw [if_neg c20] at H; have c20b0 : (t440014 == 0) = false := beq_eq_false_iff_ne.mpr c20; have c20b1 : (t440014 != 0) = true := bne_iff_ne.mpr c20; simp only [Option.some.injEq, Prod.mk.injEq] at H; obtain ⟨rfl, rfl⟩ := H
     try go_wp2
     have n0_ := Aside0.mk (Kd.R_drew HO_10.out); have n1_ := Aside0.mk (blk_drew BK440001.out); have n2_ := Aside0.mk (below_drew1 HB.out); clear HO_10; clear BK440001; clear HB; have HO_10 := n0_; have BK440001 := n1_; have HB := n2_; clear n0_ n1_ n2_; refine start_ (n := 10) (S := fun w' => w'.cell? ⟨gb440001, 0, none⟩ = some (.int .i64 a0_0) ∧ w'.cell? ⟨gb440001, 1, none⟩ = some (.slice A0_1 l0_1.length c0_1)) (ds := []) #[false, false, false, false, false, false, false, false, false, false] (by kernel_rfl) rfl rfl ⟨(blk_cell BK440001.out 0).trans rfl, (blk_cell BK440001.out 1).trans rfl⟩ (fun hHeld => ?_); refine with_tabW spec_Range.tab4 spec_Range.bits4 (fun HT_ HW_ => ?_); generalize wc.drew = w33 at HO_10 BK440001 HB hHeld ⊢; refine pq_ (i := 3) (N := some 27) HT_.out ?_; refine pq_ (i := 4) (N := some 28) HT_.out ?_; refine pq_ (i := 5) (N := some 29) HT_.out ?_; refine pq_ (i := 6) (N := some 30) HT_.out ?_; refine tq_ (i := 0) (N := some 24) HT_.out HW_.out hHeld (hy := by rintro w' ⟨s0, s1⟩; go_simp; with_reducible rfl) (h := ?_); refine tq_ (i := 1) (N := some 25) HT_.out HW_.out hHeld (hy := by rintro w' ⟨s0, s1⟩; go_simp; with_reducible rfl) (h := ?_); refine join_ (σ := Value × Value × Nat) 1 #[true, true, true, true, true, true, true, true, true, false] (fun s_ => [(26, s_.1), (31, .agg #[s_.2.1, .int .i64 t440013, .int .i64 t440014]), (11, .pointer (some ⟨s_.2.2, 0, none⟩))]) (fun s_ w' => (w'.cell? ⟨gb440001, 0, none⟩ = some (.int .i64 a0_0) ∧ w'.cell? ⟨gb440001, 1, none⟩ = some (.slice A0_1 l0_1.length c0_1)) ∧ (Kd.R Kd.string 9 w' w.heap.size (fun _ => True) s_.1 t440007) ∧ (Kd.R k78 78 w' w.heap.size (fun k_ => some k_ ≠ (v440003 : Value).ownBlock) s_.2.1 t440010) ∧ (Kd.R k78 78 w' w.heap.size (fun k_ => some k_ ≠ (s_.2.1 : Value).ownBlock) v440003 y440002) ∧ (w'.heap[gb440001]? = some (.cells #[.int .i64 a0_0, .slice A0_1 l0_1.length c0_1] 34 (0, 0))) ∧ (w'.heap[s_.2.2]? = some (.cells #[.slice none 0 0, .int .i64 0, .int .i64 0] 158 (0, 0))) ∧ (w.heap.size ≤ s_.2.2) ∧ (w.heap.size ≤ s_.2.2) ∧ (gb440001 ≠ s_.2.2) ∧ (s_.2.2 ≠ gb440001) ∧ (Below w.heap.size w w')) ?_ ?_; rotate_left
     ·intro hCont; refine two_ (i := 2) (j := 8) (Ni := some 26) (Nj := some 11) #[true, true, true, true, true, true, true, false, false, false] #[true, true, false, true, true, true, true, false, true, false] rfl rfl rfl rfl (two_of HT_.out (by kernel_rfl)) (by decide) (by decide) (fun K hK => ?_) (fun K hK => ?_)
      ·skip; refine goes_ Tryd.func46 (by kernel_rfl) rfl #[.agg #[.int .i64 a0_0, .slice A0_1 l0_1.length c0_1]] (by rfl) rfl rfl zq_1 ?_
       with_reducible refine (spec_l3Hashes.calls kj4 a0_0 _ _ l0_1 t440007 _ ?side1 ?side2 A18.out).mono ?_
       (case side1 => exact zq_3); (case side2 => exact HC0_1.out); rintro e w34 ⟨v440008, rfl, ho0, hb⟩; refine ⟨_, rfl, ?_⟩; have n0_ := Aside0.mk (Kd.R_below zq_10 hb); have n1_ := Aside0.mk (Kd.R_lower ho0 (below_size zq_2)); have n2_ := Aside0.mk (blk_below (g := gb440001) (o := .cells #[.int .i64 a0_0, .slice A0_1 l0_1.length c0_1] 34 (0, 0)) zq_4 hb); have n3_ := Aside0.mk (below_step zq_2 hb); clear HO_10; clear BK440001; clear HB; have HO_10 := n0_; have HO440009 := n1_; have BK440001 := n2_; have HB := n3_; clear n0_ n1_ n2_ n3_; (try clear hb); (try clear hb2); (try clear hk); (try clear hi); (try clear ho0); obtain ⟨Ao35, co35, eo35⟩ := Kd.R_slice HO440009.out; (first | subst eo35 | (injection eo35 with f1_ f2_ f3_; have f4_ := f1_.symm; have f5_ := f3_.symm; clear f1_ f2_ f3_; subst f4_; subst f5_)); refine hK.out _ _ ⟨(blk_cell BK440001.out 0).trans rfl, (blk_cell BK440001.out 1).trans rfl⟩ (fun hHeld => ?_); clear hK K; refine norm_ (a' := ?_) ?_ ?_; rotate_left
       ·show Act.put _ (some 26) _ = _; simp only [Act.put, List.setIfInBounds_toArray, List.set_cons_zero, List.set_cons_succ, i64_w, i32_w]; rfl
       refine two_ (i := 7) (j := 8) (Ni := some 31) (Nj := some 11) #[true, true, true, true, true, true, true, true, false, false] #[true, true, true, true, true, true, true, false, true, false] rfl rfl rfl rfl (two_of HT_.out (by kernel_rfl)) (by decide) (by decide) (fun K hK => ?_) (fun K hK => ?_)
       ·skip; refine goes_ Tryd.func104 (by kernel_rfl) rfl #[.agg #[.int .i64 a0_0, .slice A0_1 l0_1.length c0_1], .slice Ao35 t440007.length co35, .string a1, .string (⟨#[]⟩ : ByteArray), .agg #[.string (⟨#[]⟩ : ByteArray), .string (⟨#[]⟩ : ByteArray)], .string a2, .string a3, .int .i64 0] (by rfl) rfl rfl zq_1 ?_
        with_reducible refine (spec_l4Go.calls a0_0 _ _ l0_1 _ _ t440007 a1 (⟨#[]⟩ : ByteArray) (⟨#[]⟩ : ByteArray) (⟨#[]⟩ : ByteArray) a2 a3 0 t440010 t440013 t440014 _ ?side1 ?side2 ?side3 ?side4 A19.out).mono ?_
        (case side1 => exact zq_3); (case side2 => exact HC0_1.out); (case side3 => exact zq_30); (case side4 => exact (Kd.R_reads' HO440009.out).2.1); rintro e w36 ⟨v440011, rfl, ho0, hb⟩; refine ⟨_, rfl, ?_⟩; have n0_ := Aside0.mk (Kd.R_elder' zq_10 (Kd.R_base ho0) hb); have n1_ := Aside0.mk (Kd.R_below zq_16 hb); have n2_ := Aside0.mk (Kd.R_lower (Kd.R_new' ho0 (Kd.R_lt zq_10)) (below_size zq_2)); have n3_ := Aside0.mk (blk_below (g := gb440001) (o := .cells #[.int .i64 a0_0, .slice A0_1 l0_1.length c0_1] 34 (0, 0)) zq_4 hb); have n4_ := Aside0.mk (below_step zq_2 hb); clear HO_10; clear HO440009; clear BK440001; clear HB; have HO_10 := n0_; have HO440009 := n1_; have HO440012 := n2_; have BK440001 := n3_; have HB := n4_; clear n0_ n1_ n2_ n3_ n4_; (try clear hb); (try clear hb2); (try clear hk); (try clear hi); (try clear ho0); refine hK.out _ _ ⟨(blk_cell BK440001.out 0).trans rfl, (blk_cell BK440001.out 1).trans rfl⟩ (fun hHeld => ?_); clear hK K; refine norm_ (a' := ?_) ?_ ?_; rotate_left
        ·show Act.put _ (some 31) _ = _; simp only [Act.put, List.setIfInBounds_toArray, List.set_cons_zero, List.set_cons_succ, i64_w, i32_w]; rfl
        refine one_ (i := 8) (N := some 11) #[true, true, true, true, true, true, true, true, true, false] rfl rfl (one_of HT_.out (by kernel_rfl)) (by decide) (fun K hK => ?_); refine box_step ?hg (N := 11) ?hd (cs := #[.slice none 0 0, .int .i64 0, .int .i64 0]) (t := 158) ?hr ?_; (case hd => rfl); (case hg => rfl); (case hr => exact zq_14); intro gb440015 hg w37 hbox hb; have n0_ := Aside0.mk (Kd.R_below zq_10 hb); have n1_ := Aside0.mk (Kd.R_below zq_16 hb); have n2_ := Aside0.mk (Kd.R_below (by (with_reducible repeat (first | apply Kd.R_alloc | apply Kd.R_drewN | apply Kd.R_drew)); exact HO440012.out) hb); have n3_ := Aside0.mk (blk_below (g := gb440001) (o := .cells #[.int .i64 a0_0, .slice A0_1 l0_1.length c0_1] 34 (0, 0)) zq_4 hb); have n4_ := Aside0.mk (below_step zq_2 hb); have n5_ := Aside0.mk (hbox); have n6_ := Aside0.mk ((by rw [hg]; exact (below_size zq_2) : w.heap.size ≤ gb440015)); have n7_ := Aside0.mk ((by rw [hg]; exact (below_size zq_2) : w.heap.size ≤ gb440015)); have n8_ := Aside0.mk ((by rw [hg]; exact Nat.ne_of_lt (blk_lt (g := gb440001) (o := .cells #[.int .i64 a0_0, .slice A0_1 l0_1.length c0_1] 34 (0, 0)) zq_4) : gb440001 ≠ gb440015)); have n9_ := Aside0.mk ((by rw [hg]; exact Nat.ne_of_gt (blk_lt (g := gb440001) (o := .cells #[.int .i64 a0_0, .slice A0_1 l0_1.length c0_1] 34 (0, 0)) zq_4) : gb440015 ≠ gb440001)); clear HO_10; clear HO440009
        clear HO440012; clear BK440001; clear HB; have HO_10 := n0_; have HO440009 := n1_; have HO440012 := n2_; have BK440001 := n3_; have HB := n4_; have BK440015 := n5_; have GW440015 := n6_; have GE440015 := n7_; have NB440001_440015 := n8_; have NB440015_440001 := n9_; clear n0_ n1_ n2_ n3_ n4_ n5_ n6_ n7_ n8_ n9_; clear hb hbox hg; refine hK.out _ _ ⟨(blk_cell BK440001.out 0).trans rfl, (blk_cell BK440001.out 1).trans rfl⟩ (fun hHeld => ?_); clear hK K; refine norm_ (a' := ?_) ?_ ?_; rotate_left
        ·show Act.put _ (some 11) _ = _; simp only [Act.put, List.setIfInBounds_toArray, List.set_cons_zero, List.set_cons_succ, i64_w, i32_w]; rfl
        exact norm_ zq_31 (hCont (.slice Ao35 t440007.length co35, v440011, gb440015) _ ⟨hHeld, zq_16, zq_33, zq_35, zq_4, zq_20, GW440015.out, GE440015.out, NB440001_440015.out, NB440015_440001.out, zq_6⟩)
       ·skip; refine box_step ?hg (N := 11) ?hd (cs := #[.slice none 0 0, .int .i64 0, .int .i64 0]) (t := 158) ?hr ?_; (case hd => rfl); (case hg => rfl); (case hr => exact zq_14); intro gb440015 hg w35 hbox hb; have n0_ := Aside0.mk (Kd.R_below zq_10 hb); have n1_ := Aside0.mk (Kd.R_below zq_16 hb); have n2_ := Aside0.mk (blk_below (g := gb440001) (o := .cells #[.int .i64 a0_0, .slice A0_1 l0_1.length c0_1] 34 (0, 0)) zq_4 hb); have n3_ := Aside0.mk (below_step zq_2 hb); have n4_ := Aside0.mk (hbox); have n5_ := Aside0.mk ((by rw [hg]; exact (below_size zq_2) : w.heap.size ≤ gb440015)); have n6_ := Aside0.mk ((by rw [hg]; exact (below_size zq_2) : w.heap.size ≤ gb440015)); have n7_ := Aside0.mk ((by rw [hg]; exact Nat.ne_of_lt (blk_lt (g := gb440001) (o := .cells #[.int .i64 a0_0, .slice A0_1 l0_1.length c0_1] 34 (0, 0)) zq_4) : gb440001 ≠ gb440015)); have n8_ := Aside0.mk ((by rw [hg]; exact Nat.ne_of_gt (blk_lt (g := gb440001) (o := .cells #[.int .i64 a0_0, .slice A0_1 l0_1.length c0_1] 34 (0, 0)) zq_4) : gb440015 ≠ gb440001)); clear HO_10; clear HO440009; clear BK440001; clear HB; have HO_10 := n0_; have HO440009 := n1_; have BK440001 := n2_; have HB := n3_; have BK440015 := n4_; have GW440015 := n5_; have GE440015 := n6_; have NB440001_440015 := n7_; have NB440015_440001 := n8_; clear n0_ n1_ n2_ n3_ n4_ n5_ n6_ n7_ n8_; clear hb hbox hg
        obtain ⟨Ao36, co36, eo36⟩ := Kd.R_slice HO440009.out; (first | subst eo36 | (injection eo36 with f1_ f2_ f3_; have f4_ := f1_.symm; have f5_ := f3_.symm; clear f1_ f2_ f3_; subst f4_; subst f5_)); refine hK.out _ _ ⟨(blk_cell BK440001.out 0).trans rfl, (blk_cell BK440001.out 1).trans rfl⟩ (fun hHeld => ?_); clear hK K; refine norm_ (a' := ?_) ?_ ?_; rotate_left
        ·show Act.put _ (some 11) _ = _; simp only [Act.put, List.setIfInBounds_toArray, List.set_cons_zero, List.set_cons_succ, i64_w, i32_w]; rfl
        refine one_ (i := 7) (N := some 31) #[true, true, true, true, true, true, true, true, true, false] rfl rfl (one_of HT_.out (by kernel_rfl)) (by decide) (fun K hK => ?_); refine goes_ Tryd.func104 (by kernel_rfl) rfl #[.agg #[.int .i64 a0_0, .slice A0_1 l0_1.length c0_1], .slice Ao36 t440007.length co36, .string a1, .string (⟨#[]⟩ : ByteArray), .agg #[.string (⟨#[]⟩ : ByteArray), .string (⟨#[]⟩ : ByteArray)], .string a2, .string a3, .int .i64 0] (by rfl) rfl rfl zq_1 ?_
        with_reducible refine (spec_l4Go.calls a0_0 _ _ l0_1 _ _ t440007 a1 (⟨#[]⟩ : ByteArray) (⟨#[]⟩ : ByteArray) (⟨#[]⟩ : ByteArray) a2 a3 0 t440010 t440013 t440014 _ ?side1 ?side2 ?side3 ?side4 A19.out).mono ?_
        (case side1 => exact zq_3); (case side2 => exact HC0_1.out); (case side3 => exact zq_30); (case side4 => exact (Kd.R_reads' HO440009.out).2.1); rintro e w37 ⟨v440011, rfl, ho0, hb⟩; refine ⟨_, rfl, ?_⟩; have n0_ := Aside0.mk (Kd.R_elder' zq_10 (Kd.R_base ho0) hb); have n1_ := Aside0.mk (Kd.R_below zq_16 hb); have n2_ := Aside0.mk (Kd.R_lower (Kd.R_new' ho0 (Kd.R_lt zq_10)) (below_size zq_6)); have n3_ := Aside0.mk (blk_below (g := gb440001) (o := .cells #[.int .i64 a0_0, .slice A0_1 l0_1.length c0_1] 34 (0, 0)) zq_4 hb); have n4_ := Aside0.mk (blk_below (g := gb440015) (o := .cells #[.slice none 0 0, .int .i64 0, .int .i64 0] 158 (0, 0)) zq_20 hb); have n5_ := Aside0.mk (below_step zq_6 hb); clear HO_10; clear HO440009; clear BK440001; clear BK440015; clear HB; have HO_10 := n0_; have HO440009 := n1_; have HO440012 := n2_; have BK440001 := n3_; have BK440015 := n4_; have HB := n5_; clear n0_ n1_ n2_ n3_ n4_ n5_; (try clear hb); (try clear hb2); (try clear hk); (try clear hi); (try clear ho0); refine hK.out _ _ ⟨(blk_cell BK440001.out 0).trans rfl, (blk_cell BK440001.out 1).trans rfl⟩ (fun hHeld => ?_); clear hK K; refine norm_ (a' := ?_) ?_ ?_; rotate_left
        ·show Act.put _ (some 31) _ = _; simp only [Act.put, List.setIfInBounds_toArray, List.set_cons_zero, List.set_cons_succ, i64_w, i32_w]; rfl
        exact norm_ zq_31 (hCont (.slice Ao36 t440007.length co36, v440011, gb440015) _ ⟨hHeld, zq_16, zq_33, zq_35, zq_4, zq_20, GW440015.out, GE440015.out, NB440001_440015.out, NB440015_440001.out, zq_6⟩)
      ·skip; refine box_step ?hg (N := 11) ?hd (cs := #[.slice none 0 0, .int .i64 0, .int .i64 0]) (t := 158) ?hr ?_; (case hd => rfl); (case hg => rfl); (case hr => exact zq_14); intro gb440015 hg w34 hbox hb; have n0_ := Aside0.mk (Kd.R_below zq_10 hb); have n1_ := Aside0.mk (blk_below (g := gb440001) (o := .cells #[.int .i64 a0_0, .slice A0_1 l0_1.length c0_1] 34 (0, 0)) zq_4 hb); have n2_ := Aside0.mk (below_step zq_2 hb); have n3_ := Aside0.mk (hbox); have n4_ := Aside0.mk ((by rw [hg]; exact (below_size zq_2) : w.heap.size ≤ gb440015)); have n5_ := Aside0.mk ((by rw [hg]; exact (below_size zq_2) : w.heap.size ≤ gb440015)); have n6_ := Aside0.mk ((by rw [hg]; exact Nat.ne_of_lt (blk_lt (g := gb440001) (o := .cells #[.int .i64 a0_0, .slice A0_1 l0_1.length c0_1] 34 (0, 0)) zq_4) : gb440001 ≠ gb440015)); have n7_ := Aside0.mk ((by rw [hg]; exact Nat.ne_of_gt (blk_lt (g := gb440001) (o := .cells #[.int .i64 a0_0, .slice A0_1 l0_1.length c0_1] 34 (0, 0)) zq_4) : gb440015 ≠ gb440001)); clear HO_10; clear BK440001; clear HB; have HO_10 := n0_; have BK440001 := n1_; have HB := n2_; have BK440015 := n3_; have GW440015 := n4_; have GE440015 := n5_; have NB440001_440015 := n6_; have NB440015_440001 := n7_; clear n0_ n1_ n2_ n3_ n4_ n5_ n6_ n7_; clear hb hbox hg; refine hK.out _ _ ⟨(blk_cell BK440001.out 0).trans rfl, (blk_cell BK440001.out 1).trans rfl⟩ (fun hHeld => ?_); clear hK K; refine norm_ (a' := ?_) ?_ ?_; rotate_left
       ·show Act.put _ (some 11) _ = _; simp only [Act.put, List.setIfInBounds_toArray, List.set_cons_zero, List.set_cons_succ, i64_w, i32_w]; rfl
       refine one_ (i := 2) (N := some 26) #[true, true, true, true, true, true, true, false, true, false] rfl rfl (one_of HT_.out (by kernel_rfl)) (by decide) (fun K hK => ?_); refine goes_ Tryd.func46 (by kernel_rfl) rfl #[.agg #[.int .i64 a0_0, .slice A0_1 l0_1.length c0_1]] (by rfl) rfl rfl zq_1 ?_
       with_reducible refine (spec_l3Hashes.calls kj4 a0_0 _ _ l0_1 t440007 _ ?side1 ?side2 A18.out).mono ?_
       (case side1 => exact zq_3); (case side2 => exact HC0_1.out); rintro e w35 ⟨v440008, rfl, ho0, hb⟩; refine ⟨_, rfl, ?_⟩; have n0_ := Aside0.mk (Kd.R_below zq_10 hb); have n1_ := Aside0.mk (Kd.R_lower ho0 (below_size zq_6)); have n2_ := Aside0.mk (blk_below (g := gb440001) (o := .cells #[.int .i64 a0_0, .slice A0_1 l0_1.length c0_1] 34 (0, 0)) zq_4 hb); have n3_ := Aside0.mk (blk_below (g := gb440015) (o := .cells #[.slice none 0 0, .int .i64 0, .int .i64 0] 158 (0, 0)) zq_20 hb); have n4_ := Aside0.mk (below_step zq_6 hb); clear HO_10; clear BK440001; clear BK440015; clear HB; have HO_10 := n0_; have HO440009 := n1_; have BK440001 := n2_; have BK440015 := n3_; have HB := n4_; clear n0_ n1_ n2_ n3_ n4_; (try clear hb); (try clear hb2); (try clear hk); (try clear hi); (try clear ho0); obtain ⟨Ao36, co36, eo36⟩ := Kd.R_slice HO440009.out; (first | subst eo36 | (injection eo36 with f1_ f2_ f3_; have f4_ := f1_.symm; have f5_ := f3_.symm; clear f1_ f2_ f3_; subst f4_; subst f5_)); refine hK.out _ _ ⟨(blk_cell BK440001.out 0).trans rfl, (blk_cell BK440001.out 1).trans rfl⟩ (fun hHeld => ?_); clear hK K; refine norm_ (a' := ?_) ?_ ?_; rotate_left
       ·show Act.put _ (some 26) _ = _; simp only [Act.put, List.setIfInBounds_toArray, List.set_cons_zero, List.set_cons_succ, i64_w, i32_w]; rfl
       refine one_ (i := 7) (N := some 31) #[true, true, true, true, true, true, true, true, true, false] rfl rfl (one_of HT_.out (by kernel_rfl)) (by decide) (fun K hK => ?_); refine goes_ Tryd.func104 (by kernel_rfl) rfl #[.agg #[.int .i64 a0_0, .slice A0_1 l0_1.length c0_1], .slice Ao36 t440007.length co36, .string a1, .string (⟨#[]⟩ : ByteArray), .agg #[.string (⟨#[]⟩ : ByteArray), .string (⟨#[]⟩ : ByteArray)], .string a2, .string a3, .int .i64 0] (by rfl) rfl rfl zq_1 ?_
       with_reducible refine (spec_l4Go.calls a0_0 _ _ l0_1 _ _ t440007 a1 (⟨#[]⟩ : ByteArray) (⟨#[]⟩ : ByteArray) (⟨#[]⟩ : ByteArray) a2 a3 0 t440010 t440013 t440014 _ ?side1 ?side2 ?side3 ?side4 A19.out).mono ?_
       (case side1 => exact zq_3); (case side2 => exact HC0_1.out); (case side3 => exact zq_30); (case side4 => exact (Kd.R_reads' HO440009.out).2.1); rintro e w37 ⟨v440011, rfl, ho0, hb⟩; refine ⟨_, rfl, ?_⟩; have n0_ := Aside0.mk (Kd.R_elder' zq_10 (Kd.R_base ho0) hb); have n1_ := Aside0.mk (Kd.R_below zq_16 hb); have n2_ := Aside0.mk (Kd.R_lower (Kd.R_new' ho0 (Kd.R_lt zq_10)) (below_size zq_6)); have n3_ := Aside0.mk (blk_below (g := gb440001) (o := .cells #[.int .i64 a0_0, .slice A0_1 l0_1.length c0_1] 34 (0, 0)) zq_4 hb); have n4_ := Aside0.mk (blk_below (g := gb440015) (o := .cells #[.slice none 0 0, .int .i64 0, .int .i64 0] 158 (0, 0)) zq_20 hb); have n5_ := Aside0.mk (below_step zq_6 hb); clear HO_10; clear HO440009; clear BK440001; clear BK440015; clear HB; have HO_10 := n0_; have HO440009 := n1_; have HO440012 := n2_; have BK440001 := n3_; have BK440015 := n4_; have HB := n5_; clear n0_ n1_ n2_ n3_ n4_ n5_; (try clear hb); (try clear hb2); (try clear hk); (try clear hi); (try clear ho0); refine hK.out _ _ ⟨(blk_cell BK440001.out 0).trans rfl, (blk_cell BK440001.out 1).trans rfl⟩ (fun hHeld => ?_); clear hK K; refine norm_ (a' := ?_) ?_ ?_; rotate_left
       ·show Act.put _ (some 31) _ = _; simp only [Act.put, List.setIfInBounds_toArray, List.set_cons_zero, List.set_cons_succ, i64_w, i32_w]; rfl
       exact norm_ zq_31 (hCont (.slice Ao36 t440007.length co36, v440011, gb440015) _ ⟨hHeld, zq_16, zq_33, zq_35, zq_4, zq_20, GW440015.out, GE440015.out, NB440001_440015.out, NB440015_440001.out, zq_6⟩)
     rintro ⟨v440008, v440011, gb440015⟩ w38 ⟨hS_, h0_, h1_, h2_, h3_, h4_, h5_, h6_, h7_, h8_, h9_⟩; have n0_ : Aside0 (Kd.R Kd.string 9 w38 w.heap.size (fun _ => True) v440008 t440007) := ⟨h0_⟩
     have n1_ : Aside0 (Kd.R k78 78 w38 w.heap.size (fun k_ => some k_ ≠ (v440003 : Value).ownBlock) v440011 t440010) := ⟨h1_⟩
     have n2_ : Aside0 (Kd.R k78 78 w38 w.heap.size (fun k_ => some k_ ≠ (v440011 : Value).ownBlock) v440003 y440002) := ⟨h2_⟩
     have n3_ : Aside0 (w38.heap[gb440001]? = some (.cells #[.int .i64 a0_0, .slice A0_1 l0_1.length c0_1] 34 (0, 0))) := ⟨h3_⟩
     have n4_ : Aside0 (w38.heap[gb440015]? = some (.cells #[.slice none 0 0, .int .i64 0, .int .i64 0] 158 (0, 0))) := ⟨h4_⟩
     have n5_ : Aside0 (w.heap.size ≤ gb440015) := ⟨h5_⟩
     have n6_ : Aside0 (w.heap.size ≤ gb440015) := ⟨h6_⟩
     have n7_ : Aside0 (gb440001 ≠ gb440015) := ⟨h7_⟩
     have n8_ : Aside0 (gb440015 ≠ gb440001) := ⟨h8_⟩
     have n9_ : Aside0 (Below w.heap.size w w38) := ⟨h9_⟩
     clear HO_10; clear BK440001; clear HB; clear h0_ h1_ h2_ h3_ h4_ h5_ h6_ h7_ h8_ h9_; have HO440009 := n0_; have HO440012 := n1_; have HO_10 := n2_; have BK440001 := n3_; have BK440015 := n4_; have GW440015 := n5_; have GE440015 := n6_; have NB440001_440015 := n7_; have NB440015_440001 := n8_; have HB := n9_; clear n0_ n1_ n2_ n3_ n4_ n5_ n6_ n7_ n8_ n9_; have hHeld : w38.cell? ⟨gb440001, 0, none⟩ = some (.int .i64 a0_0) ∧ w38.cell? ⟨gb440001, 1, none⟩ = some (.slice A0_1 l0_1.length c0_1) := hS_; obtain ⟨Ao39, co39, eo39⟩ := Kd.R_slice HO440012.out; (first | subst eo39 | (injection eo39 with f1_ f2_ f3_; have f4_ := f1_.symm; have f5_ := f3_.symm; clear f1_ f2_ f3_; subst f4_; subst f5_)); refine norm_ (a' := ?_) ?_ ?_; rotate_left
     ·simp only [putAll, Act.put, List.setIfInBounds_toArray, List.set_cons_zero, List.set_cons_succ]; rfl
     refine one_ (i := 9) (N := none) #[true, true, true, true, true, true, true, true, true, true] rfl rfl (one_of HT_.out (by kernel_rfl)) (by decide) (fun K hK => ?_); have hs40 : w38.cell? ⟨gb440015, 0, none⟩ = some (.slice none 0 0) := (blk_cell BK440015.out 0).trans rfl; have hfs40 := blk_frozen BK440015.out 0; have hns40_0 := NB440001_440015.out; have hms40_0 := NB440015_440001.out; have hs41 : w38.cell? ⟨gb440015, 1, none⟩ = some (.int .i64 0) := (blk_cell BK440015.out 1).trans rfl; have hfs41 := blk_frozen BK440015.out 1; have hns41_0 := NB440001_440015.out; have hms41_0 := NB440015_440001.out; have hs42 : w38.cell? ⟨gb440015, 2, none⟩ = some (.int .i64 0) := (blk_cell BK440015.out 2).trans rfl; have hfs42 := blk_frozen BK440015.out 2; have hns42_0 := NB440001_440015.out; have hms42_0 := NB440015_440001.out; refine skip_ (w1 := ?_) (by rfl) rfl ?_ ?_; rotate_left
     ·go_simp; rfl
     refine hK.out _ _ ⟨((cell_far (p := ⟨gb440015, _, none⟩) NB440001_440015.out _).trans (((cell_far (p := ⟨gb440015, _, none⟩) NB440001_440015.out _).trans (((cell_far (p := ⟨gb440015, _, none⟩) NB440001_440015.out _).trans (hHeld.1)))))), ((cell_far (p := ⟨gb440015, _, none⟩) NB440001_440015.out _).trans (((cell_far (p := ⟨gb440015, _, none⟩) NB440001_440015.out _).trans (((cell_far (p := ⟨gb440015, _, none⟩) NB440001_440015.out _).trans (hHeld.2))))))⟩ (fun hHeld => ?_); clear hK K; refine done_ (done_of HT_.out (by kernel_rfl)) ?_; have hnb43 := NB440015_440001.out; have hnc43 := NB440001_440015.out; have hcz44_0 : w38.cell? ⟨gb440015, 0, none⟩ = some (.slice none 0 0) := (blk_cell BK440015.out 0).trans rfl; have hcz44_1 : w38.cell? ⟨gb440015, 1, none⟩ = some (.int .i64 0) := (blk_cell BK440015.out 1).trans rfl; have hcz44_2 : w38.cell? ⟨gb440015, 2, none⟩ = some (.int .i64 0) := (blk_cell BK440015.out 2).trans rfl; have hfz44_0 := blk_frozen BK440015.out 0; have hfz44_1 := blk_frozen BK440015.out 1; have hfz44_2 := blk_frozen BK440015.out 2
     try go_wp2
     have n0_ : Aside0 (Kd.R k78 78 (((w38.setCell ⟨gb440015, 0, none⟩ (.slice Ao39 t440010.length co39)).setCell ⟨gb440015, 1, none⟩ (.int .i64 t440013)).setCell ⟨gb440015, 2, none⟩ (.int .i64 t440014)) w.heap.size (fun k_ => some k_ ≠ (.slice Ao39 t440010.length co39 : Value).ownBlock) v440003 y440002) := ⟨by (with_reducible repeat (first | apply Kd.R_alloc | apply Kd.R_drewN | apply Kd.R_drew)); exact Kd.R_mono (Kd.R_far (p := ⟨gb440015, 2, none⟩) (Kd.R_far (p := ⟨gb440015, 1, none⟩) (Kd.R_far (p := ⟨gb440015, 0, none⟩) (Kd.R_types HO_10.out BK440015.out (by decide)) (fun _ hk => hk.2) (.slice Ao39 t440010.length co39)) (fun _ hk => hk.2) (.int .i64 t440013)) (fun _ hk => hk.2) (.int .i64 t440014)) (fun _ hk => hk.1)⟩
     have n1_ : Aside0 (Kd.R Kd.string 9 (((w38.setCell ⟨gb440015, 0, none⟩ (.slice Ao39 t440010.length co39)).setCell ⟨gb440015, 1, none⟩ (.int .i64 t440013)).setCell ⟨gb440015, 2, none⟩ (.int .i64 t440014)) w.heap.size (fun _ => True) v440008 t440007) := ⟨by (with_reducible repeat (first | apply Kd.R_alloc | apply Kd.R_drewN | apply Kd.R_drew)); exact Kd.R_mono (Kd.R_far (p := ⟨gb440015, 2, none⟩) (Kd.R_far (p := ⟨gb440015, 1, none⟩) (Kd.R_far (p := ⟨gb440015, 0, none⟩) (Kd.R_types HO440009.out BK440015.out (by decide)) (fun _ hk => hk.2) (.slice Ao39 t440010.length co39)) (fun _ hk => hk.2) (.int .i64 t440013)) (fun _ hk => hk.2) (.int .i64 t440014)) (fun _ hk => trivial)⟩
     have n2_ : Aside0 (Kd.R k78 78 (((w38.setCell ⟨gb440015, 0, none⟩ (.slice Ao39 t440010.length co39)).setCell ⟨gb440015, 1, none⟩ (.int .i64 t440013)).setCell ⟨gb440015, 2, none⟩ (.int .i64 t440014)) w.heap.size (fun k_ => some k_ ≠ (v440003 : Value).ownBlock) (.slice Ao39 t440010.length co39) t440010) := ⟨by (with_reducible repeat (first | apply Kd.R_alloc | apply Kd.R_drewN | apply Kd.R_drew)); exact Kd.R_mono (Kd.R_far (p := ⟨gb440015, 2, none⟩) (Kd.R_far (p := ⟨gb440015, 1, none⟩) (Kd.R_far (p := ⟨gb440015, 0, none⟩) (Kd.R_types HO440012.out BK440015.out (by decide)) (fun _ hk => hk.2) (.slice Ao39 t440010.length co39)) (fun _ hk => hk.2) (.int .i64 t440013)) (fun _ hk => hk.2) (.int .i64 t440014)) (fun _ hk => hk.1)⟩
     have n3_ : Aside0 ((((w38.setCell ⟨gb440015, 0, none⟩ (.slice Ao39 t440010.length co39)).setCell ⟨gb440015, 1, none⟩ (.int .i64 t440013)).setCell ⟨gb440015, 2, none⟩ (.int .i64 t440014)).heap[gb440001]? = some (.cells #[.int .i64 a0_0, .slice A0_1 l0_1.length c0_1] 34 (0, 0))) := ⟨by (with_reducible repeat (first | refine blk_drewN ?_ _ | refine blk_drew ?_ | refine blk_alloc ?_ _)); refine blk_far ?_ NB440001_440015.out _; (with_reducible repeat (first | refine blk_drewN ?_ _ | refine blk_drew ?_ | refine blk_alloc ?_ _)); refine blk_far ?_ NB440001_440015.out _; (with_reducible repeat (first | refine blk_drewN ?_ _ | refine blk_drew ?_ | refine blk_alloc ?_ _)); refine blk_far ?_ NB440001_440015.out _; (with_reducible repeat (first | refine blk_drewN ?_ _ | refine blk_drew ?_ | refine blk_alloc ?_ _)); exact BK440001.out⟩
     have n4_ : Aside0 ((((w38.setCell ⟨gb440015, 0, none⟩ (.slice Ao39 t440010.length co39)).setCell ⟨gb440015, 1, none⟩ (.int .i64 t440013)).setCell ⟨gb440015, 2, none⟩ (.int .i64 t440014)).heap[gb440015]? = some (.cells #[.slice Ao39 t440010.length co39, .int .i64 t440013, .int .i64 t440014] 158 (0, 0))) := ⟨by (with_reducible repeat (first | refine blk_drewN ?_ _ | refine blk_drew ?_ | refine blk_alloc ?_ _)); refine blk_put (cs := #[.slice Ao39 t440010.length co39, .int .i64 t440013, .int .i64 0]) ?_ 2 _ rfl; (with_reducible repeat (first | refine blk_drewN ?_ _ | refine blk_drew ?_ | refine blk_alloc ?_ _)); refine blk_put (cs := #[.slice Ao39 t440010.length co39, .int .i64 0, .int .i64 0]) ?_ 1 _ rfl; (with_reducible repeat (first | refine blk_drewN ?_ _ | refine blk_drew ?_ | refine blk_alloc ?_ _)); refine blk_put (cs := #[.slice none 0 0, .int .i64 0, .int .i64 0]) ?_ 0 _ rfl; (with_reducible repeat (first | refine blk_drewN ?_ _ | refine blk_drew ?_ | refine blk_alloc ?_ _)); exact BK440015.out⟩
     have n5_ : Aside0 (Below w.heap.size w (((w38.setCell ⟨gb440015, 0, none⟩ (.slice Ao39 t440010.length co39)).setCell ⟨gb440015, 1, none⟩ (.int .i64 t440013)).setCell ⟨gb440015, 2, none⟩ (.int .i64 t440014))) := ⟨by repeat (first | (with_reducible first | exact HB.out | apply below_alloc | apply pw_below_drewN | apply below_drew1 | refine below_set ?_ GE440001.out | refine below_set ?_ GE440015.out) | exact HB.out)⟩
     (try clear HO_10); (try clear HO440009); (try clear HO440012); (try clear BK440001); (try clear BK440015); (try clear HB); generalize (((w38.setCell ⟨gb440015, 0, none⟩ (.slice Ao39 t440010.length co39)).setCell ⟨gb440015, 1, none⟩ (.int .i64 t440013)).setCell ⟨gb440015, 2, none⟩ (.int .i64 t440014)) = w45 at n0_ n1_ n2_ n3_ n4_ n5_ ⊢; have HO_10 := n0_; have HO440009 := n1_; have HO440012 := n2_; have BK440001 := n3_; have BK440015 := n4_; have HB := n5_; clear n0_ n1_ n2_ n3_ n4_ n5_; have n0_ := Aside0.mk (Kd.R_drew HO_10.out); have n1_ := Aside0.mk (Kd.R_drew HO440009.out); have n2_ := Aside0.mk (Kd.R_drew HO440012.out); have n3_ := Aside0.mk (blk_drew BK440001.out); have n4_ := Aside0.mk (blk_drew BK440015.out); have n5_ := Aside0.mk (below_drew1 HB.out); clear HO_10; clear HO440009; clear HO440012; clear BK440001; clear BK440015; clear HB; have HO_10 := n0_; have HO440009 := n1_; have HO440012 := n2_; have BK440001 := n3_; have BK440015 := n4_; have HB := n5_; clear n0_ n1_ n2_ n3_ n4_ n5_; refine start_ (n := 5) (S := fun w' => w'.cell? ⟨gb440015, 0, none⟩ = some (.slice Ao39 t440010.length co39) ∧ w'.cell? ⟨gb440015, 1, none⟩ = some (.int .i64 t440013) ∧ w'.cell? ⟨gb440015, 2, none⟩ = some (.int .i64 t440014)) (ds := []) #[false, false, false, false, false] (by kernel_rfl) rfl rfl ⟨(blk_cell BK440015.out 0).trans rfl, (blk_cell BK440015.out 1).trans rfl, (blk_cell BK440015.out 2).trans rfl⟩ (fun hHeld => ?_); generalize w45.drew = w46 at HO_10 HO440009 HO440012 BK440001 BK440015 HB hHeld ⊢; refine pure_ (i := 0) (N := some 35) (v := ?_) (a' := ?_) #[true, false, false, false, false] rfl rfl (by kernel_rfl) (fun _ _ _ h => h) (Or.inl ⟨by rfl, ?_⟩) ?_ ?_; rotate_left
     ·intro w'; go_simp
      with_reducible rfl
     rotate_left
     ·simp only [Act.put, List.setIfInBounds_toArray, List.set_cons_zero, List.set_cons_succ, i64_w, i32_w]; rfl
     refine pure_ (i := 1) (N := some 36) (v := ?_) (a' := ?_) #[true, true, false, false, false] rfl rfl (by kernel_rfl) (fun _ _ _ h => h) (Or.inl ⟨by rfl, ?_⟩) ?_ ?_; rotate_left
     ·intro w'; go_simp
      with_reducible rfl
     rotate_left
     ·simp only [Act.put, List.setIfInBounds_toArray, List.set_cons_zero, List.set_cons_succ, i64_w, i32_w]; rfl
     refine pure_ (i := 3) (N := some 8) (v := ?_) (a' := ?_) #[true, true, false, true, false] rfl rfl (by kernel_rfl) (fun _ _ _ h => h) (Or.inl ⟨by rfl, ?_⟩) ?_ ?_; rotate_left
     ·intro w'; go_simp
      with_reducible rfl
     rotate_left
     ·simp only [Act.put, List.setIfInBounds_toArray, List.set_cons_zero, List.set_cons_succ, i64_w, i32_w]; rfl
     refine take_ (i := 2) (N := some 37) (v := ?_) (a' := ?_) #[true, true, true, true, false] rfl rfl (by kernel_rfl) (fun _ _ _ h => h) (Or.inl ⟨by rfl, ?_⟩) hHeld ?_ ?_; rotate_left
     ·rintro w' ⟨s0, s1, s2⟩; go_simp
      with_reducible rfl
     rotate_left
     ·simp only [Act.put, List.setIfInBounds_toArray, List.set_cons_zero, List.set_cons_succ, i64_w, i32_w]; rfl
     refine pure_ (i := 4) (N := some 9) (v := ?_) (a' := ?_) #[true, true, true, true, true] rfl rfl (by kernel_rfl) (fun _ _ _ h => h) (Or.inl ⟨by rfl, ?_⟩) ?_ ?_; rotate_left
     ·intro w'; go_simp
      with_reducible rfl
     rotate_left
     ·simp only [Act.put, List.setIfInBounds_toArray, List.set_cons_zero, List.set_cons_succ, i64_w, i32_w]; rfl
     refine done_ (by kernel_rfl) ?_
     try go_wp2
     go_ret2
     exact ⟨_, by first | rfl | (simp [errW_none, errW_some] <;> rfl) | (simp [*, errW_none, errW_some] <;> rfl), by (with_reducible repeat (first | apply Kd.R_alloc | apply Kd.R_drewN | apply Kd.R_drew)); exact Kd.R_mono HO_10.out (fun _ hk => trivial), by repeat (first | (with_reducible first | exact HB.out | apply below_alloc | apply pw_below_drewN | apply below_drew1 | refine below_set ?_ GE440001.out | refine below_set ?_ GE440015.out) | exact HB.out)⟩
def spec_Prove.f (k : Nat) (a0_0 : Int) (l0_1 : List ByteArray) (a1 : ByteArray) (a2 : ByteArray) (a3 : ByteArray) : Option (ByteArray × Int) := (spec_Range.f k a0_0 l0_1 a1 a2 a3).bind fun bt140002 => (if bt140002.2 = 0 then ((spec_l3Hashes.f k a0_0 l0_1).bind fun t140006 => ((spec_l5Proof.f k a0_0 l0_1 t140006 a1 (⟨#[]⟩ : ByteArray) (⟨#[]⟩ : ByteArray) a2 a3).bind fun t140009 => (some (t140009, 0)))) else (some ((⟨#[]⟩ : ByteArray), bt140002.2)))
def spec_Prove.T4 : Bool × List (List Nat × List Nat) := (true, [([], []), ([], []), ([1], [1]), ([], []), ([], []), ([], []), ([], []), ([0, 2, 3, 4, 5, 6, 2], [0, 2, 3, 4, 5, 6]), ([7, 7, 0, 1, 2, 3, 4, 5, 6, 7], [7]), ([8, 0, 1, 2, 3, 4, 5, 6, 7, 8], [])])
def spec_Prove.B4 : List Nat := [0, 0, 2, 0, 0, 0, 0, 127, 255, 511]
theorem spec_Prove.tab4 : rtab .any (opsOf Tryd.f14 4) = spec_Prove.T4 := by kernel_rfl
theorem spec_Prove.bits4 : waitsOk spec_Prove.T4.2 spec_Prove.B4 = true := by kernel_rfl
set_option maxHeartbeats 8000000 in
set_option maxRecDepth 100000 in
theorem spec_Prove.calls (k : Nat) (a0_0 : Int) (A0_1 : Option Addr) (c0_1 : Nat) (l0_1 : List ByteArray) (a1 : ByteArray) (a2 : ByteArray) (a3 : ByteArray) (r1 : ByteArray) (r2 : Int) (w : World) (hr0_1 : Kd.C Kd.string w A0_1 l0_1.length l0_1) (hc0_1 : l0_1.length ≤ c0_1) (h : spec_Prove.f k a0_0 l0_1 a1 a2 a3 = some (r1, r2)) :
  Calls Tryd.prog 14 #[.agg #[.int .i64 a0_0, .slice A0_1 l0_1.length c0_1], .string a1, .string a2, .string a3] w fun e w' => e = .returned (.tuple #[.string r1, .int .i64 r2]) ∧ Below w.heap.size w w' := by
 have hu34 := Tryd.underlying34; have hu86 := Tryd.underlying86; have HR0_1 := Aside0.mk hr0_1; have HC0_1 := Aside0.mk hc0_1; clear hr0_1 hc0_1; have HB := Aside0.mk (Below.refl w.heap.size w); have H : ((spec_Range.f k a0_0 l0_1 a1 a2 a3).bind fun bt140002 => (if bt140002.2 = 0 then ((spec_l3Hashes.f k a0_0 l0_1).bind fun t140006 => ((spec_l5Proof.f k a0_0 l0_1 t140006 a1 (⟨#[]⟩ : ByteArray) (⟨#[]⟩ : ByteArray) a2 a3).bind fun t140009 => (some (t140009, 0)))) else (some ((⟨#[]⟩ : ByteArray), bt140002.2)))) = some (r1, r2) := h; clear h; replace H := Option.bind_eq_some_iff.mp H; obtain ⟨⟨t140002, t140005⟩, A50, H⟩ := H; (try dsimp only at H); have A5 := Aside0.mk A50; clear A50
 by_cases c6 : t140005 = 0
 ·rw [if_pos c6] at H; have c6b0 : (t140005 == 0) = true := beq_iff_eq.mpr c6; have c6b1 : (t140005 != 0) = false := bne_eq_false_iff_eq.mpr c6; clear c6; replace H := Option.bind_eq_some_iff.mp H; obtain ⟨t140006, A70, H⟩ := H; (try dsimp only at H); have A7 := Aside0.mk A70; clear A70; replace H := Option.bind_eq_some_iff.mp H; obtain ⟨t140009, A80, H⟩ := H; (try dsimp only at H); have A8 := Aside0.mk A80; clear A80; simp only [Option.some.injEq, Prod.mk.injEq] at H; obtain ⟨rfl, rfl⟩ := H
  go_enter Tryd.func14, Tryd.ntmps14
  try go_wp2_with (first | ((with_reducible refine gate_dst (N := 4) rfl ?_); refine box_event ?hg (N := 4) ?hd (cs := #[.int .i64 a0_0, .slice A0_1 l0_1.length c0_1]) (t := 34) ?hr ?_; (case hd => rfl); (case hg => rfl); (case hr => exact zq_14); intro gb140001 hg w9 hbox hb; have n0_ := Aside0.mk (below_step zq_0 hb); have n1_ := Aside0.mk (hbox); have n2_ := Aside0.mk ((by rw [hg]; exact (below_size zq_0) : w.heap.size ≤ gb140001)); have n3_ := Aside0.mk ((by rw [hg]; exact (below_size zq_0) : w.heap.size ≤ gb140001)); clear HB; have HB := n0_; have BK140001 := n1_; have GW140001 := n2_; have GE140001 := n3_; clear n0_ n1_ n2_ n3_; clear hb hbox hg; have hcz10_0 : w9.cell? ⟨gb140001, 0, none⟩ = some (.int .i64 a0_0) := (blk_cell BK140001.out 0).trans rfl; have hcz10_1 : w9.cell? ⟨gb140001, 1, none⟩ = some (.slice A0_1 l0_1.length c0_1) := (blk_cell BK140001.out 1).trans rfl; have hfz10_0 := blk_frozen BK140001.out 0; have hfz10_1 := blk_frozen BK140001.out 1) | ((with_reducible refine gate_callee (f := 44) rfl ?_); refine goesL_ (some 17) rfl rfl Tryd.func44 (by kernel_rfl) rfl #[.agg #[.int .i64 a0_0, .slice A0_1 l0_1.length c0_1], .string a1, .string a2, .string a3] rfl zq_1 ?_; (with_reducible refine (spec_Range.calls k a0_0 _ _ l0_1 a1 a2 a3 t140002 t140005 _ ?side1 ?side2 A5.out).mono ?_); (case side1 => exact zq_3); (case side2 => exact HC0_1.out); rintro e w11 ⟨v140003, rfl, ho0, hb⟩; refine ⟨_, rfl, ?_⟩; have n0_ := Aside0.mk (Kd.R_lower ho0 (below_size zq_28)); have n1_ := Aside0.mk (blk_below (g := gb140001) (o := .cells #[.int .i64 a0_0, .slice A0_1 l0_1.length c0_1] 34 (0, 0)) zq_44 hb); have n2_ := Aside0.mk (below_step zq_28 hb); clear BK140001; clear HB; have HO140004 := n0_; have BK140001 := n1_; have HB := n2_; clear n0_ n1_ n2_; (try clear hb); (try clear hb2); (try clear hk); (try clear hi); (try clear ho0)))
  have n0_ := Aside0.mk (Kd.R_drew HO140004.out); have n1_ := Aside0.mk (blk_drew BK140001.out); have n2_ := Aside0.mk (below_drew1 HB.out); clear HO140004; clear BK140001; clear HB; have HO140004 := n0_; have BK140001 := n1_; have HB := n2_; clear n0_ n1_ n2_; refine start_ (n := 10) (S := fun w' => w'.cell? ⟨gb140001, 0, none⟩ = some (.int .i64 a0_0) ∧ w'.cell? ⟨gb140001, 1, none⟩ = some (.slice A0_1 l0_1.length c0_1)) (ds := []) #[false, false, false, false, false, false, false, false, false, false] (by kernel_rfl) rfl rfl ⟨(blk_cell BK140001.out 0).trans rfl, (blk_cell BK140001.out 1).trans rfl⟩ (fun hHeld => ?_); refine with_tabW spec_Prove.tab4 spec_Prove.bits4 (fun HT_ HW_ => ?_); generalize w11.drew = w12 at HO140004 BK140001 HB hHeld ⊢; refine pq_ (i := 3) (N := some 26) HT_.out ?_; refine pq_ (i := 4) (N := some 27) HT_.out ?_; refine pq_ (i := 5) (N := some 28) HT_.out ?_; refine pq_ (i := 6) (N := some 29) HT_.out ?_; refine tq_ (i := 0) (N := some 23) HT_.out HW_.out hHeld (hy := by rintro w' ⟨s0, s1⟩; go_simp; with_reducible rfl) (h := ?_); refine tq_ (i := 1) (N := some 24) HT_.out HW_.out hHeld (hy := by rintro w' ⟨s0, s1⟩; go_simp; with_reducible rfl) (h := ?_); refine one_ (i := 2) (N := some 25) #[true, true, true, true, true, true, true, false, false, false] rfl rfl (one_of HT_.out (by kernel_rfl)) (by decide) (fun K hK => ?_); refine goes_ Tryd.func46 (by kernel_rfl) rfl #[.agg #[.int .i64 a0_0, .slice A0_1 l0_1.length c0_1]] (by rfl) rfl rfl zq_1 ?_
  with_reducible refine (spec_l3Hashes.calls k a0_0 _ _ l0_1 t140006 _ ?side1 ?side2 A7.out).mono ?_
  (case side1 => exact zq_3); (case side2 => exact HC0_1.out); rintro e w13 ⟨v140007, rfl, ho0, hb⟩; refine ⟨_, rfl, ?_⟩; have n0_ := Aside0.mk (Kd.R_below (by (with_reducible repeat (first | apply Kd.R_alloc | apply Kd.R_drewN | apply Kd.R_drew)); exact HO140004.out) hb); have n1_ := Aside0.mk (Kd.R_lower ho0 (below_size zq_28)); have n2_ := Aside0.mk (blk_below (g := gb140001) (o := .cells #[.int .i64 a0_0, .slice A0_1 l0_1.length c0_1] 34 (0, 0)) zq_44 hb); have n3_ := Aside0.mk (below_step zq_28 hb); clear HO140004; clear BK140001; clear HB; have HO140004 := n0_; have HO140008 := n1_; have BK140001 := n2_; have HB := n3_; clear n0_ n1_ n2_ n3_; (try clear hb); (try clear hb2); (try clear hk); (try clear hi); (try clear ho0); obtain ⟨Ao14, co14, eo14⟩ := Kd.R_slice HO140008.out; (first | subst eo14 | (injection eo14 with f1_ f2_ f3_; have f4_ := f1_.symm; have f5_ := f3_.symm; clear f1_ f2_ f3_; subst f4_; subst f5_)); refine hK.out _ _ ⟨(blk_cell BK140001.out 0).trans rfl, (blk_cell BK140001.out 1).trans rfl⟩ (fun hHeld => ?_); clear hK K; refine norm_ (a' := ?_) ?_ ?_; rotate_left
  ·show Act.put _ (some 25) _ = _; simp only [Act.put, List.setIfInBounds_toArray, List.set_cons_zero, List.set_cons_succ, i64_w, i32_w]; rfl
  refine one_ (i := 7) (N := some 30) #[true, true, true, true, true, true, true, true, false, false] rfl rfl (one_of HT_.out (by kernel_rfl)) (by decide) (fun K hK => ?_); refine goes_ Tryd.func45 (by kernel_rfl) rfl #[.agg #[.int .i64 a0_0, .slice A0_1 l0_1.length c0_1], .slice Ao14 t140006.length co14, .string a1, .agg #[.string (⟨#[]⟩ : ByteArray), .string (⟨#[]⟩ : ByteArray)], .string a2, .string a3] (by rfl) rfl rfl zq_1 ?_
  with_reducible refine (spec_l5Proof.calls k a0_0 _ _ l0_1 _ _ t140006 a1 (⟨#[]⟩ : ByteArray) (⟨#[]⟩ : ByteArray) a2 a3 t140009 _ ?side1 ?side2 ?side3 ?side4 A8.out).mono ?_
  (case side1 => exact zq_3); (case side2 => exact HC0_1.out); (case side3 => repeat (first | exact (Kd.R_reads' HO140008.out).2.2 | (with_reducible refine Kd.C_alloc ?_ _) | (with_reducible refine Kd.C_drewN ?_ _) | (with_reducible refine Kd.C_drew ?_))); (case side4 => exact (Kd.R_reads' HO140008.out).2.1); rintro e w15 ⟨rfl, hb⟩; refine ⟨_, rfl, ?_⟩; have n0_ := Aside0.mk (Kd.R_below (by (with_reducible repeat (first | apply Kd.R_alloc | apply Kd.R_drewN | apply Kd.R_drew)); exact HO140004.out) hb); have n1_ := Aside0.mk (Kd.R_below (by (with_reducible repeat (first | apply Kd.R_alloc | apply Kd.R_drewN | apply Kd.R_drew)); exact HO140008.out) hb); have n2_ := Aside0.mk (blk_below (g := gb140001) (o := .cells #[.int .i64 a0_0, .slice A0_1 l0_1.length c0_1] 34 (0, 0)) zq_44 hb); have n3_ := Aside0.mk (below_step zq_28 hb); clear HO140004; clear HO140008; clear BK140001; clear HB; have HO140004 := n0_; have HO140008 := n1_; have BK140001 := n2_; have HB := n3_; clear n0_ n1_ n2_ n3_; (try clear hb); (try clear hb2); (try clear hk); (try clear hi); refine hK.out _ _ ⟨(blk_cell BK140001.out 0).trans rfl, (blk_cell BK140001.out 1).trans rfl⟩ (fun hHeld => ?_); clear hK K; refine norm_ (a' := ?_) ?_ ?_; rotate_left
  ·show Act.put _ (some 30) _ = _; simp only [Act.put, List.setIfInBounds_toArray, List.set_cons_zero, List.set_cons_succ, i64_w, i32_w]; rfl
  refine pq_ (i := 8) (N := some 8) HT_.out ?_; refine pq_ (i := 9) (N := some 9) HT_.out ?_; refine done_ (done_of HT_.out (by kernel_rfl)) ?_
  try go_wp2
  go_ret2
  exact ⟨by first | rfl | (simp [errW_none, errW_some] <;> rfl) | (simp [*, errW_none, errW_some] <;> rfl), by repeat (first | (with_reducible first | exact HB.out | apply below_alloc | apply pw_below_drewN | apply below_drew1 | refine below_set ?_ GE140001.out) | exact HB.out)⟩
 ·rw [if_neg c6] at H; have c6b0 : (t140005 == 0) = false := beq_eq_false_iff_ne.mpr c6; have c6b1 : (t140005 != 0) = true := bne_iff_ne.mpr c6; simp only [Option.some.injEq, Prod.mk.injEq] at H; obtain ⟨rfl, rfl⟩ := H
  go_enter Tryd.func14, Tryd.ntmps14
  go_wp2_with (first | ((with_reducible refine gate_dst (N := 4) rfl ?_); refine box_event ?hg (N := 4) ?hd (cs := #[.int .i64 a0_0, .slice A0_1 l0_1.length c0_1]) (t := 34) ?hr ?_; (case hd => rfl); (case hg => rfl); (case hr => exact zq_14); intro gb140001 hg w16 hbox hb; have n0_ := Aside0.mk (below_step zq_0 hb); have n1_ := Aside0.mk (hbox); have n2_ := Aside0.mk ((by rw [hg]; exact (below_size zq_0) : w.heap.size ≤ gb140001)); have n3_ := Aside0.mk ((by rw [hg]; exact (below_size zq_0) : w.heap.size ≤ gb140001)); clear HB; have HB := n0_; have BK140001 := n1_; have GW140001 := n2_; have GE140001 := n3_; clear n0_ n1_ n2_ n3_; clear hb hbox hg; have hcz17_0 : w16.cell? ⟨gb140001, 0, none⟩ = some (.int .i64 a0_0) := (blk_cell BK140001.out 0).trans rfl; have hcz17_1 : w16.cell? ⟨gb140001, 1, none⟩ = some (.slice A0_1 l0_1.length c0_1) := (blk_cell BK140001.out 1).trans rfl; have hfz17_0 := blk_frozen BK140001.out 0; have hfz17_1 := blk_frozen BK140001.out 1) | ((with_reducible refine gate_callee (f := 44) rfl ?_); refine goesL_ (some 17) rfl rfl Tryd.func44 (by kernel_rfl) rfl #[.agg #[.int .i64 a0_0, .slice A0_1 l0_1.length c0_1], .string a1, .string a2, .string a3] rfl zq_1 ?_; (with_reducible refine (spec_Range.calls k a0_0 _ _ l0_1 a1 a2 a3 t140002 t140005 _ ?side1 ?side2 A5.out).mono ?_); (case side1 => exact zq_3); (case side2 => exact HC0_1.out); rintro e w18 ⟨v140003, rfl, ho0, hb⟩; refine ⟨_, rfl, ?_⟩; have n0_ := Aside0.mk (Kd.R_lower ho0 (below_size zq_28)); have n1_ := Aside0.mk (blk_below (g := gb140001) (o := .cells #[.int .i64 a0_0, .slice A0_1 l0_1.length c0_1] 34 (0, 0)) zq_44 hb); have n2_ := Aside0.mk (below_step zq_28 hb); clear BK140001; clear HB; have HO140004 := n0_; have BK140001 := n1_; have HB := n2_; clear n0_ n1_ n2_; (try clear hb); (try clear hb2); (try clear hk); (try clear hi); (try clear ho0)))
  go_ret2
  exact ⟨by first | rfl | (simp [errW_none, errW_some] <;> rfl) | (simp [*, errW_none, errW_some] <;> rfl), by repeat (first | (with_reducible first | exact HB.out | apply below_alloc | apply pw_below_drewN | apply below_drew1 | refine below_set ?_ GE140001.out) | exact HB.out)⟩
def laws_FnExactProve.j0 : Nat → Bool → Int → List ByteArray → Int → List ByteArray → Option (Bool)
 | 0, _, _, _, _, _ => none
 | k + 1, x55, x40002000, x40002001, x40014000, x40014001 => if x55 = true then (some false) else ((laws_toPool.f k x40002000 x40002001).bind fun bt40016 => ((laws_eqPool.f k x40014000 x40014001 bt40016.1 bt40016.2).bind fun t40020 => (if t40020 = true then (some true) else (some false))))
def laws_FnExactProve.f (k : Nat) (a0_0 : Int) (l0_1 : List ByteArray) (a1 : ByteArray) (a2 : ByteArray) (a3 : ByteArray) : Option (Bool) := if (a1.size : Int) > 1048576 then (some true) else (if (a2.size : Int) > 1048576 then (some true) else (if (a3.size : Int) > 1048576 then (some true) else ((laws_szPool.f k a0_0 l0_1 1048576).bind fun t40002 => (if t40002 < 0 then (some true) else ((laws_toPool.f k a0_0 l0_1).bind fun bt40003 => ((spec_Prove.f k bt40003.1 bt40003.2 a1 a2 a3).bind fun bt40007 => ((laws_toPool.f k a0_0 l0_1).bind fun bt40009 => ((impl_Prove.f bt40009.1 bt40009.2 a1 a2 a3).bind fun bt40014 => (if bt40014.1.toList = bt40007.1.toList then (laws_FnExactProve.j0 k (bt40014.2 != bt40007.2) a0_0 l0_1 bt40009.1 bt40009.2) else (laws_FnExactProve.j0 k true a0_0 l0_1 bt40009.1 bt40009.2))))))))))
set_option maxHeartbeats 8000000 in
set_option maxRecDepth 100000 in
theorem laws_FnExactProve.calls (k : Nat) (a0_0 : Int) (A0_1 : Option Addr) (c0_1 : Nat) (l0_1 : List ByteArray) (a1 : ByteArray) (a2 : ByteArray) (a3 : ByteArray) (r : Bool) (w : World) (hTab : Tab w) (hr0_1 : Kd.C Kd.string w A0_1 l0_1.length l0_1) (hc0_1 : l0_1.length ≤ c0_1) (h : laws_FnExactProve.f k a0_0 l0_1 a1 a2 a3 = some r) :
  Calls Tryd.prog 4 #[.agg #[.int .i64 a0_0, .slice A0_1 l0_1.length c0_1], .string a1, .string a2, .string a3] w fun e w' => e = .returned (.bool r) ∧ Below w.heap.size w w' := by
 have hu30 := Tryd.underlying30; have hu34 := Tryd.underlying34; have HR0_1 := Aside0.mk hr0_1; have HC0_1 := Aside0.mk hc0_1; clear hr0_1 hc0_1; have HB := Aside0.mk (Below.refl w.heap.size w); have H : (if (a1.size : Int) > 1048576 then (some true) else (if (a2.size : Int) > 1048576 then (some true) else (if (a3.size : Int) > 1048576 then (some true) else ((laws_szPool.f k a0_0 l0_1 1048576).bind fun t40002 => (if t40002 < 0 then (some true) else ((laws_toPool.f k a0_0 l0_1).bind fun bt40003 => ((spec_Prove.f k bt40003.1 bt40003.2 a1 a2 a3).bind fun bt40007 => ((laws_toPool.f k a0_0 l0_1).bind fun bt40009 => ((impl_Prove.f bt40009.1 bt40009.2 a1 a2 a3).bind fun bt40014 => (if bt40014.1.toList = bt40007.1.toList then (laws_FnExactProve.j0 k (bt40014.2 != bt40007.2) a0_0 l0_1 bt40009.1 bt40009.2) else (laws_FnExactProve.j0 k true a0_0 l0_1 bt40009.1 bt40009.2))))))))))) = some r := h; clear h
 by_cases c5 : (a1.size : Int) > 1048576
 ·rw [if_pos c5] at H; have c5b0 : decide (1048576 < (a1.size : Int)) = true := decide_eq_true c5; have c5b1 : decide (1048576 < a1.size) = true := decide_eq_true (by omega); clear c5; obtain rfl := Option.some.inj H
  go_enter Tryd.func4, Tryd.ntmps4
  go_wp2_with (first | ((with_reducible refine gate_dst (N := 4) rfl ?_); refine box_event ?hg (N := 4) ?hd (cs := #[.int .i64 a0_0, .slice A0_1 l0_1.length c0_1]) (t := 30) ?hr ?_; (case hd => rfl); (case hg => rfl); (case hr => exact zq_14); intro gb40001 hg w6 hbox hb; have n0_ := Aside0.mk (below_step zq_0 hb); have n1_ := Aside0.mk (hbox); have n2_ := Aside0.mk ((by rw [hg]; exact (below_size zq_0) : w.heap.size ≤ gb40001)); have n3_ := Aside0.mk ((by rw [hg]; exact (below_size zq_0) : w.heap.size ≤ gb40001)); clear HB; have HB := n0_; have BK40001 := n1_; have GW40001 := n2_; have GE40001 := n3_; clear n0_ n1_ n2_ n3_; clear hb hbox hg))
  go_ret
  exact ⟨by first | rfl | (simp [errW_none, errW_some] <;> rfl) | (simp [*, errW_none, errW_some] <;> rfl), by repeat (first | (with_reducible first | exact HB.out | apply below_alloc | apply pw_below_drewN | apply below_drew1 | refine below_set ?_ GE40001.out) | exact HB.out)⟩
 ·rw [if_neg c5] at H; have c5b0 : decide (1048576 < (a1.size : Int)) = false := decide_eq_false c5; have c5b1 : decide (1048576 < a1.size) = false := decide_eq_false (by omega); clear c5
  by_cases c7 : (a2.size : Int) > 1048576
  ·rw [if_pos c7] at H; have c7b0 : decide (1048576 < (a2.size : Int)) = true := decide_eq_true c7; have c7b1 : decide (1048576 < a2.size) = true := decide_eq_true (by omega); clear c7; obtain rfl := Option.some.inj H
   go_enter Tryd.func4, Tryd.ntmps4
   go_wp2_with (first | ((with_reducible refine gate_dst (N := 4) rfl ?_); refine box_event ?hg (N := 4) ?hd (cs := #[.int .i64 a0_0, .slice A0_1 l0_1.length c0_1]) (t := 30) ?hr ?_; (case hd => rfl); (case hg => rfl); (case hr => exact zq_14); intro gb40001 hg w8 hbox hb; have n0_ := Aside0.mk (below_step zq_0 hb); have n1_ := Aside0.mk (hbox); have n2_ := Aside0.mk ((by rw [hg]; exact (below_size zq_0) : w.heap.size ≤ gb40001)); have n3_ := Aside0.mk ((by rw [hg]; exact (below_size zq_0) : w.heap.size ≤ gb40001)); clear HB; have HB := n0_; have BK40001 := n1_; have GW40001 := n2_; have GE40001 := n3_; clear n0_ n1_ n2_ n3_; clear hb hbox hg))
   go_ret
   exact ⟨by first | rfl | (simp [errW_none, errW_some] <;> rfl) | (simp [*, errW_none, errW_some] <;> rfl), by repeat (first | (with_reducible first | exact HB.out | apply below_alloc | apply pw_below_drewN | apply below_drew1 | refine below_set ?_ GE40001.out) | exact HB.out)⟩
  ·rw [if_neg c7] at H; have c7b0 : decide (1048576 < (a2.size : Int)) = false := decide_eq_false c7; have c7b1 : decide (1048576 < a2.size) = false := decide_eq_false (by omega); clear c7
   by_cases c9 : (a3.size : Int) > 1048576
   ·rw [if_pos c9] at H; have c9b0 : decide (1048576 < (a3.size : Int)) = true := decide_eq_true c9; have c9b1 : decide (1048576 < a3.size) = true := decide_eq_true (by omega); clear c9; obtain rfl := Option.some.inj H
    go_enter Tryd.func4, Tryd.ntmps4
    go_wp2_with (first | ((with_reducible refine gate_dst (N := 4) rfl ?_); refine box_event ?hg (N := 4) ?hd (cs := #[.int .i64 a0_0, .slice A0_1 l0_1.length c0_1]) (t := 30) ?hr ?_; (case hd => rfl); (case hg => rfl); (case hr => exact zq_14); intro gb40001 hg w10 hbox hb; have n0_ := Aside0.mk (below_step zq_0 hb); have n1_ := Aside0.mk (hbox); have n2_ := Aside0.mk ((by rw [hg]; exact (below_size zq_0) : w.heap.size ≤ gb40001)); have n3_ := Aside0.mk ((by rw [hg]; exact (below_size zq_0) : w.heap.size ≤ gb40001)); clear HB; have HB := n0_; have BK40001 := n1_; have GW40001 := n2_; have GE40001 := n3_; clear n0_ n1_ n2_ n3_; clear hb hbox hg))
    go_ret
    exact ⟨by first | rfl | (simp [errW_none, errW_some] <;> rfl) | (simp [*, errW_none, errW_some] <;> rfl), by repeat (first | (with_reducible first | exact HB.out | apply below_alloc | apply pw_below_drewN | apply below_drew1 | refine below_set ?_ GE40001.out) | exact HB.out)⟩
   ·rw [if_neg c9] at H; have c9b0 : decide (1048576 < (a3.size : Int)) = false := decide_eq_false c9; have c9b1 : decide (1048576 < a3.size) = false := decide_eq_false (by omega); clear c9; replace H := Option.bind_eq_some_iff.mp H; obtain ⟨t40002, A110, H⟩ := H; (try dsimp only at H); have A11 := Aside0.mk A110; clear A110
    by_cases c12 : t40002 < 0
    ·rw [if_pos c12] at H; have c12b0 : decide (t40002 < 0) = true := decide_eq_true c12; clear c12; obtain rfl := Option.some.inj H
     go_enter Tryd.func4, Tryd.ntmps4
     go_wp2_with (first | ((with_reducible refine gate_dst (N := 4) rfl ?_); refine box_event ?hg (N := 4) ?hd (cs := #[.int .i64 a0_0, .slice A0_1 l0_1.length c0_1]) (t := 30) ?hr ?_; (case hd => rfl); (case hg => rfl); (case hr => exact zq_14); intro gb40001 hg w13 hbox hb; have n0_ := Aside0.mk (below_step zq_0 hb); have n1_ := Aside0.mk (hbox); have n2_ := Aside0.mk ((by rw [hg]; exact (below_size zq_0) : w.heap.size ≤ gb40001)); have n3_ := Aside0.mk ((by rw [hg]; exact (below_size zq_0) : w.heap.size ≤ gb40001)); clear HB; have HB := n0_; have BK40001 := n1_; have GW40001 := n2_; have GE40001 := n3_; clear n0_ n1_ n2_ n3_; clear hb hbox hg; have hcz14_0 : w13.cell? ⟨gb40001, 0, none⟩ = some (.int .i64 a0_0) := (blk_cell BK40001.out 0).trans rfl; have hcz14_1 : w13.cell? ⟨gb40001, 1, none⟩ = some (.slice A0_1 l0_1.length c0_1) := (blk_cell BK40001.out 1).trans rfl; have hfz14_0 := blk_frozen BK40001.out 0; have hfz14_1 := blk_frozen BK40001.out 1) | ((with_reducible refine gate_callee (f := 13) rfl ?_); refine goesL_ (some 26) rfl rfl Tryd.func13 (by kernel_rfl) rfl #[.agg #[.int .i64 a0_0, .slice A0_1 l0_1.length c0_1], .int .i64 1048576] rfl zq_1 ?_; (with_reducible refine (laws_szPool.calls k a0_0 _ _ l0_1 1048576 t40002 _ ?side1 ?side2 A11.out).mono ?_); (case side1 => exact zq_3); (case side2 => exact HC0_1.out); rintro e w15 ⟨rfl, hb⟩; refine ⟨_, rfl, ?_⟩; have n0_ := Aside0.mk (blk_below (g := gb40001) (o := .cells #[.int .i64 a0_0, .slice A0_1 l0_1.length c0_1] 30 (0, 0)) zq_21 hb); have n1_ := Aside0.mk (below_step zq_17 hb); clear BK40001; clear HB; have BK40001 := n0_; have HB := n1_; clear n0_ n1_; (try clear hb); (try clear hb2); (try clear hk); (try clear hi)))
     go_ret
     exact ⟨by first | rfl | (simp [errW_none, errW_some] <;> rfl) | (simp [*, errW_none, errW_some] <;> rfl), by repeat (first | (with_reducible first | exact HB.out | apply below_alloc | apply pw_below_drewN | apply below_drew1 | refine below_set ?_ GE40001.out) | exact HB.out)⟩
    ·rw [if_neg c12] at H; have c12b0 : decide (t40002 < 0) = false := decide_eq_false c12; clear c12; replace H := Option.bind_eq_some_iff.mp H; obtain ⟨⟨t40003, t40004⟩, A160, H⟩ := H; (try dsimp only at H); have A16 := Aside0.mk A160; clear A160; replace H := Option.bind_eq_some_iff.mp H; obtain ⟨⟨t40007, t40008⟩, A170, H⟩ := H; (try dsimp only at H); have A17 := Aside0.mk A170; clear A170; replace H := Option.bind_eq_some_iff.mp H; obtain ⟨⟨t40009, t40010⟩, A180, H⟩ := H; (try dsimp only at H); have A18 := Aside0.mk A180; clear A180; replace H := Option.bind_eq_some_iff.mp H; obtain ⟨⟨t40014, t40015⟩, A190, H⟩ := H; (try dsimp only at H); have A19 := Aside0.mk A190; clear A190; have HC20 := Aside0.mk H; clear H
     go_enter Tryd.func4, Tryd.ntmps4
     go_upto_region 14 with (first | ((with_reducible refine gate_dst (N := 4) rfl ?_); refine box_event ?hg (N := 4) ?hd (cs := #[.int .i64 a0_0, .slice A0_1 l0_1.length c0_1]) (t := 30) ?hr ?_; (case hd => rfl); (case hg => rfl); (case hr => exact zq_14); intro gb40001 hg w21 hbox hb; have n0_ := Aside0.mk (below_step zq_0 hb); have n1_ := Aside0.mk (hbox); have n2_ := Aside0.mk ((by rw [hg]; exact (below_size zq_0) : w.heap.size ≤ gb40001)); have n3_ := Aside0.mk ((by rw [hg]; exact (below_size zq_0) : w.heap.size ≤ gb40001)); clear HB; have HB := n0_; have BK40001 := n1_; have GW40001 := n2_; have GE40001 := n3_; clear n0_ n1_ n2_ n3_; clear hb hbox hg; have hcz22_0 : w21.cell? ⟨gb40001, 0, none⟩ = some (.int .i64 a0_0) := (blk_cell BK40001.out 0).trans rfl; have hcz22_1 : w21.cell? ⟨gb40001, 1, none⟩ = some (.slice A0_1 l0_1.length c0_1) := (blk_cell BK40001.out 1).trans rfl; have hfz22_0 := blk_frozen BK40001.out 0; have hfz22_1 := blk_frozen BK40001.out 1) | ((with_reducible refine gate_callee (f := 13) rfl ?_); refine goesL_ (some 26) rfl rfl Tryd.func13 (by kernel_rfl) rfl #[.agg #[.int .i64 a0_0, .slice A0_1 l0_1.length c0_1], .int .i64 1048576] rfl zq_1 ?_; (with_reducible refine (laws_szPool.calls k a0_0 _ _ l0_1 1048576 t40002 _ ?side1 ?side2 A11.out).mono ?_); (case side1 => exact zq_3); (case side2 => exact HC0_1.out); rintro e w23 ⟨rfl, hb⟩; refine ⟨_, rfl, ?_⟩; have n0_ := Aside0.mk (blk_below (g := gb40001) (o := .cells #[.int .i64 a0_0, .slice A0_1 l0_1.length c0_1] 30 (0, 0)) zq_21 hb); have n1_ := Aside0.mk (below_step zq_17 hb); clear BK40001; clear HB; have BK40001 := n0_; have HB := n1_; clear n0_ n1_; (try clear hb); (try clear hb2); (try clear hk); (try clear hi); have hcz24_0 : w23.cell? ⟨gb40001, 0, none⟩ = some (.int .i64 a0_0) := (blk_cell BK40001.out 0).trans rfl; have hcz24_1 : w23.cell? ⟨gb40001, 1, none⟩ = some (.slice A0_1 l0_1.length c0_1) := (blk_cell BK40001.out 1).trans rfl; have hfz24_0 := blk_frozen BK40001.out 0; have hfz24_1 := blk_frozen BK40001.out 1) | ((with_reducible refine gate_callee (f := 15) rfl ?_); refine goesL_ (some 31) rfl rfl Tryd.func15 (by kernel_rfl) rfl #[.agg #[.int .i64 a0_0, .slice A0_1 l0_1.length c0_1]] rfl zq_1 ?_; (with_reducible refine (laws_toPool.calls k a0_0 _ _ l0_1 t40003 t40004 _ ?side1 ?side2 A16.out).mono ?_); (case side1 => exact zq_3); (case side2 => exact HC0_1.out); rintro e w25 ⟨v40005, rfl, ho0, hb⟩; refine ⟨_, rfl, ?_⟩; have n0_ := Aside0.mk (Kd.R_lower ho0 (below_size zq_17)); have n1_ := Aside0.mk (blk_below (g := gb40001) (o := .cells #[.int .i64 a0_0, .slice A0_1 l0_1.length c0_1] 30 (0, 0)) zq_21 hb); have n2_ := Aside0.mk (below_step zq_17 hb); clear BK40001; clear HB; have HO40006 := n0_; have BK40001 := n1_; have HB := n2_; clear n0_ n1_ n2_; (try clear hb); (try clear hb2); (try clear hk); (try clear hi); (try clear ho0); obtain ⟨Ao26, co26, eo26⟩ := Kd.R_slice HO40006.out; subst eo26) | ((with_reducible refine gate_callee (f := 14) rfl ?_); refine goesL_ (some 35) rfl rfl Tryd.func14 (by kernel_rfl) rfl #[.agg #[.int .i64 t40003, .slice Ao26 t40004.length co26], .string a1, .string a2, .string a3] rfl zq_1 ?_; (with_reducible refine (spec_Prove.calls k t40003 _ _ t40004 a1 a2 a3 t40007 t40008 _ ?side1 ?side2 A17.out).mono ?_); (case side1 => repeat (first | exact (Kd.R_reads' HO40006.out).2.2 | (with_reducible refine Kd.C_alloc ?_ _) | (with_reducible refine Kd.C_drewN ?_ _) | (with_reducible refine Kd.C_drew ?_))); (case side2 => exact (Kd.R_reads' HO40006.out).2.1); rintro e w27 ⟨rfl, hb⟩; refine ⟨_, rfl, ?_⟩; have n0_ := Aside0.mk (Kd.R_below zq_51 hb); have n1_ := Aside0.mk (blk_below (g := gb40001) (o := .cells #[.int .i64 a0_0, .slice A0_1 l0_1.length c0_1] 30 (0, 0)) zq_21 hb); have n2_ := Aside0.mk (below_step zq_17 hb); clear HO40006; clear BK40001; clear HB; have HO40006 := n0_; have BK40001 := n1_; have HB := n2_; clear n0_ n1_ n2_; (try clear hb); (try clear hb2); (try clear hk); (try clear hi); have hcz28_0 : w27.cell? ⟨gb40001, 0, none⟩ = some (.int .i64 a0_0) := (blk_cell BK40001.out 0).trans rfl; have hcz28_1 : w27.cell? ⟨gb40001, 1, none⟩ = some (.slice A0_1 l0_1.length c0_1) := (blk_cell BK40001.out 1).trans rfl; have hfz28_0 := blk_frozen BK40001.out 0; have hfz28_1 := blk_frozen BK40001.out 1) | ((with_reducible refine gate_callee (f := 15) rfl ?_); refine goesL_ (some 39) rfl rfl Tryd.func15 (by kernel_rfl) rfl #[.agg #[.int .i64 a0_0, .slice A0_1 l0_1.length c0_1]] rfl zq_1 ?_; (with_reducible refine (laws_toPool.calls k a0_0 _ _ l0_1 t40009 t40010 _ ?side1 ?side2 A18.out).mono ?_); (case side1 => exact zq_3); (case side2 => exact HC0_1.out); rintro e w29 ⟨v40011, rfl, ho0, hb⟩; refine ⟨_, rfl, ?_⟩; have n0_ := Aside0.mk (Kd.R_elder' zq_51 (Kd.R_base ho0) hb); have n1_ := Aside0.mk (Kd.R_lower (Kd.R_new' ho0 (Kd.R_lt zq_51)) (below_size zq_17)); have n2_ := Aside0.mk (blk_below (g := gb40001) (o := .cells #[.int .i64 a0_0, .slice A0_1 l0_1.length c0_1] 30 (0, 0)) zq_21 hb); have n3_ := Aside0.mk (below_step zq_17 hb); clear HO40006; clear BK40001; clear HB; have HO40006 := n0_; have HO40012 := n1_; have BK40001 := n2_; have HB := n3_; clear n0_ n1_ n2_ n3_; (try clear hb); (try clear hb2); (try clear hk); (try clear hi); (try clear ho0)) | ((with_reducible refine gate_dst (N := 12) rfl ?_); refine box_event ?hg (N := 12) ?hd (cs := #[.int .i64 0, .slice none 0 0]) (t := 34) ?hr ?_; (case hd => rfl); (case hg => rfl); (case hr => exact zq_14); intro gb40013 hg w30 hbox hb; have n0_ := Aside0.mk (Kd.R_below zq_51 hb); have n1_ := Aside0.mk (Kd.R_below (by (with_reducible repeat (first | apply Kd.R_alloc | apply Kd.R_drewN | apply Kd.R_drew)); exact HO40012.out) hb); have n2_ := Aside0.mk (blk_below (g := gb40001) (o := .cells #[.int .i64 a0_0, .slice A0_1 l0_1.length c0_1] 30 (0, 0)) zq_21 hb); have n3_ := Aside0.mk (below_step zq_17 hb); have n4_ := Aside0.mk (hbox); have n5_ := Aside0.mk ((by rw [hg]; exact (below_size zq_17) : w.heap.size ≤ gb40013)); have n6_ := Aside0.mk ((by rw [hg]; exact (below_size zq_17) : w.heap.size ≤ gb40013)); have n7_ := Aside0.mk ((by rw [hg]; exact Nat.ne_of_lt (blk_lt (g := gb40001) (o := .cells #[.int .i64 a0_0, .slice A0_1 l0_1.length c0_1] 30 (0, 0)) zq_21) : gb40001 ≠ gb40013)); have n8_ := Aside0.mk ((by rw [hg]; exact Nat.ne_of_gt (blk_lt (g := gb40001) (o := .cells #[.int .i64 a0_0, .slice A0_1 l0_1.length c0_1] 30 (0, 0)) zq_21) : gb40013 ≠ gb40001)); clear HO40006; clear HO40012; clear BK40001; clear HB; have HO40006 := n0_; have HO40012 := n1_; have BK40001 := n2_; have HB := n3_; have BK40013 := n4_; have GW40013 := n5_; have GE40013 := n6_; have NB40001_40013 := n7_; have NB40013_40001 := n8_; clear n0_ n1_ n2_ n3_ n4_ n5_ n6_ n7_ n8_; clear hb hbox hg; have hnb31 := NB40013_40001.out; have hnc31 := NB40001_40013.out; have hcz32_0 : w30.cell? ⟨gb40013, 0, none⟩ = some (.int .i64 0) := (blk_cell BK40013.out 0).trans rfl; have hcz32_1 : w30.cell? ⟨gb40013, 1, none⟩ = some (.slice none 0 0) := (blk_cell BK40013.out 1).trans rfl; have hfz32_0 := blk_frozen BK40013.out 0; have hfz32_1 := blk_frozen BK40013.out 1; obtain ⟨Ao33, co33, eo33⟩ := Kd.R_slice HO40012.out; subst eo33) | ((with_reducible refine gate_callee (f := 16) rfl ?_); refine goesL_ (some 45) rfl rfl Tryd.func16 (by kernel_rfl) rfl #[.agg #[.int .i64 t40009, .slice Ao33 t40010.length co33], .string a1, .string a2, .string a3] rfl zq_1 ?_; (with_reducible refine (impl_Prove.calls t40009 _ _ t40010 a1 a2 a3 t40014 t40015 _ ?side1 ?side2 A19.out).mono ?_); (case side1 => refine (Kd.R_reads' (e := 9) (base := w.heap.size) (ok := fun k_ => (True ∧ some k_ ≠ (.slice Ao26 t40004.length co26 : Value).ownBlock)) (n := t40010.length) (c := co33) ?_).2.2; exact zq_45); (case side2 => exact (Kd.R_reads' HO40012.out).2.1); rintro e w34 ⟨rfl, hb⟩; refine ⟨_, rfl, ?_⟩; have n0_ := Aside0.mk (Kd.R_below (by (with_reducible repeat (first | apply Kd.R_alloc | apply Kd.R_drewN | apply Kd.R_drew)); exact (Kd.R_mono (Kd.R_far (p := ⟨gb40013, 1, none⟩) (Kd.R_far (p := ⟨gb40013, 0, none⟩) (Kd.R_types HO40006.out BK40013.out (by decide)) (fun _ hk => hk.2) (.int .i64 t40009)) (fun _ hk => hk.2) (.slice Ao33 t40010.length co33)) (fun _ h_ => h_.1))) hb); have n1_ := Aside0.mk (Kd.R_below zq_45 hb); have n2_ := Aside0.mk (blk_below (g := gb40001) (o := .cells #[.int .i64 a0_0, .slice A0_1 l0_1.length c0_1] 30 (0, 0)) (by (with_reducible repeat (first | refine blk_drewN ?_ _ | refine blk_drew ?_ | refine blk_alloc ?_ _)); refine blk_far ?_ NB40001_40013.out _; (with_reducible repeat (first | refine blk_drewN ?_ _ | refine blk_drew ?_ | refine blk_alloc ?_ _)); refine blk_far ?_ NB40001_40013.out _; (with_reducible repeat (first | refine blk_drewN ?_ _ | refine blk_drew ?_ | refine blk_alloc ?_ _)); exact BK40001.out) hb); have n3_ := Aside0.mk (blk_below (g := gb40013) (o := .cells #[.int .i64 t40009, .slice Ao33 t40010.length co33] 34 (0, 0)) (by (with_reducible repeat (first | refine blk_drewN ?_ _ | refine blk_drew ?_ | refine blk_alloc ?_ _)); refine blk_put (cs := #[.int .i64 t40009, .slice none 0 0]) ?_ 1 _ rfl; (with_reducible repeat (first | refine blk_drewN ?_ _ | refine blk_drew ?_ | refine blk_alloc ?_ _)); refine blk_put (cs := #[.int .i64 0, .slice none 0 0]) ?_ 0 _ rfl; (with_reducible repeat (first | refine blk_drewN ?_ _ | refine blk_drew ?_ | refine blk_alloc ?_ _)); exact BK40013.out) hb); have n4_ := Aside0.mk (below_step zq_24 hb); clear HO40006; clear HO40012; clear BK40001; clear BK40013; clear HB; have HO40006 := n0_; have HO40012 := n1_; have BK40001 := n2_; have BK40013 := n3_; have HB := n4_; clear n0_ n1_ n2_ n3_ n4_; (try clear hb); (try clear hb2); (try clear hk); (try clear hi)))
     (try simp only [Act.put, List.setIfInBounds_toArray, List.set_cons_zero, List.set_cons_succ])
     go_cut [55] (fun v55 wc => ∃ (kq : Nat) (x55_19 : Bool), v55 = .bool x55_19 ∧ Aside0 (laws_FnExactProve.j0 kq x55_19 a0_0 l0_1 t40009 t40010 = some r) ∧ Aside0 (kq ≤ k) ∧ Aside0 (Kd.R Kd.string 9 wc w.heap.size (fun _ => True) (.slice Ao33 t40010.length co33) t40010) ∧ Aside0 (wc.heap[gb40001]? = some (.cells #[.int .i64 a0_0, (.slice A0_1 l0_1.length c0_1)] 30 (0, 0))) ∧ Aside0 (wc.heap[gb40013]? = some (.cells #[.int .i64 t40009, (.slice Ao33 t40010.length co33)] 34 (0, 0))) ∧ Aside0 (Below w.heap.size w wc))
     case first =>
      have H := HC20.out; clear HC20
      by_cases c35 : t40014.toList = t40007.toList
      ·rw [if_pos c35] at H; have c35b0 : (t40014.toList == t40007.toList) = true := beq_iff_eq.mpr c35; have c35b1 : (t40014.toList != t40007.toList) = false := bne_eq_false_iff_eq.mpr c35; clear c35; (first | rw [c35b0] | (simp only [i64_w, i32_w]; rw [c35b0]) | skip); have H' := Aside0.mk H; clear H
       go_wp2
       go_meet
       case rel => exact ⟨_, ((t40015 != t40008)), zq_13, H', ⟨by first | omega | exact Nat.le_refl _⟩, ⟨by (with_reducible repeat (first | apply Kd.R_alloc | apply Kd.R_drewN | apply Kd.R_drew)); exact Kd.R_mono HO40012.out (fun _ hk => trivial)⟩, ⟨by (with_reducible repeat (first | refine blk_drewN ?_ _ | refine blk_drew ?_ | refine blk_alloc ?_ _)); exact BK40001.out⟩, ⟨by (with_reducible repeat (first | refine blk_drewN ?_ _ | refine blk_drew ?_ | refine blk_alloc ?_ _)); exact BK40013.out⟩, ⟨by repeat (first | (with_reducible first | exact HB.out | apply below_alloc | apply pw_below_drewN | apply below_drew1 | refine below_set ?_ GE40001.out | refine below_set ?_ GE40013.out) | exact HB.out)⟩⟩
      ·rw [if_neg c35] at H; have c35b0 : (t40014.toList == t40007.toList) = false := beq_eq_false_iff_ne.mpr c35; have c35b1 : (t40014.toList != t40007.toList) = true := bne_iff_ne.mpr c35; (first | rw [c35b0] | (simp only [i64_w, i32_w]; rw [c35b0]) | skip); have H' := Aside0.mk H; clear H
       go_wp2
       go_meet
       case rel => exact ⟨_, (true), zq_13, H', ⟨by first | omega | exact Nat.le_refl _⟩, ⟨by (with_reducible repeat (first | apply Kd.R_alloc | apply Kd.R_drewN | apply Kd.R_drew)); exact Kd.R_mono HO40012.out (fun _ hk => trivial)⟩, ⟨by (with_reducible repeat (first | refine blk_drewN ?_ _ | refine blk_drew ?_ | refine blk_alloc ?_ _)); exact BK40001.out⟩, ⟨by (with_reducible repeat (first | refine blk_drewN ?_ _ | refine blk_drew ?_ | refine blk_alloc ?_ _)); exact BK40013.out⟩, ⟨by repeat (first | (with_reducible first | exact HB.out | apply below_alloc | apply pw_below_drewN | apply below_drew1 | refine below_set ?_ GE40001.out | refine below_set ?_ GE40013.out) | exact HB.out)⟩⟩
     case rest =>
      clear HC20
      try clear c1
      try clear p2
      try clear c3
      try clear c4
      try clear c5
      try clear c5b0
      try clear c5b1
      try clear c7
      try clear c7b0
      try clear c7b1
      try clear c9
      try clear c9b0
      try clear c9b1
      try clear c12
      try clear c12b0
      try clear c13
      try clear c14
      try clear c15
      try clear c16
      try clear c31
      try clear c35
      try clear c35b0
      try clear c35b1
      try clear hcz14_0
      try clear hcz14_1
      try clear hcz22_0
      try clear hcz22_1
      try clear hcz24_0
      try clear hcz24_1
      try clear hcz28_0
      try clear hcz28_1
      try clear hcz32_0
      try clear hcz32_1
      try clear hfz14_0
      try clear hfz14_1
      try clear hfz22_0
      try clear hfz22_1
      try clear hfz24_0
      try clear hfz24_1
      try clear hfz28_0
      try clear hfz28_1
      try clear hfz32_0
      try clear hfz32_1
      obtain ⟨kq, x55_19, rfl, HA, HJ19, HO_40014001, BK40001, BK40013, HB⟩ := hcut
      cases kq with
      | zero => exact absurd HA.out (by simp [laws_FnExactProve.j0])
      | succ kj19 =>
       have H := HA.out; clear HA; simp only [laws_FnExactProve.j0] at H
       by_cases c36 : x55_19 = true
       ·subst c36; have H1 : (some false) = some r := by rw [if_pos rfl] at H; exact H
        clear H; have H := H1; clear H1; obtain rfl := Option.some.inj H
        go_wp2
        go_ret
        exact ⟨by first | rfl | (simp [errW_none, errW_some] <;> rfl) | (simp [*, errW_none, errW_some] <;> rfl), by repeat (first | (with_reducible first | exact HB.out | apply below_alloc | apply pw_below_drewN | apply below_drew1 | refine below_set ?_ GE40001.out | refine below_set ?_ GE40013.out) | exact HB.out)⟩
       ·replace c36 := Bool.eq_false_iff.mpr c36; subst c36; have H1 : ((laws_toPool.f kj19 a0_0 l0_1).bind fun bt40016 => ((laws_eqPool.f kj19 t40009 t40010 bt40016.1 bt40016.2).bind fun t40020 => (if t40020 = true then (some true) else (some false)))) = some r := by rw [if_neg (show ¬ (false = true) by decide)] at H; exact H
        clear H; have H := H1; clear H1; replace H := Option.bind_eq_some_iff.mp H; obtain ⟨⟨t40016, t40017⟩, A370, H⟩ := H; (try dsimp only at H); have A37 := Aside0.mk A370; clear A370; replace H := Option.bind_eq_some_iff.mp H; obtain ⟨t40020, A380, H⟩ := H; (try dsimp only at H); have A38 := Aside0.mk A380; clear A380
        by_cases c39 : t40020 = true
        ·subst c39; have H1 : (some true) = some r := by rw [if_pos rfl] at H; exact H
         clear H; have H := H1; clear H1; obtain rfl := Option.some.inj H
         try go_wp2
         have n0_ := Aside0.mk (Kd.R_drew HO_40014001.out); have n1_ := Aside0.mk (blk_drew BK40001.out); have n2_ := Aside0.mk (blk_drew BK40013.out); have n3_ := Aside0.mk (below_drew1 HB.out); clear HO_40014001; clear BK40001; clear BK40013; clear HB; have HO_40014001 := n0_; have BK40001 := n1_; have BK40013 := n2_; have HB := n3_; clear n0_ n1_ n2_ n3_; refine start_ (n := 5) (S := fun w' => w'.cell? ⟨gb40013, 0, none⟩ = some (.int .i64 t40009) ∧ w'.cell? ⟨gb40013, 1, none⟩ = some (.slice Ao33 t40010.length co33) ∧ w'.cell? ⟨gb40001, 0, none⟩ = some (.int .i64 a0_0) ∧ w'.cell? ⟨gb40001, 1, none⟩ = some (.slice A0_1 l0_1.length c0_1)) (ds := []) #[false, false, false, false, false] (by kernel_rfl) rfl rfl ⟨(blk_cell BK40013.out 0).trans rfl, (blk_cell BK40013.out 1).trans rfl, (blk_cell BK40001.out 0).trans rfl, (blk_cell BK40001.out 1).trans rfl⟩ (fun hHeld => ?_); generalize wc.drew = w40 at HO_40014001 BK40001 BK40013 HB hHeld ⊢; refine take_ (i := 0) (N := some 56) (v := ?_) (a' := ?_) #[true, false, false, false, false] rfl rfl (by kernel_rfl) (fun _ _ _ h => h) (Or.inl ⟨by rfl, ?_⟩) hHeld ?_ ?_; rotate_left
         ·rintro w' ⟨s0, s1, s2, s3⟩; go_simp
          with_reducible rfl
         rotate_left
         ·simp only [Act.put, List.setIfInBounds_toArray, List.set_cons_zero, List.set_cons_succ, i64_w, i32_w]; rfl
         refine take_ (i := 1) (N := some 57) (v := ?_) (a' := ?_) #[true, true, false, false, false] rfl rfl (by kernel_rfl) (fun _ _ _ h => h) (Or.inl ⟨by rfl, ?_⟩) hHeld ?_ ?_; rotate_left
         ·rintro w' ⟨s0, s1, s2, s3⟩; go_simp
          with_reducible rfl
         rotate_left
         ·simp only [Act.put, List.setIfInBounds_toArray, List.set_cons_zero, List.set_cons_succ, i64_w, i32_w]; rfl
         refine one_ (i := 2) (N := some 58) #[true, true, true, false, false] rfl rfl (by kernel_rfl) (by decide) (fun K hK => ?_); refine goes_ Tryd.func15 (by kernel_rfl) rfl #[.agg #[.int .i64 a0_0, .slice A0_1 l0_1.length c0_1]] (by rfl) rfl rfl zq_1 ?_
         with_reducible refine (laws_toPool.calls kj19 a0_0 _ _ l0_1 t40016 t40017 _ ?side1 ?side2 A37.out).mono ?_
         (case side1 => exact zq_3); (case side2 => exact HC0_1.out); rintro e w41 ⟨v40018, rfl, ho0, hb⟩; refine ⟨_, rfl, ?_⟩; have n0_ := Aside0.mk (Kd.R_elder' zq_40 (Kd.R_base ho0) hb); have n1_ := Aside0.mk (Kd.R_lower (Kd.R_new' ho0 (Kd.R_lt zq_40)) (below_size zq_24)); have n2_ := Aside0.mk (blk_below (g := gb40001) (o := .cells #[.int .i64 a0_0, .slice A0_1 l0_1.length c0_1] 30 (0, 0)) zq_21 hb); have n3_ := Aside0.mk (blk_below (g := gb40013) (o := .cells #[.int .i64 t40009, .slice Ao33 t40010.length co33] 34 (0, 0)) zq_46 hb); have n4_ := Aside0.mk (below_step zq_24 hb); clear HO_40014001; clear BK40001; clear BK40013; clear HB; have HO_40014001 := n0_; have HO40019 := n1_; have BK40001 := n2_; have BK40013 := n3_; have HB := n4_; clear n0_ n1_ n2_ n3_ n4_; (try clear hb); (try clear hb2); (try clear hk); (try clear hi); (try clear ho0); obtain ⟨Ao42, co42, eo42⟩ := Kd.R_slice HO40019.out; (first | subst eo42 | (injection eo42 with f1_ f2_ f3_; have f4_ := f1_.symm; have f5_ := f3_.symm; clear f1_ f2_ f3_; subst f4_; subst f5_)); refine hK.out _ _ ⟨(blk_cell BK40013.out 0).trans rfl, (blk_cell BK40013.out 1).trans rfl, (blk_cell BK40001.out 0).trans rfl, (blk_cell BK40001.out 1).trans rfl⟩ (fun hHeld => ?_); clear hK K; refine norm_ (a' := ?_) ?_ ?_; rotate_left
         ·show Act.put _ (some 58) _ = _; simp only [Act.put, List.setIfInBounds_toArray, List.set_cons_zero, List.set_cons_succ, i64_w, i32_w]; rfl
         refine one_ (i := 3) (N := some 59) #[true, true, true, true, false] rfl rfl (by kernel_rfl) (by decide) (fun K hK => ?_); refine goes_ Tryd.func17 (by kernel_rfl) rfl #[.agg #[.int .i64 t40009, .slice Ao33 t40010.length co33], .agg #[.int .i64 t40016, .slice Ao42 t40017.length co42]] (by rfl) rfl rfl zq_1 ?_
         with_reducible refine (laws_eqPool.calls kj19 t40009 _ _ t40010 t40016 _ _ t40017 true _ ?side1 ?side2 ?side3 ?side4 A38.out).mono ?_
         (case side1 => repeat (first | exact (Kd.R_reads' HO_40014001.out).2.2 | (with_reducible refine Kd.C_alloc ?_ _) | (with_reducible refine Kd.C_drewN ?_ _) | (with_reducible refine Kd.C_drew ?_))); (case side2 => exact (Kd.R_reads' HO_40014001.out).2.1); (case side3 => repeat (first | exact (Kd.R_reads' HO40019.out).2.2 | (with_reducible refine Kd.C_alloc ?_ _) | (with_reducible refine Kd.C_drewN ?_ _) | (with_reducible refine Kd.C_drew ?_))); (case side4 => exact (Kd.R_reads' HO40019.out).2.1); rintro e w43 ⟨rfl, hb⟩; refine ⟨_, rfl, ?_⟩; have n0_ := Aside0.mk (Kd.R_below zq_40 hb); have n1_ := Aside0.mk (Kd.R_below (by (with_reducible repeat (first | apply Kd.R_alloc | apply Kd.R_drewN | apply Kd.R_drew)); exact HO40019.out) hb); have n2_ := Aside0.mk (blk_below (g := gb40001) (o := .cells #[.int .i64 a0_0, .slice A0_1 l0_1.length c0_1] 30 (0, 0)) zq_21 hb); have n3_ := Aside0.mk (blk_below (g := gb40013) (o := .cells #[.int .i64 t40009, .slice Ao33 t40010.length co33] 34 (0, 0)) zq_46 hb); have n4_ := Aside0.mk (below_step zq_24 hb); clear HO_40014001; clear HO40019; clear BK40001; clear BK40013; clear HB; have HO_40014001 := n0_; have HO40019 := n1_; have BK40001 := n2_; have BK40013 := n3_; have HB := n4_; clear n0_ n1_ n2_ n3_ n4_; (try clear hb); (try clear hb2); (try clear hk); (try clear hi); refine hK.out _ _ ⟨(blk_cell BK40013.out 0).trans rfl, (blk_cell BK40013.out 1).trans rfl, (blk_cell BK40001.out 0).trans rfl, (blk_cell BK40001.out 1).trans rfl⟩ (fun hHeld => ?_); clear hK K; refine norm_ (a' := ?_) ?_ ?_; rotate_left
         ·show Act.put _ (some 59) _ = _; simp only [Act.put, List.setIfInBounds_toArray, List.set_cons_zero, List.set_cons_succ, i64_w, i32_w]; rfl
         refine pure_ (i := 4) (N := some 60) (v := ?_) (a' := ?_) #[true, true, true, true, true] rfl rfl (by kernel_rfl) (fun _ _ _ h => h) (Or.inl ⟨by rfl, ?_⟩) ?_ ?_; rotate_left
         ·intro w'; go_simp
          with_reducible rfl
         rotate_left
         ·simp only [Act.put, List.setIfInBounds_toArray, List.set_cons_zero, List.set_cons_succ, i64_w, i32_w]; rfl
         refine done_ (by kernel_rfl) ?_
         try go_wp2
         go_ret
         exact ⟨by first | rfl | (simp [errW_none, errW_some] <;> rfl) | (simp [*, errW_none, errW_some] <;> rfl), by repeat (first | (with_reducible first | exact HB.out | apply below_alloc | apply pw_below_drewN | apply below_drew1 | refine below_set ?_ GE40001.out | refine below_set ?_ GE40013.out) | exact HB.out)⟩
        ·replace c39 := Bool.eq_false_iff.mpr c39; subst c39; have H1 : (some false) = some r := by rw [if_neg (show ¬ (false = true) by decide)] at H; exact H
         clear H; have H := H1; clear H1; obtain rfl := Option.some.inj H
         try go_wp2
         have n0_ := Aside0.mk (Kd.R_drew HO_40014001.out); have n1_ := Aside0.mk (blk_drew BK40001.out); have n2_ := Aside0.mk (blk_drew BK40013.out); have n3_ := Aside0.mk (below_drew1 HB.out); clear HO_40014001; clear BK40001; clear BK40013; clear HB; have HO_40014001 := n0_; have BK40001 := n1_; have BK40013 := n2_; have HB := n3_; clear n0_ n1_ n2_ n3_; refine start_ (n := 5) (S := fun w' => w'.cell? ⟨gb40013, 0, none⟩ = some (.int .i64 t40009) ∧ w'.cell? ⟨gb40013, 1, none⟩ = some (.slice Ao33 t40010.length co33) ∧ w'.cell? ⟨gb40001, 0, none⟩ = some (.int .i64 a0_0) ∧ w'.cell? ⟨gb40001, 1, none⟩ = some (.slice A0_1 l0_1.length c0_1)) (ds := []) #[false, false, false, false, false] (by kernel_rfl) rfl rfl ⟨(blk_cell BK40013.out 0).trans rfl, (blk_cell BK40013.out 1).trans rfl, (blk_cell BK40001.out 0).trans rfl, (blk_cell BK40001.out 1).trans rfl⟩ (fun hHeld => ?_); generalize wc.drew = w44 at HO_40014001 BK40001 BK40013 HB hHeld ⊢; refine take_ (i := 0) (N := some 56) (v := ?_) (a' := ?_) #[true, false, false, false, false] rfl rfl (by kernel_rfl) (fun _ _ _ h => h) (Or.inl ⟨by rfl, ?_⟩) hHeld ?_ ?_; rotate_left
         ·rintro w' ⟨s0, s1, s2, s3⟩; go_simp
          with_reducible rfl
         rotate_left
         ·simp only [Act.put, List.setIfInBounds_toArray, List.set_cons_zero, List.set_cons_succ, i64_w, i32_w]; rfl
         refine take_ (i := 1) (N := some 57) (v := ?_) (a' := ?_) #[true, true, false, false, false] rfl rfl (by kernel_rfl) (fun _ _ _ h => h) (Or.inl ⟨by rfl, ?_⟩) hHeld ?_ ?_; rotate_left
         ·rintro w' ⟨s0, s1, s2, s3⟩; go_simp
          with_reducible rfl
         rotate_left
         ·simp only [Act.put, List.setIfInBounds_toArray, List.set_cons_zero, List.set_cons_succ, i64_w, i32_w]; rfl
         refine one_ (i := 2) (N := some 58) #[true, true, true, false, false] rfl rfl (by kernel_rfl) (by decide) (fun K hK => ?_); refine goes_ Tryd.func15 (by kernel_rfl) rfl #[.agg #[.int .i64 a0_0, .slice A0_1 l0_1.length c0_1]] (by rfl) rfl rfl zq_1 ?_
         with_reducible refine (laws_toPool.calls kj19 a0_0 _ _ l0_1 t40016 t40017 _ ?side1 ?side2 A37.out).mono ?_
         (case side1 => exact zq_3); (case side2 => exact HC0_1.out); rintro e w45 ⟨v40018, rfl, ho0, hb⟩; refine ⟨_, rfl, ?_⟩; have n0_ := Aside0.mk (Kd.R_elder' zq_40 (Kd.R_base ho0) hb); have n1_ := Aside0.mk (Kd.R_lower (Kd.R_new' ho0 (Kd.R_lt zq_40)) (below_size zq_24)); have n2_ := Aside0.mk (blk_below (g := gb40001) (o := .cells #[.int .i64 a0_0, .slice A0_1 l0_1.length c0_1] 30 (0, 0)) zq_21 hb); have n3_ := Aside0.mk (blk_below (g := gb40013) (o := .cells #[.int .i64 t40009, .slice Ao33 t40010.length co33] 34 (0, 0)) zq_46 hb); have n4_ := Aside0.mk (below_step zq_24 hb); clear HO_40014001; clear BK40001; clear BK40013; clear HB; have HO_40014001 := n0_; have HO40019 := n1_; have BK40001 := n2_; have BK40013 := n3_; have HB := n4_; clear n0_ n1_ n2_ n3_ n4_; (try clear hb); (try clear hb2); (try clear hk); (try clear hi); (try clear ho0); obtain ⟨Ao46, co46, eo46⟩ := Kd.R_slice HO40019.out; (first | subst eo46 | (injection eo46 with f1_ f2_ f3_; have f4_ := f1_.symm; have f5_ := f3_.symm; clear f1_ f2_ f3_; subst f4_; subst f5_)); refine hK.out _ _ ⟨(blk_cell BK40013.out 0).trans rfl, (blk_cell BK40013.out 1).trans rfl, (blk_cell BK40001.out 0).trans rfl, (blk_cell BK40001.out 1).trans rfl⟩ (fun hHeld => ?_); clear hK K; refine norm_ (a' := ?_) ?_ ?_; rotate_left
         ·show Act.put _ (some 58) _ = _; simp only [Act.put, List.setIfInBounds_toArray, List.set_cons_zero, List.set_cons_succ, i64_w, i32_w]; rfl
         refine one_ (i := 3) (N := some 59) #[true, true, true, true, false] rfl rfl (by kernel_rfl) (by decide) (fun K hK => ?_); refine goes_ Tryd.func17 (by kernel_rfl) rfl #[.agg #[.int .i64 t40009, .slice Ao33 t40010.length co33], .agg #[.int .i64 t40016, .slice Ao46 t40017.length co46]] (by rfl) rfl rfl zq_1 ?_
         with_reducible refine (laws_eqPool.calls kj19 t40009 _ _ t40010 t40016 _ _ t40017 false _ ?side1 ?side2 ?side3 ?side4 A38.out).mono ?_
         (case side1 => repeat (first | exact (Kd.R_reads' HO_40014001.out).2.2 | (with_reducible refine Kd.C_alloc ?_ _) | (with_reducible refine Kd.C_drewN ?_ _) | (with_reducible refine Kd.C_drew ?_))); (case side2 => exact (Kd.R_reads' HO_40014001.out).2.1); (case side3 => repeat (first | exact (Kd.R_reads' HO40019.out).2.2 | (with_reducible refine Kd.C_alloc ?_ _) | (with_reducible refine Kd.C_drewN ?_ _) | (with_reducible refine Kd.C_drew ?_))); (case side4 => exact (Kd.R_reads' HO40019.out).2.1); rintro e w47 ⟨rfl, hb⟩; refine ⟨_, rfl, ?_⟩; have n0_ := Aside0.mk (Kd.R_below zq_40 hb); have n1_ := Aside0.mk (Kd.R_below (by (with_reducible repeat (first | apply Kd.R_alloc | apply Kd.R_drewN | apply Kd.R_drew)); exact HO40019.out) hb); have n2_ := Aside0.mk (blk_below (g := gb40001) (o := .cells #[.int .i64 a0_0, .slice A0_1 l0_1.length c0_1] 30 (0, 0)) zq_21 hb); have n3_ := Aside0.mk (blk_below (g := gb40013) (o := .cells #[.int .i64 t40009, .slice Ao33 t40010.length co33] 34 (0, 0)) zq_46 hb); have n4_ := Aside0.mk (below_step zq_24 hb); clear HO_40014001; clear HO40019; clear BK40001; clear BK40013; clear HB; have HO_40014001 := n0_; have HO40019 := n1_; have BK40001 := n2_; have BK40013 := n3_; have HB := n4_; clear n0_ n1_ n2_ n3_ n4_; (try clear hb); (try clear hb2); (try clear hk); (try clear hi); refine hK.out _ _ ⟨(blk_cell BK40013.out 0).trans rfl, (blk_cell BK40013.out 1).trans rfl, (blk_cell BK40001.out 0).trans rfl, (blk_cell BK40001.out 1).trans rfl⟩ (fun hHeld => ?_); clear hK K; refine norm_ (a' := ?_) ?_ ?_; rotate_left
         ·show Act.put _ (some 59) _ = _; simp only [Act.put, List.setIfInBounds_toArray, List.set_cons_zero, List.set_cons_succ, i64_w, i32_w]; rfl
         refine pure_ (i := 4) (N := some 60) (v := ?_) (a' := ?_) #[true, true, true, true, true] rfl rfl (by kernel_rfl) (fun _ _ _ h => h) (Or.inl ⟨by rfl, ?_⟩) ?_ ?_; rotate_left
         ·intro w'; go_simp
          with_reducible rfl
         rotate_left
         ·simp only [Act.put, List.setIfInBounds_toArray, List.set_cons_zero, List.set_cons_succ, i64_w, i32_w]; rfl
         refine done_ (by kernel_rfl) ?_
         try go_wp2
         go_ret
         exact ⟨by first | rfl | (simp [errW_none, errW_some] <;> rfl) | (simp [*, errW_none, errW_some] <;> rfl), by repeat (first | (with_reducible first | exact HB.out | apply below_alloc | apply pw_below_drewN | apply below_drew1 | refine below_set ?_ GE40001.out | refine below_set ?_ GE40013.out) | exact HB.out)⟩
end Go.Proofs.YtonbmghgbblifaaDoor.Z
end
section
namespace Go.Proofs.YtonbmghgbblifaaDoor.Z
open RowKit YtonbmghgbblifaaDoor YtonbmghgbblifaaDoorW.PrintWords YtonbmghgbblifaaDoorW.PrintLast
set_option linter.all false
theorem l2HashOk_f (a : ByteArray) (W : Int) : spec_l2HashOk.f a W = some (decide ((a.size : Int) = 0 ∨ (a.size : Int) = W)) := by
 unfold spec_l2HashOk.f
 by_cases h : (a.size : Int) = 0
 ·rw [if_pos h, decide_eq_true (.inl h)]
 ·rw [if_neg h]
  by_cases h2 : (a.size : Int) = W
  ·rw [beq_iff_eq.2 h2, decide_eq_true (.inr h2)]
  ·rw [beq_eq_false_iff_ne.2 h2, decide_eq_false (fun g => by rcases g with g | g; exact h g; exact h2 g)]
theorem spec_Range_f (W : Int) (l : List ByteArray) (root lo hi : ByteArray) (hl : small l) (hlo : lo.size ≤ 1048576) (hhi : hi.size ≤ 1048576) (k : Nat) (hk : 2200000 < k) : spec_Range.f k W l root lo hi = some (rangeR W l root lo hi) := by
 obtain ⟨k, rfl⟩ : ∃ j, k = j + 1 := ⟨k - 1, by omega⟩
 unfold spec_Range.f rangeR; rw [Option.bind_some, l3PoolOk_f, Option.bind_some]
 cases hv : poolOk W l
 ·rw [if_neg (by decide), if_neg (by simp)]; simp only [spec_Range.j0, if_true]
 rw [if_pos rfl, l2HashOk_f, Option.bind_some]; have h1 := poolOk_iff.1 hv; obtain ⟨n, rfl⟩ : ∃ n : Nat, W = (n : Int) := ⟨W.toNat, by omega⟩
 rw [Int.toNat_natCast]
 by_cases hr : (root.size : Int) = 0 ∨ (root.size : Int) = (n : Int)
 ·have hg := walkG_some n l root lo hi; rw [decide_eq_true hr, if_pos ⟨rfl, by rw [emp_size, decide_eq_true_eq]; exact hr⟩]; simp only [spec_Range.j0, Bool.not_true, Bool.false_eq_true, if_false]; rw [l3Hashes_f _ l hl k (by omega), Option.bind_some]; unfold spec_l4Go.f; rw [if_pos ⟨hl, by omega, by omega, rfl, by omega, by decide, by decide, by decide, hlo, hhi, by omega, by omega⟩, Int.toNat_natCast, hg, Option.map_some, Option.bind_some]; obtain ⟨⟨ps, s, c⟩, hw⟩ : ∃ r, walkG n l root lo hi = r := ⟨_, rfl⟩
  rw [hw]
  by_cases hc : c = 0
  ·subst hc; rfl
  ·rw [specR_bad hc]; dsimp only; rw [if_neg hc, if_pos hc]
 ·rw [decide_eq_false hr, if_neg (fun g => hr (by have := g.2; rw [emp_size, decide_eq_true_eq] at this; exact this))]; simp only [spec_Range.j0, Bool.not_false, if_true]
theorem l2Sized_f (s : ByteArray) (hs : s.size ≤ 65535) : spec_l2Sized.f s = some ⟨(sizedL s).toArray⟩ := by
 unfold spec_l2Sized.f; rw [if_pos (by omega), sizedL_eq]
theorem bcat (a b : List UInt8) : (⟨a.toArray⟩ : ByteArray) ++ ⟨b.toArray⟩ = ⟨(a ++ b).toArray⟩ := (app_list a b).symm
theorem bsz (a : List UInt8) : (⟨a.toArray⟩ : ByteArray).size = a.length := by simp [ByteArray.size]
theorem l5Proof_f (n : Nat) (hn1 : 1 ≤ n) (hn2 : n ≤ 32) (l : List ByteArray) (hl : small l) (lo hi : ByteArray) (hlo : lo.size ≤ 1048576) (hhi : hi.size ≤ 1048576) : ∀ (j : Nat) (seen : Int) (root above blo bhi : ByteArray) (t : PT) (s' : Int) (K : Nat),
  walkP n l (cuts n l) lo hi j seen root above blo bhi = some (t, s', 0) → (root.size = 0 ∨ root.size = n) → blo.size ≤ 1048576 → bhi.size ≤ 1048576 → 0 ≤ seen → seen ≤ 500 → 2100002 + j < K → spec_l5Proof.f K (n : Int) l (hashS n l) root blo bhi lo hi = some ⟨t.text.toArray⟩ := by
 intro j
 induction j with
 | zero => intro seen root above blo bhi t s' K h; cases h
 | succ j ih =>
  intro seen root above blo bhi t s' K h hr hb1 hb2 h0 h5 hK; obtain ⟨K, rfl⟩ : ∃ k, K = k + 1 := ⟨K - 1, by omega⟩
  have hok := walkP_ok n l (cuts n l) lo hi hn2 _ _ _ _ _ _ _ _ _ h (by omega); have hnum := walkP_len n l (cuts n l) lo hi _ _ _ _ _ _ _ _ _ h h0 h5; have hlen := t.text_len hok; unfold walkP at h; rw [spec_l5Proof.f]
  by_cases he : emp root = true
  ·rw [if_pos (.inl he)] at h; simp only [Option.some.injEq, Prod.mk.injEq] at h; obtain ⟨rfl, rfl, _⟩ := h; rw [show noneT root = .emp from if_pos he]; rw [emp_size, decide_eq_true_eq] at he; rw [if_pos he]; rfl
  have hz : ¬ ((root.size : Int) = 0) := fun g => he (by rw [emp_size]; exact decide_eq_true g)
  have hrn : root.size = n := by omega
  rw [if_neg hz, l4Wants_f blo bhi lo hi hb1 hb2 hlo hhi K (by omega), Option.bind_some]
  cases hm : meetsB lo hi blo bhi
  ·rw [if_pos (.inr hm)] at h; simp only [Option.some.injEq, Prod.mk.injEq] at h; obtain ⟨rfl, rfl, _⟩ := h; rw [if_neg (by decide), if_pos (by omega), show noneT root = .stub root from if_neg he]; exact congrArg some (bcat [83] root.data.toList)
  ·rw [if_neg (fun g => by rcases g with g | g; exact he g; (rw [hm] at g; cases g))] at h; rw [if_pos rfl, l3Find_f _ l root hl K (by omega), Option.bind_some, ← findR_S n hn1 hn2 root hrn l]; have hsz := @findR_sizes n l (cuts n l) root hn2; have hvl := @findR_val n l (cuts n l) root; have hhs := @findR_hash n l (cuts n l) root; obtain ⟨⟨k0, k1, k2, k3, cd⟩, hR⟩ : ∃ R, findR n l (cuts n l) root = R := ⟨_, rfl⟩
   rw [hR] at h hsz hvl hhs ⊢; dsimp only at h hsz hvl hhs ⊢
   split at h
   ·simp at h
   split at h
   ·simp at h
   rename_i h3
   have hcd : cd = 0 := Classical.not_not.mp (fun g => h3 (.inl g)); have hsz := hsz hcd; have hvl := hvl hcd; have hhs := hhs hcd
   split at h
   ·simp at h
   rename_i h6
   obtain ⟨⟨L, s1, c1⟩, hL, h⟩ := Option.bind_eq_some_iff.mp h; dsimp only at h hL; have iL := walkP_len n l (cuts n l) lo hi _ _ _ _ _ _ _ _ _ hL (by omega) (by omega)
   split at h
   ·simp only [Option.some.injEq, Prod.mk.injEq] at h
    rename_i g; exact absurd h.2.2 g
   rename_i hc1
   have hc1 : c1 = 0 := Classical.not_not.mp hc1; subst hc1; obtain ⟨⟨R, s2, c2⟩, hRR, h⟩ := Option.bind_eq_some_iff.mp h; dsimp only at h hRR
   split at h
   ·simp only [Option.some.injEq, Prod.mk.injEq] at h
    rename_i g; exact absurd h.2.2 g
   rename_i hc2
   have hc2 : c2 = 0 := Classical.not_not.mp hc2; subst hc2; simp only [Option.some.injEq, Prod.mk.injEq] at h; obtain ⟨rfl, rfl, _⟩ := h; have eL := ih _ _ _ _ _ _ _ K hL (by omega) hb1 (by omega) (by omega) (by omega) (by omega); have eR := ih _ _ _ _ _ _ _ K hRR (by omega) (by omega) hb2 (by omega) (by omega) (by omega); have z1 := sizedL_length k0; have z2 := sizedL_length k1; simp only [PT.text, List.length_cons, List.length_append, z1, z2] at hlen; rw [l2Sized_f k0 (by omega), Option.bind_some, if_pos (by rw [bsz]; omega), l2Sized_f k1 (by omega), Option.bind_some]; have c1 : (⟨#[70]⟩ : ByteArray) ++ ⟨(sizedL k0).toArray⟩ = ⟨(70 :: sizedL k0).toArray⟩ := bcat [70] _; rw [c1, if_pos (by rw [bsz, bsz, List.length_cons]; omega), bcat, eL, Option.bind_some, if_pos (by rw [bsz, bsz, List.length_append, List.length_cons]; omega), bcat, eR, Option.bind_some, if_pos (by rw [bsz, bsz, List.length_append, List.length_append, List.length_cons]; omega), bcat]; refine congrArg (fun z : List UInt8 => some (⟨z.toArray⟩ : ByteArray)) ?_; simp [PT.text]
theorem rangeR_prove (n : Nat) (hn1 : 1 ≤ n) (hn2 : n ≤ 32) (l : List ByteArray) (root lo hi : ByteArray) : (walkG n l root lo hi).2.2 = (walkPG n l root lo hi).2.2 := by
 have h := walkPG_some n l root lo hi; have g := walkG_some n l root lo hi; obtain ⟨⟨t, s, c⟩, hp⟩ : ∃ r, walkPG n l root lo hi = r := ⟨_, rfl⟩
 rw [hp] at h; obtain ⟨ps, hi⟩ := walkP_walkI _ _ _ _ _ _ _ _ _ _ _ _ _ _ h; rw [hi] at g; rw [← Option.some.inj g, hp]
theorem spec_Prove_f (W : Int) (l : List ByteArray) (root lo hi : ByteArray) (hl : small l) (hlo : lo.size ≤ 1048576) (hhi : hi.size ≤ 1048576) (k : Nat) (hk : 2300000 < k) : spec_Prove.f k W l root lo hi = some (proveR W l root lo hi) := by
 unfold spec_Prove.f; rw [spec_Range_f W l root lo hi hl hlo hhi k (by omega), Option.bind_some]; unfold rangeR proveR
 by_cases hv : poolOk W l = true ∧ (emp root = true ∨ (root.size : Int) = W)
 ·rw [if_pos hv, if_pos hv]; have h1 := poolOk_iff.1 hv.1; obtain ⟨n, rfl⟩ : ∃ n : Nat, W = (n : Int) := ⟨W.toNat, by omega⟩
  rw [Int.toNat_natCast, rangeR_prove n (by omega) (by omega)]
  by_cases hc : (walkPG n l root lo hi).2.2 ≠ 0
  ·rw [if_pos hc, if_pos hc]; dsimp only; rw [if_neg hc]
  ·rw [if_neg hc, if_neg hc]; dsimp only; have h := walkPG_some n l root lo hi; obtain ⟨⟨t, s, c⟩, hp⟩ : ∃ r, walkPG n l root lo hi = r := ⟨_, rfl⟩
   rw [hp] at h hc ⊢; have hc : c = 0 := Classical.not_not.mp hc; subst hc; have hroot : root.size = 0 ∨ root.size = n := by
    rcases hv.2 with g | g
    ·rw [emp_size, decide_eq_true_eq] at g; omega
    ·omega
   rw [if_pos rfl, l3Hashes_f _ l hl k (by omega), Option.bind_some, l5Proof_f n (by omega) (by omega) l hl lo hi hlo hhi 502 0 root _ _ _ t s k h hroot (by decide) (by decide) (by omega) (by omega) (by omega), Option.bind_some]
 ·rw [if_neg hv, if_neg hv]; dsimp only; rw [if_neg (by decide)]


end Go.Proofs.YtonbmghgbblifaaDoor.Z
end
section
namespace Go.Proofs.YtonbmghgbblifaaDoor.Z
open RowKit YtonbmghgbblifaaDoor
set_option linter.all false
theorem laws_FnExactProve_f (W : Int) (l : List ByteArray) (a1 a2 a3 : ByteArray) (hs : ∀ s ∈ l, s.size ≤ 9223372036854775807) (hl : l.length ≤ 9223372036854775807) : laws_FnExactProve.f 3000000 W l a1 a2 a3 = some true := by
 unfold laws_FnExactProve.f
 by_cases h1 : (a1.size : Int) > 1048576
 ·rw [if_pos h1]
 by_cases h2 : (a2.size : Int) > 1048576
 ·rw [if_neg h1, if_pos h2]
 by_cases h3 : (a3.size : Int) > 1048576
 ·rw [if_neg h1, if_neg h2, if_pos h3]
 rw [if_neg h1, if_neg h2, if_neg h3]; obtain ⟨t, ht1, ht2⟩ := szPool_f W l hs hl 3000000 (by omega); rw [ht1, Option.bind_some]
 by_cases hn : t < 0
 ·rw [if_pos hn]
 obtain ⟨_, hsm⟩ := ht2 (by omega); have hll := hsm.1; obtain ⟨K, hK, hK2⟩ : ∃ K : Nat, 3000000 = K + 3 ∧ K = 2999997 := ⟨2999997, rfl, rfl⟩
 have hR := spec_Prove_f W l a1 a2 a3 hsm (by omega) (by omega) 3000000 (by omega); have hI : impl_Prove.f W l a1 a2 a3 = some (proveR W l a1 a2 a3) := by unfold impl_Prove.f; rw [if_pos hsm]
 obtain ⟨⟨p, c⟩, hr⟩ : ∃ r, proveR W l a1 a2 a3 = r := ⟨_, rfl⟩
 rw [hr] at hR hI; rw [if_neg hn, toPool_f W l (by omega) _ (by omega), Option.bind_some]; dsimp only; rw [hR, Option.bind_some, Option.bind_some]; dsimp only; rw [hI, Option.bind_some]; dsimp only; rw [if_pos rfl, bne_self_eq_false, hK]; simp only [laws_FnExactProve.j0, Bool.false_eq_true, if_false]; rw [toPool_f W l (by omega) _ (by omega), Option.bind_some]; dsimp only; rw [eqPool_f W l (by omega) _ (by omega), Option.bind_some, if_pos rfl]
end Go.Proofs.YtonbmghgbblifaaDoor.Z
namespace Go.Proofs.YtonbmghgbblifaaDoor
open RowKit YtonbmghgbblifaaDoor.Z
theorem lawFnExactProve (a0_0 : Int) (A0_1 : Option Addr) (c0_1 : Nat) (l0_1 : List ByteArray) (a1 a2 a3 : ByteArray) (w : World) (hr0_1 : YtonbmghgbblifaaDoorW.PrintWords.Kd.C YtonbmghgbblifaaDoorW.PrintWords.Kd.string w A0_1 l0_1.length l0_1) (hc0_1 : l0_1.length ≤ c0_1) (hl : c0_1 ≤ maxLen) (hs : ∀ s ∈ l0_1, s.size ≤ maxLen) (hTab : Z.Tab w) :
  Calls Tryd.prog 4 #[.agg #[.int .i64 a0_0, .slice A0_1 l0_1.length c0_1], .string a1, .string a2, .string a3] w fun e w' => e = .returned (.bool true) ∧ Below w.heap.size w w' :=
 laws_FnExactProve.calls 3000000 a0_0 A0_1 c0_1 l0_1 a1 a2 a3 true w hTab hr0_1 hc0_1 (laws_FnExactProve_f a0_0 l0_1 a1 a2 a3 (fun s h => by have := hs s h; unfold maxLen at this; omega) (by unfold maxLen at hl; omega))
end Go.Proofs.YtonbmghgbblifaaDoor
end
section
namespace Go.Proofs.YtonbmghgbblifaaDoor.Z
open RowKit Go.ChangeShapes Go.WideShapes Go.ChangeAt YtonbmghgbblifaaDoorW.PrintWords
set_option linter.all false
section
variable {H : Type} {enc : TypeId × Value → H} {P : Program} {W : World} {base : Nat} {spare : Nat → Bool} {held : Bool}
theorem add_add (a : Addr) (i j : Nat) : (a.add i).add j = a.add (i + j) := by
 unfold Addr.add
 split <;> split <;> simp_all <;> omega
theorem list_of {α : Type} (Q : Nat → α → Prop) : ∀ n, (∀ i, i < n → ∃ x, Q i x) → ∃ l : List α, l.length = n ∧ ∀ i x, l[i]? = some x → Q i x
 | 0, _ => ⟨[], rfl, fun i x h => by simp at h⟩
 | n + 1, h => by
  obtain ⟨l, hl, hq⟩ := list_of Q n (fun i hi => h i (by omega)); obtain ⟨x, hx⟩ := h n (by omega); refine ⟨l ++ [x], by simp [hl], fun i y hy => ?_⟩
  rcases Nat.lt_or_ge i l.length with h1 | h1
  ·rw [List.getElem?_append_left h1] at hy; exact hq i y hy
  ·rw [List.getElem?_append_right h1] at hy
   rcases Nat.eq_zero_or_pos (i - l.length) with h2 | h2
   ·rw [h2] at hy; obtain rfl := Option.some.inj hy; obtain rfl : i = n := by omega
    exact hx
   ·rw [List.getElem?_eq_none (by simp; omega)] at hy; cases hy
theorem open_kd {α : Type} (d : Kd α) (Q : α → Prop) {t e : TypeId} {fuel : Nat} {v : Value} {x : DataW H × List MemPlace} (ht : P.underlying t = some (.slice e)) (hc : P.cellsOf e = d.sz)
  (hK : ∀ cs n y, cs.length = d.sz → DataW.trod enc P W base spare held n e cs = some y → ∃ x, d.K W x cs ∧ Q x) (h : DataW.trod enc P W base spare held fuel t [v] = some x) :
  ∃ A c, ∃ l : List α, v = .slice A l.length c ∧ l.length ≤ c ∧ c ≤ maxLen ∧ d.C W A l.length l ∧ ∀ x ∈ l, Q x := by
 rcases DataW.trod_slice ht h with ⟨hcs, _⟩ | ⟨a, len, cap, elems, rest, m, _, hcs, hx, _, hl, hcap, hlen, hel, _⟩
 ·simp at hcs; subst hcs; refine ⟨none, 0, [], rfl, Nat.le_refl _, Nat.zero_le _, ⟨rfl, Nat.zero_le _, fun h => absurd h (Nat.lt_irrefl _)⟩, fun x hx => by cases hx⟩
 ·simp at hcs; subst hcs; have hp : ∀ i, i < len → ∃ x : α, ∃ cs, W.cells? base (a.add (i * d.sz)) d.sz = some cs ∧ cs.length = d.sz ∧ d.K W x cs ∧ Q x := by
   intro i hi; have h1 := hel i hi; rw [List.getElem?_eq_getElem (by omega), hc] at h1; obtain ⟨cs, hcs, hy⟩ := Option.bind_eq_some_iff.1 h1; have hln := (World.cells?_some hcs).2.1; obtain ⟨x, hx1, hx2⟩ := hK cs m _ hln hy; exact ⟨x, cs, hcs, hln, hx1, hx2⟩
  obtain ⟨l, hll, hq⟩ := list_of _ len hp; subst hll; refine ⟨some a, cap, l, rfl, hl, hcap, ⟨rfl, by unfold maxLen at hcap; omega, fun _ => ⟨a, rfl, fun j p hj => ?_⟩⟩, fun x hx => ?_⟩
  ·obtain ⟨cs, h1, h2, h3, _⟩ := hq j p hj; refine ⟨cs, h2, h3, fun i u hu => ?_⟩; have h4 := (World.cells?_some h1).2.2 i (by rw [← h2]; exact (List.getElem?_eq_some_iff.1 hu).1); rw [← add_add]; exact h4.trans hu
  ·obtain ⟨i, hi, rfl⟩ := List.getElem_of_mem hx; obtain ⟨cs, _, _, _, h5⟩ := hq i _ (List.getElem?_eq_getElem hi); exact h5
theorem open_strs {t e : TypeId} {fuel : Nat} {v : Value} {x : DataW H × List MemPlace} (ht : P.underlying t = some (.slice e)) (he : P.underlying e = some .string) (hc : P.cellsOf e = 1) (h : DataW.trod enc P W base spare held fuel t [v] = some x) :
  ∃ A c, ∃ l : List ByteArray, v = .slice A l.length c ∧ l.length ≤ c ∧ c ≤ maxLen ∧ Kd.C Kd.string W A l.length l ∧ ∀ s ∈ l, s.size ≤ maxLen :=
 open_kd Kd.string (fun s => s.size ≤ maxLen) ht hc (fun cs n y hl hy => by
  obtain ⟨s, rfl, _, hs⟩ := DataW.trod_string he hy; exact ⟨s, rfl, hs⟩) h
end
end Go.Proofs.YtonbmghgbblifaaDoor.Z
end
