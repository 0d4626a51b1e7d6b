/- Own texts, joined. -/
import Derived.Test.YtmfejehhfmaodaaDoorYFnExactNodeHash0
import Derived.Test.YtmfejehhfmaodaaDoorYFnExactNodeHash3
import Derived.Test.YtmfejehhfmaodaaDoorYFnExactNodeHash5
import Derived.Test.YtmfejehhfmaodaaDoorYFnExactNodeHash4
/- Contracts of functions of the program, written by a program of this session over the translation's print. -/
section
namespace Go.Proofs.YtmfejehhfmaodaaDoor.Z
open Go.RowKit Go.Proofs.YtmfejehhfmaodaaDoorW.PrintWords Go.Proofs.YtmfejehhfmaodaaDoorW.PrintLast Go.Proofs.YtmfejehhfmaodaaDoorW.PrintMore
attribute [local go_sem] max2_int min2_int max_two min_two max_three min_three max_four min_four   -- for this text's walks alone
set_option linter.unusedVariables false
set_option linter.unusedSimpArgs false

/-! ### spec_Higher: function 11 -/
def spec_Higher.f (k : Nat) (a0 : ByteArray) (a1 : ByteArray) : Option (Bool) := (spec_Sha256.f k a0).bind fun t186 => ((spec_Sha256.f k a1).bind fun t187 => (if t186.toList = t187.toList then ((spec_l1Less.f k a0 a1).bind fun t188 => (some t188)) else ((spec_l1Less.f k t187 t186).bind fun t189 => (some t189))))
theorem spec_Higher.mono : ∀ a0 a1 k, LeO (spec_Higher.f k a0 a1) (spec_Higher.f (k + 1) a0 a1) := by
  intro a0 a1 k
  unfold spec_Higher.f
  repeat' first
      | (with_reducible exact spec_Sha256.mono _ _)
      | (with_reducible exact spec_l1Less.mono _ _ _)
      | (with_reducible exact LeO.refl _)
      | (with_reducible exact LeO.none _)
      | (with_reducible refine LeO.ite ?_ ?_)
      | (with_reducible refine LeO.bind ?_ (fun _ => ?_))
      | exact spec_Sha256.mono _ _
      | exact spec_l1Less.mono _ _ _
      | exact LeO.none _
      | refine LeO.ite ?_ ?_
      | refine LeO.bind ?_ (fun _ => ?_)
set_option maxHeartbeats 8000000 in
set_option maxRecDepth 100000 in
theorem spec_Higher.calls (k : Nat) (a0 : ByteArray) (a1 : ByteArray) (r : Bool) (w : World) (h : spec_Higher.f k a0 a1 = some r) :
    Calls Tryd.prog 11 #[.string a0, .string a1] w fun e w' => e = .returned (.bool r) ∧ Below w.heap.size w w' := by
  have HB := Aside0.mk (Below.refl w.heap.size w)
  have H : ((spec_Sha256.f k a0).bind fun t186 => ((spec_Sha256.f k a1).bind fun t187 => (if t186.toList = t187.toList then ((spec_l1Less.f k a0 a1).bind fun t188 => (some t188)) else ((spec_l1Less.f k t187 t186).bind fun t189 => (some t189))))) = some r := h
  clear h
  replace H := Option.bind_eq_some_iff.mp H
  obtain ⟨t186, A30, H⟩ := H
  replace H : ((spec_Sha256.f k a1).bind fun t187 => (if t186.toList = t187.toList then ((spec_l1Less.f k a0 a1).bind fun t188 => (some t188)) else ((spec_l1Less.f k t187 t186).bind fun t189 => (some t189)))) = some r := H
  have A3 := Aside0.mk A30
  clear A30
  replace H := Option.bind_eq_some_iff.mp H
  obtain ⟨t187, A40, H⟩ := H
  replace H : (if t186.toList = t187.toList then ((spec_l1Less.f k a0 a1).bind fun t188 => (some t188)) else ((spec_l1Less.f k t187 t186).bind fun t189 => (some t189))) = some r := H
  have A4 := Aside0.mk A40
  clear A40
  by_cases c5 : t186.toList = t187.toList
  · rw [if_pos c5] at H
    have c5b0 : (t186.toList == t187.toList) = true := beq_iff_eq.mpr c5
    have c5b1 : (t186.toList != t187.toList) = false := bne_eq_false_iff_eq.mpr c5
    clear c5
    replace H := Option.bind_eq_some_iff.mp H
    obtain ⟨t188, A60, H⟩ := H
    replace H : (some t188) = some r := H
    have A6 := Aside0.mk A60
    clear A60
    obtain rfl := Option.some.inj H
    go_enter Tryd.func11, Tryd.ntmps11
    go_wp2_with (first | ((with_reducible refine gate_callee (f := 7) rfl ?_); refine goesL_ (some 8) rfl rfl Tryd.func7 (by kernel_rfl) rfl #[.string a0] rfl (by (try simp only [List.map_toArray, List.map_cons, List.map_nil]); first | done | rfl | (simp only [List.length_drop, List.length_take]; rfl)) ?_; (with_reducible refine (spec_Sha256.calls k a0 t186 _ A3.out).mono ?_); rintro e w7 ⟨rfl, hb⟩; refine ⟨_, rfl, ?_⟩; have n0_ := Aside0.mk (below_step (by repeat (first | (with_reducible first | exact HB.out | apply below_alloc | apply pw_below_drewN | apply below_drew1) | exact HB.out)) hb); clear HB; have HB := n0_; clear n0_; (try clear hb); (try clear hb2); (try clear hk); (try clear hi)) | ((with_reducible refine gate_callee (f := 7) rfl ?_); refine goesL_ (some 10) rfl rfl Tryd.func7 (by kernel_rfl) rfl #[.string a1] rfl (by (try simp only [List.map_toArray, List.map_cons, List.map_nil]); first | done | rfl | (simp only [List.length_drop, List.length_take]; rfl)) ?_; (with_reducible refine (spec_Sha256.calls k a1 t187 _ A4.out).mono ?_); rintro e w8 ⟨rfl, hb⟩; refine ⟨_, rfl, ?_⟩; have n0_ := Aside0.mk (below_step (by repeat (first | (with_reducible first | exact HB.out | apply below_alloc | apply pw_below_drewN | apply below_drew1) | exact HB.out)) hb); clear HB; have HB := n0_; clear n0_; (try clear hb); (try clear hb2); (try clear hk); (try clear hi)) | ((with_reducible refine gate_callee (f := 24) rfl ?_); refine goesL_ (some 19) rfl rfl Tryd.func24 (by kernel_rfl) rfl #[.string a0, .string a1] rfl (by (try simp only [List.map_toArray, List.map_cons, List.map_nil]); first | done | rfl | (simp only [List.length_drop, List.length_take]; rfl)) ?_; (with_reducible refine (spec_l1Less.calls k a0 a1 t188 _ A6.out).mono ?_); rintro e w' ⟨rfl, ⟨nd, rfl⟩⟩; refine ⟨_, rfl, ?_⟩))
    go_ret
    exact ⟨by first | rfl | (simp [errW_none, errW_some] <;> rfl) | (simp [*, errW_none, errW_some] <;> rfl), by repeat (first | (with_reducible first | exact HB.out | apply below_alloc | apply pw_below_drewN | apply below_drew1) | exact HB.out)⟩
  · rw [if_neg c5] at H
    have c5b0 : (t186.toList == t187.toList) = false := beq_eq_false_iff_ne.mpr c5
    have c5b1 : (t186.toList != t187.toList) = true := bne_iff_ne.mpr c5
    replace H := Option.bind_eq_some_iff.mp H
    obtain ⟨t189, A90, H⟩ := H
    replace H : (some t189) = some r := H
    have A9 := Aside0.mk A90
    clear A90
    obtain rfl := Option.some.inj H
    go_enter Tryd.func11, Tryd.ntmps11
    go_wp2_with (first | ((with_reducible refine gate_callee (f := 7) rfl ?_); refine goesL_ (some 8) rfl rfl Tryd.func7 (by kernel_rfl) rfl #[.string a0] rfl (by (try simp only [List.map_toArray, List.map_cons, List.map_nil]); first | done | rfl | (simp only [List.length_drop, List.length_take]; rfl)) ?_; (with_reducible refine (spec_Sha256.calls k a0 t186 _ A3.out).mono ?_); rintro e w10 ⟨rfl, hb⟩; refine ⟨_, rfl, ?_⟩; have n0_ := Aside0.mk (below_step (by repeat (first | (with_reducible first | exact HB.out | apply below_alloc | apply pw_below_drewN | apply below_drew1) | exact HB.out)) hb); clear HB; have HB := n0_; clear n0_; (try clear hb); (try clear hb2); (try clear hk); (try clear hi)) | ((with_reducible refine gate_callee (f := 7) rfl ?_); refine goesL_ (some 10) rfl rfl Tryd.func7 (by kernel_rfl) rfl #[.string a1] rfl (by (try simp only [List.map_toArray, List.map_cons, List.map_nil]); first | done | rfl | (simp only [List.length_drop, List.length_take]; rfl)) ?_; (with_reducible refine (spec_Sha256.calls k a1 t187 _ A4.out).mono ?_); rintro e w11 ⟨rfl, hb⟩; refine ⟨_, rfl, ?_⟩; have n0_ := Aside0.mk (below_step (by repeat (first | (with_reducible first | exact HB.out | apply below_alloc | apply pw_below_drewN | apply below_drew1) | exact HB.out)) hb); clear HB; have HB := n0_; clear n0_; (try clear hb); (try clear hb2); (try clear hk); (try clear hi)) | ((with_reducible refine gate_callee (f := 24) rfl ?_); refine goesL_ (some 16) rfl rfl Tryd.func24 (by kernel_rfl) rfl #[.string t187, .string t186] rfl (by (try simp only [List.map_toArray, List.map_cons, List.map_nil]); first | done | rfl | (simp only [List.length_drop, List.length_take]; rfl)) ?_; (with_reducible refine (spec_l1Less.calls k t187 t186 t189 _ A9.out).mono ?_); rintro e w' ⟨rfl, ⟨nd, rfl⟩⟩; refine ⟨_, rfl, ?_⟩))
    go_ret
    exact ⟨by first | rfl | (simp [errW_none, errW_some] <;> rfl) | (simp [*, errW_none, errW_some] <;> rfl), by repeat (first | (with_reducible first | exact HB.out | apply below_alloc | apply pw_below_drewN | apply below_drew1) | exact HB.out)⟩

end Go.Proofs.YtmfejehhfmaodaaDoor.Z

end

/- The laws of Sha256, Digest and Higher over numbers and lists. -/
section
namespace Go.Proofs.YtmfejehhfmaodaaDoor.Z
open Go.RowKit Go.Proofs.YtmfejehhfmaodaaDoor Go.Proofs.YtmfejehhfmaodaaDoorW.PrintWords Go.Proofs.YtmfejehhfmaodaaDoorW.PrintLast
set_option linter.unusedVariables false
set_option linter.unusedSimpArgs false
theorem l1Width_f (n : Int) : spec_l1Width.f n = some (widB n) := by
  unfold spec_l1Width.f widB
  by_cases h : n ≥ 1
  · rw [if_pos h]; congr 1; simp; omega
  · rw [if_neg h]; congr 1; simp; omega
theorem spec_Digest_f (a0 : ByteArray) (a1 : Int) (ha : a0.size ≤ 4294967296) (k : Nat) (hk : a0.size + 100 < k) : spec_Digest.f k a0 a1 = some (digV a0 a1) := by
  unfold spec_Digest.f
  rw [l1Width_f]
  simp only [Option.bind_some]
  by_cases hw : widB a1 = true
  · have hr : 1 ≤ a1 ∧ a1 ≤ 32 := by unfold widB at hw; exact of_decide_eq_true hw
    rw [if_pos hw, digV_yes hw, spec_Sha256_f a0 ha k hk]
    simp only [Option.bind_some]
    rw [if_pos (by omega), if_pos (by rw [shaV_size]; omega)]
  · rw [if_neg hw, digV_no (Bool.eq_false_iff.2 hw)]
theorem bt_get (s : ByteArray) (i : Nat) (h : i < s.size) : bt s (i : Int) = ((s.data.toList[i]'h).toNat : Int) := by
  unfold bt
  rw [Int.toNat_natCast, dif_pos h]; rfl
theorem bytesLess_drop (a b : List UInt8) (i : Nat) (h1 : i < a.length) (h2 : i < b.length) : Op.bytesLess (a.drop i) (b.drop i) = (a[i] < b[i] || (a[i] == b[i] && Op.bytesLess (a.drop (i + 1)) (b.drop (i + 1)))) := by
  rw [List.drop_eq_getElem_cons h1, List.drop_eq_getElem_cons h2]; rfl
theorem l1Less_loop (a b : ByteArray) (ha : a.size ≤ 4611686018427387904) : ∀ (d i k : Nat), a.size = i + d → 2 * d + 1 < k →
    (i ≤ b.size) → spec_l1Less.l0 k a b (i : Int) = some (Op.bytesLess (a.data.toList.drop i) (b.data.toList.drop i)) := by
  intro d
  have hal : a.data.toList.length = a.size := rfl
  have hbl : b.data.toList.length = b.size := rfl
  induction d with
  | zero =>
    intro i k hi hk hb
    obtain ⟨k, rfl⟩ : ∃ j, k = j + 2 := ⟨k - 2, by omega⟩
    simp only [spec_l1Less.l0]
    rw [if_neg (by omega)]
    simp only [spec_l1Less.j1]
    rw [if_neg (by decide), List.drop_eq_nil_of_le (show a.data.toList.length ≤ i by omega)]
    congr 1
    by_cases h : i < b.size
    · rw [List.drop_eq_getElem_cons (show i < b.data.toList.length by omega)]
      simp [Op.bytesLess]; omega
    · rw [List.drop_eq_nil_of_le (show b.data.toList.length ≤ i by omega)]
      simp [Op.bytesLess]; omega
  | succ d ih =>
    intro i k hi hk hb
    obtain ⟨k, rfl⟩ : ∃ j, k = j + 2 := ⟨k - 2, by omega⟩
    simp only [spec_l1Less.l0]
    rw [if_pos (by omega)]
    simp only [spec_l1Less.j1]
    by_cases h : i < b.size
    · rw [if_pos (by simp; omega), if_pos (by omega), if_pos (by omega), if_pos (by omega)]
      rw [bt_get a i (by omega), bt_get b i h, bytesLess_drop _ _ i (by omega) (by omega)]
      have e1 : wrap64 ((i : Int) + 1) = ((i + 1 : Nat) : Int) := by rw [w64 (by omega) (by omega)]; omega
      rw [e1]
      clear e1
      have hlt : ∀ x y : UInt8, (x < y) ↔ ((x.toNat : Int) < (y.toNat : Int)) := by intro x y; rw [UInt8.lt_iff_toNat_lt]; omega
      have heq : ∀ x y : UInt8, (x = y) ↔ ((x.toNat : Int) = (y.toNat : Int)) := by intro x y; rw [← UInt8.toNat_inj]; omega
      generalize a.data.toList[i]'(by omega) = x
      generalize b.data.toList[i]'(by omega) = y
      by_cases hxy : x = y
      · subst hxy
        rw [if_pos rfl, ih (i + 1) k (by omega) (by omega) (by omega)]
        simp
      · rw [if_neg (fun e => hxy ((heq x y).2 e))]
        simp [hxy, hlt x y]
    · rw [if_neg (by simp; omega), List.drop_eq_nil_of_le (show b.data.toList.length ≤ i by omega)]
      congr 1
      rw [decide_eq_false (by omega)]
      cases a.data.toList.drop i <;> rfl
theorem spec_l1Less_f (a b : ByteArray) (ha : a.size ≤ 4294967296) (k : Nat) (hk : 2 * a.size + 1 < k) : spec_l1Less.f k a b = some (Op.bytesLess a.toList b.toList) := by
  unfold spec_l1Less.f
  rw [ByteArray.toList_eq, ByteArray.toList_eq]
  have h := l1Less_loop a b (by omega) a.size 0 k (by omega) hk (by omega)
  simpa using h
theorem bytesLess_swap : ∀ (x y : List UInt8), x ≠ y → Op.bytesLess y x = !Op.bytesLess x y
  | [], [], h => absurd rfl h
  | [], _ :: _, _ => rfl
  | _ :: _, [], _ => rfl
  | a :: x, b :: y, h => by
    simp only [Op.bytesLess]
    by_cases hab : a = b
    · subst hab
      have := bytesLess_swap x y (fun e => h (by rw [e]))
      have hl : ¬ a < a := by rw [UInt8.lt_iff_toNat_lt]; omega
      simp [this, hl]
    · have h1 : ¬ b = a := fun e => hab e.symm
      have hn : a.toNat ≠ b.toNat := fun e => hab (UInt8.toNat_inj.1 e)
      simp only [beq_eq_false_iff_ne.2 hab, beq_eq_false_iff_ne.2 h1, Bool.false_and, Bool.or_false]
      rw [Bool.eq_iff_iff]
      simp only [decide_eq_true_eq, Bool.not_eq_true', decide_eq_false_iff_not, UInt8.lt_iff_toNat_lt]
      omega
theorem strOfNums_inj : ∀ (l m : List Int), (∀ x ∈ l, 0 ≤ x ∧ x < 256) → (∀ x ∈ m, 0 ≤ x ∧ x < 256) → strOfNums l = strOfNums m → l = m := by
  have key : ∀ (l m : List Int), (∀ x ∈ l, 0 ≤ x ∧ x < 256) → (∀ x ∈ m, 0 ≤ x ∧ x < 256) → l.map (fun x => UInt8.ofNat x.toNat) = m.map (fun x => UInt8.ofNat x.toNat) → l = m := by
    intro l
    induction l with
    | nil => intro m _ _ h; cases m with | nil => rfl | cons => simp at h
    | cons a l ih =>
      intro m hl hm h
      cases m with
      | nil => simp at h
      | cons b m =>
        simp only [List.map_cons, List.cons.injEq] at h
        have h1 := hl a (by simp)
        have h2 := hm b (by simp)
        have h3 := congrArg UInt8.toNat h.1
        rw [UInt8.toNat_ofNat', UInt8.toNat_ofNat'] at h3
        rw [ih m (fun x hx => hl x (by simp [hx])) (fun x hx => hm x (by simp [hx])) h.2, show a = b by omega]
  intro l m hl hm h
  refine key l m hl hm ?_
  unfold strOfNums at h
  have := congrArg (fun s : ByteArray => s.data.toList) h
  simpa using this
theorem outB_range (h : List Int) : ∀ n, ∀ x ∈ outB h n, 0 ≤ x ∧ x < 256
  | 0, x, hx => by simp [outB] at hx
  | n + 1, x, hx => by
    rw [outB, List.mem_append] at hx
    rcases hx with hx | hx
    · exact outB_range h n x hx
    · simp only [wordB, List.mem_cons, List.not_mem_nil, or_false] at hx
      rcases hx with rfl | rfl | rfl | rfl <;> omega
theorem shaL_range (l : List UInt8) : ∀ x ∈ shaL l, 0 ≤ x ∧ x < 256 := outB_range _ _
theorem toList_inj {a b : ByteArray} : a.toList = b.toList ↔ a = b := by
  rw [ByteArray.toList_eq, ByteArray.toList_eq]
  exact ⟨fun h => ByteArray.ext (Array.toList_inj.mp h), fun h => by rw [h]⟩
theorem highB_eq (a b : ByteArray) : highB a b = if (shaV a).toList = (shaV b).toList then Op.bytesLess a.toList b.toList else Op.bytesLess (shaV b).toList (shaV a).toList := by
  unfold highB aboveB
  by_cases h : shaL a.data.toList = shaL b.data.toList
  · rw [if_pos h, if_pos (by unfold shaV; rw [h])]
  · have h2 : (shaV a).toList ≠ (shaV b).toList := fun e => h (strOfNums_inj _ _ (shaL_range _) (shaL_range _) (toList_inj.1 e))
    rw [if_neg h, if_neg h2]
    show (!Op.bytesLess (shaV a).toList (shaV b).toList && !((shaV a).toList == (shaV b).toList)) = _
    rw [beq_eq_false_iff_ne.2 h2, bytesLess_swap _ _ h2]
    simp
theorem spec_Higher_f (a b : ByteArray) (ha : a.size ≤ 4294967296) (hb : b.size ≤ 4294967296) (k : Nat) (hk : 2 * a.size + 2 * b.size + 200 < k) : spec_Higher.f k a b = some (highB a b) := by
  unfold spec_Higher.f
  rw [spec_Sha256_f a ha k (by omega), spec_Sha256_f b hb k (by omega)]
  simp only [Option.bind_some]
  rw [spec_l1Less_f a b ha k (by omega), spec_l1Less_f _ _ (by rw [shaV_size]; omega) k (by rw [shaV_size]; omega), highB_eq]
  simp only [Option.bind_some]
  split <;> rfl
end Go.Proofs.YtmfejehhfmaodaaDoor.Z

end

/- The law FnExactNodeHash, walked. -/
section
namespace Go.Proofs.YtmfejehhfmaodaaDoor.Z
open Go.RowKit Go.Proofs.YtmfejehhfmaodaaDoor
set_option linter.unusedVariables false
set_option linter.unusedSimpArgs false
theorem spec_NodeHash_f (a b c d : ByteArray) (x : Int) (k : Nat) (hk : 5000 < k) : spec_NodeHash.f k a b c d x = some (nodeHashV a b c d x) := by
  have hle := encNode_size_le a b c d x
  unfold spec_NodeHash.f spec_EncodeNode.f nodeHashV
  rw [Option.bind_some]
  by_cases h0 : (encNode a b c d x).size = 0
  · rw [if_pos (by omega), if_pos h0]
  · rw [if_neg (by omega), if_neg h0]
    have hs : (nText (encNode a b c d x)).size = 1 + (encNode a b c d x).size := by unfold nText; rw [ByteArray.size_append]; rfl
    have e : spec_l2Text.f (encNode a b c d x) = some (nText (encNode a b c d x)) := by unfold spec_l2Text.f; rw [if_pos (by omega)]; rfl
    rw [e, Option.bind_some, spec_Digest_f _ _ (by omega) _ (by omega), Option.bind_some]
theorem laws_FnExactNodeHash_f (a b c d : ByteArray) (x : Int) (k : Nat) (hk : 5000 < k) : laws_FnExactNodeHash.f k a b c d x = some true := by
  have hsz : ∃ t, laws_szNode.f a b c d 1048576 = some t := by
    unfold laws_szNode.f
    repeat' split
    all_goals exact ⟨_, rfl⟩
  obtain ⟨t, ht⟩ := hsz
  unfold laws_FnExactNodeHash.f
  rw [ht, Option.bind_some]
  split
  · rfl
  · unfold laws_toNode.f impl_NodeHash.f
    simp only [Option.bind_some]
    rw [spec_NodeHash_f _ _ _ _ _ _ hk]
    simp
end Go.Proofs.YtmfejehhfmaodaaDoor.Z
namespace Go.Proofs.YtmfejehhfmaodaaDoor
open Go.RowKit Go.Proofs.YtmfejehhfmaodaaDoor.Z
theorem lawFnExactNodeHash (a b c d : ByteArray) (x : Int) (w : World) (hTab : Z.Tab w) : Calls Tryd.prog 6 #[.agg #[.string a, .string b, .string c, .string d], .int .i64 x] w fun e w' => e = .returned (.bool true) ∧ Below w.heap.size w w' :=
  laws_FnExactNodeHash.calls 5001 a b c d x true w hTab (laws_FnExactNodeHash_f a b c d x 5001 (by omega))
end Go.Proofs.YtmfejehhfmaodaaDoor

end
