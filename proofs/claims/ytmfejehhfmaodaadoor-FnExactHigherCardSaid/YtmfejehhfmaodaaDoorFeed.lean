/- The hasher fed with bytes. -/
import Derived.Test.YtmfejehhfmaodaaDoorMix
namespace Go.Proofs.YtmfejehhfmaodaaDoor.Z
open Go.RowKit Go.Proofs.YtmfejehhfmaodaaDoor Go.Proofs.YtmfejehhfmaodaaDoorW.PrintWords Go.Proofs.YtmfejehhfmaodaaDoorW.PrintLast
set_option linter.unusedVariables false
set_option linter.unusedSimpArgs false
theorem blockAt_app (l m : List Int) (fr : Nat) (h : fr + 64 ≤ l.length) : blockAt (l ++ m) fr = blockAt l fr := by
  unfold blockAt
  rw [List.drop_append_of_le_length (by omega), List.take_append_of_le_length (by rw [List.length_drop]; omega)]
theorem stateP_app (l m : List Int) : ∀ n, 64 * n ≤ l.length → stateP (l ++ m) n = stateP l n
  | 0, _ => rfl
  | n + 1, h => by rw [stateP, stateP, stateP_app l m n (by omega), blockAt_app l m _ (by omega)]
theorem rdN_app_lt (l m : List Int) (j : Nat) (h : j < l.length) : rdN (l ++ m) j = rdN l j := by
  unfold rdN; rw [List.getD_eq_getElem?_getD, List.getD_eq_getElem?_getD, List.getElem?_append_left h]
theorem rdN_app_at (l : List Int) (x : Int) : rdN (l ++ [x]) l.length = x := by
  unfold rdN; rw [List.getD_eq_getElem?_getD, List.getElem?_append_right (Nat.le_refl _)]; simp
theorem rdN_set_ne (l : List Int) (i j : Nat) (x : Int) (h : i ≠ j) : rdN (l.set i x) j = rdN l j := by
  unfold rdN; rw [List.getD_eq_getElem?_getD, List.getD_eq_getElem?_getD, List.getElem?_set_ne h]
theorem rdN_set_eq (l : List Int) (i : Nat) (x : Int) (h : i < l.length) : rdN (l.set i x) i = x := by
  unfold rdN; rw [List.getD_eq_getElem?_getD, List.getElem?_set_self h]; rfl
theorem list_eq_of_rdN (l m : List Int) (h : l.length = m.length) (he : ∀ j, j < l.length → rdN l j = rdN m j) : l = m := by
  apply List.ext_getElem h
  intro j h1 h2
  have := he j h1
  unfold rdN at this
  rw [List.getD_eq_getElem?_getD, List.getD_eq_getElem?_getD, List.getElem?_eq_getElem h1, List.getElem?_eq_getElem h2] at this
  exact this
/-- Block b is a hasher that was fed with l. -/
structure Fed (b : Nat) (l : List Int) (tot : Int) (w : World) : Prop where
  out : ∃ blk, Hsh b (stateP l (l.length / 64)) blk ((l.length % 64 : Nat) : Int) tot w ∧ ∀ j, j < l.length % 64 → rdN blk j = rdN l (64 * (l.length / 64) + j)
section
variable {b : Nat} {l : List Int} {tot : Int} {w w1 : World}
theorem Fed.lt (h : Fed b l tot w) : b < w.heap.size := by obtain ⟨blk, h1, _⟩ := h.out; exact h1.lt
theorem Fed.f (h : Fed b l tot w) (i : Nat) : w.frozen? ⟨b, i, none⟩ = false := by obtain ⟨blk, h1, _⟩ := h.out; exact h1.f i
theorem Fed.cF (h : Fed b l tot w) : w.cell? ⟨b, 72, none⟩ = some (.int .i64 ((l.length % 64 : Nat) : Int)) := by obtain ⟨blk, h1, _⟩ := h.out; exact h1.cF
theorem Fed.cT (h : Fed b l tot w) : w.cell? ⟨b, 73, none⟩ = some (.int .u64 tot) := by obtain ⟨blk, h1, _⟩ := h.out; exact h1.cT
theorem Fed.keep (h : Fed b l tot w) (hb : w1.heap[b]? = w.heap[b]?) : Fed b l tot w1 := by obtain ⟨blk, h1, h2⟩ := h.out; exact ⟨blk, h1.keep hb, h2⟩
theorem Fed.below (h : Fed b l tot w) (hb : Below w.heap.size w w1) : Fed b l tot w1 := h.keep (hb.block b h.lt)
theorem Fed.setT (h : Fed b l tot w) (x : Int) : Fed b l x (w.setCell ⟨b, 73, none⟩ (.int .u64 x)) := by obtain ⟨blk, h1, h2⟩ := h.out; exact ⟨blk, h1.setT x, h2⟩
theorem Tab.grown (h : Tab w) {row : Option Nat} (hb : w.grownBy w1 row) (hn : some 0 ≠ row) : Tab w1 := by
  intro i hi
  exact hb.cell (h i hi) hn
theorem Tab.below (h : Tab w) (hb : Below w.heap.size w w1) : Tab w1 := by
  intro i hi
  exact (hb.cell (World.block_lt_of_cell? _ _ (h i hi))).trans (h i hi)
theorem Tab.lt (h : Tab w) : 0 < w.heap.size := World.block_lt_of_cell? _ _ (h 0 (by omega))
end
theorem grown_drew {a w : World} {row : Option Nat} (h : a.grownBy w row) : a.grownBy w.drew row := ⟨h.os, h.tape, h.output, h.size, h.block⟩
theorem grown_refl (a : World) (row : Option Nat) : a.grownBy a row := ⟨rfl, rfl, rfl, Nat.le_refl _, fun _ _ _ => rfl⟩
set_option maxHeartbeats 1000000 in
theorem add_any (b : Nat) (l : List Int) (tot x : Int) (w : World) (h : Fed b l tot w) (ht : Tab w) (hbg : 0 < b) :
    Calls Tryd.prog 42 #[.pointer (some ⟨b, 0, none⟩), .int .u8 x] w fun e w' => e = .returned (.tuple #[]) ∧ Fed b (l ++ [x]) tot w' ∧ w.grownBy w' (some b) := by
  obtain ⟨blk, hH, hblk⟩ := h.out
  have HB := Lib.hid hblk; clear hblk h
  obtain ⟨f, hf⟩ : ∃ f, l.length % 64 = f := ⟨_, rfl⟩
  rw [hf] at hH HB
  have hf64 : f < 64 := by omega
  have HF := Lib.hid hf; clear hf
  have c1 := hH.cF
  have c2 := hH.cB f hf64
  have f1 := hH.f (8 + f)
  have f2 := hH.f 72
  have HH := Lib.hid hH; clear hH
  have HT := Lib.hid ht; clear ht
  have n64 : (f : Int) < 64 := by omega
  have n0 : (0 : Int) ≤ (f : Int) := by omega
  have hgb : some 0 ≠ some b := by intro e; have := Option.some.inj e; omega
  have hlen : (l ++ [x]).length = l.length + 1 := by simp
  have HLEN := Lib.hid hlen; clear hlen
  by_cases h63 : f = 63
  · have heq : (((f : Int) + 1) == 64) = true := by rw [beq_iff_eq]; omega
    have hG : w.grownBy ((w.setCell ⟨b, 8 + f, none⟩ (.int .u8 x)).setCell ⟨b, 72, none⟩ (.int .i64 ((f : Int) + 1))).drew (some b) := grown_drew (Lib.grownBy_setB (Lib.grownBy_setCell _ _ _ _) _ _)
    have hT2 := HT.out.grown hG hgb
    have HT2 := Lib.hid hT2; clear hT2
    have hH3 := ((HH.out.setB f hf64 x).setF ((f : Int) + 1)).drew
    have HH3 := Lib.hid hH3; clear hH3
    have HG := Lib.hid hG; clear hG
    have H63 := Lib.hid h63; clear h63
    go_enter Tryd.func42, Tryd.ntmps42
    go_wp2
    go_still_tail 9, (by kernel_rfl)
    change wpList _ _ _ _ _ w.drew
    go_wp2_with (go_at_call 47; go_loud (refine (mix_any b _ _ _ _ _ HH3.out HT2.out).mono ?_; rintro e w1 ⟨rfl, h1, hg⟩; have k1 := h1.cF; have k2 := h1.f 72; have H1 := Lib.hid h1; clear h1))
    go_end0
    refine ⟨rfl, ⟨blk.set f x, ?_, ?_⟩, ?_⟩
    · have h := H1.out.setF 0
      have e1 : (l ++ [x]).length / 64 = l.length / 64 + 1 := by rw [HLEN.out]; have := HF.out; have := H63.out; omega
      have e2 : (l ++ [x]).length % 64 = 0 := by rw [HLEN.out]; have := HF.out; have := H63.out; omega
      have e3 : blk.set f x = blockAt (l ++ [x]) (64 * (l.length / 64)) := by
        have hb64 := HH.out.blk64
        have hbl : (blockAt (l ++ [x]) (64 * (l.length / 64))).length = 64 := by unfold blockAt; rw [List.length_take, List.length_drop, HLEN.out]; have := HF.out; have := H63.out; omega
        refine list_eq_of_rdN _ _ (by rw [List.length_set, hb64, hbl]) fun j hj => ?_
        rw [List.length_set, hb64] at hj
        rw [rd_blockAt _ _ _ hj]
        by_cases hjf : f = j
        · subst hjf
          rw [rdN_set_eq _ _ _ (by omega)]
          have : 64 * (l.length / 64) + f = l.length := by have := HF.out; omega
          rw [this, rdN_app_at]
        · rw [rdN_set_ne _ _ _ _ hjf, HB.out j (by have := H63.out; omega), rdN_app_lt _ _ _ (by have := HF.out; have := H63.out; omega)]
      rw [e1, e2, stateP, stateP_app l [x] _ (by omega), ← e3]
      exact h
    · intro j hj
      have e2 : (l ++ [x]).length % 64 = 0 := by rw [HLEN.out]; have := HF.out; have := H63.out; omega
      omega
    · exact Lib.grownBy_setB (Lib.grownBy_trans HG.out hg) _ _
  · have hne : (((f : Int) + 1) == 64) = false := by rw [beq_eq_false_iff_ne]; omega
    go_enter Tryd.func42, Tryd.ntmps42
    go_wp2
    go_still_tail 9, (by kernel_rfl)
    change wpList _ _ _ _ _ w.drew
    go_wp2
    go_end0
    refine ⟨rfl, ⟨blk.set f x, ?_, ?_⟩, ?_⟩
    · have h := ((HH.out.setB f hf64 x).setF ((f : Int) + 1)).drew
      have e1 : (l ++ [x]).length / 64 = l.length / 64 := by rw [HLEN.out]; have := HF.out; omega
      have e2 : (((l ++ [x]).length % 64 : Nat) : Int) = (f : Int) + 1 := by rw [HLEN.out]; have := HF.out; omega
      rw [e1, e2, stateP_app l [x] _ (by omega)]
      exact h
    · intro j hj
      have e1 : (l ++ [x]).length / 64 = l.length / 64 := by rw [HLEN.out]; have := HF.out; omega
      have hj' : j < f + 1 := by rw [HLEN.out] at hj; have := HF.out; omega
      have hb64 := HH.out.blk64
      rw [e1]
      by_cases hjf : f = j
      · subst hjf
        rw [rdN_set_eq _ _ _ (by omega)]
        have : 64 * (l.length / 64) + f = l.length := by have := HF.out; omega
        rw [this, rdN_app_at]
      · rw [rdN_set_ne _ _ _ _ hjf, HB.out j (by omega), rdN_app_lt _ _ _ (by have := HF.out; omega)]
    · exact grown_drew (Lib.grownBy_setB (Lib.grownBy_setCell _ _ _ _) _ _)
end Go.Proofs.YtmfejehhfmaodaaDoor.Z
