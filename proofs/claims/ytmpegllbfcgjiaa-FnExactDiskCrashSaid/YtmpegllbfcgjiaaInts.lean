/- Copies and comparisons of lists of whole numbers. -/
import Derived.Test.YtmpegllbfcgjiaaBase
import Derived.Test.YtmpegllbfcgjiaaOwn
namespace Go.Proofs.Ytmpegllbfcgjiaa
open Go.RowKit
set_option linter.unusedVariables false
set_option linter.unusedSimpArgs false
def ics (l : List Int) : List Value := l.map (Value.int .i64)
theorem ics_get (l : List Int) (k : Nat) (h : k < l.length) : (ics l)[k]? = some (.int .i64 (l.getD k 0)) := by simp [ics, h]
theorem take_drop_set {α : Type} (xs ys : List α) (k : Nat) (h : k < xs.length) (hy : ys.length = xs.length) (u : α) (hu : xs[k]? = some u) : (xs.take k ++ ys.drop k).set k u = xs.take (k + 1) ++ ys.drop (k + 1) := by
  apply List.ext_getElem?
  intro j
  have e : u = xs[k] := by rw [List.getElem?_eq_getElem h] at hu; exact (Option.some.inj hu).symm
  by_cases hj : j = k
  · subst hj
    rw [List.getElem?_set_self (by simp; omega), List.getElem?_append_left (by simp; omega), List.getElem?_take]
    simp [hu]
  · rw [List.getElem?_set_ne (fun e => hj e.symm)]
    by_cases hlt : j < k
    · rw [List.getElem?_append_left (by simp; omega), List.getElem?_append_left (by simp; omega), List.getElem?_take, List.getElem?_take, if_pos hlt, if_pos (by omega)]
    · rw [List.getElem?_append_right (by simp; omega), List.getElem?_append_right (by simp; omega), List.getElem?_drop, List.getElem?_drop]
      simp only [List.length_take]
      congr 1
      omega
theorem infoInt : (Try.prog.info? 3).map (fun i => (i.zero, i.size, i.bytes)) = some (some (.int .i64 0), 1, 8) := by kernel_rfl
set_option maxHeartbeats 400000 in
theorem toIntS_any (v : Value) (l : List Int) (w : World) (h : Rd w 1 v l.length (ics l)) (hl : l.length ≤ 4294967296) :
    Calls Try.prog 18 #[v] w fun e w' => ∃ v', e = .returned v' ∧ Own w' w.heap.size 1 v' l.length (ics l) ∧ Below w.heap.size w w' := by
  obtain ⟨hlen, A, c, rfl, hc, hcell⟩ := h
  go_enter Try.func18, Try.ntmps18
  go_wp2_with ((with_reducible refine gate_dst (N := 7) rfl ?_); refine wpList_make w.heap.size rfl _ _ 36 3 rfl Try.underlying36 (.int .i64 0) 1 8 infoInt l.length rfl rfl (by omega) (by unfold maxLen; omega) (Nat.le_refl _) ?_; rintro g w1 hg hown hb)
  go_loopw [4] (fun i wr => ∃ k : Nat, k ≤ l.length ∧ i = .int .i64 k ∧ Own wr w.heap.size 1 (.slice (some ⟨g, 0, none⟩) l.length l.length) l.length ((ics l).take k ++ (madeCells (Value.int .i64 0).cells (l.length * 1)).toList.drop k) ∧ Below w.heap.size w wr) (fun i _ => l.length - (intOf i).toNat)
  case atStart => exact ⟨0, Nat.zero_le _, rfl, by simpa using hown, hb⟩
  case round =>
    obtain ⟨k, hk, rfl, hO, hB⟩ := hrel
    by_cases hlt : k < l.length
    · obtain ⟨b, off, rfl, hbl, hcells⟩ := hcell (by omega)
      obtain ⟨x, hx⟩ : ∃ x, (ics l)[k]? = some (.int .i64 x) := ⟨_, ics_get l k hlt⟩
      have hr1 : wr.cell? ⟨b, off + k, none⟩ = some (.int .i64 x) := by
        rw [hB.cell (p := ⟨b, off + k, none⟩) hbl, hcells k (by omega), hx]
      obtain ⟨u0, ho2, ho3⟩ := hO.slot k (by omega)
      have hst := hO.store k (by omega) (.int .i64 x)
      rw [take_drop_set _ _ k (by simpa [ics] using hlt) (by simp [ics, size_madeCells]) _ hx] at hst
      clear hx
      have HS := Lib.hid hst; clear hst
      clear hcells hcell
      go_wp2
      go_roundw
      case rel => exact ⟨k + 1, by omega, by go_num, HS.out, hB.setCell (by exact hg) _⟩
      case measure => simp [intOf]; omega
    · go_wp2
      go_ret
      have e : k = l.length := by omega
      subst e
      refine ⟨.slice (some ⟨g, 0, none⟩) l.length l.length, rfl, ?_, hB⟩
      rw [List.take_of_length_le (by simp [ics]), List.drop_of_length_le (by simp [size_madeCells]), List.append_nil] at hO
      exact hO
set_option maxHeartbeats 400000 in
theorem eqIntS_any (v1 v2 : Value) (l : List Int) (w : World) (h1 : Rd w 1 v1 l.length (ics l)) (h2 : Rd w 1 v2 l.length (ics l)) (hl : l.length ≤ 4294967296) :
    Calls Try.prog 20 #[v1, v2] w fun e w' => e = .returned (.bool true) ∧ Below w.heap.size w w' := by
  obtain ⟨hlen, A, c, rfl, hc, hcell⟩ := h1
  obtain ⟨hlen2, A2, c2, rfl, hc2, hcell2⟩ := h2
  go_enter Try.func20, Try.ntmps20
  go_wp2
  go_loopw [5] (fun i wr => ∃ k : Nat, k ≤ l.length ∧ i = .int .i64 k ∧ Below w.heap.size w wr) (fun i _ => l.length - (intOf i).toNat)
  case atStart => exact ⟨0, Nat.zero_le _, rfl, Below.refl _ _⟩
  case round =>
    obtain ⟨k, hk, rfl, hB⟩ := hrel
    by_cases hlt : k < l.length
    · obtain ⟨b, off, rfl, hbl, hcells⟩ := hcell (by omega)
      obtain ⟨b2, off2, rfl, hbl2, hcells2⟩ := hcell2 (by omega)
      obtain ⟨x, hx⟩ : ∃ x, (ics l)[k]? = some (.int .i64 x) := ⟨_, ics_get l k hlt⟩
      have hr1 : wr.cell? ⟨b, off + k, none⟩ = some (.int .i64 x) := by
        rw [hB.cell (p := ⟨b, off + k, none⟩) hbl, hcells k (by omega), hx]
      have hr2 : wr.cell? ⟨b2, off2 + k, none⟩ = some (.int .i64 x) := by
        rw [hB.cell (p := ⟨b2, off2 + k, none⟩) hbl2, hcells2 k (by omega), hx]
      clear hcells hcell hcells2 hcell2 hx
      go_wp2
      go_region
      go_wp2
      go_roundw
      case rel => exact ⟨k + 1, by omega, by go_num, hB.drew⟩
      case measure => simp [intOf]; omega
    · go_wp2
      go_ret
      exact ⟨rfl, hB⟩
end Go.Proofs.Ytmpegllbfcgjiaa
