/- The program's hasher. -/
import Derived.Test.YtmfejehhfmaodaaDoorShaV
import Derived.Lib.BufferOwn
import Derived.Lib.BufferWrite
import Derived.Laws.Rows
namespace Go.Proofs.YtmfejehhfmaodaaDoor.Z
open Go.RowKit Go.Proofs.YtmfejehhfmaodaaDoor Go.Proofs.YtmfejehhfmaodaaDoorW.PrintWords Go.Proofs.YtmfejehhfmaodaaDoorW.PrintLast
set_option linter.unusedVariables false
set_option linter.unusedSimpArgs false
def hCells (st blk : List Int) (fill tot : Int) : List Value := st.map (.int .u32) ++ blk.map (.int .u8) ++ [.int .i64 fill, .int .u64 tot]
/-- Block b is a hasher. -/
structure Hsh (b : Nat) (st blk : List Int) (fill tot : Int) (w : World) : Prop where
  heap : w.heap[b]? = some (.cells (hCells st blk fill tot).toArray 69 (0, 0))
  st8 : st.length = 8
  blk64 : blk.length = 64
section
variable {b : Nat} {st blk : List Int} {fill tot : Int} {w w1 : World}
theorem Hsh.lt (h : Hsh b st blk fill tot w) : b < w.heap.size := lt_of_block h.heap
theorem Hsh.f (h : Hsh b st blk fill tot w) (i : Nat) : w.frozen? ⟨b, i, none⟩ = false := frozen_of_row _ _ _ _ _ h.heap
theorem hCells_length (st blk : List Int) (fill tot : Int) : (hCells st blk fill tot).length = st.length + blk.length + 2 := by simp [hCells]; omega
theorem Hsh.cS (h : Hsh b st blk fill tot w) (i : Nat) (hi : i < 8) : w.cell? ⟨b, i, none⟩ = some (.int .u32 (rdN st i)) := by
  rw [cell_of_row _ _ _ _ _ _ h.heap]
  have h8 := h.st8
  simp only [List.getElem?_toArray, hCells]
  rw [List.append_assoc, List.getElem?_append_left (by simp; omega)]
  simp [rdN, List.getD_eq_getElem?_getD, h8, hi]
theorem Hsh.cB (h : Hsh b st blk fill tot w) (j : Nat) (hj : j < 64) : w.cell? ⟨b, 8 + j, none⟩ = some (.int .u8 (rdN blk j)) := by
  rw [cell_of_row _ _ _ _ _ _ h.heap]
  have h8 := h.st8
  have h64 := h.blk64
  simp only [List.getElem?_toArray, hCells]
  rw [List.append_assoc, List.getElem?_append_right (by simp; omega), List.getElem?_append_left (by simp; omega)]
  simp [rdN, List.getD_eq_getElem?_getD, h8, h64, hj]
theorem Hsh.cF (h : Hsh b st blk fill tot w) : w.cell? ⟨b, 72, none⟩ = some (.int .i64 fill) := by
  rw [cell_of_row _ _ _ _ _ _ h.heap]
  have h8 := h.st8
  have h64 := h.blk64
  simp only [List.getElem?_toArray, hCells]
  rw [List.getElem?_append_right (by simp; omega)]
  simp [h8, h64]
theorem Hsh.cT (h : Hsh b st blk fill tot w) : w.cell? ⟨b, 73, none⟩ = some (.int .u64 tot) := by
  rw [cell_of_row _ _ _ _ _ _ h.heap]
  have h8 := h.st8
  have h64 := h.blk64
  simp only [List.getElem?_toArray, hCells]
  rw [List.getElem?_append_right (by simp; omega)]
  simp [h8, h64]
theorem hset {cs ds : List Value} {T : TypeId} {i : Nat} {v : Value} (h : w.heap[b]? = some (.cells cs.toArray T (0, 0))) (he : cs.set i v = ds) :
    (w.setCell ⟨b, i, none⟩ v).heap[b]? = some (.cells ds.toArray T (0, 0)) := by
  have := heap_setCell_same w b i cs.toArray T v h
  rw [this, ← he]
  simp
theorem Hsh.setS (h : Hsh b st blk fill tot w) (i : Nat) (hi : i < 8) (x : Int) : Hsh b (st.set i x) blk fill tot (w.setCell ⟨b, i, none⟩ (.int .u32 x)) := by
  have h8 := h.st8
  refine ⟨hset h.heap ?_, by rw [List.length_set]; exact h8, h.blk64⟩
  simp only [hCells]
  rw [List.append_assoc, List.set_append_left _ _ (by simp; omega), ← List.map_set, List.append_assoc]
theorem Hsh.setB (h : Hsh b st blk fill tot w) (j : Nat) (hj : j < 64) (x : Int) : Hsh b st (blk.set j x) fill tot (w.setCell ⟨b, 8 + j, none⟩ (.int .u8 x)) := by
  have h8 := h.st8
  have h64 := h.blk64
  refine ⟨hset h.heap ?_, h8, by rw [List.length_set]; exact h64⟩
  simp only [hCells]
  rw [List.append_assoc, List.set_append_right _ _ (by simp; omega), List.set_append_left _ _ (by simp; omega), ← List.map_set, List.append_assoc]
  simp [h8]
theorem Hsh.setF (h : Hsh b st blk fill tot w) (x : Int) : Hsh b st blk x tot (w.setCell ⟨b, 72, none⟩ (.int .i64 x)) := by
  have h8 := h.st8
  have h64 := h.blk64
  refine ⟨hset h.heap ?_, h8, h64⟩
  simp only [hCells]
  rw [List.set_append_right _ _ (by simp; omega)]
  simp [h8, h64]
theorem Hsh.setT (h : Hsh b st blk fill tot w) (x : Int) : Hsh b st blk fill x (w.setCell ⟨b, 73, none⟩ (.int .u64 x)) := by
  have h8 := h.st8
  have h64 := h.blk64
  refine ⟨hset h.heap ?_, h8, h64⟩
  simp only [hCells]
  rw [List.set_append_right _ _ (by simp; omega)]
  simp [h8, h64]
theorem Hsh.keep (h : Hsh b st blk fill tot w) (hb : w1.heap[b]? = w.heap[b]?) : Hsh b st blk fill tot w1 := ⟨hb.trans h.heap, h.st8, h.blk64⟩
theorem Hsh.below (h : Hsh b st blk fill tot w) (hb : Below w.heap.size w w1) : Hsh b st blk fill tot w1 := h.keep (hb.block b h.lt)
theorem Hsh.grown (h : Hsh b st blk fill tot w) {row : Option Nat} (hb : w.grownBy w1 row) (hn : some b ≠ row) : Hsh b st blk fill tot w1 := h.keep (hb.block b h.lt hn)
theorem Hsh.drew (h : Hsh b st blk fill tot w) : Hsh b st blk fill tot w.drew := h.keep rfl
theorem Hsh.alloc (h : Hsh b st blk fill tot w) (o : Obj) : Hsh b st blk fill tot (w.alloc o) := h.keep (Below.heap_alloc _ _ _ h.lt)
theorem Hsh.setOther (h : Hsh b st blk fill tot w) (a : Addr) (v : Value) (hn : b ≠ a.block) : Hsh b st blk fill tot (w.setCell a v) := h.keep (heap_setCell_other _ _ _ _ hn)
end
set_option maxRecDepth 100000 in
set_option maxHeartbeats 1000000 in
theorem newHasher_any (w : World) : Calls Tryd.prog 31 #[] w fun e w' => e = .returned (.pointer (some ⟨w.heap.size, 0, none⟩)) ∧ Hsh w.heap.size h0P (List.replicate 64 0) 0 0 w' ∧ w.heap.size < w'.heap.size ∧ Below w.heap.size w w' := by
  have hz : ∀ w : World, Sem.run Tryd.prog (zeroValue 69) w = .ok (.agg #[.int .u32 0, .int .u32 0, .int .u32 0, .int .u32 0, .int .u32 0, .int .u32 0, .int .u32 0, .int .u32 0, .int .u8 0, .int .u8 0, .int .u8 0, .int .u8 0, .int .u8 0, .int .u8 0, .int .u8 0, .int .u8 0, .int .u8 0, .int .u8 0, .int .u8 0, .int .u8 0, .int .u8 0, .int .u8 0, .int .u8 0, .int .u8 0, .int .u8 0, .int .u8 0, .int .u8 0, .int .u8 0, .int .u8 0, .int .u8 0, .int .u8 0, .int .u8 0, .int .u8 0, .int .u8 0, .int .u8 0, .int .u8 0, .int .u8 0, .int .u8 0, .int .u8 0, .int .u8 0, .int .u8 0, .int .u8 0, .int .u8 0, .int .u8 0, .int .u8 0, .int .u8 0, .int .u8 0, .int .u8 0, .int .u8 0, .int .u8 0, .int .u8 0, .int .u8 0, .int .u8 0, .int .u8 0, .int .u8 0, .int .u8 0, .int .u8 0, .int .u8 0, .int .u8 0, .int .u8 0, .int .u8 0, .int .u8 0, .int .u8 0, .int .u8 0, .int .u8 0, .int .u8 0, .int .u8 0, .int .u8 0, .int .u8 0, .int .u8 0, .int .u8 0, .int .u8 0, .int .i64 0, .int .u64 0]) w := fun _ => by kernel_rfl
  go_enter Tryd.func31, Tryd.ntmps31
  go_wp2
  go_ret
  refine ⟨rfl, ⟨?_, rfl, by simp⟩, by simp, by (repeat' (first | exact Below.refl _ _ | (with_reducible assumption) | (with_reducible refine Below.setCell ?_ (by first | (simp; done) | (simp; omega)) _) | refine below_then ?_ (by assumption) | (with_reducible refine below_new2 ?_ _) | (with_reducible refine Below.drew ?_) | (with_reducible refine bdrewN ?_ _)))⟩
  exact (heap_alloc_new _ _).trans rfl
end Go.Proofs.YtmfejehhfmaodaaDoor.Z
