/- Own texts and the print's words that they use, joined by a program of this session. -/
import Derived.Test.YtmfejehhfmaodabDoorYFnExactPoolFind24
import Derived.Test.YtmfejehhfmaodabDoorYFnExactPoolFind25
import Derived.Lib.BufferWrite
import Derived.Deep.RegionHeld3
import Derived.Test.YtmfejehhfmaodabDoorYFnExactPoolFind21
section
namespace Go.Proofs.YtmfejehhfmaodabDoor.Z
open Go.RowKit Go.Proofs.YtmfejehhfmaodabDoor Go.Proofs.YtmfejehhfmaodabDoorW.PrintWords Go.Proofs.YtmfejehhfmaodabDoorW.PrintLast
set_option linter.unusedVariables false
set_option linter.unusedSimpArgs false
set_option maxRecDepth 100000
theorem idxAdd_any (base b m : Nat) (v : Value) (W : Int) (encs : List ByteArray) (C : List (List Int)) (c : List Int) (s : ByteArray) (w : World) (h : Idx base b m v W encs C w) (hc : H32 c) (hn : encs.length ≤ 1073741824) (hbase : base ≤ w.heap.size) :
    Calls Tryd.prog 75 #[.pointer (some ⟨b, 0, none⟩), hashV c, .string s] w fun e w' => e = .returned (.tuple #[]) ∧ (∃ v', Idx base b m v' W (encs ++ [s]) (C ++ [c]) w') ∧ Below base w w' := by
  cases hi : firstAt C c with
  | none => exact idxAdd_new base b m v W encs C c s w h hc hi hn hbase
  | some i => exact idxAdd_old base b m v W encs C c s i w h hc hi hn hbase
theorem outB_mem (st : List Int) : ∀ n, ∀ x ∈ outB st n, 0 ≤ x ∧ x < 256
  | 0, x, hx => by simp [outB] at hx
  | n + 1, x, hx => by
    rw [outB] at hx
    rcases List.mem_append.1 hx with h | h
    · exact outB_mem st n x h
    · simp only [wordB, List.mem_cons, List.not_mem_nil, or_false] at h
      rcases h with rfl | rfl | rfl | rfl <;> omega
theorem shaL_mem (l : List UInt8) : ∀ x ∈ shaL l, 0 ≤ x ∧ x < 256 := outB_mem _ _
theorem cut_H32 (s : ByteArray) (n : Nat) (hn : n ≤ 32) : H32 (cutL s n) := by
  refine ⟨cutL_length s n hn, fun x hx => ?_⟩
  unfold cutL at hx
  rcases List.mem_append.1 hx with h | h
  · exact shaL_mem _ x (List.mem_of_mem_take h)
  · have := List.eq_of_mem_replicate h; omega
def cuts (n : Nat) (encs : List ByteArray) : List (List Int) := encs.map fun s => cutL s n
theorem strs_read {w : World} {A : Option Addr} {l : List ByteArray} (h : Kd.C Kd.string w A l.length l) (hn : 0 < l.length) : ∃ ad, A = some ad ∧ ∀ i (hi : i < l.length), w.cell? (ad.add i) = some (.string l[i]) := by
  obtain ⟨ad, e, hc⟩ := h.2.2 hn
  refine ⟨ad, e, fun i hi => ?_⟩
  obtain ⟨c, hs, hr, hcell⟩ := hc i _ (List.getElem?_eq_getElem hi)
  have : c = [.string l[i]] := hr
  subst this
  have := hcell 0 _ rfl
  simpa [Kd.string, Kd.scalar] using this
set_option maxHeartbeats 2000000 in
theorem index_any (n : Nat) (hn1 : 1 ≤ n) (hn2 : n ≤ 32) (A : Option Addr) (c0 : Nat) (encs : List ByteArray) (w : World) (hr : Kd.C Kd.string w A encs.length encs) (hc : encs.length ≤ c0) (hlen : encs.length ≤ 1048576) (hsz : ∀ s ∈ encs, s.size ≤ 1048576) (ht : Tab w) :
    Calls Tryd.prog 38 #[.agg #[.int .i64 n, .slice A encs.length c0]] w fun e w' => (∃ b m v, e = .returned (.pointer (some ⟨b, 0, none⟩)) ∧ Idx w.heap.size b m v n encs (cuts n encs) w') ∧ Below w.heap.size w w' := by
  have HT := Lib.hid ht; clear ht
  have HR := Lib.hid hr; clear hr
  have HS := Lib.hid hsz; clear hsz
  have hmm := @run_makeMap Tryd.prog
  have hw0 : (w.alloc (.cells #[.int .i64 (n : Int), .slice A encs.length c0] 30)).heap[w.heap.size]? = some (.cells #[.int .i64 (n : Int), .slice A encs.length c0] 30 (0, 0)) := heap_alloc_new _ _
  obtain ⟨W0, hW0⟩ : ∃ W0, W0 = w.alloc (.cells #[.int .i64 (n : Int), .slice A encs.length c0] 30) := ⟨_, rfl⟩
  have hz0 : W0.heap.size = w.heap.size + 1 := by rw [hW0]; simp
  have hB0 : Below w.heap.size w W0 := by rw [hW0]; exact (Below.refl _ _).alloc (Nat.le_refl _) _
  have HW0 := Lib.hid hw0; clear hw0
  have HZ0 := Lib.hid hz0; clear hz0
  have HB0 := Lib.hid hB0; clear hB0
  have HWE := Lib.hid hW0; clear hW0
  go_enter Tryd.func38, Tryd.ntmps38
  go_wp2_with fail
  go_loopw [14] (fun i wr => ∃ j : Nat, j ≤ encs.length ∧ i = .int .i64 j ∧ (∃ v, Idx (w.heap.size + 1) (w.heap.size + 1 + 1) (w.heap.size + 1) v n (encs.take j) (cuts n (encs.take j)) wr) ∧ Below (w.heap.size + 1) W0 wr) (fun i _ => encs.length - (intOf i).toNat)
  case atStart =>
    refine ⟨0, by omega, rfl, ⟨.slice none 0 0, ?_⟩, ?_⟩
    · rw [← HWE.out]
      have hz := HZ0.out
      refine ⟨?_, Own.nil _ _ _, ⟨.map [], ?_, PlaceIs.start⟩, by omega, by omega, by omega, by simp [Value.ownBlock], by simp [Value.ownBlock], rfl⟩
      · have h := heap_alloc_new (W0.alloc (.map #[] 0)) (.cells #[.int .i64 (n : Int), .slice none 0 0, .map (some (w.heap.size + 1))] 110)
        rw [show (W0.alloc (.map #[] 0)).heap.size = w.heap.size + 1 + 1 by simp [hz]] at h
        exact h
      · have h := World.ownsMap_made W0 Tryd.prog 85 (plainElem (H := Unit) Tryd.prog 3)
        rw [hz] at h
        exact h.alloc _
    · rw [← HWE.out]
      have hz := HZ0.out
      exact ((Below.refl _ _).alloc (by omega) _).alloc (by simp; omega) _
  case round =>
    obtain ⟨j, hj, rfl, ⟨v, hI⟩, hB⟩ := hrel
    have HI := Lib.hid hI; clear hI
    have HB := Lib.hid hB; clear hB
    have hrow : wr.heap[w.heap.size]? = some (.cells #[.int .i64 (n : Int), .slice A encs.length c0] 30 (0, 0)) := (HB.out.block _ (by omega)).trans (by rw [HWE.out]; exact HW0.out)
    have r0 : wr.cell? ⟨w.heap.size, 0, none⟩ = some (.int .i64 (n : Int)) := (cell_of_row _ _ _ _ _ _ hrow).trans rfl
    have hBw : Below w.heap.size w wr := HB0.out.trans (HB.out.mono (by omega))
    have HBw := Lib.hid hBw; clear hBw
    clear hrow
    by_cases hl : j < encs.length
    · obtain ⟨ad, rfl, had⟩ := strs_read HR.out (by omega)
      have hcell := cellB HBw.out (had j hl)
      have hs := HS.out encs[j] (List.getElem_mem _)
      obtain ⟨s, hse⟩ : ∃ s, encs[j] = s := ⟨_, rfl⟩
      rw [hse] at hcell hs
      have HSE := Lib.hid hse
      clear had hse
      have j0 : (0 : Int) ≤ (j : Int) := by omega
      go_wp2_with fail
      refine (cut_any s n hn1 hn2 (by omega) _ (HT.out.below HBw.out)).mono ?_
      rintro e w1 ⟨rfl, hb1⟩
      have HI1 := Lib.hid (HI.out.below hb1)
      have hz1 := Nat.le_trans HB.out.size hb1.size
      have hB1 : Below (w.heap.size + 1) W0 w1 := HB.out.trans (hb1.mono (by have := HB.out.size; have := HZ0.out; omega))
      have HB1 := Lib.hid hB1
      have hlt1 : (encs.take j).length ≤ 1073741824 := by rw [List.length_take]; omega
      have HLT := Lib.hid hlt1
      have HZ1 := Lib.hid hz1
      clear hcell hs r0 hb1 hz1 hB1 hlt1
      go_wp2_with fail
      refine (idxAdd_any _ _ _ _ _ _ _ _ s _ HI1.out (cut_H32 s n hn2) HLT.out (by have := HZ1.out; have := HZ0.out; omega)).mono ?_
      rintro e w2 ⟨rfl, ⟨v2, hI2⟩, hb2⟩
      have HI2 := Lib.hid hI2; clear hI2
      have HB2 := Lib.hid hb2; clear hb2
      go_wp2
      go_roundw
      case rel =>
        refine ⟨j + 1, by omega, by go_num, ⟨v2, ?_⟩, HB1.out.trans HB2.out⟩
        have h := HI2.out
        rw [List.take_succ_eq_append_getElem hl, HSE.out]
        unfold cuts at h ⊢
        rw [List.map_append]
        exact h
      case measure => simp [intOf]; omega
    · obtain rfl : j = encs.length := by omega
      rw [List.take_length] at HI
      go_wp2
      go_ret
      refine ⟨⟨w.heap.size + 1 + 1, w.heap.size + 1, v, rfl, ?_⟩, HBw.out⟩
      have h := HI.out
      exact { h with own := h.own.lower (by omega), hb := by omega, hm := by omega }
end Go.Proofs.YtmfejehhfmaodabDoor.Z
end
section
namespace Go.Proofs.YtmfejehhfmaodabDoor.Z
open Go.RowKit Go.Proofs.YtmfejehhfmaodabDoor Go.Proofs.YtmfejehhfmaodabDoorW.PrintWords Go.Proofs.YtmfejehhfmaodabDoorW.PrintLast
set_option linter.unusedVariables false
set_option linter.unusedSimpArgs false
set_option maxRecDepth 100000
theorem wpList_copyR {P : Program} {w : World} {ops : Array Oper} {rest : List Oper} {o : Oper} {a : Act} {Q : Exit → Act → World → Prop} (hgd : o.guard = none) (d s : Operand) (t t' : TypeId)
    (ho : o.op = .call { callee := .builtin .copy, args := #[d, s], argTypes := #[t, t'] }) {v u : Value} (hd : a.eval d = v) (hs : a.eval s = u) {v' : Value} {w' : World}
    (hr : (Builtin.copy_ #[t, t'] o.type #[v, u]).run P w = .ok v' w') (h : wpList P ops Q rest (a.put o.dst v') w') : wpList P ops Q (o :: rest) a w := by
  refine wpList_plain hgd fun K hK' => ?_
  unfold Oper.wp execOp
  simp only [ho, resolve, invoke, builtin, Sem.run_bind, Sem.run_pure, Result.andThen_ok, List.map_toArray, List.map_cons, List.map_nil, hd, hs, hr]
  exact hK' _ _ h
def rootL (s : ByteArray) : List Int := ints s.data.toList ++ List.replicate (32 - s.size) 0
theorem rootL_H32 (s : ByteArray) (h : s.size ≤ 32) : H32 (rootL s) := by
  have hl : s.data.toList.length = s.size := rfl
  refine ⟨by unfold rootL; rw [List.length_append, ints_length, hl, List.length_replicate]; omega, fun x hx => ?_⟩
  unfold rootL at hx
  rcases List.mem_append.1 hx with h | h
  · exact ints_mem _ x h
  · have := List.eq_of_mem_replicate h; omega
def findR (n : Nat) (encs : List ByteArray) (C : List (List Int)) (root : ByteArray) : ByteArray × ByteArray × ByteArray × ByteArray × Int :=
  match firstAt C (rootL root) with
  | none => (⟨#[]⟩, ⟨#[]⟩, ⟨#[]⟩, ⟨#[]⟩, 2)
  | some i => match decI (encs.getD i ⟨#[]⟩) n with
    | none => (⟨#[]⟩, ⟨#[]⟩, ⟨#[]⟩, ⟨#[]⟩, 3)
    | some (a, b, c, d) => (a, b, c, d, 0)
def findV (r : ByteArray × ByteArray × ByteArray × ByteArray × Int) : Value := .tuple #[.agg #[.string r.1, .string r.2.1, .string r.2.2.1, .string r.2.2.2.1], .int .i64 r.2.2.2.2]
theorem run_copyRoot (s : ByteArray) (hs : s.size ≤ 32) (g : Nat) (ty : TypeId) (W : World) (hg : W.heap[g]? = some (.cells (List.replicate 32 (Value.int .u8 0)).toArray 85 (0, 0))) :
    (Builtin.copy_ #[113, 9] ty #[.slice (some ⟨g, 0, none⟩) 32 32, .string s]).run Tryd.prog W = .ok (goInt s.size) (W.setRow g ((rootL s).map (Value.int .u8)).toArray) := by
  have h := Lib.run_copy_row_string (P := Tryd.prog) W 113 9 ty 5 g 0 32 32 s _ _ Tryd.underlying113 (by kernel_rfl) hg hs (by simp; omega)
  rw [h]
  have e : (List.take 0 (List.replicate 32 (Value.int .u8 0)).toArray.toList ++ Lib.byteCells s.data.toList ++ List.drop (0 + s.size) (List.replicate 32 (Value.int .u8 0)).toArray.toList) = (rootL s).map (Value.int .u8) := by
    rw [Nat.zero_add, List.take_zero, List.nil_append, List.drop_replicate]
    unfold rootL ints Lib.byteCells
    rw [List.map_append, List.map_map, List.map_replicate]
    rfl
  rw [e]
theorem held3B {u w1 : World} {p q r : Addr} {a b c : Value} (hb : Below u.heap.size u w1) (h : u.cell? p = some a ∧ u.cell? q = some b ∧ u.cell? r = some c) : w1.cell? p = some a ∧ w1.cell? q = some b ∧ w1.cell? r = some c := ⟨cellB hb h.1, cellB hb h.2.1, cellB hb h.2.2⟩
theorem findR_some (n : Nat) (encs : List ByteArray) (C : List (List Int)) (root : ByteArray) (i : Nat) (hi : firstAt C (rootL root) = some i) (k0 k1 k2 k3 : ByteArray) (ok : Bool) (hk : decT (decI (encs.getD i ⟨#[]⟩) n) = (k0, k1, k2, k3, ok)) :
    findR n encs C root = if ok = true then (k0, k1, k2, k3, 0) else (⟨#[]⟩, ⟨#[]⟩, ⟨#[]⟩, ⟨#[]⟩, 3) := by
  unfold findR
  rw [hi]
  dsimp only
  rcases hz : decI (encs.getD i ⟨#[]⟩) n with _ | ⟨a, b, c, d⟩
  all_goals
    rw [hz] at hk
    simp only [decT, Prod.mk.injEq] at hk
    obtain ⟨rfl, rfl, rfl, rfl, rfl⟩ := hk
    rfl
theorem held3I {u : World} {p q r : Addr} {a b c : Value} (h1 : u.cell? p = some a) (h2 : u.cell? q = some b) (h3 : u.cell? r = some c) : u.cell? p = some a ∧ u.cell? q = some b ∧ u.cell? r = some c := ⟨h1, h2, h3⟩
theorem held3D {u : World} {p q r : Addr} {a b c : Value} (h : u.cell? p = some a ∧ u.cell? q = some b ∧ u.cell? r = some c) : u.drew.cell? p = some a ∧ u.drew.cell? q = some b ∧ u.drew.cell? r = some c := h
theorem held3A {u : World} {p q r : Addr} {a b c : Value} (o : Obj) (h : u.cell? p = some a ∧ u.cell? q = some b ∧ u.cell? r = some c) : (u.alloc o).cell? p = some a ∧ (u.alloc o).cell? q = some b ∧ (u.alloc o).cell? r = some c := held3B ((Below.refl _ _).alloc (Nat.le_refl _) o) h
theorem held3S {u : World} {p q r : Addr} {a b c v0 v1 v2 v3 : Value} {g : Nat} (h : u.cell? p = some a ∧ u.cell? q = some b ∧ u.cell? r = some c) (hp : p.block < g) (hq : q.block < g) (hr : r.block < g) :
    ((((u.setCell ⟨g, 0, none⟩ v0).setCell ⟨g, 1, none⟩ v1).setCell ⟨g, 2, none⟩ v2).setCell ⟨g, 3, none⟩ v3).cell? p = some a ∧ ((((u.setCell ⟨g, 0, none⟩ v0).setCell ⟨g, 1, none⟩ v1).setCell ⟨g, 2, none⟩ v2).setCell ⟨g, 3, none⟩ v3).cell? q = some b ∧ ((((u.setCell ⟨g, 0, none⟩ v0).setCell ⟨g, 1, none⟩ v1).setCell ⟨g, 2, none⟩ v2).setCell ⟨g, 3, none⟩ v3).cell? r = some c := by
  have e : ∀ (u : World) (k : Nat) (v : Value) (p : Addr), p.block < g → (u.setCell ⟨g, k, none⟩ v).cell? p = u.cell? p := fun u k v p hp => World.cell?_setCell_other u _ _ v (fun e => by rw [← e] at hp; exact Nat.lt_irrefl _ hp)
  refine ⟨?_, ?_, ?_⟩
  · rw [e _ _ _ _ hp, e _ _ _ _ hp, e _ _ _ _ hp, e _ _ _ _ hp]; exact h.1
  · rw [e _ _ _ _ hq, e _ _ _ _ hq, e _ _ _ _ hq, e _ _ _ _ hq]; exact h.2.1
  · rw [e _ _ _ _ hr, e _ _ _ _ hr, e _ _ _ _ hr, e _ _ _ _ hr]; exact h.2.2
set_option maxHeartbeats 4000000 in
theorem find_any (base b m : Nat) (v : Value) (n : Nat) (encs : List ByteArray) (C : List (List Int)) (root : ByteArray) (w : World) (h : Idx base b m v n encs C w) (hroot : root.size ≤ 32) (hlen : encs.length ≤ 1073741824) :
    Calls Tryd.prog 39 #[.pointer (some ⟨b, 0, none⟩), .string root] w fun e w' => e = .returned (findV (findR n encs C root)) ∧ Below w.heap.size w w' := by
  obtain ⟨R, hR⟩ : ∃ R, findR n encs C root = R := ⟨_, rfl⟩
  rw [hR]
  have HRR := Lib.hid hR; clear hR
  obtain ⟨VA, VC, rfl⟩ := h.own.form
  have hlt := h.lt
  have HH := Lib.hid h
  have HRT := Lib.hid hroot
  clear h hroot
  go_enter Tryd.func39, Tryd.ntmps39
  go_upto_region 2 with fail
  obtain ⟨W1, hW1⟩ : ∃ W1, W1 = ((w.alloc (.cells #[.string ⟨#[]⟩, .string ⟨#[]⟩, .string ⟨#[]⟩, .string ⟨#[]⟩] 27)).alloc (.cells (List.replicate 32 (Value.int .u8 0)).toArray 85)) := ⟨_, rfl⟩
  have hz1 : W1.heap.size = w.heap.size + 2 := by rw [hW1]; simp
  have hn1 : W1.heap[w.heap.size]? = some (.cells #[.string ⟨#[]⟩, .string ⟨#[]⟩, .string ⟨#[]⟩, .string ⟨#[]⟩] 27 (0, 0)) := by rw [hW1]; exact heap_alloc2_old _ _ _
  have hh1 : W1.heap[w.heap.size + 1]? = some (.cells (List.replicate 32 (Value.int .u8 0)).toArray 85 (0, 0)) := by rw [hW1]; exact heap_alloc2_new _ _ _
  have hB1 : Below w.heap.size w W1 := by rw [hW1]; exact ((Below.refl _ _).alloc (Nat.le_refl _) _).alloc (by simp) _
  have hE : ((w.alloc (.cells #[.string ⟨#[]⟩, .string ⟨#[]⟩, .string ⟨#[]⟩, .string ⟨#[]⟩] 27)).alloc (.cells (List.replicate 32 (Value.int .u8 0)).toArray 85)) = W1 := hW1.symm
  rw [show (List.replicate 32 (Value.int .u8 0)).toArray = #[Value.int .u8 0, .int .u8 0, .int .u8 0, .int .u8 0, .int .u8 0, .int .u8 0, .int .u8 0, .int .u8 0, .int .u8 0, .int .u8 0, .int .u8 0, .int .u8 0, .int .u8 0, .int .u8 0, .int .u8 0, .int .u8 0, .int .u8 0, .int .u8 0, .int .u8 0, .int .u8 0, .int .u8 0, .int .u8 0, .int .u8 0, .int .u8 0, .int .u8 0, .int .u8 0, .int .u8 0, .int .u8 0, .int .u8 0, .int .u8 0, .int .u8 0, .int .u8 0] from rfl] at hE
  rw [hE]
  clear hE hW1
  have HCP := Lib.hid (run_copyRoot root HRT.out (w.heap.size + 1) 3 W1 hh1)
  have hh2 := setRow_heap _ _ _ ((rootL root).map (Value.int .u8)).toArray _ _ hh1
  have hn2 := (setRow_other W1 (w.heap.size + 1) w.heap.size ((rootL root).map (Value.int .u8)).toArray (by omega)).trans hn1
  have HX := Lib.hid (HH.out.below hB1)
  have hB2 : Below W1.heap.size W1 W1 := Below.refl _ _
  clear hn1 hh1
  go_upto_region 3 with (refine wpList_copyR rfl _ _ 113 9 rfl rfl rfl HCP.out ?_)
  obtain ⟨W2, hW2⟩ : ∃ W2, W2 = W1.setRow (w.heap.size + 1) ((rootL root).map (Value.int .u8)).toArray := ⟨_, rfl⟩
  have hz2 : W2.heap.size = w.heap.size + 2 := by rw [hW2, setRow_size]; exact hz1
  have hB2 : Below w.heap.size w W2 := by rw [hW2]; exact below_setRow hB1 (by omega) _
  rw [← hW2] at hh2 hn2 ⊢
  clear hW2 hB1 HX hz1 HCP
  have HB2 := Lib.hid hB2; clear hB2
  have HN2 := Lib.hid hn2; clear hn2
  have HZ2 := Lib.hid hz2; clear hz2
  have hX := HH.out.below HB2.out
  have H32R := Lib.hid (rootL_H32 root HRT.out)
  have h0 := hX.c0
  have h1 := hX.c1
  have h2 := hX.c2
  obtain ⟨D, hown, hpl⟩ := hX.map
  have HX := Lib.hid hX; clear hX
  have kl := fun n => hash_load (rootL root) H32R.out.1 (w.heap.size + 1) (W2.drewN n) hh2
  have kp := fun n => place_look (w := W2.drewN n) hown hpl (rootL root) H32R.out
  clear hown hpl hh2
  have hI4 : (Tryd.prog.info? 27).map (·.size) = some (#[Value.string ⟨#[]⟩, .string ⟨#[]⟩, .string ⟨#[]⟩, .string ⟨#[]⟩].size) := by kernel_rfl
  have HI4 := Lib.hid hI4; clear hI4
  have hsz4 : (#[Value.string ⟨#[]⟩, .string ⟨#[]⟩, .string ⟨#[]⟩, .string ⟨#[]⟩] : Array Value).size = (#[Value.string ⟨#[]⟩, .string ⟨#[]⟩, .string ⟨#[]⟩, .string ⟨#[]⟩] : Array Value).size := rfl
  have HS4 := Lib.hid hsz4; clear hsz4
  have h14 : (#[Value.string ⟨#[]⟩, .string ⟨#[]⟩, .string ⟨#[]⟩, .string ⟨#[]⟩] : Array Value).all (·.oneCell') = true := by simp [Value.oneCell']
  have H14 := Lib.hid h14; clear h14
  unfold hashV at kl kp
  cases hi : firstAt C (rootL root) with
  | none =>
    rw [hi] at kp
    have HI := Lib.hid hi; clear hi
    refine wp_region_quiet_lit (by kernel_rfl) (by kernel_rfl) ?_
    iterate 4 (quiet_step (fail))
    refine wpQuiet_load rfl 85 _ rfl _ _ rfl (fun w' ⟨n, hn⟩ => by subst hn; exact kl n) ?_
    repeat (quiet_step (fail))
    refine wpQuiet_nil ?_
    intro _ hw'
    obtain ⟨nq, hw''⟩ := hw'
    subst hw''
    clear kl kp h0 h1 h2
    have HN3 := Lib.hid (show (W2.drewN nq).heap[w.heap.size]? = _ from HN2.out)
    go_wp2_with (refine wpList_store_row rfl 27 _ _ rfl w.heap.size _ rfl rfl _ _ HN3.out HI4.out HS4.out H14.out ?_)
    refine bodyPost_ret (results_ct rfl _ _ w.heap.size 27 #[.string ⟨#[]⟩, .string ⟨#[]⟩, .string ⟨#[]⟩, .string ⟨#[]⟩] (0, 0) _ rfl (setRow_heap _ _ _ _ _ _ HN3.out) Tryd.underlying27 rfl HI4.out) rfl ⟨?_, ?_⟩
    · rw [← HRR.out]; unfold findR; rw [HI.out]; rfl
    exact below_setRow (bdrewN HB2.out nq) (Nat.le_refl _) _
  | some i =>
    rw [hi] at kp
    have hil : i < encs.length := by have := firstAt_lt _ _ _ hi; rw [HH.out.len] at this; exact this
    have HI := Lib.hid hi; clear hi
    refine wp_region_quiet_lit (by kernel_rfl) (by kernel_rfl) ?_
    iterate 4 (quiet_step (fail))
    refine wpQuiet_load rfl 85 _ rfl _ _ rfl (fun w' ⟨n, hn⟩ => by subst hn; exact kl n) ?_
    repeat (quiet_step (fail))
    refine wpQuiet_nil ?_
    intro _ hw'
    obtain ⟨nq, hw''⟩ := hw'
    subst hw''
    clear kl kp h0 h1 h2
    have HN3 := Lib.hid (show (W2.drewN nq).heap[w.heap.size]? = _ from HN2.out)
    obtain ⟨g, cap, hv, hg1, hg2, hg3, hg4, hg5⟩ := HX.out.own.at (by omega)
    simp only [Value.slice.injEq] at hv
    obtain ⟨rfl, _, rfl⟩ := hv
    have c2 := hg4 i (by omega)
    rw [strs, List.getElem?_map, List.getElem?_eq_getElem hil, Option.map_some] at c2
    obtain ⟨s, hs⟩ : ∃ s, encs[i] = s := ⟨_, rfl⟩
    have hgd : encs.getD i ⟨#[]⟩ = s := by rw [List.getD_eq_getElem?_getD, List.getElem?_eq_getElem hil]; exact hs
    rw [hs] at c2
    have HSS := Lib.hid hgd
    clear hs hgd hg4 hg5 hg3
    go_upto_region 6 with fail
    obtain ⟨W3, hW3⟩ : ∃ W3, W3 = W2.drewN nq := ⟨_, rfl⟩
    have e0 : W3.cell? ⟨b, 0, none⟩ = some (.int .i64 (n : Int)) := by rw [hW3]; exact HX.out.c0
    have e1 : W3.cell? ⟨b, 1, none⟩ = some (.slice (some ⟨g, 0, none⟩) encs.length VC) := by rw [hW3]; exact HX.out.c1
    have e2 : W3.cell? ⟨g, i, none⟩ = some (.string s) := by rw [hW3]; exact c2
    have HN3 : Hid (W3.heap[w.heap.size]? = some (.cells #[.string ⟨#[]⟩, .string ⟨#[]⟩, .string ⟨#[]⟩, .string ⟨#[]⟩] 27 (0, 0))) := Lib.hid (by rw [hW3]; exact HN2.out)
    have HB3 : Hid (Below w.heap.size w W3) := Lib.hid (by rw [hW3]; exact bdrewN HB2.out nq)
    have HZ3 : Hid (W3.heap.size = w.heap.size + 2) := Lib.hid (by rw [hW3]; exact HZ2.out)
    rw [← hW3]
    clear hW3 c2 HN2 HB2 HZ2 hg1 hg2
    have hb3 : b < W3.heap.size := by have := HZ3.out; omega
    have hgg : g < W3.heap.size := World.block_lt_of_cell? _ ⟨g, i, none⟩ e2
    have i0 : (0 : Int) ≤ (i : Int) := by omega
    have ii : (i : Int) < (encs.length : Int) := by omega
    obtain ⟨k0, k1, k2, k3, ok, hk⟩ : ∃ k0 k1 k2 k3 ok, nodeV (decI s n) = .tuple #[.agg #[.string k0, .string k1, .string k2, .string k3], .bool ok] ∧ decT (decI s n) = (k0, k1, k2, k3, ok) := by
      rcases decI s n with _ | ⟨a, b, c, d⟩
      · exact ⟨_, _, _, _, _, rfl, rfl⟩
      · exact ⟨_, _, _, _, _, rfl, rfl⟩
    have HK := Lib.hid hk.1
    have HK2 := Lib.hid hk.2
    clear hk
    have hI5 : (Tryd.prog.info? 27).map (·.size) = some (#[Value.string k0, .string k1, .string k2, .string k3].size) := by kernel_rfl
    have HI5 := Lib.hid hI5; clear hI5
    have hsz5 : (#[Value.string ⟨#[]⟩, .string ⟨#[]⟩, .string ⟨#[]⟩, .string ⟨#[]⟩] : Array Value).size = (#[Value.string k0, .string k1, .string k2, .string k3] : Array Value).size := rfl
    have HS5 := Lib.hid hsz5; clear hsz5
    have h15 : (#[Value.string k0, .string k1, .string k2, .string k3] : Array Value).all (·.oneCell') = true := by simp [Value.oneCell']
    have H15 := Lib.hid h15; clear h15
    go_region_held3 (fun w' => w'.cell? ⟨b, 0, none⟩ = some (.int .i64 (n : Int)) ∧ w'.cell? ⟨b, 1, none⟩ = some (.slice (some ⟨g, 0, none⟩) encs.length VC) ∧ w'.cell? ⟨g, i, none⟩ = some (.string s))
      (repeat' (first | (with_reducible assumption) | (with_reducible exact held3I e0 e1 e2) | (with_reducible refine held3D ?_) | (with_reducible refine held3A _ ?_) | ((with_reducible refine held3S ?_ ?_ ?_ ?_); rotate_left; (· show b < _; omega); (· show b < _; omega); (· show g < _; omega)) | (with_reducible refine held3B (by assumption) ?_)))
      (first | (go_at_call 77; refine (decodeNode_any s n _).mono ?_; rintro e wx ⟨rfl, hbx⟩; rw [HK.out]; obtain ⟨hcx, hfx⟩ := bcell hbx; have hzx := hbx.size; (try simp only [World.size_alloc, World.size_drew] at hcx); (try simp only [World.size_alloc, World.size_drew] at hfx); (try simp only [World.size_alloc, World.size_drew] at hzx)))
    · have hx2 : wx.heap[w.heap.size]? = some (.cells #[.string ⟨#[]⟩, .string ⟨#[]⟩, .string ⟨#[]⟩, .string ⟨#[]⟩] 27 (0, 0)) := (hbx.block w.heap.size (by show _ < W3.heap.size; have := HZ3.out; omega)).trans HN3.out
      have hwx : w.heap.size < wx.heap.size := by have := HZ3.out; omega
      have HF1 := Lib.hid (heap_alloc_new wx (.cells #[Value.string k0, .string k1, .string k2, .string k3] 27))
      have HF2 := Lib.hid ((heap_alloc_old wx (.cells #[Value.string k0, .string k1, .string k2, .string k3] 27) hwx).trans hx2)
      have HBF := Lib.hid ((HB3.out.trans (((Below.refl _ _).drew.trans hbx).mono (by show _ ≤ W3.heap.size; have := HZ3.out; omega))).alloc (Nat.le_of_lt hwx) (.cells #[Value.string k0, .string k1, .string k2, .string k3] 27))
      clear hx2 hcx hfx
      cases ok with
      | false =>
        go_wp2_with (refine wpList_store_row rfl 27 _ _ rfl w.heap.size _ rfl rfl _ _ HF2.out HI4.out rfl H14.out ?_)
        refine bodyPost_ret (results_ct rfl _ _ w.heap.size 27 #[.string ⟨#[]⟩, .string ⟨#[]⟩, .string ⟨#[]⟩, .string ⟨#[]⟩] (0, 0) _ rfl (setRow_heap _ _ _ _ _ _ HF2.out) Tryd.underlying27 rfl HI4.out) rfl ⟨?_, below_setRow HBF.out (Nat.le_refl _) _⟩
        rw [← HRR.out, findR_some n encs C root i HI.out k0 k1 k2 k3 false (by rw [HSS.out]; exact HK2.out)]; rfl
      | true =>
        go_wp2_with (first | refine wpList_load_row rfl 27 _ rfl wx.heap.size rfl _ _ _ _ HF1.out Tryd.underlying27 rfl HI5.out ?_ | refine wpList_store_row rfl 27 _ _ rfl w.heap.size _ rfl rfl _ _ HF2.out HI5.out rfl H15.out ?_)
        refine bodyPost_ret (results_ct rfl _ _ w.heap.size 27 #[.string k0, .string k1, .string k2, .string k3] (0, 0) _ rfl (setRow_heap _ _ _ _ _ _ HF2.out) Tryd.underlying27 rfl HI5.out) rfl ⟨?_, below_setRow HBF.out (Nat.le_refl _) _⟩
        rw [← HRR.out, findR_some n encs C root i HI.out k0 k1 k2 k3 true (by rw [HSS.out]; exact HK2.out)]; rfl
    · -- the variable is made first
      have hW : (W3.alloc (.cells #[.string ⟨#[]⟩, .string ⟨#[]⟩, .string ⟨#[]⟩, .string ⟨#[]⟩] 27)).drew.heap.size = W3.heap.size + 1 := by simp
      have hx1 : wx.heap[W3.heap.size]? = some (.cells #[.string ⟨#[]⟩, .string ⟨#[]⟩, .string ⟨#[]⟩, .string ⟨#[]⟩] 27 (0, 0)) := (hbx.block W3.heap.size (by rw [hW]; omega)).trans (heap_alloc_new W3 _)
      have hx2 : wx.heap[w.heap.size]? = some (.cells #[.string ⟨#[]⟩, .string ⟨#[]⟩, .string ⟨#[]⟩, .string ⟨#[]⟩] 27 (0, 0)) := (hbx.block w.heap.size (by rw [hW]; have := HZ3.out; omega)).trans ((heap_alloc_old W3 _ (by have := HZ3.out; omega)).trans HN3.out)
      have hf1 : ((((wx.setCell ⟨W3.heap.size, 0, none⟩ (.string k0)).setCell ⟨W3.heap.size, 1, none⟩ (.string k1)).setCell ⟨W3.heap.size, 2, none⟩ (.string k2)).setCell ⟨W3.heap.size, 3, none⟩ (.string k3)).heap[W3.heap.size]? = some (.cells #[.string k0, .string k1, .string k2, .string k3] 27 (0, 0)) :=
        blk_put (blk_put (blk_put (blk_put hx1 0 _ rfl) 1 _ rfl) 2 _ rfl) 3 _ rfl
      have hne : w.heap.size ≠ W3.heap.size := by have := HZ3.out; omega
      have hf2 : ((((wx.setCell ⟨W3.heap.size, 0, none⟩ (.string k0)).setCell ⟨W3.heap.size, 1, none⟩ (.string k1)).setCell ⟨W3.heap.size, 2, none⟩ (.string k2)).setCell ⟨W3.heap.size, 3, none⟩ (.string k3)).heap[w.heap.size]? = some (.cells #[.string ⟨#[]⟩, .string ⟨#[]⟩, .string ⟨#[]⟩, .string ⟨#[]⟩] 27 (0, 0)) := by
        rw [heap_setCell_other _ _ _ _ hne, heap_setCell_other _ _ _ _ hne, heap_setCell_other _ _ _ _ hne, heap_setCell_other _ _ _ _ hne]; exact hx2
      have hBx : Below w.heap.size w wx := HB3.out.trans ((((Below.refl _ _).alloc (Nat.le_refl _) _).drew.trans (hbx.mono (by rw [hW]; omega))).mono (by have := HZ3.out; omega))
      have hBf : Below w.heap.size w ((((wx.setCell ⟨W3.heap.size, 0, none⟩ (.string k0)).setCell ⟨W3.heap.size, 1, none⟩ (.string k1)).setCell ⟨W3.heap.size, 2, none⟩ (.string k2)).setCell ⟨W3.heap.size, 3, none⟩ (.string k3)) :=
        (((hBx.setCell (by show _ ≤ W3.heap.size; have := HZ3.out; omega) _).setCell (by show _ ≤ W3.heap.size; have := HZ3.out; omega) _).setCell (by show _ ≤ W3.heap.size; have := HZ3.out; omega) _).setCell (by show _ ≤ W3.heap.size; have := HZ3.out; omega) _
      have HF1 := Lib.hid hf1
      have HF2 := Lib.hid hf2
      have HBF := Lib.hid hBf
      clear hf1 hf2 hBf hBx hx1 hx2 hcx hfx
      cases ok with
      | false =>
        go_wp2_with (refine wpList_store_row rfl 27 _ _ rfl w.heap.size _ rfl rfl _ _ HF2.out HI4.out rfl H14.out ?_)
        refine bodyPost_ret (results_ct rfl _ _ w.heap.size 27 #[.string ⟨#[]⟩, .string ⟨#[]⟩, .string ⟨#[]⟩, .string ⟨#[]⟩] (0, 0) _ rfl (setRow_heap _ _ _ _ _ _ HF2.out) Tryd.underlying27 rfl HI4.out) rfl ⟨?_, below_setRow HBF.out (Nat.le_refl _) _⟩
        rw [← HRR.out, findR_some n encs C root i HI.out k0 k1 k2 k3 false (by rw [HSS.out]; exact HK2.out)]; rfl
      | true =>
        go_wp2_with (first | refine wpList_load_row rfl 27 _ rfl W3.heap.size rfl _ _ _ _ HF1.out Tryd.underlying27 rfl HI5.out ?_ | refine wpList_store_row rfl 27 _ _ rfl w.heap.size _ rfl rfl _ _ HF2.out HI5.out rfl H15.out ?_)
        refine bodyPost_ret (results_ct rfl _ _ w.heap.size 27 #[.string k0, .string k1, .string k2, .string k3] (0, 0) _ rfl (setRow_heap _ _ _ _ _ _ HF2.out) Tryd.underlying27 rfl HI5.out) rfl ⟨?_, below_setRow HBF.out (Nat.le_refl _) _⟩
        rw [← HRR.out, findR_some n encs C root i HI.out k0 k1 k2 k3 true (by rw [HSS.out]; exact HK2.out)]; rfl
end Go.Proofs.YtmfejehhfmaodabDoor.Z
end
section
namespace Go.Proofs.YtmfejehhfmaodabDoor.Z
open Go.RowKit Go.Proofs.YtmfejehhfmaodabDoor Go.Proofs.YtmfejehhfmaodabDoorW.PrintWords Go.Proofs.YtmfejehhfmaodabDoorW.PrintLast
set_option linter.unusedVariables false
set_option linter.unusedSimpArgs false
set_option maxRecDepth 100000
def small (l : List ByteArray) : Prop := l.length ≤ 1048576 ∧ ∀ s ∈ l, s.size ≤ 1048576
instance (l : List ByteArray) : Decidable (small l) := inferInstanceAs (Decidable (l.length ≤ 1048576 ∧ ∀ s ∈ l, s.size ≤ 1048576))
def poolOk (W : Int) (l : List ByteArray) : Bool := decide (1 ≤ W ∧ W ≤ 32 ∧ l.length ≤ 20000)
theorem poolOk_iff {W : Int} {l : List ByteArray} : poolOk W l = true ↔ 1 ≤ W ∧ W ≤ 32 ∧ l.length ≤ 20000 := by unfold poolOk; rw [decide_eq_true_eq]
theorem poolValid_f (W : Int) (l : List ByteArray) : impl_Pool_valid.f W l = some (poolOk W l) := by
  unfold impl_Pool_valid.f impl_isWidth.f poolOk
  by_cases h1 : W ≥ 1
  · rw [if_pos h1, Option.bind_some]
    by_cases h2 : W ≤ 32
    · rw [decide_eq_true h2, if_pos rfl]
      refine congrArg some ?_
      rw [decide_eq_decide]; omega
    · rw [decide_eq_false h2, if_neg (by decide), decide_eq_false (by omega)]
  · rw [if_neg h1, Option.bind_some, if_neg (by decide), decide_eq_false (by omega)]
def poolFindR (W : Int) (l : List ByteArray) (s : ByteArray) : ByteArray × ByteArray × ByteArray × ByteArray × Int :=
  if poolOk W l = true ∧ (s.size : Int) = W then findR W.toNat l (cuts W.toNat l) s else (⟨#[]⟩, ⟨#[]⟩, ⟨#[]⟩, ⟨#[]⟩, 1)
def impl_PoolFind.f (a0_0 : Int) (l0_1 : List ByteArray) (a1 : ByteArray) : Option (ByteArray × ByteArray × ByteArray × ByteArray × Int) := if small l0_1 then some (poolFindR a0_0 l0_1 a1) else none
set_option maxHeartbeats 2000000 in
theorem impl_PoolFind.calls (a0_0 : Int) (A0_1 : Option Addr) (c0_1 : Nat) (l0_1 : List ByteArray) (a1 r1 r2 r3 r4 : ByteArray) (r5 : Int) (w : World) (hr0_1 : Kd.C Kd.string w A0_1 l0_1.length l0_1) (hc0_1 : l0_1.length ≤ c0_1) (h : impl_PoolFind.f a0_0 l0_1 a1 = some (r1, r2, r3, r4, r5)) (hTab : Tab w := by exact Tab.below (by assumption) (by repeat (first | (with_reducible first | exact HB.out | apply below_alloc | apply pw_below_drewN | apply below_drew1 | refine below_set ?_ (Aside0.out (by assumption))) | exact HB.out))) :
    Calls Tryd.prog 12 #[.agg #[.int .i64 a0_0, .slice A0_1 l0_1.length c0_1], .string a1] w fun e w' => e = .returned (.tuple #[.agg #[.string r1, .string r2, .string r3, .string r4], .int .i64 r5]) ∧ Below w.heap.size w w' := by
  unfold impl_PoolFind.f at h
  split at h
  rotate_left
  · cases h
  rename_i hsm
  have h := Option.some.inj h
  have HSM := Lib.hid hsm; clear hsm
  have HT := Lib.hid hTab; clear hTab
  have HR := Lib.hid hr0_1; clear hr0_1
  obtain ⟨W1, hW1⟩ : ∃ W1, W1 = ((w.alloc (.cells #[.int .i64 a0_0, .slice A0_1 l0_1.length c0_1] 30)).alloc (.cells #[.string ⟨#[]⟩, .string ⟨#[]⟩, .string ⟨#[]⟩, .string ⟨#[]⟩] 27)) := ⟨_, rfl⟩
  have hz1 : W1.heap.size = w.heap.size + 2 := by rw [hW1]; simp
  have hp1 : W1.heap[w.heap.size]? = some (.cells #[.int .i64 a0_0, .slice A0_1 l0_1.length c0_1] 30 (0, 0)) := by rw [hW1]; exact heap_alloc2_old _ _ _
  have hn1 : W1.heap[w.heap.size + 1]? = some (.cells #[.string ⟨#[]⟩, .string ⟨#[]⟩, .string ⟨#[]⟩, .string ⟨#[]⟩] 27 (0, 0)) := by rw [hW1]; exact heap_alloc2_new _ _ _
  have hB1 : Below w.heap.size w W1 := by rw [hW1]; exact ((Below.refl _ _).alloc (Nat.le_refl _) _).alloc (by simp) _
  have HP1 := Lib.hid hp1
  have HN1 := Lib.hid hn1
  have HB1 := Lib.hid hB1
  have HZ1 := Lib.hid hz1
  have p0 : W1.cell? ⟨w.heap.size, 0, none⟩ = some (.int .i64 a0_0) := (cell_of_row _ _ _ _ _ _ hp1).trans rfl
  have p1 : W1.cell? ⟨w.heap.size, 1, none⟩ = some (.slice A0_1 l0_1.length c0_1) := (cell_of_row _ _ _ _ _ _ hp1).trans rfl
  have HIP : Hid ((Tryd.prog.info? 30).map (·.size) = some (#[Value.int .i64 a0_0, .slice A0_1 l0_1.length c0_1].size)) := Lib.hid (by kernel_rfl)
  have HI4 : Hid ((Tryd.prog.info? 27).map (·.size) = some (#[Value.string ⟨#[]⟩, .string ⟨#[]⟩, .string ⟨#[]⟩, .string ⟨#[]⟩].size)) := Lib.hid (by kernel_rfl)
  have HI5 : Hid ((Tryd.prog.info? 27).map (·.size) = some (#[Value.string r1, .string r2, .string r3, .string r4].size)) := Lib.hid (by kernel_rfl)
  have H14 : Hid ((#[Value.string ⟨#[]⟩, .string ⟨#[]⟩, .string ⟨#[]⟩, .string ⟨#[]⟩] : Array Value).all (·.oneCell') = true) := Lib.hid (by simp [Value.oneCell'])
  have H15 : Hid ((#[Value.string r1, .string r2, .string r3, .string r4] : Array Value).all (·.oneCell') = true) := Lib.hid (by simp [Value.oneCell'])
  have HRW := Lib.hid (Kd.C_below HR.out hB1)
  have HWE := Lib.hid hW1
  clear hp1 hn1 hB1 hz1 hW1
  go_enter Tryd.func12, Tryd.ntmps12
  go_upto_region 1 with fail
  rw [← HWE.out]
  by_cases hv : poolOk a0_0 l0_1 = true
  rotate_left
  · have hv := Bool.eq_false_iff.2 hv
    have h2 : poolFindR a0_0 l0_1 a1 = (⟨#[]⟩, ⟨#[]⟩, ⟨#[]⟩, ⟨#[]⟩, 1) := by unfold poolFindR; rw [if_neg (fun g => by rw [hv] at g; exact absurd g.1 (by decide))]
    rw [h2] at h
    simp only [Prod.mk.injEq] at h
    obtain ⟨rfl, rfl, rfl, rfl, rfl⟩ := h
    have HPV := Lib.hid (poolValid_f a0_0 l0_1)
    rw [hv] at HPV
    clear hv h2
    go_wp2_with (first | (go_at_call 37; refine (impl_Pool_valid.calls _ A0_1 c0_1 l0_1 _ _ HRW.out hc0_1 HPV.out).mono ?_; rintro e w2 ⟨rfl, hb2⟩; obtain ⟨hc2, hf2⟩ := bcell hb2; have hz2 := hb2.size; have q0 : w.heap.size < W1.heap.size := (by have := HZ1.out; omega); have q1 : w.heap.size + 1 < W1.heap.size := (by have := HZ1.out; omega); have HN2 := Lib.hid ((hb2.block _ q1).trans HN1.out); have HP2 := Lib.hid ((hb2.block _ q0).trans HP1.out); have HB2 := Lib.hid (HB1.out.trans (hb2.mono (Nat.le_of_lt q0))); have HTW := Lib.hid (HT.out.below HB2.out); have HRW2 := Lib.hid (Kd.C_below HR.out HB2.out); clear hb2) | refine wpList_store_row rfl 27 _ _ rfl (w.heap.size + 1) _ rfl rfl _ _ HN2.out HI4.out rfl H14.out ?_)
    refine bodyPost_ret (results_ct rfl _ _ (w.heap.size + 1) 27 #[.string ⟨#[]⟩, .string ⟨#[]⟩, .string ⟨#[]⟩, .string ⟨#[]⟩] (0, 0) _ rfl (setRow_heap _ _ _ _ _ _ HN2.out) Tryd.underlying27 rfl HI4.out) rfl ⟨rfl, below_setRow HB2.out (by omega) _⟩
  by_cases hs : (a1.size : Int) = a0_0
  rotate_left
  · have h2 : poolFindR a0_0 l0_1 a1 = (⟨#[]⟩, ⟨#[]⟩, ⟨#[]⟩, ⟨#[]⟩, 1) := by unfold poolFindR; rw [if_neg (fun g => hs g.2)]
    rw [h2] at h
    simp only [Prod.mk.injEq] at h
    obtain ⟨rfl, rfl, rfl, rfl, rfl⟩ := h
    have h0 : ((a1.size : Int) != a0_0) = true := bne_iff_ne.2 hs
    have HPV := Lib.hid (poolValid_f a0_0 l0_1)
    rw [hv] at HPV
    clear hv h2
    go_wp2_with (first | (go_at_call 37; refine (impl_Pool_valid.calls _ A0_1 c0_1 l0_1 _ _ HRW.out hc0_1 HPV.out).mono ?_; rintro e w2 ⟨rfl, hb2⟩; obtain ⟨hc2, hf2⟩ := bcell hb2; have hz2 := hb2.size; have q0 : w.heap.size < W1.heap.size := (by have := HZ1.out; omega); have q1 : w.heap.size + 1 < W1.heap.size := (by have := HZ1.out; omega); have HN2 := Lib.hid ((hb2.block _ q1).trans HN1.out); have HP2 := Lib.hid ((hb2.block _ q0).trans HP1.out); have HB2 := Lib.hid (HB1.out.trans (hb2.mono (Nat.le_of_lt q0))); have HTW := Lib.hid (HT.out.below HB2.out); have HRW2 := Lib.hid (Kd.C_below HR.out HB2.out); clear hb2) | refine wpList_store_row rfl 27 _ _ rfl (w.heap.size + 1) _ rfl rfl _ _ HN2.out HI4.out rfl H14.out ?_)
    refine bodyPost_ret (results_ct rfl _ _ (w.heap.size + 1) 27 #[.string ⟨#[]⟩, .string ⟨#[]⟩, .string ⟨#[]⟩, .string ⟨#[]⟩] (0, 0) _ rfl (setRow_heap _ _ _ _ _ _ HN2.out) Tryd.underlying27 rfl HI4.out) rfl ⟨rfl, below_setRow HB2.out (by omega) _⟩
  · have h2 : poolFindR a0_0 l0_1 a1 = findR a0_0.toNat l0_1 (cuts a0_0.toNat l0_1) a1 := by unfold poolFindR; rw [if_pos ⟨hv, hs⟩]
    rw [h2] at h
    have h1 := poolOk_iff.1 hv
    obtain ⟨n, hn⟩ : ∃ n : Nat, a0_0 = (n : Int) := ⟨a0_0.toNat, by omega⟩
    subst hn
    rw [Int.toNat_natCast] at h
    have h0 : ((a1.size : Int) != (n : Int)) = false := bne_eq_false_iff_eq.2 hs
    have hn1 : 1 ≤ n := by omega
    have hn2 : n ≤ 32 := by omega
    have hs32 : a1.size ≤ 32 := by omega
    have hl2 : l0_1.length ≤ 1073741824 := by omega
    have HPV := Lib.hid (poolValid_f (n : Int) l0_1)
    rw [hv] at HPV
    have HH := Lib.hid h
    clear hv h2 h hs h1
    go_wp2_with (first | (go_at_call 37; go_loud (refine (impl_Pool_valid.calls _ A0_1 c0_1 l0_1 _ _ HRW.out hc0_1 HPV.out).mono ?_; rintro e w2 ⟨rfl, hb2⟩; obtain ⟨hc2, hf2⟩ := bcell hb2; have hz2 := hb2.size; have q0 : w.heap.size < W1.heap.size := (by have := HZ1.out; omega); have q1 : w.heap.size + 1 < W1.heap.size := (by have := HZ1.out; omega); have HN2 := Lib.hid ((hb2.block _ q1).trans HN1.out); have HP2 := Lib.hid ((hb2.block _ q0).trans HP1.out); have HB2 := Lib.hid (HB1.out.trans (hb2.mono (Nat.le_of_lt q0))); have HTW := Lib.hid (HT.out.below HB2.out); have HRW2 := Lib.hid (Kd.C_below HR.out HB2.out); clear hb2)) | (go_at_call 38; go_loud (refine (index_any n hn1 hn2 A0_1 c0_1 l0_1 _ HRW2.out hc0_1 HSM.out.1 HSM.out.2 HTW.out).mono ?_; rintro e w3 ⟨⟨b, m, v, rfl, hI⟩, hb3⟩; have HI := Lib.hid hI; clear hI; have HN3 := Lib.hid ((hb3.block _ (by omega)).trans HN2.out); have HB3 := Lib.hid (HB2.out.trans (hb3.mono (by omega))); have hz3 := hb3.size; clear hb3)) | (go_at_call 39; go_loud (refine (find_any _ b m v n l0_1 _ a1 _ HI.out hs32 hl2).mono ?_; rintro e w4 ⟨rfl, hb4⟩; rw [HH.out]; unfold findV; dsimp only; have HN4 := Lib.hid ((hb4.block _ (by omega)).trans HN3.out); have HB4 := Lib.hid (HB3.out.trans (hb4.mono HB3.out.size)); clear hb4)) | refine wpList_store_row rfl 27 _ _ rfl (w.heap.size + 1) _ rfl rfl _ _ HN4.out HI5.out rfl H15.out ?_)
    refine bodyPost_ret (results_ct rfl _ _ (w.heap.size + 1) 27 #[.string r1, .string r2, .string r3, .string r4] (0, 0) _ rfl (setRow_heap _ _ _ _ _ _ HN4.out) Tryd.underlying27 rfl HI5.out) rfl ⟨rfl, below_setRow HB4.out (by omega) _⟩
end Go.Proofs.YtmfejehhfmaodabDoor.Z
end
section
namespace Go.Proofs.YtmfejehhfmaodabDoor.Z
open Go.RowKit Go.Proofs.YtmfejehhfmaodabDoorW.PrintWords Go.Proofs.YtmfejehhfmaodabDoorW.PrintLast Go.Proofs.YtmfejehhfmaodabDoorW.PrintMore
attribute [local go_sem] max2_int min2_int max_two min_two max_three min_three max_four min_four   -- for this text's walks alone
set_option linter.unusedVariables false
set_option linter.unusedSimpArgs false
def laws_eqNode.f (a0_0 : ByteArray) (a0_1 : ByteArray) (a0_2 : ByteArray) (a0_3 : ByteArray) (a1_0 : ByteArray) (a1_1 : ByteArray) (a1_2 : ByteArray) (a1_3 : ByteArray) : Option (Bool) := if a0_0.toList = a1_0.toList then (if a0_1.toList = a1_1.toList then (if a0_2.toList = a1_2.toList then (if a0_3.toList = a1_3.toList then (some true) else (some false)) else (some false)) else (some false)) else (some false)
set_option maxHeartbeats 8000000 in
set_option maxRecDepth 100000 in
theorem laws_eqNode.calls (a0_0 : ByteArray) (a0_1 : ByteArray) (a0_2 : ByteArray) (a0_3 : ByteArray) (a1_0 : ByteArray) (a1_1 : ByteArray) (a1_2 : ByteArray) (a1_3 : ByteArray) (r : Bool) (w : World) (h : laws_eqNode.f a0_0 a0_1 a0_2 a0_3 a1_0 a1_1 a1_2 a1_3 = some r) :
    Calls Tryd.prog 13 #[.agg #[.string a0_0, .string a0_1, .string a0_2, .string a0_3], .agg #[.string a1_0, .string a1_1, .string a1_2, .string a1_3]] w fun e w' => e = .returned (.bool r) ∧ Below w.heap.size w w' := by
  have hu27 := Tryd.underlying27
  have HB := Aside0.mk (Below.refl w.heap.size w)
  have H : (if a0_0.toList = a1_0.toList then (if a0_1.toList = a1_1.toList then (if a0_2.toList = a1_2.toList then (if a0_3.toList = a1_3.toList then (some true) else (some false)) else (some false)) else (some false)) else (some false)) = some r := h
  clear h
  by_cases c3 : a0_0.toList = a1_0.toList
  · rw [if_pos c3] at H
    have c3b0 : (a0_0.toList == a1_0.toList) = true := beq_iff_eq.mpr c3
    have c3b1 : (a0_0.toList != a1_0.toList) = false := bne_eq_false_iff_eq.mpr c3
    clear c3
    by_cases c4 : a0_1.toList = a1_1.toList
    · rw [if_pos c4] at H
      have c4b0 : (a0_1.toList == a1_1.toList) = true := beq_iff_eq.mpr c4
      have c4b1 : (a0_1.toList != a1_1.toList) = false := bne_eq_false_iff_eq.mpr c4
      clear c4
      by_cases c5 : a0_2.toList = a1_2.toList
      · rw [if_pos c5] at H
        have c5b0 : (a0_2.toList == a1_2.toList) = true := beq_iff_eq.mpr c5
        have c5b1 : (a0_2.toList != a1_2.toList) = false := bne_eq_false_iff_eq.mpr c5
        clear c5
        by_cases c6 : a0_3.toList = a1_3.toList
        · rw [if_pos c6] at H
          have c6b0 : (a0_3.toList == a1_3.toList) = true := beq_iff_eq.mpr c6
          have c6b1 : (a0_3.toList != a1_3.toList) = false := bne_eq_false_iff_eq.mpr c6
          clear c6
          obtain rfl := Option.some.inj H
          go_enter Tryd.func13, Tryd.ntmps13
          go_wp2_with (first | ((with_reducible refine gate_dst (N := 2) rfl ?_); refine box_event ?hg (N := 2) ?hd (cs := #[.string a0_0, .string a0_1, .string a0_2, .string a0_3]) (t := 27) ?hr ?_; (case hd => rfl); (case hg => rfl); (case hr => first | (go_simp; done) | (go_simp; rfl)); intro gb130001 hg w7 hbox hb; have n0_ := Aside0.mk (below_step (by repeat (first | (with_reducible first | exact HB.out | apply below_alloc | apply pw_below_drewN | apply below_drew1) | exact HB.out)) hb); have n1_ := Aside0.mk (hbox); have n2_ := Aside0.mk ((by rw [hg]; exact (below_size (by repeat (first | (with_reducible first | exact HB.out | apply below_alloc | apply pw_below_drewN | apply below_drew1) | exact HB.out))) : w.heap.size ≤ gb130001)); have n3_ := Aside0.mk ((by rw [hg]; exact (below_size (by repeat (first | (with_reducible first | exact HB.out | apply below_alloc | apply pw_below_drewN | apply below_drew1) | exact HB.out))) : w.heap.size ≤ gb130001)); clear HB; have HB := n0_; have BK130001 := n1_; have GW130001 := n2_; have GE130001 := n3_; clear n0_ n1_ n2_ n3_; clear hb hbox hg) | ((with_reducible refine gate_dst (N := 3) rfl ?_); refine box_event ?hg (N := 3) ?hd (cs := #[.string a1_0, .string a1_1, .string a1_2, .string a1_3]) (t := 27) ?hr ?_; (case hd => rfl); (case hg => rfl); (case hr => first | (go_simp; done) | (go_simp; rfl)); intro gb130002 hg w8 hbox hb; have n0_ := Aside0.mk (blk_below (g := gb130001) (o := .cells #[.string a0_0, .string a0_1, .string a0_2, .string a0_3] 27 (0, 0)) (by (with_reducible repeat (first | refine blk_drewN ?_ _ | refine blk_drew ?_ | refine blk_alloc ?_ _)); exact BK130001.out) hb); have n1_ := Aside0.mk (below_step (by repeat (first | (with_reducible first | exact HB.out | apply below_alloc | apply pw_below_drewN | apply below_drew1 | refine below_set ?_ GE130001.out) | exact HB.out)) hb); have n2_ := Aside0.mk (hbox); have n3_ := Aside0.mk ((by rw [hg]; exact (below_size (by repeat (first | (with_reducible first | exact HB.out | apply below_alloc | apply pw_below_drewN | apply below_drew1 | refine below_set ?_ GE130001.out) | exact HB.out))) : w.heap.size ≤ gb130002)); have n4_ := Aside0.mk ((by rw [hg]; exact (below_size (by repeat (first | (with_reducible first | exact HB.out | apply below_alloc | apply pw_below_drewN | apply below_drew1 | refine below_set ?_ GE130001.out) | exact HB.out))) : w.heap.size ≤ gb130002)); have n5_ := Aside0.mk ((by rw [hg]; exact Nat.ne_of_lt (blk_lt (g := gb130001) (o := .cells #[.string a0_0, .string a0_1, .string a0_2, .string a0_3] 27 (0, 0)) (by (with_reducible repeat (first | refine blk_drewN ?_ _ | refine blk_drew ?_ | refine blk_alloc ?_ _)); exact BK130001.out)) : gb130001 ≠ gb130002)); have n6_ := Aside0.mk ((by rw [hg]; exact Nat.ne_of_gt (blk_lt (g := gb130001) (o := .cells #[.string a0_0, .string a0_1, .string a0_2, .string a0_3] 27 (0, 0)) (by (with_reducible repeat (first | refine blk_drewN ?_ _ | refine blk_drew ?_ | refine blk_alloc ?_ _)); exact BK130001.out)) : gb130002 ≠ gb130001)); clear BK130001; clear HB; have BK130001 := n0_; have HB := n1_; have BK130002 := n2_; have GW130002 := n3_; have GE130002 := n4_; have NB130001_130002 := n5_; have NB130002_130001 := n6_; clear n0_ n1_ n2_ n3_ n4_ n5_ n6_; clear hb hbox hg; have hnb9 := NB130001_130002.out; have hnc9 := NB130002_130001.out; have hcz10_0 : w8.cell? ⟨gb130001, 0, none⟩ = some (.string a0_0) := (blk_cell BK130001.out 0).trans rfl; have hcz10_1 : w8.cell? ⟨gb130001, 1, none⟩ = some (.string a0_1) := (blk_cell BK130001.out 1).trans rfl; have hcz10_2 : w8.cell? ⟨gb130001, 2, none⟩ = some (.string a0_2) := (blk_cell BK130001.out 2).trans rfl; have hcz10_3 : w8.cell? ⟨gb130001, 3, none⟩ = some (.string a0_3) := (blk_cell BK130001.out 3).trans rfl; have hfz10_0 := blk_frozen BK130001.out 0; have hfz10_1 := blk_frozen BK130001.out 1; have hfz10_2 := blk_frozen BK130001.out 2; have hfz10_3 := blk_frozen BK130001.out 3; have hcz11_0 : w8.cell? ⟨gb130002, 0, none⟩ = some (.string a1_0) := (blk_cell BK130002.out 0).trans rfl; have hcz11_1 : w8.cell? ⟨gb130002, 1, none⟩ = some (.string a1_1) := (blk_cell BK130002.out 1).trans rfl; have hcz11_2 : w8.cell? ⟨gb130002, 2, none⟩ = some (.string a1_2) := (blk_cell BK130002.out 2).trans rfl; have hcz11_3 : w8.cell? ⟨gb130002, 3, none⟩ = some (.string a1_3) := (blk_cell BK130002.out 3).trans rfl; have hfz11_0 := blk_frozen BK130002.out 0; have hfz11_1 := blk_frozen BK130002.out 1; have hfz11_2 := blk_frozen BK130002.out 2; have hfz11_3 := blk_frozen BK130002.out 3))
          go_ret
          exact ⟨by first | rfl | (simp [errW_none, errW_some] <;> rfl) | (simp [*, errW_none, errW_some] <;> rfl), by repeat (first | (with_reducible first | exact HB.out | apply below_alloc | apply pw_below_drewN | apply below_drew1 | refine below_set ?_ GE130001.out | refine below_set ?_ GE130002.out) | exact HB.out)⟩
        · rw [if_neg c6] at H
          have c6b0 : (a0_3.toList == a1_3.toList) = false := beq_eq_false_iff_ne.mpr c6
          have c6b1 : (a0_3.toList != a1_3.toList) = true := bne_iff_ne.mpr c6
          obtain rfl := Option.some.inj H
          go_enter Tryd.func13, Tryd.ntmps13
          go_wp2_with (first | ((with_reducible refine gate_dst (N := 2) rfl ?_); refine box_event ?hg (N := 2) ?hd (cs := #[.string a0_0, .string a0_1, .string a0_2, .string a0_3]) (t := 27) ?hr ?_; (case hd => rfl); (case hg => rfl); (case hr => first | (go_simp; done) | (go_simp; rfl)); intro gb130001 hg w12 hbox hb; have n0_ := Aside0.mk (below_step (by repeat (first | (with_reducible first | exact HB.out | apply below_alloc | apply pw_below_drewN | apply below_drew1) | exact HB.out)) hb); have n1_ := Aside0.mk (hbox); have n2_ := Aside0.mk ((by rw [hg]; exact (below_size (by repeat (first | (with_reducible first | exact HB.out | apply below_alloc | apply pw_below_drewN | apply below_drew1) | exact HB.out))) : w.heap.size ≤ gb130001)); have n3_ := Aside0.mk ((by rw [hg]; exact (below_size (by repeat (first | (with_reducible first | exact HB.out | apply below_alloc | apply pw_below_drewN | apply below_drew1) | exact HB.out))) : w.heap.size ≤ gb130001)); clear HB; have HB := n0_; have BK130001 := n1_; have GW130001 := n2_; have GE130001 := n3_; clear n0_ n1_ n2_ n3_; clear hb hbox hg) | ((with_reducible refine gate_dst (N := 3) rfl ?_); refine box_event ?hg (N := 3) ?hd (cs := #[.string a1_0, .string a1_1, .string a1_2, .string a1_3]) (t := 27) ?hr ?_; (case hd => rfl); (case hg => rfl); (case hr => first | (go_simp; done) | (go_simp; rfl)); intro gb130002 hg w13 hbox hb; have n0_ := Aside0.mk (blk_below (g := gb130001) (o := .cells #[.string a0_0, .string a0_1, .string a0_2, .string a0_3] 27 (0, 0)) (by (with_reducible repeat (first | refine blk_drewN ?_ _ | refine blk_drew ?_ | refine blk_alloc ?_ _)); exact BK130001.out) hb); have n1_ := Aside0.mk (below_step (by repeat (first | (with_reducible first | exact HB.out | apply below_alloc | apply pw_below_drewN | apply below_drew1 | refine below_set ?_ GE130001.out) | exact HB.out)) hb); have n2_ := Aside0.mk (hbox); have n3_ := Aside0.mk ((by rw [hg]; exact (below_size (by repeat (first | (with_reducible first | exact HB.out | apply below_alloc | apply pw_below_drewN | apply below_drew1 | refine below_set ?_ GE130001.out) | exact HB.out))) : w.heap.size ≤ gb130002)); have n4_ := Aside0.mk ((by rw [hg]; exact (below_size (by repeat (first | (with_reducible first | exact HB.out | apply below_alloc | apply pw_below_drewN | apply below_drew1 | refine below_set ?_ GE130001.out) | exact HB.out))) : w.heap.size ≤ gb130002)); have n5_ := Aside0.mk ((by rw [hg]; exact Nat.ne_of_lt (blk_lt (g := gb130001) (o := .cells #[.string a0_0, .string a0_1, .string a0_2, .string a0_3] 27 (0, 0)) (by (with_reducible repeat (first | refine blk_drewN ?_ _ | refine blk_drew ?_ | refine blk_alloc ?_ _)); exact BK130001.out)) : gb130001 ≠ gb130002)); have n6_ := Aside0.mk ((by rw [hg]; exact Nat.ne_of_gt (blk_lt (g := gb130001) (o := .cells #[.string a0_0, .string a0_1, .string a0_2, .string a0_3] 27 (0, 0)) (by (with_reducible repeat (first | refine blk_drewN ?_ _ | refine blk_drew ?_ | refine blk_alloc ?_ _)); exact BK130001.out)) : gb130002 ≠ gb130001)); clear BK130001; clear HB; have BK130001 := n0_; have HB := n1_; have BK130002 := n2_; have GW130002 := n3_; have GE130002 := n4_; have NB130001_130002 := n5_; have NB130002_130001 := n6_; clear n0_ n1_ n2_ n3_ n4_ n5_ n6_; clear hb hbox hg; have hnb14 := NB130001_130002.out; have hnc14 := NB130002_130001.out; have hcz15_0 : w13.cell? ⟨gb130001, 0, none⟩ = some (.string a0_0) := (blk_cell BK130001.out 0).trans rfl; have hcz15_1 : w13.cell? ⟨gb130001, 1, none⟩ = some (.string a0_1) := (blk_cell BK130001.out 1).trans rfl; have hcz15_2 : w13.cell? ⟨gb130001, 2, none⟩ = some (.string a0_2) := (blk_cell BK130001.out 2).trans rfl; have hcz15_3 : w13.cell? ⟨gb130001, 3, none⟩ = some (.string a0_3) := (blk_cell BK130001.out 3).trans rfl; have hfz15_0 := blk_frozen BK130001.out 0; have hfz15_1 := blk_frozen BK130001.out 1; have hfz15_2 := blk_frozen BK130001.out 2; have hfz15_3 := blk_frozen BK130001.out 3; have hcz16_0 : w13.cell? ⟨gb130002, 0, none⟩ = some (.string a1_0) := (blk_cell BK130002.out 0).trans rfl; have hcz16_1 : w13.cell? ⟨gb130002, 1, none⟩ = some (.string a1_1) := (blk_cell BK130002.out 1).trans rfl; have hcz16_2 : w13.cell? ⟨gb130002, 2, none⟩ = some (.string a1_2) := (blk_cell BK130002.out 2).trans rfl; have hcz16_3 : w13.cell? ⟨gb130002, 3, none⟩ = some (.string a1_3) := (blk_cell BK130002.out 3).trans rfl; have hfz16_0 := blk_frozen BK130002.out 0; have hfz16_1 := blk_frozen BK130002.out 1; have hfz16_2 := blk_frozen BK130002.out 2; have hfz16_3 := blk_frozen BK130002.out 3))
          go_ret
          exact ⟨by first | rfl | (simp [errW_none, errW_some] <;> rfl) | (simp [*, errW_none, errW_some] <;> rfl), by repeat (first | (with_reducible first | exact HB.out | apply below_alloc | apply pw_below_drewN | apply below_drew1 | refine below_set ?_ GE130001.out | refine below_set ?_ GE130002.out) | exact HB.out)⟩
      · rw [if_neg c5] at H
        have c5b0 : (a0_2.toList == a1_2.toList) = false := beq_eq_false_iff_ne.mpr c5
        have c5b1 : (a0_2.toList != a1_2.toList) = true := bne_iff_ne.mpr c5
        obtain rfl := Option.some.inj H
        go_enter Tryd.func13, Tryd.ntmps13
        go_wp2_with (first | ((with_reducible refine gate_dst (N := 2) rfl ?_); refine box_event ?hg (N := 2) ?hd (cs := #[.string a0_0, .string a0_1, .string a0_2, .string a0_3]) (t := 27) ?hr ?_; (case hd => rfl); (case hg => rfl); (case hr => first | (go_simp; done) | (go_simp; rfl)); intro gb130001 hg w17 hbox hb; have n0_ := Aside0.mk (below_step (by repeat (first | (with_reducible first | exact HB.out | apply below_alloc | apply pw_below_drewN | apply below_drew1) | exact HB.out)) hb); have n1_ := Aside0.mk (hbox); have n2_ := Aside0.mk ((by rw [hg]; exact (below_size (by repeat (first | (with_reducible first | exact HB.out | apply below_alloc | apply pw_below_drewN | apply below_drew1) | exact HB.out))) : w.heap.size ≤ gb130001)); have n3_ := Aside0.mk ((by rw [hg]; exact (below_size (by repeat (first | (with_reducible first | exact HB.out | apply below_alloc | apply pw_below_drewN | apply below_drew1) | exact HB.out))) : w.heap.size ≤ gb130001)); clear HB; have HB := n0_; have BK130001 := n1_; have GW130001 := n2_; have GE130001 := n3_; clear n0_ n1_ n2_ n3_; clear hb hbox hg) | ((with_reducible refine gate_dst (N := 3) rfl ?_); refine box_event ?hg (N := 3) ?hd (cs := #[.string a1_0, .string a1_1, .string a1_2, .string a1_3]) (t := 27) ?hr ?_; (case hd => rfl); (case hg => rfl); (case hr => first | (go_simp; done) | (go_simp; rfl)); intro gb130002 hg w18 hbox hb; have n0_ := Aside0.mk (blk_below (g := gb130001) (o := .cells #[.string a0_0, .string a0_1, .string a0_2, .string a0_3] 27 (0, 0)) (by (with_reducible repeat (first | refine blk_drewN ?_ _ | refine blk_drew ?_ | refine blk_alloc ?_ _)); exact BK130001.out) hb); have n1_ := Aside0.mk (below_step (by repeat (first | (with_reducible first | exact HB.out | apply below_alloc | apply pw_below_drewN | apply below_drew1 | refine below_set ?_ GE130001.out) | exact HB.out)) hb); have n2_ := Aside0.mk (hbox); have n3_ := Aside0.mk ((by rw [hg]; exact (below_size (by repeat (first | (with_reducible first | exact HB.out | apply below_alloc | apply pw_below_drewN | apply below_drew1 | refine below_set ?_ GE130001.out) | exact HB.out))) : w.heap.size ≤ gb130002)); have n4_ := Aside0.mk ((by rw [hg]; exact (below_size (by repeat (first | (with_reducible first | exact HB.out | apply below_alloc | apply pw_below_drewN | apply below_drew1 | refine below_set ?_ GE130001.out) | exact HB.out))) : w.heap.size ≤ gb130002)); have n5_ := Aside0.mk ((by rw [hg]; exact Nat.ne_of_lt (blk_lt (g := gb130001) (o := .cells #[.string a0_0, .string a0_1, .string a0_2, .string a0_3] 27 (0, 0)) (by (with_reducible repeat (first | refine blk_drewN ?_ _ | refine blk_drew ?_ | refine blk_alloc ?_ _)); exact BK130001.out)) : gb130001 ≠ gb130002)); have n6_ := Aside0.mk ((by rw [hg]; exact Nat.ne_of_gt (blk_lt (g := gb130001) (o := .cells #[.string a0_0, .string a0_1, .string a0_2, .string a0_3] 27 (0, 0)) (by (with_reducible repeat (first | refine blk_drewN ?_ _ | refine blk_drew ?_ | refine blk_alloc ?_ _)); exact BK130001.out)) : gb130002 ≠ gb130001)); clear BK130001; clear HB; have BK130001 := n0_; have HB := n1_; have BK130002 := n2_; have GW130002 := n3_; have GE130002 := n4_; have NB130001_130002 := n5_; have NB130002_130001 := n6_; clear n0_ n1_ n2_ n3_ n4_ n5_ n6_; clear hb hbox hg; have hnb19 := NB130001_130002.out; have hnc19 := NB130002_130001.out; have hcz20_0 : w18.cell? ⟨gb130001, 0, none⟩ = some (.string a0_0) := (blk_cell BK130001.out 0).trans rfl; have hcz20_1 : w18.cell? ⟨gb130001, 1, none⟩ = some (.string a0_1) := (blk_cell BK130001.out 1).trans rfl; have hcz20_2 : w18.cell? ⟨gb130001, 2, none⟩ = some (.string a0_2) := (blk_cell BK130001.out 2).trans rfl; have hcz20_3 : w18.cell? ⟨gb130001, 3, none⟩ = some (.string a0_3) := (blk_cell BK130001.out 3).trans rfl; have hfz20_0 := blk_frozen BK130001.out 0; have hfz20_1 := blk_frozen BK130001.out 1; have hfz20_2 := blk_frozen BK130001.out 2; have hfz20_3 := blk_frozen BK130001.out 3; have hcz21_0 : w18.cell? ⟨gb130002, 0, none⟩ = some (.string a1_0) := (blk_cell BK130002.out 0).trans rfl; have hcz21_1 : w18.cell? ⟨gb130002, 1, none⟩ = some (.string a1_1) := (blk_cell BK130002.out 1).trans rfl; have hcz21_2 : w18.cell? ⟨gb130002, 2, none⟩ = some (.string a1_2) := (blk_cell BK130002.out 2).trans rfl; have hcz21_3 : w18.cell? ⟨gb130002, 3, none⟩ = some (.string a1_3) := (blk_cell BK130002.out 3).trans rfl; have hfz21_0 := blk_frozen BK130002.out 0; have hfz21_1 := blk_frozen BK130002.out 1; have hfz21_2 := blk_frozen BK130002.out 2; have hfz21_3 := blk_frozen BK130002.out 3))
        go_ret
        exact ⟨by first | rfl | (simp [errW_none, errW_some] <;> rfl) | (simp [*, errW_none, errW_some] <;> rfl), by repeat (first | (with_reducible first | exact HB.out | apply below_alloc | apply pw_below_drewN | apply below_drew1 | refine below_set ?_ GE130001.out | refine below_set ?_ GE130002.out) | exact HB.out)⟩
    · rw [if_neg c4] at H
      have c4b0 : (a0_1.toList == a1_1.toList) = false := beq_eq_false_iff_ne.mpr c4
      have c4b1 : (a0_1.toList != a1_1.toList) = true := bne_iff_ne.mpr c4
      obtain rfl := Option.some.inj H
      go_enter Tryd.func13, Tryd.ntmps13
      go_wp2_with (first | ((with_reducible refine gate_dst (N := 2) rfl ?_); refine box_event ?hg (N := 2) ?hd (cs := #[.string a0_0, .string a0_1, .string a0_2, .string a0_3]) (t := 27) ?hr ?_; (case hd => rfl); (case hg => rfl); (case hr => first | (go_simp; done) | (go_simp; rfl)); intro gb130001 hg w22 hbox hb; have n0_ := Aside0.mk (below_step (by repeat (first | (with_reducible first | exact HB.out | apply below_alloc | apply pw_below_drewN | apply below_drew1) | exact HB.out)) hb); have n1_ := Aside0.mk (hbox); have n2_ := Aside0.mk ((by rw [hg]; exact (below_size (by repeat (first | (with_reducible first | exact HB.out | apply below_alloc | apply pw_below_drewN | apply below_drew1) | exact HB.out))) : w.heap.size ≤ gb130001)); have n3_ := Aside0.mk ((by rw [hg]; exact (below_size (by repeat (first | (with_reducible first | exact HB.out | apply below_alloc | apply pw_below_drewN | apply below_drew1) | exact HB.out))) : w.heap.size ≤ gb130001)); clear HB; have HB := n0_; have BK130001 := n1_; have GW130001 := n2_; have GE130001 := n3_; clear n0_ n1_ n2_ n3_; clear hb hbox hg) | ((with_reducible refine gate_dst (N := 3) rfl ?_); refine box_event ?hg (N := 3) ?hd (cs := #[.string a1_0, .string a1_1, .string a1_2, .string a1_3]) (t := 27) ?hr ?_; (case hd => rfl); (case hg => rfl); (case hr => first | (go_simp; done) | (go_simp; rfl)); intro gb130002 hg w23 hbox hb; have n0_ := Aside0.mk (blk_below (g := gb130001) (o := .cells #[.string a0_0, .string a0_1, .string a0_2, .string a0_3] 27 (0, 0)) (by (with_reducible repeat (first | refine blk_drewN ?_ _ | refine blk_drew ?_ | refine blk_alloc ?_ _)); exact BK130001.out) hb); have n1_ := Aside0.mk (below_step (by repeat (first | (with_reducible first | exact HB.out | apply below_alloc | apply pw_below_drewN | apply below_drew1 | refine below_set ?_ GE130001.out) | exact HB.out)) hb); have n2_ := Aside0.mk (hbox); have n3_ := Aside0.mk ((by rw [hg]; exact (below_size (by repeat (first | (with_reducible first | exact HB.out | apply below_alloc | apply pw_below_drewN | apply below_drew1 | refine below_set ?_ GE130001.out) | exact HB.out))) : w.heap.size ≤ gb130002)); have n4_ := Aside0.mk ((by rw [hg]; exact (below_size (by repeat (first | (with_reducible first | exact HB.out | apply below_alloc | apply pw_below_drewN | apply below_drew1 | refine below_set ?_ GE130001.out) | exact HB.out))) : w.heap.size ≤ gb130002)); have n5_ := Aside0.mk ((by rw [hg]; exact Nat.ne_of_lt (blk_lt (g := gb130001) (o := .cells #[.string a0_0, .string a0_1, .string a0_2, .string a0_3] 27 (0, 0)) (by (with_reducible repeat (first | refine blk_drewN ?_ _ | refine blk_drew ?_ | refine blk_alloc ?_ _)); exact BK130001.out)) : gb130001 ≠ gb130002)); have n6_ := Aside0.mk ((by rw [hg]; exact Nat.ne_of_gt (blk_lt (g := gb130001) (o := .cells #[.string a0_0, .string a0_1, .string a0_2, .string a0_3] 27 (0, 0)) (by (with_reducible repeat (first | refine blk_drewN ?_ _ | refine blk_drew ?_ | refine blk_alloc ?_ _)); exact BK130001.out)) : gb130002 ≠ gb130001)); clear BK130001; clear HB; have BK130001 := n0_; have HB := n1_; have BK130002 := n2_; have GW130002 := n3_; have GE130002 := n4_; have NB130001_130002 := n5_; have NB130002_130001 := n6_; clear n0_ n1_ n2_ n3_ n4_ n5_ n6_; clear hb hbox hg; have hnb24 := NB130001_130002.out; have hnc24 := NB130002_130001.out; have hcz25_0 : w23.cell? ⟨gb130001, 0, none⟩ = some (.string a0_0) := (blk_cell BK130001.out 0).trans rfl; have hcz25_1 : w23.cell? ⟨gb130001, 1, none⟩ = some (.string a0_1) := (blk_cell BK130001.out 1).trans rfl; have hcz25_2 : w23.cell? ⟨gb130001, 2, none⟩ = some (.string a0_2) := (blk_cell BK130001.out 2).trans rfl; have hcz25_3 : w23.cell? ⟨gb130001, 3, none⟩ = some (.string a0_3) := (blk_cell BK130001.out 3).trans rfl; have hfz25_0 := blk_frozen BK130001.out 0; have hfz25_1 := blk_frozen BK130001.out 1; have hfz25_2 := blk_frozen BK130001.out 2; have hfz25_3 := blk_frozen BK130001.out 3; have hcz26_0 : w23.cell? ⟨gb130002, 0, none⟩ = some (.string a1_0) := (blk_cell BK130002.out 0).trans rfl; have hcz26_1 : w23.cell? ⟨gb130002, 1, none⟩ = some (.string a1_1) := (blk_cell BK130002.out 1).trans rfl; have hcz26_2 : w23.cell? ⟨gb130002, 2, none⟩ = some (.string a1_2) := (blk_cell BK130002.out 2).trans rfl; have hcz26_3 : w23.cell? ⟨gb130002, 3, none⟩ = some (.string a1_3) := (blk_cell BK130002.out 3).trans rfl; have hfz26_0 := blk_frozen BK130002.out 0; have hfz26_1 := blk_frozen BK130002.out 1; have hfz26_2 := blk_frozen BK130002.out 2; have hfz26_3 := blk_frozen BK130002.out 3))
      go_ret
      exact ⟨by first | rfl | (simp [errW_none, errW_some] <;> rfl) | (simp [*, errW_none, errW_some] <;> rfl), by repeat (first | (with_reducible first | exact HB.out | apply below_alloc | apply pw_below_drewN | apply below_drew1 | refine below_set ?_ GE130001.out | refine below_set ?_ GE130002.out) | exact HB.out)⟩
  · rw [if_neg c3] at H
    have c3b0 : (a0_0.toList == a1_0.toList) = false := beq_eq_false_iff_ne.mpr c3
    have c3b1 : (a0_0.toList != a1_0.toList) = true := bne_iff_ne.mpr c3
    obtain rfl := Option.some.inj H
    go_enter Tryd.func13, Tryd.ntmps13
    go_wp2_with (first | ((with_reducible refine gate_dst (N := 2) rfl ?_); refine box_event ?hg (N := 2) ?hd (cs := #[.string a0_0, .string a0_1, .string a0_2, .string a0_3]) (t := 27) ?hr ?_; (case hd => rfl); (case hg => rfl); (case hr => first | (go_simp; done) | (go_simp; rfl)); intro gb130001 hg w27 hbox hb; have n0_ := Aside0.mk (below_step (by repeat (first | (with_reducible first | exact HB.out | apply below_alloc | apply pw_below_drewN | apply below_drew1) | exact HB.out)) hb); have n1_ := Aside0.mk (hbox); have n2_ := Aside0.mk ((by rw [hg]; exact (below_size (by repeat (first | (with_reducible first | exact HB.out | apply below_alloc | apply pw_below_drewN | apply below_drew1) | exact HB.out))) : w.heap.size ≤ gb130001)); have n3_ := Aside0.mk ((by rw [hg]; exact (below_size (by repeat (first | (with_reducible first | exact HB.out | apply below_alloc | apply pw_below_drewN | apply below_drew1) | exact HB.out))) : w.heap.size ≤ gb130001)); clear HB; have HB := n0_; have BK130001 := n1_; have GW130001 := n2_; have GE130001 := n3_; clear n0_ n1_ n2_ n3_; clear hb hbox hg) | ((with_reducible refine gate_dst (N := 3) rfl ?_); refine box_event ?hg (N := 3) ?hd (cs := #[.string a1_0, .string a1_1, .string a1_2, .string a1_3]) (t := 27) ?hr ?_; (case hd => rfl); (case hg => rfl); (case hr => first | (go_simp; done) | (go_simp; rfl)); intro gb130002 hg w28 hbox hb; have n0_ := Aside0.mk (blk_below (g := gb130001) (o := .cells #[.string a0_0, .string a0_1, .string a0_2, .string a0_3] 27 (0, 0)) (by (with_reducible repeat (first | refine blk_drewN ?_ _ | refine blk_drew ?_ | refine blk_alloc ?_ _)); exact BK130001.out) hb); have n1_ := Aside0.mk (below_step (by repeat (first | (with_reducible first | exact HB.out | apply below_alloc | apply pw_below_drewN | apply below_drew1 | refine below_set ?_ GE130001.out) | exact HB.out)) hb); have n2_ := Aside0.mk (hbox); have n3_ := Aside0.mk ((by rw [hg]; exact (below_size (by repeat (first | (with_reducible first | exact HB.out | apply below_alloc | apply pw_below_drewN | apply below_drew1 | refine below_set ?_ GE130001.out) | exact HB.out))) : w.heap.size ≤ gb130002)); have n4_ := Aside0.mk ((by rw [hg]; exact (below_size (by repeat (first | (with_reducible first | exact HB.out | apply below_alloc | apply pw_below_drewN | apply below_drew1 | refine below_set ?_ GE130001.out) | exact HB.out))) : w.heap.size ≤ gb130002)); have n5_ := Aside0.mk ((by rw [hg]; exact Nat.ne_of_lt (blk_lt (g := gb130001) (o := .cells #[.string a0_0, .string a0_1, .string a0_2, .string a0_3] 27 (0, 0)) (by (with_reducible repeat (first | refine blk_drewN ?_ _ | refine blk_drew ?_ | refine blk_alloc ?_ _)); exact BK130001.out)) : gb130001 ≠ gb130002)); have n6_ := Aside0.mk ((by rw [hg]; exact Nat.ne_of_gt (blk_lt (g := gb130001) (o := .cells #[.string a0_0, .string a0_1, .string a0_2, .string a0_3] 27 (0, 0)) (by (with_reducible repeat (first | refine blk_drewN ?_ _ | refine blk_drew ?_ | refine blk_alloc ?_ _)); exact BK130001.out)) : gb130002 ≠ gb130001)); clear BK130001; clear HB; have BK130001 := n0_; have HB := n1_; have BK130002 := n2_; have GW130002 := n3_; have GE130002 := n4_; have NB130001_130002 := n5_; have NB130002_130001 := n6_; clear n0_ n1_ n2_ n3_ n4_ n5_ n6_; clear hb hbox hg; have hnb29 := NB130001_130002.out; have hnc29 := NB130002_130001.out; have hcz30_0 : w28.cell? ⟨gb130001, 0, none⟩ = some (.string a0_0) := (blk_cell BK130001.out 0).trans rfl; have hcz30_1 : w28.cell? ⟨gb130001, 1, none⟩ = some (.string a0_1) := (blk_cell BK130001.out 1).trans rfl; have hcz30_2 : w28.cell? ⟨gb130001, 2, none⟩ = some (.string a0_2) := (blk_cell BK130001.out 2).trans rfl; have hcz30_3 : w28.cell? ⟨gb130001, 3, none⟩ = some (.string a0_3) := (blk_cell BK130001.out 3).trans rfl; have hfz30_0 := blk_frozen BK130001.out 0; have hfz30_1 := blk_frozen BK130001.out 1; have hfz30_2 := blk_frozen BK130001.out 2; have hfz30_3 := blk_frozen BK130001.out 3; have hcz31_0 : w28.cell? ⟨gb130002, 0, none⟩ = some (.string a1_0) := (blk_cell BK130002.out 0).trans rfl; have hcz31_1 : w28.cell? ⟨gb130002, 1, none⟩ = some (.string a1_1) := (blk_cell BK130002.out 1).trans rfl; have hcz31_2 : w28.cell? ⟨gb130002, 2, none⟩ = some (.string a1_2) := (blk_cell BK130002.out 2).trans rfl; have hcz31_3 : w28.cell? ⟨gb130002, 3, none⟩ = some (.string a1_3) := (blk_cell BK130002.out 3).trans rfl; have hfz31_0 := blk_frozen BK130002.out 0; have hfz31_1 := blk_frozen BK130002.out 1; have hfz31_2 := blk_frozen BK130002.out 2; have hfz31_3 := blk_frozen BK130002.out 3))
    go_ret
    exact ⟨by first | rfl | (simp [errW_none, errW_some] <;> rfl) | (simp [*, errW_none, errW_some] <;> rfl), by repeat (first | (with_reducible first | exact HB.out | apply below_alloc | apply pw_below_drewN | apply below_drew1 | refine below_set ?_ GE130001.out | refine below_set ?_ GE130002.out) | exact HB.out)⟩
end Go.Proofs.YtmfejehhfmaodabDoor.Z
end
section
namespace Go.Proofs.YtmfejehhfmaodabDoor.Z
open Go.RowKit Go.Proofs.YtmfejehhfmaodabDoorW.PrintWords Go.Proofs.YtmfejehhfmaodabDoorW.PrintLast Go.Proofs.YtmfejehhfmaodabDoorW.PrintMore
attribute [local go_sem] max2_int min2_int max_two min_two max_three min_three max_four min_four   -- for this text's walks alone
set_option linter.unusedVariables false
set_option linter.unusedSimpArgs false
def laws_eqStringS.l0 : Nat → List ByteArray → List ByteArray → Int → Option (Bool)
  | 0, _, _, _ => none
  | k + 1, x0, x1, x5 => if x5 < (x0.length : Int) then (if 0 ≤ x5 then (if x5 < (x1.length : Int) then (if (rdOf ByteArray.empty x0 x5).toList = (rdOf ByteArray.empty x1 x5).toList then (laws_eqStringS.l0 k x0 x1 (wrap64 (x5 + 1))) else (some false)) else (none)) else (none)) else (some true)
def laws_eqStringS.f (k : Nat) (l0 : List ByteArray) (l1 : List ByteArray) : Option (Bool) := if (l0.length : Int) = (l1.length : Int) then (laws_eqStringS.l0 k l0 l1 0) else (some false)
theorem laws_eqStringS.mono_l : ∀ k, (∀ y0 y1 y2, LeO (laws_eqStringS.l0 k y0 y1 y2) (laws_eqStringS.l0 (k + 1) y0 y1 y2))
  | 0 => fun _ _ _ r h => by simp [laws_eqStringS.l0] at h
  | k + 1 => by
    have ih0 := laws_eqStringS.mono_l k
    · intro y0 y1 y2
      unfold laws_eqStringS.l0
      repeat' first
      | (with_reducible exact ih0 _ _ _)
      | (with_reducible exact LeO.refl _)
      | (with_reducible exact LeO.none _)
      | (with_reducible refine LeO.ite ?_ ?_)
      | (with_reducible refine LeO.bind ?_ (fun _ => ?_))
      | exact ih0 _ _ _
      | exact LeO.none _
      | refine LeO.ite ?_ ?_
      | refine LeO.bind ?_ (fun _ => ?_)
theorem laws_eqStringS.mono : ∀ a0 a1 k, LeO (laws_eqStringS.f k a0 a1) (laws_eqStringS.f (k + 1) a0 a1) := by
  intro a0 a1 k
  have ih0 := laws_eqStringS.mono_l k
  unfold laws_eqStringS.f
  repeat' first
      | (with_reducible exact ih0 _ _ _)
      | (with_reducible exact LeO.refl _)
      | (with_reducible exact LeO.none _)
      | (with_reducible refine LeO.ite ?_ ?_)
      | (with_reducible refine LeO.bind ?_ (fun _ => ?_))
      | exact ih0 _ _ _
      | exact LeO.none _
      | refine LeO.ite ?_ ?_
      | refine LeO.bind ?_ (fun _ => ?_)
set_option maxHeartbeats 8000000 in
set_option maxRecDepth 100000 in
theorem laws_eqStringS.calls (k : Nat) (A0 : Option Addr) (c0 : Nat) (l0 : List ByteArray) (A1 : Option Addr) (c1 : Nat) (l1 : List ByteArray) (r : Bool) (w : World) (hr0 : Kd.C Kd.string w A0 l0.length l0) (hc0 : l0.length ≤ c0) (hr1 : Kd.C Kd.string w A1 l1.length l1) (hc1 : l1.length ≤ c1) (h : laws_eqStringS.f k l0 l1 = some r) :
    Calls Tryd.prog 40 #[.slice A0 l0.length c0, .slice A1 l1.length c1] w fun e w' => e = .returned (.bool r) ∧ Drawn0 w w' := by
  have HR0 := Aside0.mk hr0
  have HC0 := Aside0.mk hc0
  clear hr0 hc0
  have HR1 := Aside0.mk hr1
  have HC1 := Aside0.mk hc1
  clear hr1 hc1
  have H : (if (l0.length : Int) = (l1.length : Int) then (laws_eqStringS.l0 k l0 l1 0) else (some false)) = some r := h
  clear h
  by_cases c3 : (l0.length : Int) = (l1.length : Int)
  · rw [if_pos c3] at H
    have c3b0 : ((l0.length : Int) == (l1.length : Int)) = true := beq_iff_eq.mpr c3
    have c3b1 : ((l0.length : Int) != (l1.length : Int)) = false := bne_eq_false_iff_eq.mpr c3
    have c3b2 : (l0.length == l1.length) = true := by first | simpa using c3 | (simp at c3 ⊢; omega)
    clear c3
    have H' := Aside0.mk H
    clear H
    go_enter Tryd.func40, Tryd.ntmps40
    go_wp2
    repeat (go_quiet (fail); try go_wp2)
    go_loopg [5] k (fun kq v5 w' => ∃ (x5_1 : Int), v5 = .int .i64 x5_1 ∧ Aside0 (laws_eqStringS.l0 kq l0 l1 x5_1 = some r) ∧ Aside0 (kq ≤ k) ∧ Drawn0 w w')
    case atStart => exact ⟨(0), (by first | rfl | (simp; done) | (simp [*]; done)), H', ⟨Nat.le_refl _⟩, by repeat (first | exact Drawn0.refl _ | apply Drawn0.step)⟩
    case round =>
      clear H'
      try clear c1
      try clear p2
      try clear c3
      try clear c3b0
      try clear c3b1
      try clear c3b2
      obtain ⟨x5_1, rfl, HA, HK1, ⟨m1, rfl⟩⟩ := hrel
      cases gk with
      | zero => exact absurd HA.out (by simp [laws_eqStringS.l0])
      | succ k1 =>
        have H := HA.out
        clear HA
        simp only [laws_eqStringS.l0] at H
        by_cases c4 : x5_1 < (l0.length : Int)
        · rw [if_pos c4] at H
          have c4b0 : decide (x5_1 < (l0.length : Int)) = true := decide_eq_true c4
          clear c4
          by_cases c5 : 0 ≤ x5_1
          · rw [if_pos c5] at H
            have c5b0 : decide (0 ≤ x5_1) = true := decide_eq_true c5
            clear c5
            by_cases c6 : x5_1 < (l1.length : Int)
            · rw [if_pos c6] at H
              have c6b0 : decide (x5_1 < (l1.length : Int)) = true := decide_eq_true c6
              clear c6
              by_cases c7 : (rdOf ByteArray.empty l0 x5_1).toList = (rdOf ByteArray.empty l1 x5_1).toList
              · rw [if_pos c7] at H
                have c7b0 : ((rdOf ByteArray.empty l0 x5_1).toList == (rdOf ByteArray.empty l1 x5_1).toList) = true := beq_iff_eq.mpr c7
                have c7b1 : ((rdOf ByteArray.empty l0 x5_1).toList != (rdOf ByteArray.empty l1 x5_1).toList) = false := bne_eq_false_iff_eq.mpr c7
                clear c7
                have H' := Aside0.mk H
                clear H
                have p400001 : 0 ≤ (x5_1 : Int) := of_decide_eq_true (by first | (with_reducible assumption) | assumption)
                have q400001 : x5_1 < (l0.length : Int) := of_decide_eq_true (by first | (with_reducible assumption) | assumption)
                obtain ⟨ad400001, e400001, hx400001_0⟩ := Kd.at_string HR0.out x5_1 p400001 q400001
                cases e400001
                replace p400001 := eq_true p400001
                replace q400001 := eq_true q400001
                have p400002 : 0 ≤ (x5_1 : Int) := of_decide_eq_true (by first | (with_reducible assumption) | assumption)
                have q400002 : x5_1 < (l1.length : Int) := of_decide_eq_true (by first | (with_reducible assumption) | assumption)
                obtain ⟨ad400002, e400002, hx400002_0⟩ := Kd.at_string HR1.out x5_1 p400002 q400002
                cases e400002
                replace p400002 := eq_true p400002
                replace q400002 := eq_true q400002
                go_wp2
                repeat (go_quiet (fail); try go_wp2)
                go_roundg k1
                case measure => have := HK1.out; omega
                case rel => exact ⟨(wrap64 (x5_1 + 1)), (by first | rfl | (simp; done) | (simp [*]; done)), H', ⟨by have := HK1.out; omega⟩, by repeat (first | exact Drawn0.refl _ | apply Drawn0.step)⟩
              · rw [if_neg c7] at H
                have c7b0 : ((rdOf ByteArray.empty l0 x5_1).toList == (rdOf ByteArray.empty l1 x5_1).toList) = false := beq_eq_false_iff_ne.mpr c7
                have c7b1 : ((rdOf ByteArray.empty l0 x5_1).toList != (rdOf ByteArray.empty l1 x5_1).toList) = true := bne_iff_ne.mpr c7
                obtain rfl := Option.some.inj H
                have p400001 : 0 ≤ (x5_1 : Int) := of_decide_eq_true (by first | (with_reducible assumption) | assumption)
                have q400001 : x5_1 < (l0.length : Int) := of_decide_eq_true (by first | (with_reducible assumption) | assumption)
                obtain ⟨ad400001, e400001, hx400001_0⟩ := Kd.at_string HR0.out x5_1 p400001 q400001
                cases e400001
                replace p400001 := eq_true p400001
                replace q400001 := eq_true q400001
                have p400002 : 0 ≤ (x5_1 : Int) := of_decide_eq_true (by first | (with_reducible assumption) | assumption)
                have q400002 : x5_1 < (l1.length : Int) := of_decide_eq_true (by first | (with_reducible assumption) | assumption)
                obtain ⟨ad400002, e400002, hx400002_0⟩ := Kd.at_string HR1.out x5_1 p400002 q400002
                cases e400002
                replace p400002 := eq_true p400002
                replace q400002 := eq_true q400002
                go_wp2
                repeat (go_quiet (fail); try go_wp2)
                go_ret
                exact ⟨by first | rfl | (simp; done) | (simp [*]; done), by repeat (first | exact Drawn0.refl _ | apply Drawn0.step)⟩
            · rw [if_neg c6] at H
              exact absurd H (by simp)
          · rw [if_neg c5] at H
            exact absurd H (by simp)
        · rw [if_neg c4] at H
          have c4b0 : decide (x5_1 < (l0.length : Int)) = false := decide_eq_false c4
          clear c4
          obtain rfl := Option.some.inj H
          go_wp2
          repeat (go_quiet (fail); try go_wp2)
          go_ret
          exact ⟨by first | rfl | (simp; done) | (simp [*]; done), by repeat (first | exact Drawn0.refl _ | apply Drawn0.step)⟩
  · rw [if_neg c3] at H
    have c3b0 : ((l0.length : Int) == (l1.length : Int)) = false := beq_eq_false_iff_ne.mpr c3
    have c3b1 : ((l0.length : Int) != (l1.length : Int)) = true := bne_iff_ne.mpr c3
    have c3b2 : (l0.length == l1.length) = false := by first | simpa using c3 | (simp at c3 ⊢; omega)
    obtain rfl := Option.some.inj H
    go_enter Tryd.func40, Tryd.ntmps40
    go_wp2
    repeat (go_quiet (fail); try go_wp2)
    go_ret
    exact ⟨by first | rfl | (simp; done) | (simp [*]; done), by repeat (first | exact Drawn0.refl _ | apply Drawn0.step)⟩
end Go.Proofs.YtmfejehhfmaodabDoor.Z
end
section
namespace Go.Proofs.YtmfejehhfmaodabDoor.Z
open Go.RowKit Go.Proofs.YtmfejehhfmaodabDoorW.PrintWords Go.Proofs.YtmfejehhfmaodabDoorW.PrintLast Go.Proofs.YtmfejehhfmaodabDoorW.PrintMore
attribute [local go_sem] max2_int min2_int max_two min_two max_three min_three max_four min_four   -- for this text's walks alone
set_option linter.unusedVariables false
set_option linter.unusedSimpArgs false
def laws_eqPool.f (k : Nat) (a0_0 : Int) (l0_1 : List ByteArray) (a1_0 : Int) (l1_1 : List ByteArray) : Option (Bool) := if a0_0 = a1_0 then ((laws_eqStringS.f k l0_1 l1_1).bind fun t140003 => (if t140003 = true then (some true) else (some false))) else (some false)
theorem laws_eqPool.mono : ∀ a0 a1 a2 a3 k, LeO (laws_eqPool.f k a0 a1 a2 a3) (laws_eqPool.f (k + 1) a0 a1 a2 a3) := by
  intro a0 a1 a2 a3 k
  unfold laws_eqPool.f
  repeat' first
      | (with_reducible exact laws_eqStringS.mono _ _ _)
      | (with_reducible exact LeO.refl _)
      | (with_reducible exact LeO.none _)
      | (with_reducible refine LeO.ite ?_ ?_)
      | (with_reducible refine LeO.bind ?_ (fun _ => ?_))
      | exact laws_eqStringS.mono _ _ _
      | exact LeO.none _
      | refine LeO.ite ?_ ?_
      | refine LeO.bind ?_ (fun _ => ?_)
set_option maxHeartbeats 8000000 in
set_option maxRecDepth 100000 in
theorem laws_eqPool.calls (k : Nat) (a0_0 : Int) (A0_1 : Option Addr) (c0_1 : Nat) (l0_1 : List ByteArray) (a1_0 : Int) (A1_1 : Option Addr) (c1_1 : Nat) (l1_1 : List ByteArray) (r : Bool) (w : World) (hr0_1 : Kd.C Kd.string w A0_1 l0_1.length l0_1) (hc0_1 : l0_1.length ≤ c0_1) (hr1_1 : Kd.C Kd.string w A1_1 l1_1.length l1_1) (hc1_1 : l1_1.length ≤ c1_1) (h : laws_eqPool.f k a0_0 l0_1 a1_0 l1_1 = some r) :
    Calls Tryd.prog 14 #[.agg #[.int .i64 a0_0, .slice A0_1 l0_1.length c0_1], .agg #[.int .i64 a1_0, .slice A1_1 l1_1.length c1_1]] w fun e w' => e = .returned (.bool r) ∧ Below w.heap.size w w' := by
  have hu30 := Tryd.underlying30
  have HR0_1 := Aside0.mk hr0_1
  have HC0_1 := Aside0.mk hc0_1
  clear hr0_1 hc0_1
  have HR1_1 := Aside0.mk hr1_1
  have HC1_1 := Aside0.mk hc1_1
  clear hr1_1 hc1_1
  have HB := Aside0.mk (Below.refl w.heap.size w)
  have H : (if a0_0 = a1_0 then ((laws_eqStringS.f k l0_1 l1_1).bind fun t140003 => (if t140003 = true then (some true) else (some false))) else (some false)) = some r := h
  clear h
  by_cases c3 : a0_0 = a1_0
  · rw [if_pos c3] at H
    have c3b0 : (a0_0 == a1_0) = true := beq_iff_eq.mpr c3
    have c3b1 : (a0_0 != a1_0) = false := bne_eq_false_iff_eq.mpr c3
    clear c3
    replace H := Option.bind_eq_some_iff.mp H
    obtain ⟨t140003, A40, H⟩ := H
    replace H : (if t140003 = true then (some true) else (some false)) = some r := H
    have A4 := Aside0.mk A40
    clear A40
    by_cases c5 : t140003 = true
    · subst c5
      have H1 : (some true) = some r := by rw [if_pos rfl] at H; exact H
      clear H
      have H := H1
      clear H1
      obtain rfl := Option.some.inj H
      go_enter Tryd.func14, Tryd.ntmps14
      go_wp2_with (first | ((with_reducible refine gate_dst (N := 2) rfl ?_); refine box_event ?hg (N := 2) ?hd (cs := #[.int .i64 a0_0, .slice A0_1 l0_1.length c0_1]) (t := 30) ?hr ?_; (case hd => rfl); (case hg => rfl); (case hr => first | (go_simp; done) | (go_simp; rfl)); intro gb140001 hg w6 hbox hb; have n0_ := Aside0.mk (below_step (by repeat (first | (with_reducible first | exact HB.out | apply below_alloc | apply pw_below_drewN | apply below_drew1) | exact HB.out)) hb); have n1_ := Aside0.mk (hbox); have n2_ := Aside0.mk ((by rw [hg]; exact (below_size (by repeat (first | (with_reducible first | exact HB.out | apply below_alloc | apply pw_below_drewN | apply below_drew1) | exact HB.out))) : w.heap.size ≤ gb140001)); have n3_ := Aside0.mk ((by rw [hg]; exact (below_size (by repeat (first | (with_reducible first | exact HB.out | apply below_alloc | apply pw_below_drewN | apply below_drew1) | exact HB.out))) : w.heap.size ≤ gb140001)); clear HB; have HB := n0_; have BK140001 := n1_; have GW140001 := n2_; have GE140001 := n3_; clear n0_ n1_ n2_ n3_; clear hb hbox hg) | ((with_reducible refine gate_dst (N := 3) rfl ?_); refine box_event ?hg (N := 3) ?hd (cs := #[.int .i64 a1_0, .slice A1_1 l1_1.length c1_1]) (t := 30) ?hr ?_; (case hd => rfl); (case hg => rfl); (case hr => first | (go_simp; done) | (go_simp; rfl)); intro gb140002 hg w7 hbox hb; have n0_ := Aside0.mk (blk_below (g := gb140001) (o := .cells #[.int .i64 a0_0, .slice A0_1 l0_1.length c0_1] 30 (0, 0)) (by (with_reducible repeat (first | refine blk_drewN ?_ _ | refine blk_drew ?_ | refine blk_alloc ?_ _)); exact BK140001.out) hb); have n1_ := Aside0.mk (below_step (by repeat (first | (with_reducible first | exact HB.out | apply below_alloc | apply pw_below_drewN | apply below_drew1 | refine below_set ?_ GE140001.out) | exact HB.out)) hb); have n2_ := Aside0.mk (hbox); have n3_ := Aside0.mk ((by rw [hg]; exact (below_size (by repeat (first | (with_reducible first | exact HB.out | apply below_alloc | apply pw_below_drewN | apply below_drew1 | refine below_set ?_ GE140001.out) | exact HB.out))) : w.heap.size ≤ gb140002)); have n4_ := Aside0.mk ((by rw [hg]; exact (below_size (by repeat (first | (with_reducible first | exact HB.out | apply below_alloc | apply pw_below_drewN | apply below_drew1 | refine below_set ?_ GE140001.out) | exact HB.out))) : w.heap.size ≤ gb140002)); have n5_ := Aside0.mk ((by rw [hg]; exact Nat.ne_of_lt (blk_lt (g := gb140001) (o := .cells #[.int .i64 a0_0, .slice A0_1 l0_1.length c0_1] 30 (0, 0)) (by (with_reducible repeat (first | refine blk_drewN ?_ _ | refine blk_drew ?_ | refine blk_alloc ?_ _)); exact BK140001.out)) : gb140001 ≠ gb140002)); have n6_ := Aside0.mk ((by rw [hg]; exact Nat.ne_of_gt (blk_lt (g := gb140001) (o := .cells #[.int .i64 a0_0, .slice A0_1 l0_1.length c0_1] 30 (0, 0)) (by (with_reducible repeat (first | refine blk_drewN ?_ _ | refine blk_drew ?_ | refine blk_alloc ?_ _)); exact BK140001.out)) : gb140002 ≠ gb140001)); clear BK140001; clear HB; have BK140001 := n0_; have HB := n1_; have BK140002 := n2_; have GW140002 := n3_; have GE140002 := n4_; have NB140001_140002 := n5_; have NB140002_140001 := n6_; clear n0_ n1_ n2_ n3_ n4_ n5_ n6_; clear hb hbox hg; have hnb8 := NB140001_140002.out; have hnc8 := NB140002_140001.out; have hcz9_0 : w7.cell? ⟨gb140001, 0, none⟩ = some (.int .i64 a0_0) := (blk_cell BK140001.out 0).trans rfl; have hcz9_1 : w7.cell? ⟨gb140001, 1, none⟩ = some (.slice A0_1 l0_1.length c0_1) := (blk_cell BK140001.out 1).trans rfl; have hfz9_0 := blk_frozen BK140001.out 0; have hfz9_1 := blk_frozen BK140001.out 1; have hcz10_0 : w7.cell? ⟨gb140002, 0, none⟩ = some (.int .i64 a1_0) := (blk_cell BK140002.out 0).trans rfl; have hcz10_1 : w7.cell? ⟨gb140002, 1, none⟩ = some (.slice A1_1 l1_1.length c1_1) := (blk_cell BK140002.out 1).trans rfl; have hfz10_0 := blk_frozen BK140002.out 0; have hfz10_1 := blk_frozen BK140002.out 1) | ((with_reducible refine gate_callee (f := 40) rfl ?_); refine goesL_ (some 14) rfl rfl Tryd.func40 (by kernel_rfl) rfl #[.slice A0_1 l0_1.length c0_1, .slice A1_1 l1_1.length c1_1] rfl (by (try simp only [List.map_toArray, List.map_cons, List.map_nil]); first | done | rfl | (simp only [List.length_drop, List.length_take]; rfl)) ?_; (with_reducible refine (laws_eqStringS.calls k _ _ l0_1 _ _ l1_1 true _ ?side1 ?side2 ?side3 ?side4 A4.out).mono ?_); (case side1 => repeat (first | exact (Kd.C_below HR0_1.out HB.out) | (with_reducible refine Kd.C_alloc ?_ _) | (with_reducible refine Kd.C_drewN ?_ _) | (with_reducible refine Kd.C_drew ?_))); (case side2 => exact HC0_1.out); (case side3 => repeat (first | exact (Kd.C_below HR1_1.out HB.out) | (with_reducible refine Kd.C_alloc ?_ _) | (with_reducible refine Kd.C_drewN ?_ _) | (with_reducible refine Kd.C_drew ?_))); (case side4 => exact HC1_1.out); rintro e w' ⟨rfl, ⟨nd, rfl⟩⟩; refine ⟨_, rfl, ?_⟩))
      go_ret
      exact ⟨by first | rfl | (simp [errW_none, errW_some] <;> rfl) | (simp [*, errW_none, errW_some] <;> rfl), by repeat (first | (with_reducible first | exact HB.out | apply below_alloc | apply pw_below_drewN | apply below_drew1 | refine below_set ?_ GE140001.out | refine below_set ?_ GE140002.out) | exact HB.out)⟩
    · replace c5 := Bool.eq_false_iff.mpr c5
      subst c5
      have H1 : (some false) = some r := by rw [if_neg (show ¬ (false = true) by decide)] at H; exact H
      clear H
      have H := H1
      clear H1
      obtain rfl := Option.some.inj H
      go_enter Tryd.func14, Tryd.ntmps14
      go_wp2_with (first | ((with_reducible refine gate_dst (N := 2) rfl ?_); refine box_event ?hg (N := 2) ?hd (cs := #[.int .i64 a0_0, .slice A0_1 l0_1.length c0_1]) (t := 30) ?hr ?_; (case hd => rfl); (case hg => rfl); (case hr => first | (go_simp; done) | (go_simp; rfl)); intro gb140001 hg w11 hbox hb; have n0_ := Aside0.mk (below_step (by repeat (first | (with_reducible first | exact HB.out | apply below_alloc | apply pw_below_drewN | apply below_drew1) | exact HB.out)) hb); have n1_ := Aside0.mk (hbox); have n2_ := Aside0.mk ((by rw [hg]; exact (below_size (by repeat (first | (with_reducible first | exact HB.out | apply below_alloc | apply pw_below_drewN | apply below_drew1) | exact HB.out))) : w.heap.size ≤ gb140001)); have n3_ := Aside0.mk ((by rw [hg]; exact (below_size (by repeat (first | (with_reducible first | exact HB.out | apply below_alloc | apply pw_below_drewN | apply below_drew1) | exact HB.out))) : w.heap.size ≤ gb140001)); clear HB; have HB := n0_; have BK140001 := n1_; have GW140001 := n2_; have GE140001 := n3_; clear n0_ n1_ n2_ n3_; clear hb hbox hg) | ((with_reducible refine gate_dst (N := 3) rfl ?_); refine box_event ?hg (N := 3) ?hd (cs := #[.int .i64 a1_0, .slice A1_1 l1_1.length c1_1]) (t := 30) ?hr ?_; (case hd => rfl); (case hg => rfl); (case hr => first | (go_simp; done) | (go_simp; rfl)); intro gb140002 hg w12 hbox hb; have n0_ := Aside0.mk (blk_below (g := gb140001) (o := .cells #[.int .i64 a0_0, .slice A0_1 l0_1.length c0_1] 30 (0, 0)) (by (with_reducible repeat (first | refine blk_drewN ?_ _ | refine blk_drew ?_ | refine blk_alloc ?_ _)); exact BK140001.out) hb); have n1_ := Aside0.mk (below_step (by repeat (first | (with_reducible first | exact HB.out | apply below_alloc | apply pw_below_drewN | apply below_drew1 | refine below_set ?_ GE140001.out) | exact HB.out)) hb); have n2_ := Aside0.mk (hbox); have n3_ := Aside0.mk ((by rw [hg]; exact (below_size (by repeat (first | (with_reducible first | exact HB.out | apply below_alloc | apply pw_below_drewN | apply below_drew1 | refine below_set ?_ GE140001.out) | exact HB.out))) : w.heap.size ≤ gb140002)); have n4_ := Aside0.mk ((by rw [hg]; exact (below_size (by repeat (first | (with_reducible first | exact HB.out | apply below_alloc | apply pw_below_drewN | apply below_drew1 | refine below_set ?_ GE140001.out) | exact HB.out))) : w.heap.size ≤ gb140002)); have n5_ := Aside0.mk ((by rw [hg]; exact Nat.ne_of_lt (blk_lt (g := gb140001) (o := .cells #[.int .i64 a0_0, .slice A0_1 l0_1.length c0_1] 30 (0, 0)) (by (with_reducible repeat (first | refine blk_drewN ?_ _ | refine blk_drew ?_ | refine blk_alloc ?_ _)); exact BK140001.out)) : gb140001 ≠ gb140002)); have n6_ := Aside0.mk ((by rw [hg]; exact Nat.ne_of_gt (blk_lt (g := gb140001) (o := .cells #[.int .i64 a0_0, .slice A0_1 l0_1.length c0_1] 30 (0, 0)) (by (with_reducible repeat (first | refine blk_drewN ?_ _ | refine blk_drew ?_ | refine blk_alloc ?_ _)); exact BK140001.out)) : gb140002 ≠ gb140001)); clear BK140001; clear HB; have BK140001 := n0_; have HB := n1_; have BK140002 := n2_; have GW140002 := n3_; have GE140002 := n4_; have NB140001_140002 := n5_; have NB140002_140001 := n6_; clear n0_ n1_ n2_ n3_ n4_ n5_ n6_; clear hb hbox hg; have hnb13 := NB140001_140002.out; have hnc13 := NB140002_140001.out; have hcz14_0 : w12.cell? ⟨gb140001, 0, none⟩ = some (.int .i64 a0_0) := (blk_cell BK140001.out 0).trans rfl; have hcz14_1 : w12.cell? ⟨gb140001, 1, none⟩ = some (.slice A0_1 l0_1.length c0_1) := (blk_cell BK140001.out 1).trans rfl; have hfz14_0 := blk_frozen BK140001.out 0; have hfz14_1 := blk_frozen BK140001.out 1; have hcz15_0 : w12.cell? ⟨gb140002, 0, none⟩ = some (.int .i64 a1_0) := (blk_cell BK140002.out 0).trans rfl; have hcz15_1 : w12.cell? ⟨gb140002, 1, none⟩ = some (.slice A1_1 l1_1.length c1_1) := (blk_cell BK140002.out 1).trans rfl; have hfz15_0 := blk_frozen BK140002.out 0; have hfz15_1 := blk_frozen BK140002.out 1) | ((with_reducible refine gate_callee (f := 40) rfl ?_); refine goesL_ (some 14) rfl rfl Tryd.func40 (by kernel_rfl) rfl #[.slice A0_1 l0_1.length c0_1, .slice A1_1 l1_1.length c1_1] rfl (by (try simp only [List.map_toArray, List.map_cons, List.map_nil]); first | done | rfl | (simp only [List.length_drop, List.length_take]; rfl)) ?_; (with_reducible refine (laws_eqStringS.calls k _ _ l0_1 _ _ l1_1 false _ ?side1 ?side2 ?side3 ?side4 A4.out).mono ?_); (case side1 => repeat (first | exact (Kd.C_below HR0_1.out HB.out) | (with_reducible refine Kd.C_alloc ?_ _) | (with_reducible refine Kd.C_drewN ?_ _) | (with_reducible refine Kd.C_drew ?_))); (case side2 => exact HC0_1.out); (case side3 => repeat (first | exact (Kd.C_below HR1_1.out HB.out) | (with_reducible refine Kd.C_alloc ?_ _) | (with_reducible refine Kd.C_drewN ?_ _) | (with_reducible refine Kd.C_drew ?_))); (case side4 => exact HC1_1.out); rintro e w' ⟨rfl, ⟨nd, rfl⟩⟩; refine ⟨_, rfl, ?_⟩))
      go_ret
      exact ⟨by first | rfl | (simp [errW_none, errW_some] <;> rfl) | (simp [*, errW_none, errW_some] <;> rfl), by repeat (first | (with_reducible first | exact HB.out | apply below_alloc | apply pw_below_drewN | apply below_drew1 | refine below_set ?_ GE140001.out | refine below_set ?_ GE140002.out) | exact HB.out)⟩
  · rw [if_neg c3] at H
    have c3b0 : (a0_0 == a1_0) = false := beq_eq_false_iff_ne.mpr c3
    have c3b1 : (a0_0 != a1_0) = true := bne_iff_ne.mpr c3
    obtain rfl := Option.some.inj H
    go_enter Tryd.func14, Tryd.ntmps14
    go_wp2_with (first | ((with_reducible refine gate_dst (N := 2) rfl ?_); refine box_event ?hg (N := 2) ?hd (cs := #[.int .i64 a0_0, .slice A0_1 l0_1.length c0_1]) (t := 30) ?hr ?_; (case hd => rfl); (case hg => rfl); (case hr => first | (go_simp; done) | (go_simp; rfl)); intro gb140001 hg w16 hbox hb; have n0_ := Aside0.mk (below_step (by repeat (first | (with_reducible first | exact HB.out | apply below_alloc | apply pw_below_drewN | apply below_drew1) | exact HB.out)) hb); have n1_ := Aside0.mk (hbox); have n2_ := Aside0.mk ((by rw [hg]; exact (below_size (by repeat (first | (with_reducible first | exact HB.out | apply below_alloc | apply pw_below_drewN | apply below_drew1) | exact HB.out))) : w.heap.size ≤ gb140001)); have n3_ := Aside0.mk ((by rw [hg]; exact (below_size (by repeat (first | (with_reducible first | exact HB.out | apply below_alloc | apply pw_below_drewN | apply below_drew1) | exact HB.out))) : w.heap.size ≤ gb140001)); clear HB; have HB := n0_; have BK140001 := n1_; have GW140001 := n2_; have GE140001 := n3_; clear n0_ n1_ n2_ n3_; clear hb hbox hg) | ((with_reducible refine gate_dst (N := 3) rfl ?_); refine box_event ?hg (N := 3) ?hd (cs := #[.int .i64 a1_0, .slice A1_1 l1_1.length c1_1]) (t := 30) ?hr ?_; (case hd => rfl); (case hg => rfl); (case hr => first | (go_simp; done) | (go_simp; rfl)); intro gb140002 hg w17 hbox hb; have n0_ := Aside0.mk (blk_below (g := gb140001) (o := .cells #[.int .i64 a0_0, .slice A0_1 l0_1.length c0_1] 30 (0, 0)) (by (with_reducible repeat (first | refine blk_drewN ?_ _ | refine blk_drew ?_ | refine blk_alloc ?_ _)); exact BK140001.out) hb); have n1_ := Aside0.mk (below_step (by repeat (first | (with_reducible first | exact HB.out | apply below_alloc | apply pw_below_drewN | apply below_drew1 | refine below_set ?_ GE140001.out) | exact HB.out)) hb); have n2_ := Aside0.mk (hbox); have n3_ := Aside0.mk ((by rw [hg]; exact (below_size (by repeat (first | (with_reducible first | exact HB.out | apply below_alloc | apply pw_below_drewN | apply below_drew1 | refine below_set ?_ GE140001.out) | exact HB.out))) : w.heap.size ≤ gb140002)); have n4_ := Aside0.mk ((by rw [hg]; exact (below_size (by repeat (first | (with_reducible first | exact HB.out | apply below_alloc | apply pw_below_drewN | apply below_drew1 | refine below_set ?_ GE140001.out) | exact HB.out))) : w.heap.size ≤ gb140002)); have n5_ := Aside0.mk ((by rw [hg]; exact Nat.ne_of_lt (blk_lt (g := gb140001) (o := .cells #[.int .i64 a0_0, .slice A0_1 l0_1.length c0_1] 30 (0, 0)) (by (with_reducible repeat (first | refine blk_drewN ?_ _ | refine blk_drew ?_ | refine blk_alloc ?_ _)); exact BK140001.out)) : gb140001 ≠ gb140002)); have n6_ := Aside0.mk ((by rw [hg]; exact Nat.ne_of_gt (blk_lt (g := gb140001) (o := .cells #[.int .i64 a0_0, .slice A0_1 l0_1.length c0_1] 30 (0, 0)) (by (with_reducible repeat (first | refine blk_drewN ?_ _ | refine blk_drew ?_ | refine blk_alloc ?_ _)); exact BK140001.out)) : gb140002 ≠ gb140001)); clear BK140001; clear HB; have BK140001 := n0_; have HB := n1_; have BK140002 := n2_; have GW140002 := n3_; have GE140002 := n4_; have NB140001_140002 := n5_; have NB140002_140001 := n6_; clear n0_ n1_ n2_ n3_ n4_ n5_ n6_; clear hb hbox hg; have hnb18 := NB140001_140002.out; have hnc18 := NB140002_140001.out; have hcz19_0 : w17.cell? ⟨gb140001, 0, none⟩ = some (.int .i64 a0_0) := (blk_cell BK140001.out 0).trans rfl; have hcz19_1 : w17.cell? ⟨gb140001, 1, none⟩ = some (.slice A0_1 l0_1.length c0_1) := (blk_cell BK140001.out 1).trans rfl; have hfz19_0 := blk_frozen BK140001.out 0; have hfz19_1 := blk_frozen BK140001.out 1; have hcz20_0 : w17.cell? ⟨gb140002, 0, none⟩ = some (.int .i64 a1_0) := (blk_cell BK140002.out 0).trans rfl; have hcz20_1 : w17.cell? ⟨gb140002, 1, none⟩ = some (.slice A1_1 l1_1.length c1_1) := (blk_cell BK140002.out 1).trans rfl; have hfz20_0 := blk_frozen BK140002.out 0; have hfz20_1 := blk_frozen BK140002.out 1))
    go_ret
    exact ⟨by first | rfl | (simp [errW_none, errW_some] <;> rfl) | (simp [*, errW_none, errW_some] <;> rfl), by repeat (first | (with_reducible first | exact HB.out | apply below_alloc | apply pw_below_drewN | apply below_drew1 | refine below_set ?_ GE140001.out | refine below_set ?_ GE140002.out) | exact HB.out)⟩
end Go.Proofs.YtmfejehhfmaodabDoor.Z
end
section
namespace Go.Proofs.YtmfejehhfmaodabDoor.Z
open Go.RowKit Go.Proofs.YtmfejehhfmaodabDoorW.PrintWords Go.Proofs.YtmfejehhfmaodabDoorW.PrintLast Go.Proofs.YtmfejehhfmaodabDoorW.PrintMore
attribute [local go_sem] max2_int min2_int max_two min_two max_three min_three max_four min_four   -- for this text's walks alone
set_option linter.unusedVariables false
set_option linter.unusedSimpArgs false
def laws_szStringS.l0 : Nat → List ByteArray → Int → Int → Option (Int)
  | 0, _, _, _ => none
  | k + 1, x0, x1, x5 => if x5 < (x0.length : Int) then (if 0 ≤ x5 then (if (wrap64 (x1 - ((rdOf ByteArray.empty x0 x5).size : Int))) < 0 then (some (-1)) else (laws_szStringS.l0 k x0 (wrap64 (x1 - ((rdOf ByteArray.empty x0 x5).size : Int))) (wrap64 (x5 + 1)))) else (none)) else (some x1)
def laws_szStringS.f (k : Nat) (l0 : List ByteArray) (a1 : Int) : Option (Int) := if (wrap64 (a1 - (l0.length : Int))) < 0 then (some (-1)) else (laws_szStringS.l0 k l0 (wrap64 (a1 - (l0.length : Int))) 0)
theorem laws_szStringS.mono_l : ∀ k, (∀ y0 y1 y2, LeO (laws_szStringS.l0 k y0 y1 y2) (laws_szStringS.l0 (k + 1) y0 y1 y2))
  | 0 => fun _ _ _ r h => by simp [laws_szStringS.l0] at h
  | k + 1 => by
    have ih0 := laws_szStringS.mono_l k
    · intro y0 y1 y2
      unfold laws_szStringS.l0
      repeat' first
      | (with_reducible exact ih0 _ _ _)
      | (with_reducible exact LeO.refl _)
      | (with_reducible exact LeO.none _)
      | (with_reducible refine LeO.ite ?_ ?_)
      | (with_reducible refine LeO.bind ?_ (fun _ => ?_))
      | exact ih0 _ _ _
      | exact LeO.none _
      | refine LeO.ite ?_ ?_
      | refine LeO.bind ?_ (fun _ => ?_)
theorem laws_szStringS.mono : ∀ a0 a1 k, LeO (laws_szStringS.f k a0 a1) (laws_szStringS.f (k + 1) a0 a1) := by
  intro a0 a1 k
  have ih0 := laws_szStringS.mono_l k
  unfold laws_szStringS.f
  repeat' first
      | (with_reducible exact ih0 _ _ _)
      | (with_reducible exact LeO.refl _)
      | (with_reducible exact LeO.none _)
      | (with_reducible refine LeO.ite ?_ ?_)
      | (with_reducible refine LeO.bind ?_ (fun _ => ?_))
      | exact ih0 _ _ _
      | exact LeO.none _
      | refine LeO.ite ?_ ?_
      | refine LeO.bind ?_ (fun _ => ?_)
set_option maxHeartbeats 8000000 in
set_option maxRecDepth 100000 in
theorem laws_szStringS.calls (k : Nat) (A0 : Option Addr) (c0 : Nat) (l0 : List ByteArray) (a1 : Int) (r : Int) (w : World) (hr0 : Kd.C Kd.string w A0 l0.length l0) (hc0 : l0.length ≤ c0) (h : laws_szStringS.f k l0 a1 = some r) :
    Calls Tryd.prog 32 #[.slice A0 l0.length c0, .int .i64 a1] w fun e w' => e = .returned (.int .i64 r) ∧ Drawn0 w w' := by
  have HR0 := Aside0.mk hr0
  have HC0 := Aside0.mk hc0
  clear hr0 hc0
  have H : (if (wrap64 (a1 - (l0.length : Int))) < 0 then (some (-1)) else (laws_szStringS.l0 k l0 (wrap64 (a1 - (l0.length : Int))) 0)) = some r := h
  clear h
  by_cases c3 : (wrap64 (a1 - (l0.length : Int))) < 0
  · rw [if_pos c3] at H
    have c3b0 : decide ((wrap64 (a1 - (l0.length : Int))) < 0) = true := decide_eq_true c3
    clear c3
    obtain rfl := Option.some.inj H
    go_enter Tryd.func32, Tryd.ntmps32
    go_wp2
    go_ret
    exact ⟨by first | rfl | (simp; done) | (simp [*]; done), by repeat (first | exact Drawn0.refl _ | apply Drawn0.step)⟩
  · rw [if_neg c3] at H
    have c3b0 : decide ((wrap64 (a1 - (l0.length : Int))) < 0) = false := decide_eq_false c3
    clear c3
    have H' := Aside0.mk H
    clear H
    go_enter Tryd.func32, Tryd.ntmps32
    go_wp2
    go_loopg [1, 5] k (fun kq v1 v5 w' => ∃ (x1_1 : Int) (x5_1 : Int), v1 = .int .i64 x1_1 ∧ v5 = .int .i64 x5_1 ∧ Aside0 (laws_szStringS.l0 kq l0 x1_1 x5_1 = some r) ∧ Aside0 (kq ≤ k) ∧ Drawn0 w w')
    case atStart => exact ⟨(wrap64 (a1 - (l0.length : Int))), (0), (by first | rfl | (simp; done) | (simp [*]; done)), (by first | rfl | (simp; done) | (simp [*]; done)), H', ⟨Nat.le_refl _⟩, by repeat (first | exact Drawn0.refl _ | apply Drawn0.step)⟩
    case round =>
      clear H'
      try clear p2
      try clear c3
      try clear c3b0
      obtain ⟨x1_1, x5_1, rfl, rfl, HA, HK1, ⟨m1, rfl⟩⟩ := hrel
      cases gk with
      | zero => exact absurd HA.out (by simp [laws_szStringS.l0])
      | succ k1 =>
        have H := HA.out
        clear HA
        simp only [laws_szStringS.l0] at H
        by_cases c4 : x5_1 < (l0.length : Int)
        · rw [if_pos c4] at H
          have c4b0 : decide (x5_1 < (l0.length : Int)) = true := decide_eq_true c4
          clear c4
          by_cases c5 : 0 ≤ x5_1
          · rw [if_pos c5] at H
            have c5b0 : decide (0 ≤ x5_1) = true := decide_eq_true c5
            clear c5
            by_cases c6 : (wrap64 (x1_1 - ((rdOf ByteArray.empty l0 x5_1).size : Int))) < 0
            · rw [if_pos c6] at H
              have c6b0 : decide ((wrap64 (x1_1 - ((rdOf ByteArray.empty l0 x5_1).size : Int))) < 0) = true := decide_eq_true c6
              clear c6
              obtain rfl := Option.some.inj H
              have p320001 : 0 ≤ (x5_1 : Int) := of_decide_eq_true (by first | (with_reducible assumption) | assumption)
              have q320001 : x5_1 < (l0.length : Int) := of_decide_eq_true (by first | (with_reducible assumption) | assumption)
              obtain ⟨ad320001, e320001, hx320001_0⟩ := Kd.at_string HR0.out x5_1 p320001 q320001
              cases e320001
              replace p320001 := eq_true p320001
              replace q320001 := eq_true q320001
              go_wp2
              go_ret
              exact ⟨by first | rfl | (simp; done) | (simp [*]; done), by repeat (first | exact Drawn0.refl _ | apply Drawn0.step)⟩
            · rw [if_neg c6] at H
              have c6b0 : decide ((wrap64 (x1_1 - ((rdOf ByteArray.empty l0 x5_1).size : Int))) < 0) = false := decide_eq_false c6
              clear c6
              have H' := Aside0.mk H
              clear H
              have p320001 : 0 ≤ (x5_1 : Int) := of_decide_eq_true (by first | (with_reducible assumption) | assumption)
              have q320001 : x5_1 < (l0.length : Int) := of_decide_eq_true (by first | (with_reducible assumption) | assumption)
              obtain ⟨ad320001, e320001, hx320001_0⟩ := Kd.at_string HR0.out x5_1 p320001 q320001
              cases e320001
              replace p320001 := eq_true p320001
              replace q320001 := eq_true q320001
              go_wp2
              go_roundg k1
              case measure => have := HK1.out; omega
              case rel => exact ⟨(wrap64 (x1_1 - ((rdOf ByteArray.empty l0 x5_1).size : Int))), (wrap64 (x5_1 + 1)), (by first | rfl | (simp; done) | (simp [*]; done)), (by first | rfl | (simp; done) | (simp [*]; done)), H', ⟨by have := HK1.out; omega⟩, by repeat (first | exact Drawn0.refl _ | apply Drawn0.step)⟩
          · rw [if_neg c5] at H
            exact absurd H (by simp)
        · rw [if_neg c4] at H
          have c4b0 : decide (x5_1 < (l0.length : Int)) = false := decide_eq_false c4
          clear c4
          obtain rfl := Option.some.inj H
          go_wp2
          go_ret
          exact ⟨by first | rfl | (simp; done) | (simp [*]; done), by repeat (first | exact Drawn0.refl _ | apply Drawn0.step)⟩
end Go.Proofs.YtmfejehhfmaodabDoor.Z
end
section
namespace Go.Proofs.YtmfejehhfmaodabDoor.Z
open Go.RowKit Go.Proofs.YtmfejehhfmaodabDoorW.PrintWords Go.Proofs.YtmfejehhfmaodabDoorW.PrintLast Go.Proofs.YtmfejehhfmaodabDoorW.PrintMore
attribute [local go_sem] max2_int min2_int max_two min_two max_three min_three max_four min_four   -- for this text's walks alone
set_option linter.unusedVariables false
set_option linter.unusedSimpArgs false
def laws_szPool.f (k : Nat) (a0_0 : Int) (l0_1 : List ByteArray) (a1 : Int) : Option (Int) := (laws_szStringS.f k l0_1 a1).bind fun t90002 => (if t90002 < 0 then (some (-1)) else (some t90002))
theorem laws_szPool.mono : ∀ a0 a1 a2 k, LeO (laws_szPool.f k a0 a1 a2) (laws_szPool.f (k + 1) a0 a1 a2) := by
  intro a0 a1 a2 k
  unfold laws_szPool.f
  repeat' first
      | (with_reducible exact laws_szStringS.mono _ _ _)
      | (with_reducible exact LeO.refl _)
      | (with_reducible exact LeO.none _)
      | (with_reducible refine LeO.ite ?_ ?_)
      | (with_reducible refine LeO.bind ?_ (fun _ => ?_))
      | exact laws_szStringS.mono _ _ _
      | exact LeO.none _
      | refine LeO.ite ?_ ?_
      | refine LeO.bind ?_ (fun _ => ?_)
set_option maxHeartbeats 8000000 in
set_option maxRecDepth 100000 in
theorem laws_szPool.calls (k : Nat) (a0_0 : Int) (A0_1 : Option Addr) (c0_1 : Nat) (l0_1 : List ByteArray) (a1 : Int) (r : Int) (w : World) (hr0_1 : Kd.C Kd.string w A0_1 l0_1.length l0_1) (hc0_1 : l0_1.length ≤ c0_1) (h : laws_szPool.f k a0_0 l0_1 a1 = some r) :
    Calls Tryd.prog 9 #[.agg #[.int .i64 a0_0, .slice A0_1 l0_1.length c0_1], .int .i64 a1] w fun e w' => e = .returned (.int .i64 r) ∧ Below w.heap.size w w' := by
  have hu24 := Tryd.underlying24
  have HR0_1 := Aside0.mk hr0_1
  have HC0_1 := Aside0.mk hc0_1
  clear hr0_1 hc0_1
  have HB := Aside0.mk (Below.refl w.heap.size w)
  have H : ((laws_szStringS.f k l0_1 a1).bind fun t90002 => (if t90002 < 0 then (some (-1)) else (some t90002))) = some r := h
  clear h
  replace H := Option.bind_eq_some_iff.mp H
  obtain ⟨t90002, A30, H⟩ := H
  replace H : (if t90002 < 0 then (some (-1)) else (some t90002)) = some r := H
  have A3 := Aside0.mk A30
  clear A30
  by_cases c4 : t90002 < 0
  · rw [if_pos c4] at H
    have c4b0 : decide (t90002 < 0) = true := decide_eq_true c4
    clear c4
    obtain rfl := Option.some.inj H
    go_enter Tryd.func9, Tryd.ntmps9
    go_wp2_with (first | ((with_reducible refine gate_dst (N := 2) rfl ?_); refine box_event ?hg (N := 2) ?hd (cs := #[.int .i64 a0_0, .slice A0_1 l0_1.length c0_1]) (t := 24) ?hr ?_; (case hd => rfl); (case hg => rfl); (case hr => first | (go_simp; done) | (go_simp; rfl)); intro gb90001 hg w5 hbox hb; have n0_ := Aside0.mk (below_step (by repeat (first | (with_reducible first | exact HB.out | apply below_alloc | apply pw_below_drewN | apply below_drew1) | exact HB.out)) hb); have n1_ := Aside0.mk (hbox); have n2_ := Aside0.mk ((by rw [hg]; exact (below_size (by repeat (first | (with_reducible first | exact HB.out | apply below_alloc | apply pw_below_drewN | apply below_drew1) | exact HB.out))) : w.heap.size ≤ gb90001)); have n3_ := Aside0.mk ((by rw [hg]; exact (below_size (by repeat (first | (with_reducible first | exact HB.out | apply below_alloc | apply pw_below_drewN | apply below_drew1) | exact HB.out))) : w.heap.size ≤ gb90001)); clear HB; have HB := n0_; have BK90001 := n1_; have GW90001 := n2_; have GE90001 := n3_; clear n0_ n1_ n2_ n3_; clear hb hbox hg; have hcz6_0 : w5.cell? ⟨gb90001, 0, none⟩ = some (.int .i64 a0_0) := (blk_cell BK90001.out 0).trans rfl; have hcz6_1 : w5.cell? ⟨gb90001, 1, none⟩ = some (.slice A0_1 l0_1.length c0_1) := (blk_cell BK90001.out 1).trans rfl; have hfz6_0 := blk_frozen BK90001.out 0; have hfz6_1 := blk_frozen BK90001.out 1) | ((with_reducible refine gate_callee (f := 32) rfl ?_); refine goesL_ (some 8) rfl rfl Tryd.func32 (by kernel_rfl) rfl #[.slice A0_1 l0_1.length c0_1, .int .i64 a1] rfl (by (try simp only [List.map_toArray, List.map_cons, List.map_nil]); first | done | rfl | (simp only [List.length_drop, List.length_take]; rfl)) ?_; (with_reducible refine (laws_szStringS.calls k _ _ l0_1 a1 t90002 _ ?side1 ?side2 A3.out).mono ?_); (case side1 => repeat (first | exact (Kd.C_below HR0_1.out HB.out) | (with_reducible refine Kd.C_alloc ?_ _) | (with_reducible refine Kd.C_drewN ?_ _) | (with_reducible refine Kd.C_drew ?_))); (case side2 => exact HC0_1.out); rintro e w' ⟨rfl, ⟨nd, rfl⟩⟩; refine ⟨_, rfl, ?_⟩))
    go_ret
    exact ⟨by first | rfl | (simp [errW_none, errW_some] <;> rfl) | (simp [*, errW_none, errW_some] <;> rfl), by repeat (first | (with_reducible first | exact HB.out | apply below_alloc | apply pw_below_drewN | apply below_drew1 | refine below_set ?_ GE90001.out) | exact HB.out)⟩
  · rw [if_neg c4] at H
    have c4b0 : decide (t90002 < 0) = false := decide_eq_false c4
    clear c4
    obtain rfl := Option.some.inj H
    go_enter Tryd.func9, Tryd.ntmps9
    go_wp2_with (first | ((with_reducible refine gate_dst (N := 2) rfl ?_); refine box_event ?hg (N := 2) ?hd (cs := #[.int .i64 a0_0, .slice A0_1 l0_1.length c0_1]) (t := 24) ?hr ?_; (case hd => rfl); (case hg => rfl); (case hr => first | (go_simp; done) | (go_simp; rfl)); intro gb90001 hg w7 hbox hb; have n0_ := Aside0.mk (below_step (by repeat (first | (with_reducible first | exact HB.out | apply below_alloc | apply pw_below_drewN | apply below_drew1) | exact HB.out)) hb); have n1_ := Aside0.mk (hbox); have n2_ := Aside0.mk ((by rw [hg]; exact (below_size (by repeat (first | (with_reducible first | exact HB.out | apply below_alloc | apply pw_below_drewN | apply below_drew1) | exact HB.out))) : w.heap.size ≤ gb90001)); have n3_ := Aside0.mk ((by rw [hg]; exact (below_size (by repeat (first | (with_reducible first | exact HB.out | apply below_alloc | apply pw_below_drewN | apply below_drew1) | exact HB.out))) : w.heap.size ≤ gb90001)); clear HB; have HB := n0_; have BK90001 := n1_; have GW90001 := n2_; have GE90001 := n3_; clear n0_ n1_ n2_ n3_; clear hb hbox hg; have hcz8_0 : w7.cell? ⟨gb90001, 0, none⟩ = some (.int .i64 a0_0) := (blk_cell BK90001.out 0).trans rfl; have hcz8_1 : w7.cell? ⟨gb90001, 1, none⟩ = some (.slice A0_1 l0_1.length c0_1) := (blk_cell BK90001.out 1).trans rfl; have hfz8_0 := blk_frozen BK90001.out 0; have hfz8_1 := blk_frozen BK90001.out 1) | ((with_reducible refine gate_callee (f := 32) rfl ?_); refine goesL_ (some 8) rfl rfl Tryd.func32 (by kernel_rfl) rfl #[.slice A0_1 l0_1.length c0_1, .int .i64 a1] rfl (by (try simp only [List.map_toArray, List.map_cons, List.map_nil]); first | done | rfl | (simp only [List.length_drop, List.length_take]; rfl)) ?_; (with_reducible refine (laws_szStringS.calls k _ _ l0_1 a1 t90002 _ ?side1 ?side2 A3.out).mono ?_); (case side1 => repeat (first | exact (Kd.C_below HR0_1.out HB.out) | (with_reducible refine Kd.C_alloc ?_ _) | (with_reducible refine Kd.C_drewN ?_ _) | (with_reducible refine Kd.C_drew ?_))); (case side2 => exact HC0_1.out); rintro e w' ⟨rfl, ⟨nd, rfl⟩⟩; refine ⟨_, rfl, ?_⟩))
    go_ret
    exact ⟨by first | rfl | (simp [errW_none, errW_some] <;> rfl) | (simp [*, errW_none, errW_some] <;> rfl), by repeat (first | (with_reducible first | exact HB.out | apply below_alloc | apply pw_below_drewN | apply below_drew1 | refine below_set ?_ GE90001.out) | exact HB.out)⟩
end Go.Proofs.YtmfejehhfmaodabDoor.Z
end
section
namespace Go.Proofs.YtmfejehhfmaodabDoor.Z
open Go.RowKit Go.Proofs.YtmfejehhfmaodabDoorW.PrintWords Go.Proofs.YtmfejehhfmaodabDoorW.PrintLast Go.Proofs.YtmfejehhfmaodabDoorW.PrintMore
attribute [local go_sem] max2_int min2_int max_two min_two max_three min_three max_four min_four   -- for this text's walks alone
set_option linter.unusedVariables false
set_option linter.unusedSimpArgs false
def laws_toStringS.l0 : Nat → List ByteArray → List ByteArray → Int → Option (List ByteArray)
  | 0, _, _, _ => none
  | k + 1, x0, x3, x4 => if x4 < (x0.length : Int) then (if 0 ≤ x4 then (if x4 < (x3.length : Int) then (laws_toStringS.l0 k x0 (x3.set (x4 : Int).toNat (rdOf ByteArray.empty x0 x4)) (wrap64 (x4 + 1))) else (none)) else (none)) else (some x3)
def laws_toStringS.f (k : Nat) (l0 : List ByteArray) : Option (List ByteArray) := if 0 ≤ (l0.length : Int) then (if ((l0.length : Int) : Int).toNat ≤ 17592186044416 then (laws_toStringS.l0 k l0 (List.replicate ((l0.length : Int) : Int).toNat (⟨#[]⟩ : ByteArray)) 0) else (none)) else (none)
theorem laws_toStringS.mono_l : ∀ k, (∀ y0 y1 y2, LeO (laws_toStringS.l0 k y0 y1 y2) (laws_toStringS.l0 (k + 1) y0 y1 y2))
  | 0 => fun _ _ _ r h => by simp [laws_toStringS.l0] at h
  | k + 1 => by
    have ih0 := laws_toStringS.mono_l k
    · intro y0 y1 y2
      unfold laws_toStringS.l0
      repeat' first
      | (with_reducible exact ih0 _ _ _)
      | (with_reducible exact LeO.refl _)
      | (with_reducible exact LeO.none _)
      | (with_reducible refine LeO.ite ?_ ?_)
      | (with_reducible refine LeO.bind ?_ (fun _ => ?_))
      | exact ih0 _ _ _
      | exact LeO.none _
      | refine LeO.ite ?_ ?_
      | refine LeO.bind ?_ (fun _ => ?_)
theorem laws_toStringS.mono : ∀ a0 k, LeO (laws_toStringS.f k a0) (laws_toStringS.f (k + 1) a0) := by
  intro a0 k
  have ih0 := laws_toStringS.mono_l k
  unfold laws_toStringS.f
  repeat' first
      | (with_reducible exact ih0 _ _ _)
      | (with_reducible exact LeO.refl _)
      | (with_reducible exact LeO.none _)
      | (with_reducible refine LeO.ite ?_ ?_)
      | (with_reducible refine LeO.bind ?_ (fun _ => ?_))
      | exact ih0 _ _ _
      | exact LeO.none _
      | refine LeO.ite ?_ ?_
      | refine LeO.bind ?_ (fun _ => ?_)
set_option maxHeartbeats 8000000 in
set_option maxRecDepth 100000 in
theorem laws_toStringS.calls (k : Nat) (A0 : Option Addr) (c0 : Nat) (l0 : List ByteArray) (r : List ByteArray) (w : World) (hr0 : Kd.C Kd.string w A0 l0.length l0) (hc0 : l0.length ≤ c0) (h : laws_toStringS.f k l0 = some r) :
    Calls Tryd.prog 36 #[.slice A0 l0.length c0] w fun e w' => ∃ v0_ : Value, e = .returned (v0_) ∧ Kd.R Kd.string 9 w' w.heap.size (fun _ => True) v0_ r ∧ Below w.heap.size w w' := by
  have HR0 := Aside0.mk hr0
  have HC0 := Aside0.mk hc0
  clear hr0 hc0
  have HB := Aside0.mk (Below.refl w.heap.size w)
  have H : (if 0 ≤ (l0.length : Int) then (if ((l0.length : Int) : Int).toNat ≤ 17592186044416 then (laws_toStringS.l0 k l0 (List.replicate ((l0.length : Int) : Int).toNat (⟨#[]⟩ : ByteArray)) 0) else (none)) else (none)) = some r := h
  clear h
  by_cases c2 : 0 ≤ (l0.length : Int)
  · rw [if_pos c2] at H
    have c2b0 := eq_true c2
    have c2b1 : decide (0 ≤ (l0.length : Int)) = true := decide_eq_true c2
    clear c2
    by_cases c3 : ((l0.length : Int) : Int).toNat ≤ 17592186044416
    · rw [if_pos c3] at H
      have c3b0 := eq_true c3
      have c3b1 : decide (((l0.length : Int) : Int).toNat ≤ 17592186044416) = true := decide_eq_true c3
      clear c3
      obtain ⟨y360001, hy360001⟩ : ∃ y_ : List ByteArray, y_ = (List.replicate ((l0.length : Int) : Int).toNat (⟨#[]⟩ : ByteArray)) := ⟨_, rfl⟩
      replace H : (laws_toStringS.l0 k l0 y360001 0) = some r := by first | (rw [hy360001]; with_reducible exact H) | (have H2_ := (Option.bind_some _ _).symm.trans H; rw [hy360001]; with_reducible exact H2_) | (have H2_ := (Option.bind_some _ _).symm.trans H; with_reducible exact H2_) | with_reducible exact H | (rw [hy360001]; exact H) | exact H
      have Ny360001 := Aside0.mk hy360001
      clear hy360001
      have H' := Aside0.mk H
      clear H
      go_enter Tryd.func36, Tryd.ntmps36
      go_wp2_with (first | ((with_reducible refine gate_dst (N := 7) rfl ?_); refine Kd.R_make Kd.string _ 9 rfl (N := 7) rfl 22 _ _ rfl (l0.length : Int) rfl rfl Tryd.underlying22 (.string ⟨#[]⟩) 16 info9 rfl (by decide) (by omega) (⟨#[]⟩ : ByteArray) (ok := fun _ => True) (okp := fun _ => True) rfl (fun _ hk => hk) trivial (of_decide_eq_true (by first | (with_reducible assumption) | assumption)) (Nat.le_trans (Nat.mul_le_mul_right _ (of_decide_eq_true (by first | (with_reducible assumption) | assumption) : (l0.length : Int).toNat ≤ 17592186044416)) (by omega)) (Below.refl _ _) (Nat.le_refl _) ?_; intro v360002 w4 ho5 hb hg_ hnew_; clear hg_ hnew_; (first | rw [← Ny360001.out] at ho5 | (simp only [Int.reduceToNat] at ho5; rw [← Ny360001.out] at ho5)); have n0_ := Aside0.mk (Kd.R_lower ho5 (below_size (by repeat (first | (with_reducible first | exact HB.out | apply below_alloc | apply pw_below_drewN | apply below_drew1) | exact HB.out)))); have n1_ := Aside0.mk (below_step (by repeat (first | (with_reducible first | exact HB.out | apply below_alloc | apply pw_below_drewN | apply below_drew1) | exact HB.out)) hb); clear HB; have HO360003 := n0_; have HB := n1_; clear n0_ n1_; clear hb ho5))
      go_loopg [4] k (fun kq v4 w' => ∃ (x3_1 : List ByteArray) (x4_1 : Int), v4 = .int .i64 x4_1 ∧ Aside0 (laws_toStringS.l0 kq l0 x3_1 x4_1 = some r) ∧ Aside0 (kq ≤ k) ∧ Aside0 (Kd.R Kd.string 9 w' w.heap.size (fun _ => True) v360002 x3_1) ∧ Aside0 (Below w.heap.size w w'))
      case atStart => exact ⟨(y360001), (0), (by first | rfl | (simp; done) | (simp [*]; done)), H', ⟨Nat.le_refl _⟩, ⟨by (with_reducible repeat (first | apply Kd.R_alloc | apply Kd.R_drewN | apply Kd.R_drew)); exact HO360003.out⟩, ⟨by repeat (first | (with_reducible first | exact HB.out | apply below_alloc | apply pw_below_drewN | apply below_drew1) | exact HB.out)⟩⟩
      case round =>
        clear H'
        try clear c2
        try clear c2b0
        try clear c2b1
        try clear p2
        try clear c3
        try clear c3b0
        try clear c3b1
        obtain ⟨x3_1, x4_1, rfl, HA, HK1, HO_3, HB⟩ := hrel
        cases gk with
        | zero => exact absurd HA.out (by simp [laws_toStringS.l0])
        | succ k1 =>
          have H := HA.out
          clear HA
          simp only [laws_toStringS.l0] at H
          by_cases c6 : x4_1 < (l0.length : Int)
          · rw [if_pos c6] at H
            have c6b0 : decide (x4_1 < (l0.length : Int)) = true := decide_eq_true c6
            clear c6
            by_cases c7 : 0 ≤ x4_1
            · rw [if_pos c7] at H
              have c7b0 : decide (0 ≤ x4_1) = true := decide_eq_true c7
              clear c7
              by_cases c8 : x4_1 < (x3_1.length : Int)
              · rw [if_pos c8] at H
                have c8b0 : decide (x4_1 < (x3_1.length : Int)) = true := decide_eq_true c8
                clear c8
                obtain ⟨y360005, hy360005⟩ : ∃ y_ : List ByteArray, y_ = (x3_1.set (x4_1 : Int).toNat (rdOf ByteArray.empty l0 x4_1)) := ⟨_, rfl⟩
                replace H : (laws_toStringS.l0 k1 l0 y360005 (wrap64 (x4_1 + 1))) = some r := by first | (rw [hy360005]; with_reducible exact H) | (have H2_ := (Option.bind_some _ _).symm.trans H; rw [hy360005]; with_reducible exact H2_) | (have H2_ := (Option.bind_some _ _).symm.trans H; with_reducible exact H2_) | with_reducible exact H | (rw [hy360005]; exact H) | exact H
                have Ny360005 := Aside0.mk hy360005
                clear hy360005
                have H' := Aside0.mk H
                clear H
                have p360004 : 0 ≤ (x4_1 : Int) := of_decide_eq_true (by first | (with_reducible assumption) | assumption)
                have q360004 : x4_1 < (l0.length : Int) := of_decide_eq_true (by first | (with_reducible assumption) | assumption)
                obtain ⟨ad360004, e360004, hx360004_0⟩ := Kd.at_string HR0.out x4_1 p360004 q360004
                cases e360004
                replace hx360004_0 := (HB.out.cell (World.block_lt_of_cell? w _ hx360004_0)).trans hx360004_0
                replace p360004 := eq_true p360004
                replace q360004 := eq_true q360004
                have p9 : 0 ≤ (x4_1 : Int) := of_decide_eq_true (by first | (with_reducible assumption) | assumption)
                have q9 : (x4_1 : Int) < ((x3_1.length : Int) : Int) := of_decide_eq_true (by first | (with_reducible assumption) | assumption)
                obtain ⟨go9, co9, eo9, gb9, gl9, cl9, HG9⟩ := Kd.R_form HO_3.out (by omega)
                (first | cases eo9 | (injection eo9 with ea_ en_ ec_; (first | subst ea_ | (injection ea_ with ea_; subst ea_)); subst ec_; clear en_))
                have GB9 := Aside0.mk gb9
                have GG9 := Aside0.mk HG9
                clear gb9 gl9 HG9
                obtain ⟨hx9_0, hf9_0⟩ := Kd.R_celln (⟨#[]⟩ : ByteArray) HO_3.out (x4_1 : Int) p9 q9
                replace p9 := eq_true p9
                replace q9 := eq_true q9
                have HP10 := Kd.R_putg HO_3.out (x4_1 : Int) (rdOf ByteArray.empty l0 x4_1)
                go_wp2_with (first | ((with_reducible refine gate_store (t := 9) (p := 20) rfl ?_); refine store_event (t := 9) (p := 20) (v := ?vo_w11) (w1 := (wr.setCell ⟨go9, (x4_1 : Int).toNat, none⟩ (.string (rdOf ByteArray.empty l0 x4_1)))) ?hg ?ho ?hn ?hr ?_; (case ho => rfl); (case hg => rfl); (case hn => rfl); (case hr => first | (go_simp; done) | (go_simp; rfl)); intro w11 hw; have hg : wr.grownBy w11 (some go9) := (by rw [hw]; exact HP10.2); have hp_ : Kd.R Kd.string 9 w11 w.heap.size (fun _ => True) (.slice (some ⟨go9, 0, none⟩) x3_1.length co9) y360005 := (by rw [hw, Ny360005.out]; exact HP10.1); clear HP10; have n0_ := Aside0.mk (hp_); have n1_ := Aside0.mk ((by rw [hw]; exact below_set (HB.out) GB9.out : Below w.heap.size w w11)); clear HO_3; clear HB; have HO_3 := n0_; have HB := n1_; clear n0_ n1_; clear hg hw hp_))
                go_roundg k1
                case measure => have := HK1.out; omega
                case rel => exact ⟨(y360005), (wrap64 (x4_1 + 1)), (by first | rfl | (simp; done) | (simp [*]; done)), H', ⟨by have := HK1.out; omega⟩, ⟨by (with_reducible repeat (first | apply Kd.R_alloc | apply Kd.R_drewN | apply Kd.R_drew)); exact HO_3.out⟩, ⟨by repeat (first | (with_reducible first | exact HB.out | apply below_alloc | apply pw_below_drewN | apply below_drew1) | exact HB.out)⟩⟩
              · rw [if_neg c8] at H
                exact absurd H (by simp)
            · rw [if_neg c7] at H
              exact absurd H (by simp)
          · rw [if_neg c6] at H
            have c6b0 : decide (x4_1 < (l0.length : Int)) = false := decide_eq_false c6
            clear c6
            obtain rfl := Option.some.inj H
            go_wp2
            go_ret
            exact ⟨_, by first | rfl | (simp [errW_none, errW_some] <;> rfl) | (simp [*, errW_none, errW_some] <;> rfl), by (with_reducible repeat (first | apply Kd.R_alloc | apply Kd.R_drewN | apply Kd.R_drew)); exact HO_3.out, by repeat (first | (with_reducible first | exact HB.out | apply below_alloc | apply pw_below_drewN | apply below_drew1) | exact HB.out)⟩
    · rw [if_neg c3] at H
      exact absurd H (by simp)
  · rw [if_neg c2] at H
    exact absurd H (by simp)
end Go.Proofs.YtmfejehhfmaodabDoor.Z
end
section
namespace Go.Proofs.YtmfejehhfmaodabDoor.Z
open Go.RowKit Go.Proofs.YtmfejehhfmaodabDoorW.PrintWords Go.Proofs.YtmfejehhfmaodabDoorW.PrintLast Go.Proofs.YtmfejehhfmaodabDoorW.PrintMore
attribute [local go_sem] max2_int min2_int max_two min_two max_three min_three max_four min_four   -- for this text's walks alone
set_option linter.unusedVariables false
set_option linter.unusedSimpArgs false
def laws_toPool.f (k : Nat) (a0_0 : Int) (l0_1 : List ByteArray) : Option (Int × List ByteArray) := (laws_toStringS.f k l0_1).bind fun t110004 => (some (a0_0, t110004))
theorem laws_toPool.mono : ∀ a0 a1 k, LeO (laws_toPool.f k a0 a1) (laws_toPool.f (k + 1) a0 a1) := by
  intro a0 a1 k
  unfold laws_toPool.f
  repeat' first
      | (with_reducible exact laws_toStringS.mono _ _)
      | (with_reducible exact LeO.refl _)
      | (with_reducible exact LeO.none _)
      | (with_reducible refine LeO.ite ?_ ?_)
      | (with_reducible refine LeO.bind ?_ (fun _ => ?_))
      | exact laws_toStringS.mono _ _
      | exact LeO.none _
      | refine LeO.ite ?_ ?_
      | refine LeO.bind ?_ (fun _ => ?_)
set_option maxHeartbeats 8000000 in
set_option maxRecDepth 100000 in
theorem laws_toPool.calls (k : Nat) (a0_0 : Int) (A0_1 : Option Addr) (c0_1 : Nat) (l0_1 : List ByteArray) (r1 : Int) (r2 : List ByteArray) (w : World) (hr0_1 : Kd.C Kd.string w A0_1 l0_1.length l0_1) (hc0_1 : l0_1.length ≤ c0_1) (h : laws_toPool.f k a0_0 l0_1 = some (r1, r2)) :
    Calls Tryd.prog 11 #[.agg #[.int .i64 a0_0, .slice A0_1 l0_1.length c0_1]] w fun e w' => ∃ v1_ : Value, e = .returned (.agg #[.int .i64 r1, v1_]) ∧ Kd.R Kd.string 9 w' w.heap.size (fun _ => True) v1_ r2 ∧ Below w.heap.size w w' := by
  have hu24 := Tryd.underlying24
  have hu30 := Tryd.underlying30
  have HR0_1 := Aside0.mk hr0_1
  have HC0_1 := Aside0.mk hc0_1
  clear hr0_1 hc0_1
  have HB := Aside0.mk (Below.refl w.heap.size w)
  have H : ((laws_toStringS.f k l0_1).bind fun t110004 => (some (a0_0, t110004))) = some (r1, r2) := h
  clear h
  replace H := Option.bind_eq_some_iff.mp H
  obtain ⟨t110004, A20, H⟩ := H
  replace H : (some (a0_0, t110004)) = some (r1, r2) := H
  have A2 := Aside0.mk A20
  clear A20
  simp only [Option.some.injEq, Prod.mk.injEq] at H
  obtain ⟨rfl, rfl⟩ := H
  go_enter Tryd.func11, Tryd.ntmps11
  go_wp2_with (first | ((with_reducible refine gate_dst (N := 1) rfl ?_); refine box_event ?hg (N := 1) ?hd (cs := #[.int .i64 a0_0, .slice A0_1 l0_1.length c0_1]) (t := 24) ?hr ?_; (case hd => rfl); (case hg => rfl); (case hr => first | (go_simp; done) | (go_simp; rfl)); intro gb110001 hg w3 hbox hb; have n0_ := Aside0.mk (below_step (by repeat (first | (with_reducible first | exact HB.out | apply below_alloc | apply pw_below_drewN | apply below_drew1) | exact HB.out)) hb); have n1_ := Aside0.mk (hbox); have n2_ := Aside0.mk ((by rw [hg]; exact (below_size (by repeat (first | (with_reducible first | exact HB.out | apply below_alloc | apply pw_below_drewN | apply below_drew1) | exact HB.out))) : w.heap.size ≤ gb110001)); have n3_ := Aside0.mk ((by rw [hg]; exact (below_size (by repeat (first | (with_reducible first | exact HB.out | apply below_alloc | apply pw_below_drewN | apply below_drew1) | exact HB.out))) : w.heap.size ≤ gb110001)); clear HB; have HB := n0_; have BK110001 := n1_; have GW110001 := n2_; have GE110001 := n3_; clear n0_ n1_ n2_ n3_; clear hb hbox hg) | ((with_reducible refine gate_dst (N := 2) rfl ?_); refine box_event ?hg (N := 2) ?hd (cs := #[.int .i64 0, .slice none 0 0]) (t := 30) ?hr ?_; (case hd => rfl); (case hg => rfl); (case hr => first | (go_simp; done) | (go_simp; rfl)); intro gb110002 hg w4 hbox hb; have n0_ := Aside0.mk (blk_below (g := gb110001) (o := .cells #[.int .i64 a0_0, .slice A0_1 l0_1.length c0_1] 24 (0, 0)) (by (with_reducible repeat (first | refine blk_drewN ?_ _ | refine blk_drew ?_ | refine blk_alloc ?_ _)); exact BK110001.out) hb); have n1_ := Aside0.mk (below_step (by repeat (first | (with_reducible first | exact HB.out | apply below_alloc | apply pw_below_drewN | apply below_drew1 | refine below_set ?_ GE110001.out) | exact HB.out)) hb); have n2_ := Aside0.mk (hbox); have n3_ := Aside0.mk ((by rw [hg]; exact (below_size (by repeat (first | (with_reducible first | exact HB.out | apply below_alloc | apply pw_below_drewN | apply below_drew1 | refine below_set ?_ GE110001.out) | exact HB.out))) : w.heap.size ≤ gb110002)); have n4_ := Aside0.mk ((by rw [hg]; exact (below_size (by repeat (first | (with_reducible first | exact HB.out | apply below_alloc | apply pw_below_drewN | apply below_drew1 | refine below_set ?_ GE110001.out) | exact HB.out))) : w.heap.size ≤ gb110002)); have n5_ := Aside0.mk ((by rw [hg]; exact Nat.ne_of_lt (blk_lt (g := gb110001) (o := .cells #[.int .i64 a0_0, .slice A0_1 l0_1.length c0_1] 24 (0, 0)) (by (with_reducible repeat (first | refine blk_drewN ?_ _ | refine blk_drew ?_ | refine blk_alloc ?_ _)); exact BK110001.out)) : gb110001 ≠ gb110002)); have n6_ := Aside0.mk ((by rw [hg]; exact Nat.ne_of_gt (blk_lt (g := gb110001) (o := .cells #[.int .i64 a0_0, .slice A0_1 l0_1.length c0_1] 24 (0, 0)) (by (with_reducible repeat (first | refine blk_drewN ?_ _ | refine blk_drew ?_ | refine blk_alloc ?_ _)); exact BK110001.out)) : gb110002 ≠ gb110001)); clear BK110001; clear HB; have BK110001 := n0_; have HB := n1_; have BK110002 := n2_; have GW110002 := n3_; have GE110002 := n4_; have NB110001_110002 := n5_; have NB110002_110001 := n6_; clear n0_ n1_ n2_ n3_ n4_ n5_ n6_; clear hb hbox hg) | ((with_reducible refine gate_dst (N := 3) rfl ?_); refine box_event ?hg (N := 3) ?hd (cs := #[.int .i64 0, .slice none 0 0]) (t := 30) ?hr ?_; (case hd => rfl); (case hg => rfl); (case hr => first | (go_simp; done) | (go_simp; rfl)); intro gb110003 hg w5 hbox hb; have n0_ := Aside0.mk (blk_below (g := gb110001) (o := .cells #[.int .i64 a0_0, .slice A0_1 l0_1.length c0_1] 24 (0, 0)) (by (with_reducible repeat (first | refine blk_drewN ?_ _ | refine blk_drew ?_ | refine blk_alloc ?_ _)); exact BK110001.out) hb); have n1_ := Aside0.mk (blk_below (g := gb110002) (o := .cells #[.int .i64 0, .slice none 0 0] 30 (0, 0)) (by (with_reducible repeat (first | refine blk_drewN ?_ _ | refine blk_drew ?_ | refine blk_alloc ?_ _)); exact BK110002.out) hb); have n2_ := Aside0.mk (below_step (by repeat (first | (with_reducible first | exact HB.out | apply below_alloc | apply pw_below_drewN | apply below_drew1 | refine below_set ?_ GE110001.out | refine below_set ?_ GE110002.out) | exact HB.out)) hb); have n3_ := Aside0.mk (hbox); have n4_ := Aside0.mk ((by rw [hg]; exact (below_size (by repeat (first | (with_reducible first | exact HB.out | apply below_alloc | apply pw_below_drewN | apply below_drew1 | refine below_set ?_ GE110001.out | refine below_set ?_ GE110002.out) | exact HB.out))) : w.heap.size ≤ gb110003)); have n5_ := Aside0.mk ((by rw [hg]; exact (below_size (by repeat (first | (with_reducible first | exact HB.out | apply below_alloc | apply pw_below_drewN | apply below_drew1 | refine below_set ?_ GE110001.out | refine below_set ?_ GE110002.out) | exact HB.out))) : w.heap.size ≤ gb110003)); have n6_ := Aside0.mk ((by rw [hg]; exact Nat.ne_of_lt (blk_lt (g := gb110001) (o := .cells #[.int .i64 a0_0, .slice A0_1 l0_1.length c0_1] 24 (0, 0)) (by (with_reducible repeat (first | refine blk_drewN ?_ _ | refine blk_drew ?_ | refine blk_alloc ?_ _)); exact BK110001.out)) : gb110001 ≠ gb110003)); have n7_ := Aside0.mk ((by rw [hg]; exact Nat.ne_of_gt (blk_lt (g := gb110001) (o := .cells #[.int .i64 a0_0, .slice A0_1 l0_1.length c0_1] 24 (0, 0)) (by (with_reducible repeat (first | refine blk_drewN ?_ _ | refine blk_drew ?_ | refine blk_alloc ?_ _)); exact BK110001.out)) : gb110003 ≠ gb110001)); have n8_ := Aside0.mk ((by rw [hg]; exact Nat.ne_of_lt (blk_lt (g := gb110002) (o := .cells #[.int .i64 0, .slice none 0 0] 30 (0, 0)) (by (with_reducible repeat (first | refine blk_drewN ?_ _ | refine blk_drew ?_ | refine blk_alloc ?_ _)); exact BK110002.out)) : gb110002 ≠ gb110003)); have n9_ := Aside0.mk ((by rw [hg]; exact Nat.ne_of_gt (blk_lt (g := gb110002) (o := .cells #[.int .i64 0, .slice none 0 0] 30 (0, 0)) (by (with_reducible repeat (first | refine blk_drewN ?_ _ | refine blk_drew ?_ | refine blk_alloc ?_ _)); exact BK110002.out)) : gb110003 ≠ gb110002)); clear BK110001; clear BK110002; clear HB; have BK110001 := n0_; have BK110002 := n1_; have HB := n2_; have BK110003 := n3_; have GW110003 := n4_; have GE110003 := n5_; have NB110001_110003 := n6_; have NB110003_110001 := n7_; have NB110002_110003 := n8_; have NB110003_110002 := n9_; clear n0_ n1_ n2_ n3_ n4_ n5_ n6_ n7_ n8_ n9_; clear hb hbox hg; have hnb6 := NB110001_110002.out; have hnc6 := NB110002_110001.out; have hnb7 := NB110001_110003.out; have hnc7 := NB110003_110001.out; have hcz8_0 : w5.cell? ⟨gb110001, 0, none⟩ = some (.int .i64 a0_0) := (blk_cell BK110001.out 0).trans rfl; have hcz8_1 : w5.cell? ⟨gb110001, 1, none⟩ = some (.slice A0_1 l0_1.length c0_1) := (blk_cell BK110001.out 1).trans rfl; have hfz8_0 := blk_frozen BK110001.out 0; have hfz8_1 := blk_frozen BK110001.out 1; have hnb9 := NB110003_110002.out; have hnc9 := NB110002_110003.out; have hcz10_0 : w5.cell? ⟨gb110003, 0, none⟩ = some (.int .i64 0) := (blk_cell BK110003.out 0).trans rfl; have hcz10_1 : w5.cell? ⟨gb110003, 1, none⟩ = some (.slice none 0 0) := (blk_cell BK110003.out 1).trans rfl; have hfz10_0 := blk_frozen BK110003.out 0; have hfz10_1 := blk_frozen BK110003.out 1) | ((with_reducible refine gate_callee (f := 36) rfl ?_); refine goesL_ (some 9) rfl rfl Tryd.func36 (by kernel_rfl) rfl #[.slice A0_1 l0_1.length c0_1] rfl (by (try simp only [List.map_toArray, List.map_cons, List.map_nil]); first | done | rfl | (simp only [List.length_drop, List.length_take]; rfl)) ?_; (with_reducible refine (laws_toStringS.calls k _ _ l0_1 t110004 _ ?side1 ?side2 A2.out).mono ?_); (case side1 => exact Kd.C_below HR0_1.out (by repeat (first | (with_reducible first | exact HB.out | apply below_alloc | apply pw_below_drewN | apply below_drew1 | refine below_set ?_ GE110001.out | refine below_set ?_ GE110002.out | refine below_set ?_ GE110003.out) | exact HB.out))); (case side2 => exact HC0_1.out); rintro e w11 ⟨v110005, rfl, ho0, hb⟩; refine ⟨_, rfl, ?_⟩; have n0_ := Aside0.mk (Kd.R_lower ho0 (below_size (by repeat (first | (with_reducible first | exact HB.out | apply below_alloc | apply pw_below_drewN | apply below_drew1 | refine below_set ?_ GE110001.out | refine below_set ?_ GE110002.out | refine below_set ?_ GE110003.out) | exact HB.out)))); have n1_ := Aside0.mk (blk_below (g := gb110001) (o := .cells #[.int .i64 a0_0, .slice A0_1 l0_1.length c0_1] 24 (0, 0)) (by (with_reducible repeat (first | refine blk_drewN ?_ _ | refine blk_drew ?_ | refine blk_alloc ?_ _)); refine blk_far ?_ NB110001_110003.out _; (with_reducible repeat (first | refine blk_drewN ?_ _ | refine blk_drew ?_ | refine blk_alloc ?_ _)); exact BK110001.out) hb); have n2_ := Aside0.mk (blk_below (g := gb110002) (o := .cells #[.int .i64 0, .slice none 0 0] 30 (0, 0)) (by (with_reducible repeat (first | refine blk_drewN ?_ _ | refine blk_drew ?_ | refine blk_alloc ?_ _)); refine blk_far ?_ NB110002_110003.out _; (with_reducible repeat (first | refine blk_drewN ?_ _ | refine blk_drew ?_ | refine blk_alloc ?_ _)); exact BK110002.out) hb); have n3_ := Aside0.mk (blk_below (g := gb110003) (o := .cells #[.int .i64 a0_0, .slice none 0 0] 30 (0, 0)) (by (with_reducible repeat (first | refine blk_drewN ?_ _ | refine blk_drew ?_ | refine blk_alloc ?_ _)); refine blk_put (cs := #[.int .i64 0, .slice none 0 0]) ?_ 0 _ rfl; (with_reducible repeat (first | refine blk_drewN ?_ _ | refine blk_drew ?_ | refine blk_alloc ?_ _)); exact BK110003.out) hb); have n4_ := Aside0.mk (below_step (by repeat (first | (with_reducible first | exact HB.out | apply below_alloc | apply pw_below_drewN | apply below_drew1 | refine below_set ?_ GE110001.out | refine below_set ?_ GE110002.out | refine below_set ?_ GE110003.out) | exact HB.out)) hb); clear BK110001; clear BK110002; clear BK110003; clear HB; have HO110006 := n0_; have BK110001 := n1_; have BK110002 := n2_; have BK110003 := n3_; have HB := n4_; clear n0_ n1_ n2_ n3_ n4_; (try clear hb); (try clear hb2); (try clear hk); (try clear hi); (try clear ho0); obtain ⟨Ao12, co12, eo12⟩ := Kd.R_slice HO110006.out; subst eo12; have hcz13_0 : w11.cell? ⟨gb110003, 0, none⟩ = some (.int .i64 a0_0) := (blk_cell BK110003.out 0).trans rfl; have hcz13_1 : w11.cell? ⟨gb110003, 1, none⟩ = some (.slice none 0 0) := (blk_cell BK110003.out 1).trans rfl; have hfz13_0 := blk_frozen BK110003.out 0; have hfz13_1 := blk_frozen BK110003.out 1; have hcz14_0 : w11.cell? ⟨gb110002, 0, none⟩ = some (.int .i64 0) := (blk_cell BK110002.out 0).trans rfl; have hcz14_1 : w11.cell? ⟨gb110002, 1, none⟩ = some (.slice none 0 0) := (blk_cell BK110002.out 1).trans rfl; have hfz14_0 := blk_frozen BK110002.out 0; have hfz14_1 := blk_frozen BK110002.out 1))
  refine bodyPost_ret (results_cell_row rfl _ _ gb110002 30 #[.int .i64 a0_0, .slice Ao12 t110004.length co12] (0, 0) _ rfl (by (with_reducible repeat (first | refine blk_drewN ?_ _ | refine blk_drew ?_ | refine blk_alloc ?_ _)); refine blk_put (cs := #[.int .i64 a0_0, .slice none 0 0]) ?_ 1 _ rfl; (with_reducible repeat (first | refine blk_drewN ?_ _ | refine blk_drew ?_ | refine blk_alloc ?_ _)); refine blk_put (cs := #[.int .i64 0, .slice none 0 0]) ?_ 0 _ rfl; (with_reducible repeat (first | refine blk_drewN ?_ _ | refine blk_drew ?_ | refine blk_alloc ?_ _)); refine blk_far ?_ NB110002_110003.out _; (with_reducible repeat (first | refine blk_drewN ?_ _ | refine blk_drew ?_ | refine blk_alloc ?_ _)); exact BK110002.out) Tryd.underlying30 rfl (by kernel_rfl)) rfl ?_
  exact ⟨_, by first | rfl | (simp [errW_none, errW_some] <;> rfl) | (simp [*, errW_none, errW_some] <;> rfl), by (with_reducible repeat (first | apply Kd.R_alloc | apply Kd.R_drewN | apply Kd.R_drew)); exact Kd.R_mono (Kd.R_far (p := ⟨gb110002, 1, none⟩) (Kd.R_far (p := ⟨gb110002, 0, none⟩) (Kd.R_far (p := ⟨gb110003, 1, none⟩) (Kd.R_types (Kd.R_types HO110006.out BK110003.out (by decide)) BK110002.out (by decide)) (fun _ hk => hk.1.2) (.slice Ao12 t110004.length co12)) (fun _ hk => hk.2) (.int .i64 a0_0)) (fun _ hk => hk.2) (.slice Ao12 t110004.length co12)) (fun _ hk => trivial), by repeat (first | (with_reducible first | exact HB.out | apply below_alloc | apply pw_below_drewN | apply below_drew1 | refine below_set ?_ GE110001.out | refine below_set ?_ GE110002.out | refine below_set ?_ GE110003.out) | exact HB.out)⟩
end Go.Proofs.YtmfejehhfmaodabDoor.Z
end
