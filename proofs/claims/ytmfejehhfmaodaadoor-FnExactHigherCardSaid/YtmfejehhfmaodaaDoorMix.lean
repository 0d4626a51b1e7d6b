/- The program's compression of a block. -/
import Derived.Test.YtmfejehhfmaodaaDoorHsh
import Derived.StillTailTactics
import Derived.IntWalk
import Derived.Laws.NewBlocks
namespace Go.Proofs.YtmfejehhfmaodaaDoor.Z
open Go.RowKit Go.Proofs.YtmfejehhfmaodaaDoor Go.Proofs.YtmfejehhfmaodaaDoorW.PrintWords Go.Proofs.YtmfejehhfmaodaaDoorW.PrintLast
set_option linter.unusedVariables false
set_option linter.unusedSimpArgs false
/-- The table of the program is the specification's. -/
def Tab (w : World) : Prop := ∀ i, i < 64 → w.cell? ⟨0, i, none⟩ = some (.int .u32 (rdN kTab i))
def zCells (n : Nat) : Array Value := (List.replicate n (Value.int .u32 0)).toArray
/-- A block of words. -/
def Wds (g : Nat) (T : TypeId) (l : List Int) (w : World) : Prop := w.heap[g]? = some (.cells (l.map (Value.int .u32)).toArray T (0, 0))
section
variable {g : Nat} {T : TypeId} {l : List Int} {w w1 : World}
theorem Wds.lt (h : Wds g T l w) : g < w.heap.size := lt_of_block h
theorem Wds.f (h : Wds g T l w) (i : Nat) : w.frozen? ⟨g, i, none⟩ = false := frozen_of_row _ _ _ _ _ h
theorem Wds.c (h : Wds g T l w) (i : Nat) (hi : i < l.length) : w.cell? ⟨g, i, none⟩ = some (.int .u32 (rdN l i)) := by
  rw [cell_of_row _ _ _ _ _ _ h]
  simp [rdN, List.getD_eq_getElem?_getD, hi]
theorem Wds.set (h : Wds g T l w) (i : Nat) (x : Int) : Wds g T (l.set i x) (w.setCell ⟨g, i, none⟩ (.int .u32 x)) := by
  refine hset h ?_
  rw [List.map_set]
theorem Wds.keep (h : Wds g T l w) (hb : w1.heap[g]? = w.heap[g]?) : Wds g T l w1 := Eq.trans hb h
theorem Wds.drew (h : Wds g T l w) : Wds g T l w.drew := h
theorem Wds.below (h : Wds g T l w) (hb : Below w.heap.size w w1) : Wds g T l w1 := h.keep (hb.block g h.lt)
theorem Wds.setOther (h : Wds g T l w) (a : Addr) (v : Value) (hn : g ≠ a.block) : Wds g T l (w.setCell a v) := h.keep (heap_setCell_other _ _ _ _ hn)
theorem Wds.alloc (h : Wds g T l w) (o : Obj) : Wds g T l (w.alloc o) := h.keep (Below.heap_alloc _ _ _ h.lt)
end
theorem rot_any (x y : Int) (w : World) (hy : y ∈ [(-2 : Int), -6, -7, -11, -13, -17, -18, -19, -22, -25]) :
    Calls Tryd.prog 49 #[.int .u32 x, .int .i64 y] w fun e w' => e = .returned (.int .u32 (turn x (-y))) ∧ ∃ n, w' = w.drewN n := by
  have h : bits_RotateLeft32.f x y = some (turn x (-y)) := by
    simp only [List.mem_cons, List.not_mem_nil, or_false] at hy
    rcases hy with rfl | rfl | rfl | rfl | rfl | rfl | rfl | rfl | rfl | rfl
    · exact rot_f x 2 (by decide)
    · exact rot_f x 6 (by decide)
    · exact rot_f x 7 (by decide)
    · exact rot_f x 11 (by decide)
    · exact rot_f x 13 (by decide)
    · exact rot_f x 17 (by decide)
    · exact rot_f x 18 (by decide)
    · exact rot_f x 19 (by decide)
    · exact rot_f x 22 (by decide)
    · exact rot_f x 25 (by decide)
  refine (bits_RotateLeft32.calls x y _ w h).mono ?_
  rintro e w' ⟨h1, ⟨n, h2⟩⟩
  exact ⟨h1, n, h2⟩
theorem u32w (x : Int) : IntKind.u32.wrap x = x % 4294967296 := by simp [IntKind.wrap, IntKind.bits, IntKind.signed]
theorem word_eq (b : List Int) (n : Nat) : Go.bits .or .u32 (Go.bits .or .u32 (Go.bits .or .u32 (IntKind.u32.wrap (IntKind.u32.wrap (rdN b (4 * n)) * 16777216)) (IntKind.u32.wrap (IntKind.u32.wrap (rdN b (4 * n + 1)) * 65536))) (IntKind.u32.wrap (IntKind.u32.wrap (rdN b (4 * n + 2)) * 256))) (IntKind.u32.wrap (rdN b (4 * n + 3))) = wordP b n := by
  simp only [u32w]; rfl
theorem next_eq (w : List Int) (n : Nat) : nextP w n = (rdN w (n - 16) + Go.bits .xor .u32 (Go.bits .xor .u32 (turn (rdN w (n - 15)) 7) (turn (rdN w (n - 15)) 18)) (rdN w (n - 15) / 8) + rdN w (n - 7) + Go.bits .xor .u32 (Go.bits .xor .u32 (turn (rdN w (n - 2)) 17) (turn (rdN w (n - 2)) 19)) (rdN w (n - 2) / 1024)) % 4294967296 := by
  unfold nextP
  generalize rdN w (n - 16) = a
  generalize Go.bits .xor .u32 (Go.bits .xor .u32 (turn (rdN w (n - 15)) 7) (turn (rdN w (n - 15)) 18)) (rdN w (n - 15) / 8) = s
  generalize rdN w (n - 7) = c
  generalize Go.bits .xor .u32 (Go.bits .xor .u32 (turn (rdN w (n - 2)) 17) (turn (rdN w (n - 2)) 19)) (rdN w (n - 2) / 1024) = l
  omega
theorem rnd_list (s : St) (k w : Int) : (s.rnd k w).list = [(s.z + Go.bits .xor .u32 (Go.bits .xor .u32 (turn s.e 6) (turn s.e 11)) (turn s.e 25) + Go.bits .xor .u32 (Go.bits .and .u32 s.e s.f) (Go.bits .and .u32 (Go.bits .xor .u32 IntKind.u32.max s.e) s.g) + k + w + Go.bits .xor .u32 (Go.bits .xor .u32 (turn s.a 2) (turn s.a 13)) (turn s.a 22) + Go.bits .xor .u32 (Go.bits .xor .u32 (Go.bits .and .u32 s.a s.b) (Go.bits .and .u32 s.a s.c)) (Go.bits .and .u32 s.b s.c)) % 4294967296, s.a, s.b, s.c, (s.d + (s.z + Go.bits .xor .u32 (Go.bits .xor .u32 (turn s.e 6) (turn s.e 11)) (turn s.e 25) + Go.bits .xor .u32 (Go.bits .and .u32 s.e s.f) (Go.bits .and .u32 (Go.bits .xor .u32 IntKind.u32.max s.e) s.g) + k + w)) % 4294967296, s.e, s.f, s.g] := by
  unfold St.rnd St.list St.t1 St.s0 St.maj
  simp only [List.cons.injEq, and_true, true_and]
  generalize Go.bits .xor .u32 (Go.bits .xor .u32 (turn s.e 6) (turn s.e 11)) (turn s.e 25) = p
  generalize Go.bits .xor .u32 (Go.bits .and .u32 s.e s.f) (Go.bits .and .u32 (Go.bits .xor .u32 IntKind.u32.max s.e) s.g) = q
  generalize Go.bits .xor .u32 (Go.bits .xor .u32 (turn s.a 2) (turn s.a 13)) (turn s.a 22) = r
  generalize Go.bits .xor .u32 (Go.bits .xor .u32 (Go.bits .and .u32 s.a s.b) (Go.bits .and .u32 s.a s.c)) (Go.bits .and .u32 s.b s.c) = m
  constructor <;> omega
/-- The first n words added. -/
def addP (st v : List Int) : Nat → List Int
  | 0 => st
  | n + 1 => (addP st v n).set n ((rdN st n + rdN v n) % 4294967296)
theorem addP_get (st v : List Int) (j : Nat) : ∀ n, n ≤ j → rdN (addP st v n) j = rdN st j
  | 0, _ => rfl
  | n + 1, h => by
    rw [addP, rdN, List.getD_eq_getElem?_getD, List.getElem?_set_ne (by omega), ← List.getD_eq_getElem?_getD]
    exact addP_get st v j n (by omega)
theorem addP_list (st : List Int) (h : st.length = 8) (s : St) : addP st s.list 8 = [(rdN st 0 + s.a) % 4294967296, (rdN st 1 + s.b) % 4294967296, (rdN st 2 + s.c) % 4294967296, (rdN st 3 + s.d) % 4294967296, (rdN st 4 + s.e) % 4294967296, (rdN st 5 + s.f) % 4294967296, (rdN st 6 + s.g) % 4294967296, (rdN st 7 + s.z) % 4294967296] := by
  match st, h with
  | [a, b, c, d, e, f, g, z], _ => rfl
theorem addP_all (st blk : List Int) (h : st.length = 8) (s : St) (hs : (St.of st).run (schedP blk 64) 64 = s) : addP st s.list 8 = compP st blk := by
  rw [addP_list st h s, compP, hs]
theorem set_sched (b : List Int) (n : Nat) (hn : n < 64) : (schedP b n ++ List.replicate (64 - n) 0).set n (if n < 16 then wordP b n else nextP (schedP b n) n) = schedP b (n + 1) ++ List.replicate (64 - (n + 1)) 0 := by
  rw [List.set_append_right _ _ (by rw [schedP_length]; omega), schedP_length, Nat.sub_self, show 64 - n = (64 - (n + 1)) + 1 by omega, List.replicate_succ, List.set_cons_zero, schedP, List.append_assoc]
  rfl
theorem blk_slice (b n : Nat) (hn : n < 16) (w : World) :
    (Instr.sliceAt 67 (.pointer (some ⟨b, 8, none⟩)) (some (.int .i64 (4 * (n : Int)))) none none).run Tryd.prog w = .ok (.slice (some ⟨b, 8 + 4 * n, none⟩) (64 - 4 * n) (64 - 4 * n)) w := by
  have hT : Tryd.prog.underlying 67 = some (.array (Tryd.prog.arrayLen 67) (Tryd.prog.elem 67)) := by kernel_rfl
  have hL : Tryd.prog.arrayLen 67 = 64 := by kernel_rfl
  have hs : ∀ w : World, (sizeOf (Tryd.prog.elem 67)).run Tryd.prog w = .ok 1 w := fun _ => by kernel_rfl
  rw [run_sliceAt_array_l w 67 ⟨b, 8, none⟩ hT .i64 (4 * (n : Int)) (by omega) (by rw [hL]; omega), hs, hL]
  simp only [Result.andThen, slicedAt]
  rw [if_neg (by omega), show (4 * (n : Int)).toNat = 4 * n by omega]
  simp [Addr.add]
set_option maxRecDepth 100000 in
set_option maxHeartbeats 1000000 in
theorem mix_any (b : Nat) (st blk : List Int) (fill tot : Int) (w : World) (h : Hsh b st blk fill tot w) (ht : Tab w) :
    Calls Tryd.prog 47 #[.pointer (some ⟨b, 0, none⟩)] w fun e w' => e = .returned (.tuple #[]) ∧ Hsh b (compP st blk) blk fill tot w' ∧ w.grownBy w' (some b) := by
  have HH := Lib.hid h; clear h
  have HT := Lib.hid ht; clear ht
  go_enter Tryd.func47, Tryd.ntmps47
  go_wp2
  go_loopw [18] (fun i wr => ∃ n : Nat, n ≤ 16 ∧ i = .int .i64 n ∧ Wds w.heap.size 77 (schedP blk n ++ List.replicate (64 - n) 0) wr ∧ Below w.heap.size w wr) (fun i _ => 16 - (intOf i).toNat)
  case atStart => exact ⟨0, by omega, rfl, (heap_alloc_new _ _).trans rfl, by (repeat' (first | exact Below.refl _ _ | (with_reducible assumption) | (with_reducible refine Below.setCell ?_ (by first | (simp; done) | (simp; omega)) _) | refine below_then ?_ (by assumption) | (with_reducible refine below_new2 ?_ _) | (with_reducible refine Below.drew ?_) | (with_reducible refine bdrewN ?_ _)))⟩
  case round =>
    obtain ⟨n, hn, rfl, hW, hB⟩ := hrel
    have hlt : b < w.heap.size := HH.out.lt
    have hHr := HH.out.below hB
    have HHr := Lib.hid hHr; clear hHr
    have HW := Lib.hid hW; clear hW
    have hz := hB.size
    by_cases hl : n < 16
    · have hsl := blk_slice b n hl
      have d0 : wr.cell? ⟨b, 8 + 4 * n, none⟩ = some (.int .u8 (rdN blk (4 * n))) := HHr.out.cB (4 * n) (by omega)
      have d1 : wr.cell? ⟨b, 8 + 4 * n + 1, none⟩ = some (.int .u8 (rdN blk (4 * n + 1))) := HHr.out.cB (4 * n + 1) (by omega)
      have d2 : wr.cell? ⟨b, 8 + 4 * n + 2, none⟩ = some (.int .u8 (rdN blk (4 * n + 2))) := HHr.out.cB (4 * n + 2) (by omega)
      have d3 : wr.cell? ⟨b, 8 + 4 * n + 3, none⟩ = some (.int .u8 (rdN blk (4 * n + 3))) := HHr.out.cB (4 * n + 3) (by omega)
      have hll : (schedP blk n ++ List.replicate (64 - n) 0).length = 64 := by rw [List.length_append, schedP_length, List.length_replicate]; omega
      have dw := HW.out.c n (by rw [hll]; omega)
      have fw := HW.out.f n
      have HLL := Lib.hid hll; clear hll
      have l3 : 3 < 64 - 4 * n := by omega
      have l2 : 2 < 64 - 4 * n := by omega
      have l1 : 1 < 64 - 4 * n := by omega
      have l0 : 0 < 64 - 4 * n := by omega
      have n64 : (n : Int) < 64 := by omega
      have n0 : (0 : Int) ≤ (n : Int) := by omega
      have m3 : (3 : Int) < ((64 - 4 * n : Nat) : Int) := by omega
      have m2 : (2 : Int) < ((64 - 4 * n : Nat) : Int) := by omega
      have m1 : (1 : Int) < ((64 - 4 * n : Nat) : Int) := by omega
      have m0 : (0 : Int) < ((64 - 4 * n : Nat) : Int) := by omega
      go_wp2
      go_still_tail 24, (by kernel_rfl)
      change wpList _ _ _ _ _ wr.drew
      go_wp2
      go_roundw
      case rel =>
        refine ⟨n + 1, by omega, by go_num, ?_, ?_⟩
        · have h := (HW.out.set n (if n < 16 then wordP blk n else nextP (schedP blk n) n)).drew
          rw [set_sched _ _ (by omega), if_pos hl] at h
          exact h
        · exact (hB.setCell (p := ⟨w.heap.size, n, none⟩) (Nat.le_refl _) _).drew
      case measure => simp [intOf]; omega
    · obtain rfl : n = 16 := by omega
      rw [show ((16 : Nat) : Int) = 16 from rfl]
      go_wp2
      go_loopw [5] (fun i wr => ∃ n : Nat, 16 ≤ n ∧ n ≤ 64 ∧ i = .int .i64 n ∧ Wds w.heap.size 77 (schedP blk n ++ List.replicate (64 - n) 0) wr ∧ Below w.heap.size w wr) (fun i _ => 64 - (intOf i).toNat)
      case atStart => exact ⟨16, by omega, by omega, rfl, HW.out, hB⟩
      case round =>
        clear HW HHr hB hz hn hl
        obtain ⟨n, h16, hn, rfl, hW, hB⟩ := hrel
        have HW := Lib.hid hW; clear hW
        have hz := hB.size
        by_cases hl : n < 64
        · have hll : (schedP blk n ++ List.replicate (64 - n) 0).length = 64 := by rw [List.length_append, schedP_length, List.length_replicate]; omega
          have rdl : ∀ j, j < n → rdN (schedP blk n ++ List.replicate (64 - n) 0) j = rdN (schedP blk n) j := by
            intro j hj
            unfold rdN
            rw [List.getD_eq_getElem?_getD, List.getD_eq_getElem?_getD, List.getElem?_append_left (by rw [schedP_length]; exact hj)]
          have d15 := HW.out.c (n - 15) (by rw [hll]; omega)
          have d2 := HW.out.c (n - 2) (by rw [hll]; omega)
          have d16 := HW.out.c (n - 16) (by rw [hll]; omega)
          have d7 := HW.out.c (n - 7) (by rw [hll]; omega)
          have dn := HW.out.c n (by rw [hll]; omega)
          rw [rdl _ (by omega)] at d15 d2 d16 d7
          have fw := HW.out.f n
          clear hll rdl
          have n64 : (n : Int) < 64 := by omega
          have n0 : (0 : Int) ≤ (n : Int) := by omega
          go_wp2
          go_quiet (fail)
          go_wp2_with (go_at_call 49; refine (rot_any _ _ _ (by decide)).mono ?_; rintro e w' ⟨rfl, nd, hw⟩; (obtain ⟨N, rfl⟩ : ∃ N, w' = wr.drewN N := ⟨_, hw.trans (World.drewN_drewN _ _ _)⟩); clear hw)
          have w16 : IntKind.i64.wrap ((n : Int) - 16) = (n : Int) - 16 := IntWalk.i64_in _ (by omega)
          have w7 : IntKind.i64.wrap ((n : Int) - 7) = (n : Int) - 7 := IntWalk.i64_in _ (by omega)
          have p16 : (0 : Int) ≤ (n : Int) - 16 := by clear w16 w7; omega
          have p7 : (0 : Int) ≤ (n : Int) - 7 := by clear w16 w7; omega
          have q16 : (n : Int) - 16 < 64 := by clear w16 w7; omega
          have q7 : (n : Int) - 7 < 64 := by clear w16 w7; omega
          have t16 : ((n : Int) - 16).toNat = n - 16 := by clear w16 w7; omega
          have t7 : ((n : Int) - 7).toNat = n - 7 := by clear w16 w7; omega
          have r16 : (16 : Int) ≤ (n : Int) := by clear w16 w7; omega
          have r7 : (7 : Int) ≤ (n : Int) := by clear w16 w7; omega
          have e16 : (wr.drewN N).cell? ⟨w.heap.size, n - 16, none⟩ = some (.int .u32 (rdN (schedP blk n) (n - 16))) := d16
          have e7 : (wr.drewN N).cell? ⟨w.heap.size, n - 7, none⟩ = some (.int .u32 (rdN (schedP blk n) (n - 7))) := d7
          have en : (wr.drewN N).cell? ⟨w.heap.size, n, none⟩ = some (.int .u32 (rdN (schedP blk n ++ List.replicate (64 - n) 0) n)) := dn
          have fx : (wr.drewN N).frozen? ⟨w.heap.size, n, none⟩ = false := fw
          have HWx : Hid (Wds w.heap.size 77 (schedP blk n ++ List.replicate (64 - n) 0) (wr.drewN N)) := HW
          have hBx : Below w.heap.size w (wr.drewN N) := bdrewN hB N
          clear d16 d7 dn fw d15 d2 HW hB
          generalize wr.drewN N = wx at e16 e7 en fx HWx hBx ⊢
          go_still_tail 15, (by kernel_rfl)
          change wpList _ _ _ _ _ wx.drew
          clear w16 w7 t16 t7
          go_wp2
          go_roundw
          case rel =>
            refine ⟨n + 1, by omega, by omega, by go_num, ?_, ?_⟩
            · have h := (HWx.out.set n (if n < 16 then wordP blk n else nextP (schedP blk n) n)).drew
              rw [set_sched _ _ (by omega), if_neg (by omega), next_eq] at h
              exact h
            · exact (hBx.setCell (p := ⟨w.heap.size, n, none⟩) (Nat.le_refl _) _).drew
          case measure => simp [intOf]; omega
        · obtain rfl : n = 64 := by omega
          have hlt : b < w.heap.size := HH.out.lt
          have hHr := HH.out.below hB
          have HHr := Lib.hid hHr; clear hHr
          rw [show ((64 : Nat) : Int) = 64 from rfl]
          have g0 := HHr.out.cS 0 (by omega)
          have g1 := HHr.out.cS 1 (by omega)
          have g2 := HHr.out.cS 2 (by omega)
          have g3 := HHr.out.cS 3 (by omega)
          have g4 := HHr.out.cS 4 (by omega)
          have g5 := HHr.out.cS 5 (by omega)
          have g6 := HHr.out.cS 6 (by omega)
          have g7 := HHr.out.cS 7 (by omega)
          have hWl := HW.out.lt
          go_wp2
          clear g0 g1 g2 g3 g4 g5 g6 g7
          obtain ⟨wo, hwo⟩ : ∃ wo : World, wo = wr := ⟨_, rfl⟩
          rw [← hwo]
          subst hwo
          go_loopw [99] (fun i wr => ∃ n : Nat, n ≤ 64 ∧ i = .int .i64 n ∧ Wds wo.heap.size 66 (((St.of st).run (schedP blk 64) n).list) wr ∧ Wds w.heap.size 77 (schedP blk 64) wr ∧ Below w.heap.size w wr) (fun i _ => 64 - (intOf i).toNat)
          case atStart => exact ⟨0, by omega, rfl, (heap_alloc_new _ _).trans rfl, by simpa using HW.out.alloc _, hB.alloc hz _⟩
          case round =>
            clear HW HHr hB hl hn h16 hz
            obtain ⟨n, hn, rfl, hV, hW, hB⟩ := hrel
            have HV := Lib.hid hV; clear hV
            have HW := Lib.hid hW; clear hW
            have hz := hB.size
            by_cases hl : n < 64
            · obtain ⟨s, hs⟩ : ∃ s, (St.of st).run (schedP blk 64) n = s := ⟨_, rfl⟩
              have HS := Lib.hid hs
              rw [hs] at HV
              clear hs
              (have v0 : wr.cell? ⟨wo.heap.size, 0, none⟩ = some (.int .u32 s.a) := HV.out.c 0 (by simp [St.list]); have v1 : wr.cell? ⟨wo.heap.size, 1, none⟩ = some (.int .u32 s.b) := HV.out.c 1 (by simp [St.list]); have v2 : wr.cell? ⟨wo.heap.size, 2, none⟩ = some (.int .u32 s.c) := HV.out.c 2 (by simp [St.list]); have v3 : wr.cell? ⟨wo.heap.size, 3, none⟩ = some (.int .u32 s.d) := HV.out.c 3 (by simp [St.list]); have v4 : wr.cell? ⟨wo.heap.size, 4, none⟩ = some (.int .u32 s.e) := HV.out.c 4 (by simp [St.list]); have v5 : wr.cell? ⟨wo.heap.size, 5, none⟩ = some (.int .u32 s.f) := HV.out.c 5 (by simp [St.list]); have v6 : wr.cell? ⟨wo.heap.size, 6, none⟩ = some (.int .u32 s.g) := HV.out.c 6 (by simp [St.list]); have v7 : wr.cell? ⟨wo.heap.size, 7, none⟩ = some (.int .u32 s.z) := HV.out.c 7 (by simp [St.list]); have fv := HV.out.f; have vw := HW.out.c n (by rw [schedP_length]; omega); have vt : wr.cell? ⟨0, n, none⟩ = some (.int .u32 (rdN kTab n)) := (hB.cell (World.block_lt_of_cell? _ _ (HT.out n hl))).trans (HT.out n hl))
              have n64 : (n : Int) < 64 := by omega
              have n0 : (0 : Int) ≤ (n : Int) := by omega
              go_wp2
              go_quiet ((go_at_call 49; exact Calls.quiet_of (rot_any _ _ _ (by decide))))
              (have HVx : Hid (Wds wo.heap.size 66 s.list (wr.drewN nq)) := HV; have HWx : Hid (Wds w.heap.size 77 (schedP blk 64) (wr.drewN nq)) := HW; have hBx : Below w.heap.size w (wr.drewN nq) := bdrewN hB nq; clear v0 v1 v2 v3 v4 v5 v6 v7 fv vw vt HV HW hB; generalize wr.drewN nq = wx at HVx HWx hBx ⊢; have HV := HVx; clear HVx; have HW := HWx; clear HWx; have hB := hBx; clear hBx)
              (have v0 : wx.cell? ⟨wo.heap.size, 0, none⟩ = some (.int .u32 s.a) := HV.out.c 0 (by simp [St.list]); have v1 : wx.cell? ⟨wo.heap.size, 1, none⟩ = some (.int .u32 s.b) := HV.out.c 1 (by simp [St.list]); have v2 : wx.cell? ⟨wo.heap.size, 2, none⟩ = some (.int .u32 s.c) := HV.out.c 2 (by simp [St.list]); have v3 : wx.cell? ⟨wo.heap.size, 3, none⟩ = some (.int .u32 s.d) := HV.out.c 3 (by simp [St.list]); have v4 : wx.cell? ⟨wo.heap.size, 4, none⟩ = some (.int .u32 s.e) := HV.out.c 4 (by simp [St.list]); have v5 : wx.cell? ⟨wo.heap.size, 5, none⟩ = some (.int .u32 s.f) := HV.out.c 5 (by simp [St.list]); have v6 : wx.cell? ⟨wo.heap.size, 6, none⟩ = some (.int .u32 s.g) := HV.out.c 6 (by simp [St.list]); have v7 : wx.cell? ⟨wo.heap.size, 7, none⟩ = some (.int .u32 s.z) := HV.out.c 7 (by simp [St.list]); have fv := HV.out.f; have vw := HW.out.c n (by rw [schedP_length]; omega); have vt : wx.cell? ⟨0, n, none⟩ = some (.int .u32 (rdN kTab n)) := (hB.cell (World.block_lt_of_cell? _ _ (HT.out n hl))).trans (HT.out n hl))
              go_wp2
              go_quiet (fail)
              (have HVx : Hid (Wds wo.heap.size 66 s.list (wx.drewN nq)) := HV; have HWx : Hid (Wds w.heap.size 77 (schedP blk 64) (wx.drewN nq)) := HW; have hBx : Below w.heap.size w (wx.drewN nq) := bdrewN hB nq; clear v0 v1 v2 v3 v4 v5 v6 v7 fv vw vt HV HW hB; generalize wx.drewN nq = wy at HVx HWx hBx ⊢; have HV := HVx; clear HVx; have HW := HWx; clear HWx; have hB := hBx; clear hBx)
              (have v0 : wy.cell? ⟨wo.heap.size, 0, none⟩ = some (.int .u32 s.a) := HV.out.c 0 (by simp [St.list]); have v1 : wy.cell? ⟨wo.heap.size, 1, none⟩ = some (.int .u32 s.b) := HV.out.c 1 (by simp [St.list]); have v2 : wy.cell? ⟨wo.heap.size, 2, none⟩ = some (.int .u32 s.c) := HV.out.c 2 (by simp [St.list]); have v3 : wy.cell? ⟨wo.heap.size, 3, none⟩ = some (.int .u32 s.d) := HV.out.c 3 (by simp [St.list]); have v4 : wy.cell? ⟨wo.heap.size, 4, none⟩ = some (.int .u32 s.e) := HV.out.c 4 (by simp [St.list]); have v5 : wy.cell? ⟨wo.heap.size, 5, none⟩ = some (.int .u32 s.f) := HV.out.c 5 (by simp [St.list]); have v6 : wy.cell? ⟨wo.heap.size, 6, none⟩ = some (.int .u32 s.g) := HV.out.c 6 (by simp [St.list]); have v7 : wy.cell? ⟨wo.heap.size, 7, none⟩ = some (.int .u32 s.z) := HV.out.c 7 (by simp [St.list]); have fv := HV.out.f; have vw := HW.out.c n (by rw [schedP_length]; omega); have vt : wy.cell? ⟨0, n, none⟩ = some (.int .u32 (rdN kTab n)) := (hB.cell (World.block_lt_of_cell? _ _ (HT.out n hl))).trans (HT.out n hl))
              go_wp2
              go_quiet ((go_at_call 49; exact Calls.quiet_of (rot_any _ _ _ (by decide))))
              (have HVx : Hid (Wds wo.heap.size 66 s.list (wy.drewN nq)) := HV; have HWx : Hid (Wds w.heap.size 77 (schedP blk 64) (wy.drewN nq)) := HW; have hBx : Below w.heap.size w (wy.drewN nq) := bdrewN hB nq; clear v0 v1 v2 v3 v4 v5 v6 v7 fv vw vt HV HW hB; generalize wy.drewN nq = wz at HVx HWx hBx ⊢; have HV := HVx; clear HVx; have HW := HWx; clear HWx; have hB := hBx; clear hBx)
              (have v0 : wz.cell? ⟨wo.heap.size, 0, none⟩ = some (.int .u32 s.a) := HV.out.c 0 (by simp [St.list]); have v1 : wz.cell? ⟨wo.heap.size, 1, none⟩ = some (.int .u32 s.b) := HV.out.c 1 (by simp [St.list]); have v2 : wz.cell? ⟨wo.heap.size, 2, none⟩ = some (.int .u32 s.c) := HV.out.c 2 (by simp [St.list]); have v3 : wz.cell? ⟨wo.heap.size, 3, none⟩ = some (.int .u32 s.d) := HV.out.c 3 (by simp [St.list]); have v4 : wz.cell? ⟨wo.heap.size, 4, none⟩ = some (.int .u32 s.e) := HV.out.c 4 (by simp [St.list]); have v5 : wz.cell? ⟨wo.heap.size, 5, none⟩ = some (.int .u32 s.f) := HV.out.c 5 (by simp [St.list]); have v6 : wz.cell? ⟨wo.heap.size, 6, none⟩ = some (.int .u32 s.g) := HV.out.c 6 (by simp [St.list]); have v7 : wz.cell? ⟨wo.heap.size, 7, none⟩ = some (.int .u32 s.z) := HV.out.c 7 (by simp [St.list]); have fv := HV.out.f; have vw := HW.out.c n (by rw [schedP_length]; omega); have vt : wz.cell? ⟨0, n, none⟩ = some (.int .u32 (rdN kTab n)) := (hB.cell (World.block_lt_of_cell? _ _ (HT.out n hl))).trans (HT.out n hl))
              go_wp2
              go_roundw
              case rel =>
                refine ⟨n + 1, by omega, by go_num, ?_, ?_, ?_⟩
                · rw [St.run, HS.out, rnd_list]
                  exact (((((((HV.out.set 0 _).set 1 _).set 2 _).set 3 _).set 4 _).set 5 _).set 6 _).set 7 _
                · have hne : w.heap.size ≠ wo.heap.size := by omega
                  exact (((((((HW.out.setOther _ _ hne).setOther _ _ hne).setOther _ _ hne).setOther _ _ hne).setOther _ _ hne).setOther _ _ hne).setOther _ _ hne).setOther _ _ hne
                · have hle : w.heap.size ≤ wo.heap.size := by omega
                  exact (((((((hB.setCell hle _).setCell hle _).setCell hle _).setCell hle _).setCell hle _).setCell hle _).setCell hle _).setCell hle _
              case measure => simp [intOf]; omega
            · obtain rfl : n = 64 := by omega
              have hHr := HH.out.below hB
              have HHr := Lib.hid hHr; clear hHr
              rw [show ((64 : Nat) : Int) = 64 from rfl]
              obtain ⟨s, hs⟩ : ∃ s, (St.of st).run (schedP blk 64) 64 = s := ⟨_, rfl⟩
              rw [hs] at HV
              have HS := Lib.hid hs
              clear hs
              go_wp2
              go_loopw [190] (fun i wr => ∃ n : Nat, n ≤ 8 ∧ i = .int .i64 n ∧ Hsh b (addP st s.list n) blk fill tot wr ∧ Wds wo.heap.size 66 s.list wr ∧ w.grownBy wr (some b)) (fun i _ => 8 - (intOf i).toNat)
              case atStart => exact ⟨0, by omega, rfl, HHr.out, HV.out, ⟨hB.os, hB.tape, hB.output, hB.size, fun k hk _ => hB.block k hk⟩⟩
              case round =>
                clear HV HW HHr hB hl hn hz
                obtain ⟨n, hn, rfl, hH, hV, hG⟩ := hrel
                have HHr := Lib.hid hH; clear hH
                have HV := Lib.hid hV; clear hV
                have hz := hG.size
                by_cases hl : n < 8
                · have c1 := HHr.out.cS n hl
                  rw [addP_get _ _ _ _ (Nat.le_refl _)] at c1
                  have c2 := HV.out.c n (by simp [St.list]; omega)
                  have c3 := HHr.out.f n
                  have n8 : (n : Int) < 8 := by omega
                  have n0 : (0 : Int) ≤ (n : Int) := by omega
                  go_wp2
                  go_still_tail 13, (by kernel_rfl)
                  change wpList _ _ _ _ _ wr.drew
                  go_wp2
                  go_roundw
                  case rel =>
                    refine ⟨n + 1, by omega, by go_num, ?_, ?_, ?_⟩
                    · have h := (HHr.out.setS n hl ((rdN st n + rdN s.list n) % 4294967296)).drew
                      exact h
                    · exact (HV.out.setOther _ _ (by show wo.heap.size ≠ b; omega)).drew
                    · have g := Lib.grownBy_setB hG n (.int .u32 ((rdN st n + rdN s.list n) % 4294967296))
                      exact ⟨g.os, g.tape, g.output, g.size, g.block⟩
                  case measure => simp [intOf]; omega
                · obtain rfl : n = 8 := by omega
                  rw [show ((8 : Nat) : Int) = 8 from rfl]
                  have h8 := HH.out.st8
                  have hH := HHr.out
                  rw [addP_all st blk h8 s HS.out] at hH
                  have HHf := Lib.hid hH; clear hH h8
                  go_wp2
                  go_end0
                  exact ⟨rfl, HHf.out, hG⟩
end Go.Proofs.YtmfejehhfmaodaaDoor.Z
