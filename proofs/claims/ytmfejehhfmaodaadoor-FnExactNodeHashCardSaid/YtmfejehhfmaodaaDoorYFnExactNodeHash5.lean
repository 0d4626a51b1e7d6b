/- Own texts, joined. -/
import Derived.Test.YtmfejehhfmaodaaDoorYFnExactNodeHash4
import Derived.StillTailTactics
import Derived.IntWalk
import Derived.Laws.NewBlocks
import Derived.Deep.LoopGhost
import Derived.Test.YtmfejehhfmaodaaDoorYFnExactNodeHash0
/- The program's compression of a block. -/
section
namespace Go.Proofs.YtmfejehhfmaodaaDoor.Z
open Go.RowKit Go.Proofs.YtmfejehhfmaodaaDoor Go.Proofs.YtmfejehhfmaodaaDoorW.PrintWords Go.Proofs.YtmfejehhfmaodaaDoorW.PrintLast
set_option linter.unusedVariables false
set_option linter.unusedSimpArgs false
/-- The table of the program is the specification's. -/
def Tab (w : World) : Prop := ∀ i, i < 64 → w.cell? ⟨0, i, none⟩ = some (.int .u32 (rdN kTab i))
def zCells (n : Nat) : Array Value := (List.replicate n (Value.int .u32 0)).toArray
/-- A block of words. -/
def Wds (g : Nat) (T : TypeId) (l : List Int) (w : World) : Prop := w.heap[g]? = some (.cells (l.map (Value.int .u32)).toArray T (0, 0))
section
variable {g : Nat} {T : TypeId} {l : List Int} {w w1 : World}
theorem Wds.lt (h : Wds g T l w) : g < w.heap.size := lt_of_block h
theorem Wds.f (h : Wds g T l w) (i : Nat) : w.frozen? ⟨g, i, none⟩ = false := frozen_of_row _ _ _ _ _ h
theorem Wds.c (h : Wds g T l w) (i : Nat) (hi : i < l.length) : w.cell? ⟨g, i, none⟩ = some (.int .u32 (rdN l i)) := by
  rw [cell_of_row _ _ _ _ _ _ h]
  simp [rdN, List.getD_eq_getElem?_getD, hi]
theorem Wds.set (h : Wds g T l w) (i : Nat) (x : Int) : Wds g T (l.set i x) (w.setCell ⟨g, i, none⟩ (.int .u32 x)) := by
  refine hset h ?_
  rw [List.map_set]
theorem Wds.keep (h : Wds g T l w) (hb : w1.heap[g]? = w.heap[g]?) : Wds g T l w1 := Eq.trans hb h
theorem Wds.drew (h : Wds g T l w) : Wds g T l w.drew := h
theorem Wds.below (h : Wds g T l w) (hb : Below w.heap.size w w1) : Wds g T l w1 := h.keep (hb.block g h.lt)
theorem Wds.setOther (h : Wds g T l w) (a : Addr) (v : Value) (hn : g ≠ a.block) : Wds g T l (w.setCell a v) := h.keep (heap_setCell_other _ _ _ _ hn)
theorem Wds.alloc (h : Wds g T l w) (o : Obj) : Wds g T l (w.alloc o) := h.keep (Below.heap_alloc _ _ _ h.lt)
end
theorem rot_any (x y : Int) (w : World) (hy : y ∈ [(-2 : Int), -6, -7, -11, -13, -17, -18, -19, -22, -25]) :
    Calls Tryd.prog 49 #[.int .u32 x, .int .i64 y] w fun e w' => e = .returned (.int .u32 (turn x (-y))) ∧ ∃ n, w' = w.drewN n := by
  have h : bits_RotateLeft32.f x y = some (turn x (-y)) := by
    simp only [List.mem_cons, List.not_mem_nil, or_false] at hy
    rcases hy with rfl | rfl | rfl | rfl | rfl | rfl | rfl | rfl | rfl | rfl
    · exact rot_f x 2 (by decide)
    · exact rot_f x 6 (by decide)
    · exact rot_f x 7 (by decide)
    · exact rot_f x 11 (by decide)
    · exact rot_f x 13 (by decide)
    · exact rot_f x 17 (by decide)
    · exact rot_f x 18 (by decide)
    · exact rot_f x 19 (by decide)
    · exact rot_f x 22 (by decide)
    · exact rot_f x 25 (by decide)
  refine (bits_RotateLeft32.calls x y _ w h).mono ?_
  rintro e w' ⟨h1, ⟨n, h2⟩⟩
  exact ⟨h1, n, h2⟩
theorem u32w (x : Int) : IntKind.u32.wrap x = x % 4294967296 := by simp [IntKind.wrap, IntKind.bits, IntKind.signed]
theorem word_eq (b : List Int) (n : Nat) : Go.bits .or .u32 (Go.bits .or .u32 (Go.bits .or .u32 (IntKind.u32.wrap (IntKind.u32.wrap (rdN b (4 * n)) * 16777216)) (IntKind.u32.wrap (IntKind.u32.wrap (rdN b (4 * n + 1)) * 65536))) (IntKind.u32.wrap (IntKind.u32.wrap (rdN b (4 * n + 2)) * 256))) (IntKind.u32.wrap (rdN b (4 * n + 3))) = wordP b n := by
  simp only [u32w]; rfl
theorem next_eq (w : List Int) (n : Nat) : nextP w n = (rdN w (n - 16) + Go.bits .xor .u32 (Go.bits .xor .u32 (turn (rdN w (n - 15)) 7) (turn (rdN w (n - 15)) 18)) (rdN w (n - 15) / 8) + rdN w (n - 7) + Go.bits .xor .u32 (Go.bits .xor .u32 (turn (rdN w (n - 2)) 17) (turn (rdN w (n - 2)) 19)) (rdN w (n - 2) / 1024)) % 4294967296 := by
  unfold nextP
  generalize rdN w (n - 16) = a
  generalize Go.bits .xor .u32 (Go.bits .xor .u32 (turn (rdN w (n - 15)) 7) (turn (rdN w (n - 15)) 18)) (rdN w (n - 15) / 8) = s
  generalize rdN w (n - 7) = c
  generalize Go.bits .xor .u32 (Go.bits .xor .u32 (turn (rdN w (n - 2)) 17) (turn (rdN w (n - 2)) 19)) (rdN w (n - 2) / 1024) = l
  omega
theorem rnd_list (s : St) (k w : Int) : (s.rnd k w).list = [(s.z + Go.bits .xor .u32 (Go.bits .xor .u32 (turn s.e 6) (turn s.e 11)) (turn s.e 25) + Go.bits .xor .u32 (Go.bits .and .u32 s.e s.f) (Go.bits .and .u32 (Go.bits .xor .u32 IntKind.u32.max s.e) s.g) + k + w + Go.bits .xor .u32 (Go.bits .xor .u32 (turn s.a 2) (turn s.a 13)) (turn s.a 22) + Go.bits .xor .u32 (Go.bits .xor .u32 (Go.bits .and .u32 s.a s.b) (Go.bits .and .u32 s.a s.c)) (Go.bits .and .u32 s.b s.c)) % 4294967296, s.a, s.b, s.c, (s.d + (s.z + Go.bits .xor .u32 (Go.bits .xor .u32 (turn s.e 6) (turn s.e 11)) (turn s.e 25) + Go.bits .xor .u32 (Go.bits .and .u32 s.e s.f) (Go.bits .and .u32 (Go.bits .xor .u32 IntKind.u32.max s.e) s.g) + k + w)) % 4294967296, s.e, s.f, s.g] := by
  unfold St.rnd St.list St.t1 St.s0 St.maj
  simp only [List.cons.injEq, and_true, true_and]
  generalize Go.bits .xor .u32 (Go.bits .xor .u32 (turn s.e 6) (turn s.e 11)) (turn s.e 25) = p
  generalize Go.bits .xor .u32 (Go.bits .and .u32 s.e s.f) (Go.bits .and .u32 (Go.bits .xor .u32 IntKind.u32.max s.e) s.g) = q
  generalize Go.bits .xor .u32 (Go.bits .xor .u32 (turn s.a 2) (turn s.a 13)) (turn s.a 22) = r
  generalize Go.bits .xor .u32 (Go.bits .xor .u32 (Go.bits .and .u32 s.a s.b) (Go.bits .and .u32 s.a s.c)) (Go.bits .and .u32 s.b s.c) = m
  constructor <;> omega
/-- The first n words added. -/
def addP (st v : List Int) : Nat → List Int
  | 0 => st
  | n + 1 => (addP st v n).set n ((rdN st n + rdN v n) % 4294967296)
theorem addP_get (st v : List Int) (j : Nat) : ∀ n, n ≤ j → rdN (addP st v n) j = rdN st j
  | 0, _ => rfl
  | n + 1, h => by
    rw [addP, rdN, List.getD_eq_getElem?_getD, List.getElem?_set_ne (by omega), ← List.getD_eq_getElem?_getD]
    exact addP_get st v j n (by omega)
theorem addP_list (st : List Int) (h : st.length = 8) (s : St) : addP st s.list 8 = [(rdN st 0 + s.a) % 4294967296, (rdN st 1 + s.b) % 4294967296, (rdN st 2 + s.c) % 4294967296, (rdN st 3 + s.d) % 4294967296, (rdN st 4 + s.e) % 4294967296, (rdN st 5 + s.f) % 4294967296, (rdN st 6 + s.g) % 4294967296, (rdN st 7 + s.z) % 4294967296] := by
  match st, h with
  | [a, b, c, d, e, f, g, z], _ => rfl
theorem addP_all (st blk : List Int) (h : st.length = 8) (s : St) (hs : (St.of st).run (schedP blk 64) 64 = s) : addP st s.list 8 = compP st blk := by
  rw [addP_list st h s, compP, hs]
theorem set_sched (b : List Int) (n : Nat) (hn : n < 64) : (schedP b n ++ List.replicate (64 - n) 0).set n (if n < 16 then wordP b n else nextP (schedP b n) n) = schedP b (n + 1) ++ List.replicate (64 - (n + 1)) 0 := by
  rw [List.set_append_right _ _ (by rw [schedP_length]; omega), schedP_length, Nat.sub_self, show 64 - n = (64 - (n + 1)) + 1 by omega, List.replicate_succ, List.set_cons_zero, schedP, List.append_assoc]
  rfl
theorem blk_slice (b n : Nat) (hn : n < 16) (w : World) :
    (Instr.sliceAt 67 (.pointer (some ⟨b, 8, none⟩)) (some (.int .i64 (4 * (n : Int)))) none none).run Tryd.prog w = .ok (.slice (some ⟨b, 8 + 4 * n, none⟩) (64 - 4 * n) (64 - 4 * n)) w := by
  have hT : Tryd.prog.underlying 67 = some (.array (Tryd.prog.arrayLen 67) (Tryd.prog.elem 67)) := by kernel_rfl
  have hL : Tryd.prog.arrayLen 67 = 64 := by kernel_rfl
  have hs : ∀ w : World, (sizeOf (Tryd.prog.elem 67)).run Tryd.prog w = .ok 1 w := fun _ => by kernel_rfl
  rw [run_sliceAt_array_l w 67 ⟨b, 8, none⟩ hT .i64 (4 * (n : Int)) (by omega) (by rw [hL]; omega), hs, hL]
  simp only [Result.andThen, slicedAt]
  rw [if_neg (by omega), show (4 * (n : Int)).toNat = 4 * n by omega]
  simp [Addr.add]
set_option maxRecDepth 100000 in
set_option maxHeartbeats 1000000 in
theorem mix_any (b : Nat) (st blk : List Int) (fill tot : Int) (w : World) (h : Hsh b st blk fill tot w) (ht : Tab w) :
    Calls Tryd.prog 47 #[.pointer (some ⟨b, 0, none⟩)] w fun e w' => e = .returned (.tuple #[]) ∧ Hsh b (compP st blk) blk fill tot w' ∧ w.grownBy w' (some b) := by
  have HH := Lib.hid h; clear h
  have HT := Lib.hid ht; clear ht
  go_enter Tryd.func47, Tryd.ntmps47
  go_wp2
  go_loopw [18] (fun i wr => ∃ n : Nat, n ≤ 16 ∧ i = .int .i64 n ∧ Wds w.heap.size 77 (schedP blk n ++ List.replicate (64 - n) 0) wr ∧ Below w.heap.size w wr) (fun i _ => 16 - (intOf i).toNat)
  case atStart => exact ⟨0, by omega, rfl, (heap_alloc_new _ _).trans rfl, by (repeat' (first | exact Below.refl _ _ | (with_reducible assumption) | (with_reducible refine Below.setCell ?_ (by first | (simp; done) | (simp; omega)) _) | refine below_then ?_ (by assumption) | (with_reducible refine below_new2 ?_ _) | (with_reducible refine Below.drew ?_) | (with_reducible refine bdrewN ?_ _)))⟩
  case round =>
    obtain ⟨n, hn, rfl, hW, hB⟩ := hrel
    have hlt : b < w.heap.size := HH.out.lt
    have hHr := HH.out.below hB
    have HHr := Lib.hid hHr; clear hHr
    have HW := Lib.hid hW; clear hW
    have hz := hB.size
    by_cases hl : n < 16
    · have hsl := blk_slice b n hl
      have d0 : wr.cell? ⟨b, 8 + 4 * n, none⟩ = some (.int .u8 (rdN blk (4 * n))) := HHr.out.cB (4 * n) (by omega)
      have d1 : wr.cell? ⟨b, 8 + 4 * n + 1, none⟩ = some (.int .u8 (rdN blk (4 * n + 1))) := HHr.out.cB (4 * n + 1) (by omega)
      have d2 : wr.cell? ⟨b, 8 + 4 * n + 2, none⟩ = some (.int .u8 (rdN blk (4 * n + 2))) := HHr.out.cB (4 * n + 2) (by omega)
      have d3 : wr.cell? ⟨b, 8 + 4 * n + 3, none⟩ = some (.int .u8 (rdN blk (4 * n + 3))) := HHr.out.cB (4 * n + 3) (by omega)
      have hll : (schedP blk n ++ List.replicate (64 - n) 0).length = 64 := by rw [List.length_append, schedP_length, List.length_replicate]; omega
      have dw := HW.out.c n (by rw [hll]; omega)
      have fw := HW.out.f n
      have HLL := Lib.hid hll; clear hll
      have l3 : 3 < 64 - 4 * n := by omega
      have l2 : 2 < 64 - 4 * n := by omega
      have l1 : 1 < 64 - 4 * n := by omega
      have l0 : 0 < 64 - 4 * n := by omega
      have n64 : (n : Int) < 64 := by omega
      have n0 : (0 : Int) ≤ (n : Int) := by omega
      have m3 : (3 : Int) < ((64 - 4 * n : Nat) : Int) := by omega
      have m2 : (2 : Int) < ((64 - 4 * n : Nat) : Int) := by omega
      have m1 : (1 : Int) < ((64 - 4 * n : Nat) : Int) := by omega
      have m0 : (0 : Int) < ((64 - 4 * n : Nat) : Int) := by omega
      go_wp2
      go_still_tail 24, (by kernel_rfl)
      change wpList _ _ _ _ _ wr.drew
      go_wp2
      go_roundw
      case rel =>
        refine ⟨n + 1, by omega, by go_num, ?_, ?_⟩
        · have h := (HW.out.set n (if n < 16 then wordP blk n else nextP (schedP blk n) n)).drew
          rw [set_sched _ _ (by omega), if_pos hl] at h
          exact h
        · exact (hB.setCell (p := ⟨w.heap.size, n, none⟩) (Nat.le_refl _) _).drew
      case measure => simp [intOf]; omega
    · obtain rfl : n = 16 := by omega
      rw [show ((16 : Nat) : Int) = 16 from rfl]
      go_wp2
      go_loopw [5] (fun i wr => ∃ n : Nat, 16 ≤ n ∧ n ≤ 64 ∧ i = .int .i64 n ∧ Wds w.heap.size 77 (schedP blk n ++ List.replicate (64 - n) 0) wr ∧ Below w.heap.size w wr) (fun i _ => 64 - (intOf i).toNat)
      case atStart => exact ⟨16, by omega, by omega, rfl, HW.out, hB⟩
      case round =>
        clear HW HHr hB hz hn hl
        obtain ⟨n, h16, hn, rfl, hW, hB⟩ := hrel
        have HW := Lib.hid hW; clear hW
        have hz := hB.size
        by_cases hl : n < 64
        · have hll : (schedP blk n ++ List.replicate (64 - n) 0).length = 64 := by rw [List.length_append, schedP_length, List.length_replicate]; omega
          have rdl : ∀ j, j < n → rdN (schedP blk n ++ List.replicate (64 - n) 0) j = rdN (schedP blk n) j := by
            intro j hj
            unfold rdN
            rw [List.getD_eq_getElem?_getD, List.getD_eq_getElem?_getD, List.getElem?_append_left (by rw [schedP_length]; exact hj)]
          have d15 := HW.out.c (n - 15) (by rw [hll]; omega)
          have d2 := HW.out.c (n - 2) (by rw [hll]; omega)
          have d16 := HW.out.c (n - 16) (by rw [hll]; omega)
          have d7 := HW.out.c (n - 7) (by rw [hll]; omega)
          have dn := HW.out.c n (by rw [hll]; omega)
          rw [rdl _ (by omega)] at d15 d2 d16 d7
          have fw := HW.out.f n
          clear hll rdl
          have n64 : (n : Int) < 64 := by omega
          have n0 : (0 : Int) ≤ (n : Int) := by omega
          go_wp2
          go_quiet (fail)
          go_wp2_with (go_at_call 49; refine (rot_any _ _ _ (by decide)).mono ?_; rintro e w' ⟨rfl, nd, hw⟩; (obtain ⟨N, rfl⟩ : ∃ N, w' = wr.drewN N := ⟨_, hw.trans (World.drewN_drewN _ _ _)⟩); clear hw)
          have w16 : IntKind.i64.wrap ((n : Int) - 16) = (n : Int) - 16 := IntWalk.i64_in _ (by omega)
          have w7 : IntKind.i64.wrap ((n : Int) - 7) = (n : Int) - 7 := IntWalk.i64_in _ (by omega)
          have p16 : (0 : Int) ≤ (n : Int) - 16 := by clear w16 w7; omega
          have p7 : (0 : Int) ≤ (n : Int) - 7 := by clear w16 w7; omega
          have q16 : (n : Int) - 16 < 64 := by clear w16 w7; omega
          have q7 : (n : Int) - 7 < 64 := by clear w16 w7; omega
          have t16 : ((n : Int) - 16).toNat = n - 16 := by clear w16 w7; omega
          have t7 : ((n : Int) - 7).toNat = n - 7 := by clear w16 w7; omega
          have r16 : (16 : Int) ≤ (n : Int) := by clear w16 w7; omega
          have r7 : (7 : Int) ≤ (n : Int) := by clear w16 w7; omega
          have e16 : (wr.drewN N).cell? ⟨w.heap.size, n - 16, none⟩ = some (.int .u32 (rdN (schedP blk n) (n - 16))) := d16
          have e7 : (wr.drewN N).cell? ⟨w.heap.size, n - 7, none⟩ = some (.int .u32 (rdN (schedP blk n) (n - 7))) := d7
          have en : (wr.drewN N).cell? ⟨w.heap.size, n, none⟩ = some (.int .u32 (rdN (schedP blk n ++ List.replicate (64 - n) 0) n)) := dn
          have fx : (wr.drewN N).frozen? ⟨w.heap.size, n, none⟩ = false := fw
          have HWx : Hid (Wds w.heap.size 77 (schedP blk n ++ List.replicate (64 - n) 0) (wr.drewN N)) := HW
          have hBx : Below w.heap.size w (wr.drewN N) := bdrewN hB N
          clear d16 d7 dn fw d15 d2 HW hB
          generalize wr.drewN N = wx at e16 e7 en fx HWx hBx ⊢
          go_still_tail 15, (by kernel_rfl)
          change wpList _ _ _ _ _ wx.drew
          clear w16 w7 t16 t7
          go_wp2
          go_roundw
          case rel =>
            refine ⟨n + 1, by omega, by omega, by go_num, ?_, ?_⟩
            · have h := (HWx.out.set n (if n < 16 then wordP blk n else nextP (schedP blk n) n)).drew
              rw [set_sched _ _ (by omega), if_neg (by omega), next_eq] at h
              exact h
            · exact (hBx.setCell (p := ⟨w.heap.size, n, none⟩) (Nat.le_refl _) _).drew
          case measure => simp [intOf]; omega
        · obtain rfl : n = 64 := by omega
          have hlt : b < w.heap.size := HH.out.lt
          have hHr := HH.out.below hB
          have HHr := Lib.hid hHr; clear hHr
          rw [show ((64 : Nat) : Int) = 64 from rfl]
          have g0 := HHr.out.cS 0 (by omega)
          have g1 := HHr.out.cS 1 (by omega)
          have g2 := HHr.out.cS 2 (by omega)
          have g3 := HHr.out.cS 3 (by omega)
          have g4 := HHr.out.cS 4 (by omega)
          have g5 := HHr.out.cS 5 (by omega)
          have g6 := HHr.out.cS 6 (by omega)
          have g7 := HHr.out.cS 7 (by omega)
          have hWl := HW.out.lt
          go_wp2
          clear g0 g1 g2 g3 g4 g5 g6 g7
          obtain ⟨wo, hwo⟩ : ∃ wo : World, wo = wr := ⟨_, rfl⟩
          rw [← hwo]
          subst hwo
          go_loopw [99] (fun i wr => ∃ n : Nat, n ≤ 64 ∧ i = .int .i64 n ∧ Wds wo.heap.size 66 (((St.of st).run (schedP blk 64) n).list) wr ∧ Wds w.heap.size 77 (schedP blk 64) wr ∧ Below w.heap.size w wr) (fun i _ => 64 - (intOf i).toNat)
          case atStart => exact ⟨0, by omega, rfl, (heap_alloc_new _ _).trans rfl, by simpa using HW.out.alloc _, hB.alloc hz _⟩
          case round =>
            clear HW HHr hB hl hn h16 hz
            obtain ⟨n, hn, rfl, hV, hW, hB⟩ := hrel
            have HV := Lib.hid hV; clear hV
            have HW := Lib.hid hW; clear hW
            have hz := hB.size
            by_cases hl : n < 64
            · obtain ⟨s, hs⟩ : ∃ s, (St.of st).run (schedP blk 64) n = s := ⟨_, rfl⟩
              have HS := Lib.hid hs
              rw [hs] at HV
              clear hs
              (have v0 : wr.cell? ⟨wo.heap.size, 0, none⟩ = some (.int .u32 s.a) := HV.out.c 0 (by simp [St.list]); have v1 : wr.cell? ⟨wo.heap.size, 1, none⟩ = some (.int .u32 s.b) := HV.out.c 1 (by simp [St.list]); have v2 : wr.cell? ⟨wo.heap.size, 2, none⟩ = some (.int .u32 s.c) := HV.out.c 2 (by simp [St.list]); have v3 : wr.cell? ⟨wo.heap.size, 3, none⟩ = some (.int .u32 s.d) := HV.out.c 3 (by simp [St.list]); have v4 : wr.cell? ⟨wo.heap.size, 4, none⟩ = some (.int .u32 s.e) := HV.out.c 4 (by simp [St.list]); have v5 : wr.cell? ⟨wo.heap.size, 5, none⟩ = some (.int .u32 s.f) := HV.out.c 5 (by simp [St.list]); have v6 : wr.cell? ⟨wo.heap.size, 6, none⟩ = some (.int .u32 s.g) := HV.out.c 6 (by simp [St.list]); have v7 : wr.cell? ⟨wo.heap.size, 7, none⟩ = some (.int .u32 s.z) := HV.out.c 7 (by simp [St.list]); have fv := HV.out.f; have vw := HW.out.c n (by rw [schedP_length]; omega); have vt : wr.cell? ⟨0, n, none⟩ = some (.int .u32 (rdN kTab n)) := (hB.cell (World.block_lt_of_cell? _ _ (HT.out n hl))).trans (HT.out n hl))
              have n64 : (n : Int) < 64 := by omega
              have n0 : (0 : Int) ≤ (n : Int) := by omega
              go_wp2
              go_quiet ((go_at_call 49; exact Calls.quiet_of (rot_any _ _ _ (by decide))))
              (have HVx : Hid (Wds wo.heap.size 66 s.list (wr.drewN nq)) := HV; have HWx : Hid (Wds w.heap.size 77 (schedP blk 64) (wr.drewN nq)) := HW; have hBx : Below w.heap.size w (wr.drewN nq) := bdrewN hB nq; clear v0 v1 v2 v3 v4 v5 v6 v7 fv vw vt HV HW hB; generalize wr.drewN nq = wx at HVx HWx hBx ⊢; have HV := HVx; clear HVx; have HW := HWx; clear HWx; have hB := hBx; clear hBx)
              (have v0 : wx.cell? ⟨wo.heap.size, 0, none⟩ = some (.int .u32 s.a) := HV.out.c 0 (by simp [St.list]); have v1 : wx.cell? ⟨wo.heap.size, 1, none⟩ = some (.int .u32 s.b) := HV.out.c 1 (by simp [St.list]); have v2 : wx.cell? ⟨wo.heap.size, 2, none⟩ = some (.int .u32 s.c) := HV.out.c 2 (by simp [St.list]); have v3 : wx.cell? ⟨wo.heap.size, 3, none⟩ = some (.int .u32 s.d) := HV.out.c 3 (by simp [St.list]); have v4 : wx.cell? ⟨wo.heap.size, 4, none⟩ = some (.int .u32 s.e) := HV.out.c 4 (by simp [St.list]); have v5 : wx.cell? ⟨wo.heap.size, 5, none⟩ = some (.int .u32 s.f) := HV.out.c 5 (by simp [St.list]); have v6 : wx.cell? ⟨wo.heap.size, 6, none⟩ = some (.int .u32 s.g) := HV.out.c 6 (by simp [St.list]); have v7 : wx.cell? ⟨wo.heap.size, 7, none⟩ = some (.int .u32 s.z) := HV.out.c 7 (by simp [St.list]); have fv := HV.out.f; have vw := HW.out.c n (by rw [schedP_length]; omega); have vt : wx.cell? ⟨0, n, none⟩ = some (.int .u32 (rdN kTab n)) := (hB.cell (World.block_lt_of_cell? _ _ (HT.out n hl))).trans (HT.out n hl))
              go_wp2
              go_quiet (fail)
              (have HVx : Hid (Wds wo.heap.size 66 s.list (wx.drewN nq)) := HV; have HWx : Hid (Wds w.heap.size 77 (schedP blk 64) (wx.drewN nq)) := HW; have hBx : Below w.heap.size w (wx.drewN nq) := bdrewN hB nq; clear v0 v1 v2 v3 v4 v5 v6 v7 fv vw vt HV HW hB; generalize wx.drewN nq = wy at HVx HWx hBx ⊢; have HV := HVx; clear HVx; have HW := HWx; clear HWx; have hB := hBx; clear hBx)
              (have v0 : wy.cell? ⟨wo.heap.size, 0, none⟩ = some (.int .u32 s.a) := HV.out.c 0 (by simp [St.list]); have v1 : wy.cell? ⟨wo.heap.size, 1, none⟩ = some (.int .u32 s.b) := HV.out.c 1 (by simp [St.list]); have v2 : wy.cell? ⟨wo.heap.size, 2, none⟩ = some (.int .u32 s.c) := HV.out.c 2 (by simp [St.list]); have v3 : wy.cell? ⟨wo.heap.size, 3, none⟩ = some (.int .u32 s.d) := HV.out.c 3 (by simp [St.list]); have v4 : wy.cell? ⟨wo.heap.size, 4, none⟩ = some (.int .u32 s.e) := HV.out.c 4 (by simp [St.list]); have v5 : wy.cell? ⟨wo.heap.size, 5, none⟩ = some (.int .u32 s.f) := HV.out.c 5 (by simp [St.list]); have v6 : wy.cell? ⟨wo.heap.size, 6, none⟩ = some (.int .u32 s.g) := HV.out.c 6 (by simp [St.list]); have v7 : wy.cell? ⟨wo.heap.size, 7, none⟩ = some (.int .u32 s.z) := HV.out.c 7 (by simp [St.list]); have fv := HV.out.f; have vw := HW.out.c n (by rw [schedP_length]; omega); have vt : wy.cell? ⟨0, n, none⟩ = some (.int .u32 (rdN kTab n)) := (hB.cell (World.block_lt_of_cell? _ _ (HT.out n hl))).trans (HT.out n hl))
              go_wp2
              go_quiet ((go_at_call 49; exact Calls.quiet_of (rot_any _ _ _ (by decide))))
              (have HVx : Hid (Wds wo.heap.size 66 s.list (wy.drewN nq)) := HV; have HWx : Hid (Wds w.heap.size 77 (schedP blk 64) (wy.drewN nq)) := HW; have hBx : Below w.heap.size w (wy.drewN nq) := bdrewN hB nq; clear v0 v1 v2 v3 v4 v5 v6 v7 fv vw vt HV HW hB; generalize wy.drewN nq = wz at HVx HWx hBx ⊢; have HV := HVx; clear HVx; have HW := HWx; clear HWx; have hB := hBx; clear hBx)
              (have v0 : wz.cell? ⟨wo.heap.size, 0, none⟩ = some (.int .u32 s.a) := HV.out.c 0 (by simp [St.list]); have v1 : wz.cell? ⟨wo.heap.size, 1, none⟩ = some (.int .u32 s.b) := HV.out.c 1 (by simp [St.list]); have v2 : wz.cell? ⟨wo.heap.size, 2, none⟩ = some (.int .u32 s.c) := HV.out.c 2 (by simp [St.list]); have v3 : wz.cell? ⟨wo.heap.size, 3, none⟩ = some (.int .u32 s.d) := HV.out.c 3 (by simp [St.list]); have v4 : wz.cell? ⟨wo.heap.size, 4, none⟩ = some (.int .u32 s.e) := HV.out.c 4 (by simp [St.list]); have v5 : wz.cell? ⟨wo.heap.size, 5, none⟩ = some (.int .u32 s.f) := HV.out.c 5 (by simp [St.list]); have v6 : wz.cell? ⟨wo.heap.size, 6, none⟩ = some (.int .u32 s.g) := HV.out.c 6 (by simp [St.list]); have v7 : wz.cell? ⟨wo.heap.size, 7, none⟩ = some (.int .u32 s.z) := HV.out.c 7 (by simp [St.list]); have fv := HV.out.f; have vw := HW.out.c n (by rw [schedP_length]; omega); have vt : wz.cell? ⟨0, n, none⟩ = some (.int .u32 (rdN kTab n)) := (hB.cell (World.block_lt_of_cell? _ _ (HT.out n hl))).trans (HT.out n hl))
              go_wp2
              go_roundw
              case rel =>
                refine ⟨n + 1, by omega, by go_num, ?_, ?_, ?_⟩
                · rw [St.run, HS.out, rnd_list]
                  exact (((((((HV.out.set 0 _).set 1 _).set 2 _).set 3 _).set 4 _).set 5 _).set 6 _).set 7 _
                · have hne : w.heap.size ≠ wo.heap.size := by omega
                  exact (((((((HW.out.setOther _ _ hne).setOther _ _ hne).setOther _ _ hne).setOther _ _ hne).setOther _ _ hne).setOther _ _ hne).setOther _ _ hne).setOther _ _ hne
                · have hle : w.heap.size ≤ wo.heap.size := by omega
                  exact (((((((hB.setCell hle _).setCell hle _).setCell hle _).setCell hle _).setCell hle _).setCell hle _).setCell hle _).setCell hle _
              case measure => simp [intOf]; omega
            · obtain rfl : n = 64 := by omega
              have hHr := HH.out.below hB
              have HHr := Lib.hid hHr; clear hHr
              rw [show ((64 : Nat) : Int) = 64 from rfl]
              obtain ⟨s, hs⟩ : ∃ s, (St.of st).run (schedP blk 64) 64 = s := ⟨_, rfl⟩
              rw [hs] at HV
              have HS := Lib.hid hs
              clear hs
              go_wp2
              go_loopw [190] (fun i wr => ∃ n : Nat, n ≤ 8 ∧ i = .int .i64 n ∧ Hsh b (addP st s.list n) blk fill tot wr ∧ Wds wo.heap.size 66 s.list wr ∧ w.grownBy wr (some b)) (fun i _ => 8 - (intOf i).toNat)
              case atStart => exact ⟨0, by omega, rfl, HHr.out, HV.out, ⟨hB.os, hB.tape, hB.output, hB.size, fun k hk _ => hB.block k hk⟩⟩
              case round =>
                clear HV HW HHr hB hl hn hz
                obtain ⟨n, hn, rfl, hH, hV, hG⟩ := hrel
                have HHr := Lib.hid hH; clear hH
                have HV := Lib.hid hV; clear hV
                have hz := hG.size
                by_cases hl : n < 8
                · have c1 := HHr.out.cS n hl
                  rw [addP_get _ _ _ _ (Nat.le_refl _)] at c1
                  have c2 := HV.out.c n (by simp [St.list]; omega)
                  have c3 := HHr.out.f n
                  have n8 : (n : Int) < 8 := by omega
                  have n0 : (0 : Int) ≤ (n : Int) := by omega
                  go_wp2
                  go_still_tail 13, (by kernel_rfl)
                  change wpList _ _ _ _ _ wr.drew
                  go_wp2
                  go_roundw
                  case rel =>
                    refine ⟨n + 1, by omega, by go_num, ?_, ?_, ?_⟩
                    · have h := (HHr.out.setS n hl ((rdN st n + rdN s.list n) % 4294967296)).drew
                      exact h
                    · exact (HV.out.setOther _ _ (by show wo.heap.size ≠ b; omega)).drew
                    · have g := Lib.grownBy_setB hG n (.int .u32 ((rdN st n + rdN s.list n) % 4294967296))
                      exact ⟨g.os, g.tape, g.output, g.size, g.block⟩
                  case measure => simp [intOf]; omega
                · obtain rfl : n = 8 := by omega
                  rw [show ((8 : Nat) : Int) = 8 from rfl]
                  have h8 := HH.out.st8
                  have hH := HHr.out
                  rw [addP_all st blk h8 s HS.out] at hH
                  have HHf := Lib.hid hH; clear hH h8
                  go_wp2
                  go_end0
                  exact ⟨rfl, HHf.out, hG⟩
end Go.Proofs.YtmfejehhfmaodaaDoor.Z

end

/- The hasher fed with bytes. -/
section
namespace Go.Proofs.YtmfejehhfmaodaaDoor.Z
open Go.RowKit Go.Proofs.YtmfejehhfmaodaaDoor Go.Proofs.YtmfejehhfmaodaaDoorW.PrintWords Go.Proofs.YtmfejehhfmaodaaDoorW.PrintLast
set_option linter.unusedVariables false
set_option linter.unusedSimpArgs false
theorem blockAt_app (l m : List Int) (fr : Nat) (h : fr + 64 ≤ l.length) : blockAt (l ++ m) fr = blockAt l fr := by
  unfold blockAt
  rw [List.drop_append_of_le_length (by omega), List.take_append_of_le_length (by rw [List.length_drop]; omega)]
theorem stateP_app (l m : List Int) : ∀ n, 64 * n ≤ l.length → stateP (l ++ m) n = stateP l n
  | 0, _ => rfl
  | n + 1, h => by rw [stateP, stateP, stateP_app l m n (by omega), blockAt_app l m _ (by omega)]
theorem rdN_app_lt (l m : List Int) (j : Nat) (h : j < l.length) : rdN (l ++ m) j = rdN l j := by
  unfold rdN; rw [List.getD_eq_getElem?_getD, List.getD_eq_getElem?_getD, List.getElem?_append_left h]
theorem rdN_app_at (l : List Int) (x : Int) : rdN (l ++ [x]) l.length = x := by
  unfold rdN; rw [List.getD_eq_getElem?_getD, List.getElem?_append_right (Nat.le_refl _)]; simp
theorem rdN_set_ne (l : List Int) (i j : Nat) (x : Int) (h : i ≠ j) : rdN (l.set i x) j = rdN l j := by
  unfold rdN; rw [List.getD_eq_getElem?_getD, List.getD_eq_getElem?_getD, List.getElem?_set_ne h]
theorem rdN_set_eq (l : List Int) (i : Nat) (x : Int) (h : i < l.length) : rdN (l.set i x) i = x := by
  unfold rdN; rw [List.getD_eq_getElem?_getD, List.getElem?_set_self h]; rfl
theorem list_eq_of_rdN (l m : List Int) (h : l.length = m.length) (he : ∀ j, j < l.length → rdN l j = rdN m j) : l = m := by
  apply List.ext_getElem h
  intro j h1 h2
  have := he j h1
  unfold rdN at this
  rw [List.getD_eq_getElem?_getD, List.getD_eq_getElem?_getD, List.getElem?_eq_getElem h1, List.getElem?_eq_getElem h2] at this
  exact this
/-- Block b is a hasher that was fed with l. -/
structure Fed (b : Nat) (l : List Int) (tot : Int) (w : World) : Prop where
  out : ∃ blk, Hsh b (stateP l (l.length / 64)) blk ((l.length % 64 : Nat) : Int) tot w ∧ ∀ j, j < l.length % 64 → rdN blk j = rdN l (64 * (l.length / 64) + j)
section
variable {b : Nat} {l : List Int} {tot : Int} {w w1 : World}
theorem Fed.lt (h : Fed b l tot w) : b < w.heap.size := by obtain ⟨blk, h1, _⟩ := h.out; exact h1.lt
theorem Fed.f (h : Fed b l tot w) (i : Nat) : w.frozen? ⟨b, i, none⟩ = false := by obtain ⟨blk, h1, _⟩ := h.out; exact h1.f i
theorem Fed.cF (h : Fed b l tot w) : w.cell? ⟨b, 72, none⟩ = some (.int .i64 ((l.length % 64 : Nat) : Int)) := by obtain ⟨blk, h1, _⟩ := h.out; exact h1.cF
theorem Fed.cT (h : Fed b l tot w) : w.cell? ⟨b, 73, none⟩ = some (.int .u64 tot) := by obtain ⟨blk, h1, _⟩ := h.out; exact h1.cT
theorem Fed.keep (h : Fed b l tot w) (hb : w1.heap[b]? = w.heap[b]?) : Fed b l tot w1 := by obtain ⟨blk, h1, h2⟩ := h.out; exact ⟨blk, h1.keep hb, h2⟩
theorem Fed.below (h : Fed b l tot w) (hb : Below w.heap.size w w1) : Fed b l tot w1 := h.keep (hb.block b h.lt)
theorem Fed.setT (h : Fed b l tot w) (x : Int) : Fed b l x (w.setCell ⟨b, 73, none⟩ (.int .u64 x)) := by obtain ⟨blk, h1, h2⟩ := h.out; exact ⟨blk, h1.setT x, h2⟩
theorem Tab.grown (h : Tab w) {row : Option Nat} (hb : w.grownBy w1 row) (hn : some 0 ≠ row) : Tab w1 := by
  intro i hi
  exact hb.cell (h i hi) hn
theorem Tab.below (h : Tab w) (hb : Below w.heap.size w w1) : Tab w1 := by
  intro i hi
  exact (hb.cell (World.block_lt_of_cell? _ _ (h i hi))).trans (h i hi)
theorem Tab.lt (h : Tab w) : 0 < w.heap.size := World.block_lt_of_cell? _ _ (h 0 (by omega))
end
theorem grown_drew {a w : World} {row : Option Nat} (h : a.grownBy w row) : a.grownBy w.drew row := ⟨h.os, h.tape, h.output, h.size, h.block⟩
theorem grown_refl (a : World) (row : Option Nat) : a.grownBy a row := ⟨rfl, rfl, rfl, Nat.le_refl _, fun _ _ _ => rfl⟩
set_option maxHeartbeats 1000000 in
theorem add_any (b : Nat) (l : List Int) (tot x : Int) (w : World) (h : Fed b l tot w) (ht : Tab w) (hbg : 0 < b) :
    Calls Tryd.prog 42 #[.pointer (some ⟨b, 0, none⟩), .int .u8 x] w fun e w' => e = .returned (.tuple #[]) ∧ Fed b (l ++ [x]) tot w' ∧ w.grownBy w' (some b) := by
  obtain ⟨blk, hH, hblk⟩ := h.out
  have HB := Lib.hid hblk; clear hblk h
  obtain ⟨f, hf⟩ : ∃ f, l.length % 64 = f := ⟨_, rfl⟩
  rw [hf] at hH HB
  have hf64 : f < 64 := by omega
  have HF := Lib.hid hf; clear hf
  have c1 := hH.cF
  have c2 := hH.cB f hf64
  have f1 := hH.f (8 + f)
  have f2 := hH.f 72
  have HH := Lib.hid hH; clear hH
  have HT := Lib.hid ht; clear ht
  have n64 : (f : Int) < 64 := by omega
  have n0 : (0 : Int) ≤ (f : Int) := by omega
  have hgb : some 0 ≠ some b := by intro e; have := Option.some.inj e; omega
  have hlen : (l ++ [x]).length = l.length + 1 := by simp
  have HLEN := Lib.hid hlen; clear hlen
  by_cases h63 : f = 63
  · have heq : (((f : Int) + 1) == 64) = true := by rw [beq_iff_eq]; omega
    have hG : w.grownBy ((w.setCell ⟨b, 8 + f, none⟩ (.int .u8 x)).setCell ⟨b, 72, none⟩ (.int .i64 ((f : Int) + 1))).drew (some b) := grown_drew (Lib.grownBy_setB (Lib.grownBy_setCell _ _ _ _) _ _)
    have hT2 := HT.out.grown hG hgb
    have HT2 := Lib.hid hT2; clear hT2
    have hH3 := ((HH.out.setB f hf64 x).setF ((f : Int) + 1)).drew
    have HH3 := Lib.hid hH3; clear hH3
    have HG := Lib.hid hG; clear hG
    have H63 := Lib.hid h63; clear h63
    go_enter Tryd.func42, Tryd.ntmps42
    go_wp2
    go_still_tail 9, (by kernel_rfl)
    change wpList _ _ _ _ _ w.drew
    go_wp2_with (go_at_call 47; go_loud (refine (mix_any b _ _ _ _ _ HH3.out HT2.out).mono ?_; rintro e w1 ⟨rfl, h1, hg⟩; have k1 := h1.cF; have k2 := h1.f 72; have H1 := Lib.hid h1; clear h1))
    go_end0
    refine ⟨rfl, ⟨blk.set f x, ?_, ?_⟩, ?_⟩
    · have h := H1.out.setF 0
      have e1 : (l ++ [x]).length / 64 = l.length / 64 + 1 := by rw [HLEN.out]; have := HF.out; have := H63.out; omega
      have e2 : (l ++ [x]).length % 64 = 0 := by rw [HLEN.out]; have := HF.out; have := H63.out; omega
      have e3 : blk.set f x = blockAt (l ++ [x]) (64 * (l.length / 64)) := by
        have hb64 := HH.out.blk64
        have hbl : (blockAt (l ++ [x]) (64 * (l.length / 64))).length = 64 := by unfold blockAt; rw [List.length_take, List.length_drop, HLEN.out]; have := HF.out; have := H63.out; omega
        refine list_eq_of_rdN _ _ (by rw [List.length_set, hb64, hbl]) fun j hj => ?_
        rw [List.length_set, hb64] at hj
        rw [rd_blockAt _ _ _ hj]
        by_cases hjf : f = j
        · subst hjf
          rw [rdN_set_eq _ _ _ (by omega)]
          have : 64 * (l.length / 64) + f = l.length := by have := HF.out; omega
          rw [this, rdN_app_at]
        · rw [rdN_set_ne _ _ _ _ hjf, HB.out j (by have := H63.out; omega), rdN_app_lt _ _ _ (by have := HF.out; have := H63.out; omega)]
      rw [e1, e2, stateP, stateP_app l [x] _ (by omega), ← e3]
      exact h
    · intro j hj
      have e2 : (l ++ [x]).length % 64 = 0 := by rw [HLEN.out]; have := HF.out; have := H63.out; omega
      omega
    · exact Lib.grownBy_setB (Lib.grownBy_trans HG.out hg) _ _
  · have hne : (((f : Int) + 1) == 64) = false := by rw [beq_eq_false_iff_ne]; omega
    go_enter Tryd.func42, Tryd.ntmps42
    go_wp2
    go_still_tail 9, (by kernel_rfl)
    change wpList _ _ _ _ _ w.drew
    go_wp2
    go_end0
    refine ⟨rfl, ⟨blk.set f x, ?_, ?_⟩, ?_⟩
    · have h := ((HH.out.setB f hf64 x).setF ((f : Int) + 1)).drew
      have e1 : (l ++ [x]).length / 64 = l.length / 64 := by rw [HLEN.out]; have := HF.out; omega
      have e2 : (((l ++ [x]).length % 64 : Nat) : Int) = (f : Int) + 1 := by rw [HLEN.out]; have := HF.out; omega
      rw [e1, e2, stateP_app l [x] _ (by omega)]
      exact h
    · intro j hj
      have e1 : (l ++ [x]).length / 64 = l.length / 64 := by rw [HLEN.out]; have := HF.out; omega
      have hj' : j < f + 1 := by rw [HLEN.out] at hj; have := HF.out; omega
      have hb64 := HH.out.blk64
      rw [e1]
      by_cases hjf : f = j
      · subst hjf
        rw [rdN_set_eq _ _ _ (by omega)]
        have : 64 * (l.length / 64) + f = l.length := by have := HF.out; omega
        rw [this, rdN_app_at]
      · rw [rdN_set_ne _ _ _ _ hjf, HB.out j (by omega), rdN_app_lt _ _ _ (by have := HF.out; omega)]
    · exact grown_drew (Lib.grownBy_setB (Lib.grownBy_setCell _ _ _ _) _ _)
end Go.Proofs.YtmfejehhfmaodaaDoor.Z

end

/- What hashing gives. -/
section
namespace Go.Proofs.YtmfejehhfmaodaaDoor.Z
open Go.RowKit Go.Proofs.YtmfejehhfmaodaaDoor Go.Proofs.YtmfejehhfmaodaaDoorW.PrintWords Go.Proofs.YtmfejehhfmaodaaDoorW.PrintLast
set_option linter.unusedVariables false
set_option linter.unusedSimpArgs false
theorem ints_app (l m : List UInt8) : ints (l ++ m) = ints l ++ ints m := by simp [ints]
theorem ints_one (c : UInt8) : ints [c] = [(c.toNat : Int)] := rfl
theorem take_snoc (s : ByteArray) (k : Nat) (h : k < s.size) : s.data.toList.take (k + 1) = s.data.toList.take k ++ [s[k]] := by
  rw [List.take_succ_eq_append_getElem (by simpa using h)]; rfl
set_option maxHeartbeats 1000000 in
theorem feed_any (b : Nat) (l : List Int) (tot : Nat) (s : ByteArray) (w : World) (h : Fed b l tot w) (ht : Tab w) (hbg : 0 < b) (hs : s.size ≤ 8589934592) (htot : tot ≤ 8589934592) :
    Calls Tryd.prog 32 #[.pointer (some ⟨b, 0, none⟩), .string s] w fun e w' => e = .returned (.pointer (some ⟨b, 0, none⟩)) ∧ Fed b (l ++ ints s.data.toList) ((tot + s.size : Nat) : Int) w' ∧ w.grownBy w' (some b) := by
  have hgb : some 0 ≠ some b := by intro e; have := Option.some.inj e; omega
  have HH := Lib.hid h; clear h
  have HT := Lib.hid ht; clear ht
  go_enter Tryd.func32, Tryd.ntmps32
  go_wp2
  go_loopw [8] (fun i wr => ∃ n : Nat, n ≤ s.size ∧ i = .int .i64 n ∧ Fed b (l ++ ints (s.data.toList.take n)) tot wr ∧ w.grownBy wr (some b)) (fun i _ => s.size - (intOf i).toNat)
  case atStart => exact ⟨0, by omega, rfl, by simpa [ints] using HH.out, grown_refl _ _⟩
  case round =>
    obtain ⟨n, hn, rfl, hF, hG⟩ := hrel
    have hT := HT.out.grown hG hgb
    have HTr := Lib.hid hT; clear hT
    have HF := Lib.hid hF; clear hF
    by_cases hl : n < s.size
    · go_wp2_with (go_at_call 42; refine (add_any b _ _ _ _ HF.out HTr.out hbg).mono ?_; rintro e w1 ⟨rfl, h1, hg⟩; have H1 := Lib.hid h1; clear h1)
      go_roundw
      case rel =>
        refine ⟨n + 1, by omega, by go_num, ?_, Lib.grownBy_trans hG hg⟩
        rw [take_snoc s n hl, ints_app, ints_one, ← List.append_assoc]
        exact H1.out
      case measure => simp [intOf]; omega
    · obtain rfl : n = s.size := by omega
      have c1 := HF.out.cT
      have f1 := HF.out.f 73
      have e1 : s.data.toList.take s.size = s.data.toList := List.take_of_length_le (Nat.le_refl _)
      have HE := Lib.hid e1; clear e1
      go_wp2
      go_ret
      refine ⟨rfl, ?_, Lib.grownBy_setB hG _ _⟩
      have h := HF.out.setT ((tot + s.size : Nat) : Int)
      rw [HE.out] at h
      rw [show ((tot + s.size : Nat) : Int) = (tot : Int) + (s.size : Int) by omega] at h ⊢
      exact h
theorem len_byte_eq2 (n i : Nat) (hi : i ≤ 7) (hn : n ≤ 8589934592) : (((8 * n : Nat) : Int) / 2 ^ (8 * i)) % 256 = ((lenByte n (7 - i)).toNat : Int) := by
  unfold lenByte
  rw [show 7 - (7 - i) = i by omega, UInt8.toNat_ofNat']
  rw [show ((2 : Int) ^ (8 * i)) = ((2 ^ (8 * i) : Nat) : Int) by rw [Int.natCast_pow]; rfl]
  rw [← Int.natCast_ediv]
  generalize 8 * n / 2 ^ (8 * i) = q
  omega
/-- A block of bytes. -/
def Wby (g : Nat) (T : TypeId) (l : List Int) (w : World) : Prop := w.heap[g]? = some (.cells (l.map (Value.int .u8)).toArray T (0, 0))
section
variable {g : Nat} {T : TypeId} {l : List Int} {w w1 : World}
theorem Wby.lt (h : Wby g T l w) : g < w.heap.size := lt_of_block h
theorem Wby.f (h : Wby g T l w) (i : Nat) : w.frozen? ⟨g, i, none⟩ = false := frozen_of_row _ _ _ _ _ h
theorem Wby.c (h : Wby g T l w) (i : Nat) (hi : i < l.length) : w.cell? ⟨g, i, none⟩ = some (.int .u8 (rdN l i)) := by
  rw [cell_of_row _ _ _ _ _ _ h]
  simp [rdN, List.getD_eq_getElem?_getD, hi]
theorem Wby.set (h : Wby g T l w) (i : Nat) (x : Int) : Wby g T (l.set i x) (w.setCell ⟨g, i, none⟩ (.int .u8 x)) := by
  refine hset h ?_
  rw [List.map_set]
end
theorem idx8_0 (a b c d e f g z : Int) (w : World) : (Instr.index 66 (.agg #[.int .u32 a, .int .u32 b, .int .u32 c, .int .u32 d, .int .u32 e, .int .u32 f, .int .u32 g, .int .u32 z]) (.int .i64 0)).run Tryd.prog w = .ok (.int .u32 a) w := by kernel_rfl
theorem idx8_1 (a b c d e f g z : Int) (w : World) : (Instr.index 66 (.agg #[.int .u32 a, .int .u32 b, .int .u32 c, .int .u32 d, .int .u32 e, .int .u32 f, .int .u32 g, .int .u32 z]) (.int .i64 1)).run Tryd.prog w = .ok (.int .u32 b) w := by kernel_rfl
theorem idx8_2 (a b c d e f g z : Int) (w : World) : (Instr.index 66 (.agg #[.int .u32 a, .int .u32 b, .int .u32 c, .int .u32 d, .int .u32 e, .int .u32 f, .int .u32 g, .int .u32 z]) (.int .i64 2)).run Tryd.prog w = .ok (.int .u32 c) w := by kernel_rfl
theorem idx8_3 (a b c d e f g z : Int) (w : World) : (Instr.index 66 (.agg #[.int .u32 a, .int .u32 b, .int .u32 c, .int .u32 d, .int .u32 e, .int .u32 f, .int .u32 g, .int .u32 z]) (.int .i64 3)).run Tryd.prog w = .ok (.int .u32 d) w := by kernel_rfl
theorem idx8_4 (a b c d e f g z : Int) (w : World) : (Instr.index 66 (.agg #[.int .u32 a, .int .u32 b, .int .u32 c, .int .u32 d, .int .u32 e, .int .u32 f, .int .u32 g, .int .u32 z]) (.int .i64 4)).run Tryd.prog w = .ok (.int .u32 e) w := by kernel_rfl
theorem idx8_5 (a b c d e f g z : Int) (w : World) : (Instr.index 66 (.agg #[.int .u32 a, .int .u32 b, .int .u32 c, .int .u32 d, .int .u32 e, .int .u32 f, .int .u32 g, .int .u32 z]) (.int .i64 5)).run Tryd.prog w = .ok (.int .u32 f) w := by kernel_rfl
theorem idx8_6 (a b c d e f g z : Int) (w : World) : (Instr.index 66 (.agg #[.int .u32 a, .int .u32 b, .int .u32 c, .int .u32 d, .int .u32 e, .int .u32 f, .int .u32 g, .int .u32 z]) (.int .i64 6)).run Tryd.prog w = .ok (.int .u32 g) w := by kernel_rfl
theorem idx8_7 (a b c d e f g z : Int) (w : World) : (Instr.index 66 (.agg #[.int .u32 a, .int .u32 b, .int .u32 c, .int .u32 d, .int .u32 e, .int .u32 f, .int .u32 g, .int .u32 z]) (.int .i64 7)).run Tryd.prog w = .ok (.int .u32 z) w := by kernel_rfl
theorem idx8 (st : List Int) (n : Nat) (hn : n < 8) (w : World) : (Instr.index 66 (.agg #[.int .u32 (rdN st 0), .int .u32 (rdN st 1), .int .u32 (rdN st 2), .int .u32 (rdN st 3), .int .u32 (rdN st 4), .int .u32 (rdN st 5), .int .u32 (rdN st 6), .int .u32 (rdN st 7)]) (.int .i64 (n : Int))).run Tryd.prog w = .ok (.int .u32 (rdN st n)) w := by
  have h : n = 0 ∨ n = 1 ∨ n = 2 ∨ n = 3 ∨ n = 4 ∨ n = 5 ∨ n = 6 ∨ n = 7 := by omega
  rcases h with rfl | rfl | rfl | rfl | rfl | rfl | rfl | rfl
  · exact idx8_0 _ _ _ _ _ _ _ _ w
  · exact idx8_1 _ _ _ _ _ _ _ _ w
  · exact idx8_2 _ _ _ _ _ _ _ _ w
  · exact idx8_3 _ _ _ _ _ _ _ _ w
  · exact idx8_4 _ _ _ _ _ _ _ _ w
  · exact idx8_5 _ _ _ _ _ _ _ _ w
  · exact idx8_6 _ _ _ _ _ _ _ _ w
  · exact idx8_7 _ _ _ _ _ _ _ _ w
theorem set_out (st : List Int) (n : Nat) (hn : n < 8) :
    ((((outB st n ++ List.replicate (32 - 4 * n) 0).set (4 * n) (rdN st n / 16777216 % 256)).set (4 * n + 1) (rdN st n / 65536 % 256)).set (4 * n + 2) (rdN st n / 256 % 256)).set (4 * n + 3) (rdN st n % 256) = outB st (n + 1) ++ List.replicate (32 - 4 * (n + 1)) 0 := by
  have hl := outB_length st n
  rw [show 32 - 4 * n = (32 - 4 * (n + 1)) + 4 by omega]
  rw [List.set_append_right _ _ (by omega), List.set_append_right _ _ (by omega), List.set_append_right _ _ (by omega), List.set_append_right _ _ (by omega), hl]
  rw [show 4 * n - 4 * n = 0 by omega, show 4 * n + 1 - 4 * n = 1 by omega, show 4 * n + 2 - 4 * n = 2 by omega, show 4 * n + 3 - 4 * n = 3 by omega]
  rw [List.replicate_succ, List.replicate_succ, List.replicate_succ, List.replicate_succ, outB, List.append_assoc]
  rfl
set_option maxHeartbeats 1000000 in
theorem finish_any (b : Nat) (l : List UInt8) (w : World) (h : Fed b (ints l) (l.length : Nat) w) (ht : Tab w) (hbg : 0 < b) (hs : l.length ≤ 8589934592) :
    Calls Tryd.prog 33 #[.pointer (some ⟨b, 0, none⟩)] w fun e w' => e = .returned (.agg ((shaL l).map (Value.int .u8)).toArray) ∧ w.grownBy w' (some b) := by
  have hgb : some 0 ≠ some b := by intro e; have := Option.some.inj e; omega
  have hlt := h.lt
  have hzm := zerosN_mod l.length
  have hzl := zerosN_lt l.length
  have c0 := h.cT
  have HZM := Lib.hid hzm; clear hzm
  have HH := Lib.hid h; clear h
  have HT := Lib.hid ht; clear ht
  go_enter Tryd.func33, Tryd.ntmps33
  go_wp2_with fail
  refine (add_any b (ints l) _ 128 _ (HH.out.keep (Below.heap_alloc _ _ _ hlt)) (HT.out.below (by (repeat' (first | exact Below.refl _ _ | (with_reducible assumption) | (with_reducible refine Below.setCell ?_ (by first | (simp; done) | (simp; omega)) _) | refine below_then ?_ (by assumption) | (with_reducible refine below_new2 ?_ _) | (with_reducible refine Below.drew ?_) | (with_reducible refine bdrewN ?_ _))))) hbg).mono ?_
  rintro e w1 ⟨rfl, h1, hg1⟩
  have hT1 := HT.out.below (w1 := w.alloc (.cells ((List.replicate 32 (Value.int .u8 0)).toArray) 42)) (by (repeat' (first | exact Below.refl _ _ | (with_reducible assumption) | (with_reducible refine Below.setCell ?_ (by first | (simp; done) | (simp; omega)) _) | refine below_then ?_ (by assumption) | (with_reducible refine below_new2 ?_ _) | (with_reducible refine Below.drew ?_) | (with_reducible refine bdrewN ?_ _))))
  have HT1 := Lib.hid (Tab.grown hT1 hg1 hgb); clear hT1
  have H1 := Lib.hid h1; clear h1
  have gW1 : w.grownBy w1 (some b) := Lib.grownBy_trans (World.grownBy_alloc w _ _) hg1
  have hz1 := hg1.size
  simp only [World.size_alloc] at hz1
  have hR1 : w1.heap[w.heap.size]? = some (.cells ((List.replicate 32 (Value.int .u8 0)).toArray) 42 (0, 0)) := by
    rw [hg1.block w.heap.size (by simp) (by intro e; have := Option.some.inj e; omega)]
    exact heap_alloc_new _ _
  have HR1 := Lib.hid hR1; clear hR1
  rw [show ints l ++ [128] = ints (padZ l 0) by simp [padZ, ints]] at H1
  go_wp2
  go_loopg [15] (zerosN l.length) (fun kq v w' => ∃ j : Nat, j + kq = zerosN l.length ∧ Fed b (ints (padZ l j)) (l.length : Nat) w' ∧ w1.grownBy w' (some b))
  case atStart => exact ⟨0, by omega, H1.out, grown_refl _ _⟩
  case round =>
    clear c0
    obtain ⟨j, hj, hF, hG⟩ := hrel
    have HTr := Lib.hid (Tab.grown HT1.out hG hgb)
    have c2 := hF.cF
    have HF := Lib.hid hF; clear hF
    obtain ⟨q, hq⟩ : ∃ q, (ints (padZ l j)).length % 64 = q := ⟨_, rfl⟩
    rw [hq] at c2
    rw [ints_length, padZ_length] at hq
    cases gk with
    | zero =>
      obtain rfl : j = zerosN l.length := by omega
      have h56 : ((q : Int) != 56) = false := by rw [bne_eq_false_iff_eq]; have := HZM.out; omega
      clear hq
      go_wp2
      go_loopw [4] (fun i w' => ∃ m : Nat, m ≤ 8 ∧ i = .int .i64 (7 - (m : Int)) ∧ Fed b (ints (padZ l (zerosN l.length) ++ lenB l.length m)) (l.length : Nat) w' ∧ w1.grownBy w' (some b)) (fun i _ => (intOf i + 1).toNat)
      case atStart => exact ⟨0, by omega, rfl, by simpa [lenB] using HF.out, hG⟩
      case round =>
        clear HF HTr c2 h56 hG
        obtain ⟨m, hm, rfl, hF, hG⟩ := hrel
        have HTr := Lib.hid (Tab.grown HT1.out hG hgb)
        have HF := Lib.hid hF; clear hF
        by_cases h8 : m < 8
        · have t0 : (0 : Int) ≤ 7 - (m : Int) := by omega
          have hbyte : (l.length : Int) * 8 / 2 ^ (8 * (7 - m)) % 256 = ((lenByte l.length m).toNat : Int) := by
            have := len_byte_eq2 l.length (7 - m) (by omega) hs
            rw [show 7 - (7 - m) = m by omega, show ((8 * l.length : Nat) : Int) = (l.length : Int) * 8 by omega] at this
            exact this
          go_wp2_with (go_at_call 42; refine (add_any b _ _ ((lenByte l.length m).toNat : Int) _ HF.out HTr.out hbg).mono ?_; rintro e w2 ⟨rfl, h2, hg2⟩; have H2 := Lib.hid h2; clear h2)
          clear hbyte
          go_roundw
          case rel =>
            refine ⟨m + 1, by omega, by go_num, ?_, Lib.grownBy_trans hG hg2⟩
            rw [lenB_succ, ← List.append_assoc, ints_app]
            exact H2.out
          case measure => simp [intOf]; omega
        · obtain rfl : m = 8 := by omega
          rw [show padZ l (zerosN l.length) ++ lenB l.length 8 = padP l from rfl] at HF
          obtain ⟨blk, hH, _⟩ := HF.out.out
          have hst : stateP (ints (padP l)) ((ints (padP l)).length / 64) = stateP (ints (padP l)) ((l.length + 72) / 64) := by
            rw [ints_length, padP_length]; congr 1; omega
          rw [hst] at hH
          have hst8 := hH.st8
          obtain ⟨st, hs2⟩ : ∃ st, stateP (ints (padP l)) ((l.length + 72) / 64) = st := ⟨_, rfl⟩
          rw [hs2] at hH hst8
          have HS2 := Lib.hid hs2; clear hs2 hst
          have g0 := hH.cS 0 (by omega)
          have g1 := hH.cS 1 (by omega)
          have g2 := hH.cS 2 (by omega)
          have g3 := hH.cS 3 (by omega)
          have g4 := hH.cS 4 (by omega)
          have g5 := hH.cS 5 (by omega)
          have g6 := hH.cS 6 (by omega)
          have g7 := hH.cS 7 (by omega)
          have hbl := hH.lt
          have hz := hG.size
          have hz0 := hz
          clear hH
          rw [show (7 : Int) - ((8 : Nat) : Int) = -1 from rfl]
          go_wp2
          clear g0 g1 g2 g3 g4 g5 g6 g7
          obtain ⟨wo, hwo⟩ : ∃ wo : World, wo = wr := ⟨_, rfl⟩
          rw [← hwo]
          subst hwo
          go_loopw [37] (fun i w' => ∃ n : Nat, n ≤ 8 ∧ i = .int .i64 n ∧ Wby wo.heap.size 42 (outB st n ++ List.replicate (32 - 4 * n) 0) w' ∧ w1.grownBy w' (some b)) (fun i _ => 8 - (intOf i).toNat)
          case atStart => exact ⟨0, by omega, rfl, (heap_alloc_new _ _).trans rfl, Lib.grownBy_allocR hG _⟩
          case round =>
            clear hG hz
            obtain ⟨n, hn, rfl, hO, hG⟩ := hrel
            have HO := Lib.hid hO; clear hO
            have hz := hG.size
            have hll : (outB st n ++ List.replicate (32 - 4 * n) 0).length = 32 := by rw [List.length_append, outB_length, List.length_replicate]; omega
            by_cases hl : n < 8
            · have hidx := idx8 st n hl
              have d0 := HO.out.c (4 * n) (by omega)
              have d1 := HO.out.c (4 * n + 1) (by omega)
              have d2 := HO.out.c (4 * n + 2) (by omega)
              have d3 := HO.out.c (4 * n + 3) (by omega)
              have fo := HO.out.f
              have n8 : (n : Int) < 8 := by omega
              have n0 : (0 : Int) ≤ (n : Int) := by omega
              clear hll
              go_wp2
              go_roundw
              case rel =>
                refine ⟨n + 1, by omega, by go_num, ?_, ?_⟩
                · rw [← set_out st n hl]
                  exact (((HO.out.set (4 * n) _).set (4 * n + 1) _).set (4 * n + 2) _).set (4 * n + 3) _
                · have ho : w1.heap.size ≤ wo.heap.size := hz0
                  have h := fun (a : World) (g : w1.grownBy a (some b)) (i : Nat) (v : Value) => (⟨g.os, g.tape, g.output, by simpa using g.size, fun k hk hne => (heap_setCell_other _ _ _ _ (by show k ≠ wo.heap.size; omega)).trans (g.block k hk hne)⟩ : w1.grownBy (a.setCell ⟨wo.heap.size, i, none⟩ v) (some b))
                  exact h _ (h _ (h _ (h _ hG _ _) _ _) _ _) _ _
              case measure => simp [intOf]; omega
            · obtain rfl : n = 8 := by omega
              rw [show ((8 : Nat) : Int) = 8 from rfl]
              rw [show List.replicate (32 - 4 * 8) (0 : Int) = [] from rfl, List.append_nil] at HO hll
              have hRr : wr.heap[w.heap.size]? = some (.cells ((List.replicate 32 (Value.int .u8 0)).toArray) 42 (0, 0)) := (hG.block w.heap.size (by omega) (by intro e; have := Option.some.inj e; omega)).trans HR1.out
              have HRr := Lib.hid hRr; clear hRr
              have hsz : ((outB st 8).map (Value.int .u8)).toArray.size = 32 := by simp [hll]
              have hi : (Tryd.prog.info? 42).map (·.size) = some (((outB st 8).map (Value.int .u8)).toArray.size) := by rw [hsz]; kernel_rfl
              have h1c : (((outB st 8).map (Value.int .u8)).toArray).all (·.oneCell') = true := by simp [Value.oneCell']
              have HI := Lib.hid hi; clear hi
              have HSZ := Lib.hid hsz; clear hsz
              have H1C := Lib.hid h1c; clear h1c hll
              obtain ⟨cs, hcs⟩ : ∃ cs, ((outB st 8).map (Value.int .u8)).toArray = cs := ⟨_, rfl⟩
              have hOo : wr.heap[wo.heap.size]? = some (.cells cs 42 (0, 0)) := by rw [← hcs]; exact HO.out
              rw [hcs] at HI HSZ H1C
              have HCS := Lib.hid hcs
              have HOo := Lib.hid hOo
              clear hcs hOo HO
              go_wp2_with (first | ((with_reducible refine gate_dst (N := 68) rfl ?_); refine wpList_load_row rfl 42 _ rfl wo.heap.size rfl _ _ _ _ HOo.out Tryd.underlying42 rfl HI.out ?_) | refine wpList_store_row rfl 42 _ _ rfl w.heap.size cs rfl rfl _ _ HRr.out HI.out (by rw [HSZ.out]; rfl) H1C.out ?_)
              refine bodyPost_ret (v := .agg cs) (results_cell_row Tryd.results33 _ _ w.heap.size 42 cs (0, 0) _ rfl (setRow_heap _ _ _ _ _ _ HRr.out) Tryd.underlying42 rfl HI.out) rfl ⟨?_, ?_⟩
              · rw [← HCS.out, ← HS2.out]; rfl
              · have g := Lib.grownBy_trans gW1 hG
                exact ⟨g.os, g.tape, g.output, by rw [setRow_size]; exact g.size, fun k hk hne => (setRow_other _ _ _ _ (by omega)).trans (g.block k hk hne)⟩
    | succ gk =>
      have h56 : ((q : Int) != 56) = true := by rw [bne_iff_ne]; have := HZM.out; omega
      clear hq
      go_wp2_with (go_at_call 42; refine (add_any b _ _ 0 _ HF.out HTr.out hbg).mono ?_; rintro e w2 ⟨rfl, h2, hg2⟩; have H2 := Lib.hid h2; clear h2)
      go_roundg gk
      case measure => omega
      case rel =>
        refine ⟨j + 1, by omega, ?_, Lib.grownBy_trans hG hg2⟩
        rw [padZ_succ, ints_app]
        exact H2.out
end Go.Proofs.YtmfejehhfmaodaaDoor.Z

end

/- hashOf, and what stands on it. -/
section
namespace Go.Proofs.YtmfejehhfmaodaaDoor.Z
open Go.RowKit Go.Proofs.YtmfejehhfmaodaaDoor Go.Proofs.YtmfejehhfmaodaaDoorW.PrintWords Go.Proofs.YtmfejehhfmaodaaDoorW.PrintLast
set_option linter.unusedVariables false
set_option linter.unusedSimpArgs false
def catL (ps : List ByteArray) : List UInt8 := ps.flatMap fun s => s.data.toList
theorem catL_snoc (ps : List ByteArray) (s : ByteArray) : catL (ps ++ [s]) = catL ps ++ s.data.toList := by simp [catL]
theorem catL_take_le (ps : List ByteArray) (n : Nat) : (catL (ps.take n)).length ≤ (catL ps).length := by
  have h : catL ps = catL (ps.take n) ++ catL (ps.drop n) := by
    unfold catL; rw [← List.flatMap_append, List.take_append_drop]
  rw [h, List.length_append]; omega
/-- A hash as a value. -/
def hashV (l : List Int) : Value := .agg (l.map (Value.int .u8)).toArray
set_option maxHeartbeats 1000000 in
theorem hashOf_any (g : Nat) (ps : List ByteArray) (w : World) (hc : ∀ j p, ps[j]? = some p → w.cell? ⟨g, j, none⟩ = some (.string p)) (ht : Tab w) (hsz : (catL ps).length ≤ 4294967296) (hn : ps.length ≤ 4294967296) (hg : g < w.heap.size) :
    Calls Tryd.prog 20 #[.slice (some ⟨g, 0, none⟩) ps.length ps.length] w fun e w' => e = .returned (hashV (shaL (catL ps))) ∧ Below w.heap.size w w' := by
  have HC := Lib.hid hc; clear hc
  have HT := Lib.hid ht; clear ht
  go_enter Tryd.func20, Tryd.ntmps20
  go_wp2_with (go_at_call 31; refine (newHasher_any _).mono ?_; rintro e w1 ⟨rfl, h1, hz1, hb1⟩; have H1 := Lib.hid h1; clear h1)
  have hz2 := hz1
  simp only [World.size_alloc] at hz2
  have hR1 : w1.heap[w.heap.size]? = some (.cells ((List.replicate 32 (Value.int .u8 0)).toArray) 42 (0, 0)) := (hb1.block _ (by simp)).trans (heap_alloc_new _ _)
  have HR1 := Lib.hid hR1; clear hR1
  have hF1 : Fed (w.heap.size + 1) (ints (catL (ps.take 0))) ((catL (ps.take 0)).length : Nat) w1 := by
    refine ⟨_, by simpa [ints, catL, stateP] using H1.out, fun j hj => by simp [catL, ints] at hj⟩
  have HF1 := Lib.hid hF1; clear hF1
  have hB1 : Below w.heap.size w w1 := ((Below.refl _ _).alloc (Nat.le_refl _) _).trans (hb1.mono (by simp))
  go_wp2
  go_loopw [9] (fun i wr => ∃ n : Nat, n ≤ ps.length ∧ i = .int .i64 n ∧ Fed (w.heap.size + 1) (ints (catL (ps.take n))) ((catL (ps.take n)).length : Nat) wr ∧ w1.grownBy wr (some (w.heap.size + 1))) (fun i _ => ps.length - (intOf i).toNat)
  case atStart => exact ⟨0, by omega, rfl, HF1.out, grown_refl _ _⟩
  case round =>
    obtain ⟨n, hn1, rfl, hF, hG⟩ := hrel
    have hBr : Below w.heap.size w wr := hB1.grown hG (by omega) (by intro k hk; have := Option.some.inj hk; omega)
    have HTr := Lib.hid (HT.out.below hBr)
    have hbg : 0 < w.heap.size + 1 := by have := HT.out.lt; omega
    have HF := Lib.hid hF; clear hF
    by_cases hl : n < ps.length
    · have hcn := HC.out n ps[n] (List.getElem?_eq_getElem hl)
      have hcr := (hBr.cell (p := ⟨g, n, none⟩) hg).trans hcn
      clear hcn
      have hle := catL_take_le ps n
      have hle1 : ps[n].size ≤ (catL ps).length := by
        have := catL_take_le ps (n + 1)
        rw [List.take_succ_eq_append_getElem hl, catL_snoc, List.length_append] at this
        have e : ps[n].data.toList.length = ps[n].size := rfl
        omega
      obtain ⟨p, hp⟩ : ∃ p, ps[n] = p := ⟨_, rfl⟩
      rw [hp] at hcr hle1
      have HP := Lib.hid hp; clear hp
      have n0 : (0 : Int) ≤ (n : Int) := by omega
      go_wp2_with (go_at_call 32; refine (feed_any _ _ _ _ _ HF.out HTr.out hbg (by omega) (by omega)).mono ?_; rintro e w2 ⟨rfl, h2, hg2⟩; have H2 := Lib.hid h2; clear h2)
      go_roundw
      case rel =>
        refine ⟨n + 1, by omega, by go_num, ?_, Lib.grownBy_trans hG hg2⟩
        rw [List.take_succ_eq_append_getElem hl, catL_snoc, HP.out, ints_app, List.length_append]
        exact H2.out
      case measure => simp [intOf]; omega
    · obtain rfl : n = ps.length := by omega
      rw [List.take_length] at HF
      have hRr : wr.heap[w.heap.size]? = some (.cells ((List.replicate 32 (Value.int .u8 0)).toArray) 42 (0, 0)) := (hG.block w.heap.size (by omega) (by intro e; have := Option.some.inj e; omega)).trans HR1.out
      have HRr := Lib.hid hRr; clear hRr
      have hz3 := hG.size
      have hi : (Tryd.prog.info? 42).map (·.size) = some (((shaL (catL ps)).map (Value.int .u8)).toArray.size) := by
        rw [show (((shaL (catL ps)).map (Value.int .u8)).toArray.size) = 32 by simp [shaL_length]]; kernel_rfl
      have h1c : (((shaL (catL ps)).map (Value.int .u8)).toArray).all (·.oneCell') = true := by simp [Value.oneCell']
      have hsz : ((List.replicate 32 (Value.int .u8 0)).toArray).size = ((shaL (catL ps)).map (Value.int .u8)).toArray.size := by simp [shaL_length]
      have HI := Lib.hid hi; clear hi
      have H1C := Lib.hid h1c; clear h1c
      have HSZ2 := Lib.hid hsz; clear hsz
      go_wp2_with (first | (go_at_call 33; refine (finish_any _ _ _ HF.out HTr.out hbg (by omega)).mono ?_; rintro e w2 ⟨rfl, hg2⟩; have HR2 := Lib.hid ((hg2.block w.heap.size (by omega) (by intro e; have := Option.some.inj e; omega)).trans HRr.out)) | refine wpList_store_row rfl 42 _ _ rfl w.heap.size _ rfl rfl _ _ HR2.out HI.out HSZ2.out H1C.out ?_)
      refine bodyPost_ret (v := hashV (shaL (catL ps))) (results_cell_row Tryd.results20 _ _ w.heap.size 42 _ (0, 0) _ rfl (setRow_heap _ _ _ _ _ _ HR2.out) Tryd.underlying42 rfl HI.out) rfl ⟨rfl, ?_⟩
      have hb : Below w.heap.size w w2 := hBr.grown hg2 (by have := hBr.size; omega) (by intro k hk; have := Option.some.inj hk; omega)
      exact ⟨hb.os, hb.tape, hb.output, by rw [setRow_size]; exact hb.size, fun k hk => (setRow_other _ _ _ _ (by omega)).trans (hb.block k hk)⟩
end Go.Proofs.YtmfejehhfmaodaaDoor.Z

end

/- Two hashes compared as values. -/
section
namespace Go.Proofs.YtmfejehhfmaodaaDoor.Z
open Go.RowKit Go.Proofs.YtmfejehhfmaodaaDoor Go.Proofs.YtmfejehhfmaodaaDoorW.PrintWords Go.Proofs.YtmfejehhfmaodaaDoorW.PrintLast
set_option linter.unusedVariables false
set_option linter.unusedSimpArgs false
theorem part_u8 (l : List Int) (i : Nat) (hi : i < l.length) (w : World) : (Go.part 5 (l.map (Value.int .u8)).toArray (i * 1)).run Tryd.prog w = .ok (.int .u8 (rdN l i)) w := by
  have hA : ∀ w : World, (Go.isAgg 5).run Tryd.prog w = .ok false w := fun _ => by kernel_rfl
  unfold Go.part
  simp only [Sem.run_bind, hA, Result.andThen_ok, Bool.false_eq_true, if_false, Nat.mul_one]
  have : ((l.map (Value.int .u8)).toArray)[i]? = some (.int .u8 (rdN l i)) := by simp [rdN, List.getD_eq_getElem?_getD, hi]
  rw [this]
  rfl
theorem eq_loop (l m : List Int) (hl : l.length = 32) (hm : m.length = 32) (w : World) : ∀ (k j : Nat), j + k = 32 →
    (forIn (List.range' j k) ((none, ()) : Option Bool × Unit) (fun i _ => (do
      let a ← Go.part 5 (l.map (Value.int .u8)).toArray (i * 1)
      let b ← Go.part 5 (m.map (Value.int .u8)).toArray (i * 1)
      let c ← Op.equalIn 9999 5 a b
      if (!c) = true then pure (ForInStep.done (some false, ())) else pure (ForInStep.yield (none, ())) : Sem (ForInStep (Option Bool × Unit))))).run Tryd.prog w = .ok (if l.drop j = m.drop j then (none, ()) else (some false, ())) w := by
  intro k
  induction k with
  | zero =>
    intro j hj
    rw [List.drop_eq_nil_of_le (by omega), List.drop_eq_nil_of_le (by omega)]
    simp
  | succ k ih =>
    intro j hj
    have e1 : l.drop j = rdN l j :: l.drop (j + 1) := by
      rw [List.drop_eq_getElem_cons (by omega)]; simp [rdN, List.getD_eq_getElem?_getD, show j < l.length by omega]
    have e2 : m.drop j = rdN m j :: m.drop (j + 1) := by
      rw [List.drop_eq_getElem_cons (by omega)]; simp [rdN, List.getD_eq_getElem?_getD, show j < m.length by omega]
    have h := ih (j + 1) (by omega)
    rw [List.range'_succ, List.forIn_cons]
    simp only [Sem.run_bind]
    rw [part_u8 l j (by omega), e1, e2]
    simp only [Result.andThen_ok]
    rw [part_u8 m j (by omega)]
    simp only [Result.andThen_ok]
    rw [show (9999 : Nat) = 9998 + 1 from rfl, run_equalIn_int w 9998 5 .u8 .u8 _ _ Tryd.underlying5]
    simp only [Result.andThen_ok]
    by_cases hc : rdN l j = rdN m j
    · rw [hc, beq_self_eq_true]
      simp only [Bool.not_true, Bool.false_eq_true, if_false, Sem.run_pure, Result.andThen_ok, List.cons.injEq, true_and]
      exact h
    · rw [beq_eq_false_iff_ne.2 hc]
      simp [hc]
theorem eq_arr (l m : List Int) (hl : l.length = 32) (hm : m.length = 32) (w : World) :
    (Op.equalIn 10000 42 (hashV l) (hashV m)).run Tryd.prog w = .ok (decide (l = m)) w := by
  have hT : Tryd.prog.underlying 42 = some (.array 32 5) := by kernel_rfl
  have hs : ∀ w : World, (sizeOf 5).run Tryd.prog w = .ok 1 w := fun _ => by kernel_rfl
  unfold hashV
  show (Op.equalIn (9999 + 1) 42 _ _).run Tryd.prog w = _
  unfold Op.equalIn
  simp only [Sem.run_bind, run_underlying hT, Result.andThen_ok, hs]
  rw [Std.Legacy.Range.forIn_eq_forIn_range']
  have h := eq_loop l m hl hm w 32 0 rfl
  refine (congrArg (fun r => Result.andThen r _) h).trans ?_
  simp only [Result.andThen_ok, List.drop_zero]
  by_cases hc : l = m
  · simp [hc]
  · simp [hc]
theorem run_neq_hash (l m : List Int) (hl : l.length = 32) (hm : m.length = 32) (w : World) :
    (binOp .neq 42 (hashV l) (hashV m)).run Tryd.prog w = .ok (.bool (!decide (l = m))) w := by
  unfold hashV
  rw [run_neq_struct]
  have h := eq_arr l m hl hm w
  unfold hashV at h
  rw [h]
  rfl
end Go.Proofs.YtmfejehhfmaodaaDoor.Z

end

/- Sha256, Digest and Higher of the program. -/
section
namespace Go.Proofs.YtmfejehhfmaodaaDoor.Z
open Go.RowKit Go.Proofs.YtmfejehhfmaodaaDoor Go.Proofs.YtmfejehhfmaodaaDoorW.PrintWords Go.Proofs.YtmfejehhfmaodaaDoorW.PrintLast
set_option linter.unusedVariables false
set_option linter.unusedSimpArgs false
theorem strOfNums_take (l : List Int) (n : Nat) : strOfNums (l.take n) = (strOfNums l).extract 0 n := by
  apply ByteArray.ext
  unfold strOfNums
  simp [ByteArray.data_extract]
set_option maxHeartbeats 1000000 in
set_option maxRecDepth 10000 in
theorem text_h (l : List Int) (hl : l.length = 32) (n : Int) (w : World) (h0 : 1 ≤ n) (h1 : n ≤ 32) :
    Calls Tryd.prog 21 #[hashV l, .int .i64 n] w fun e w' => e = .returned (.string ((strOfNums l).extract 0 n.toNat)) ∧ Below w.heap.size w w' := by
  obtain ⟨n, rfl⟩ := Int.eq_ofNat_of_zero_le (show 0 ≤ n by omega)
  rw [Int.toNat_natCast]
  have h1' : 1 ≤ n := by omega
  have h2' : n ≤ 32 := by omega
  have hcv : (convert 37 9 (.slice (some ⟨w.heap.size, 0, none⟩) n 32)).run Tryd.prog (w.alloc (.cells (l.map (Value.int .u8)).toArray 42)) = .ok (.string ((strOfNums l).extract 0 n)) (w.alloc (.cells (l.map (Value.int .u8)).toArray 42)) := by
    rw [← strOfNums_take]
    refine run_convert_bytes_arg (P := Tryd.prog) _ 37 5 Tryd.underlying37 Tryd.underlying5 w.heap.size 0 n 32 (l.take n) (by simp; omega) (fun i hi => ?_) 9 Tryd.underlying9
    rw [Nat.zero_add, cell_of_row _ _ _ _ _ _ (heap_alloc_new _ _)]
    simp [List.getD_eq_getElem?_getD, List.getElem?_take, hl, hi, show i < 32 by omega]
  have HCV := Lib.hid hcv; clear hcv
  have HL := Lib.hid hl; clear hl
  unfold hashV
  go_enter Tryd.func21, Tryd.ntmps21
  go_wp2_with ((with_reducible refine gate_dst (N := 7) rfl ?_); refine wpList_convert rfl 37 9 _ rfl rfl HCV.out ?_)
  go_ret
  exact ⟨rfl, by (repeat' (first | exact Below.refl _ _ | (with_reducible assumption) | (with_reducible refine Below.setCell ?_ (by first | (simp; done) | (simp; omega)) _) | refine below_then ?_ (by assumption) | (with_reducible refine below_new2 ?_ _) | (with_reducible refine Below.drew ?_) | (with_reducible refine bdrewN ?_ _)))⟩
def widB (x : Int) : Bool := decide (1 ≤ x ∧ x ≤ 32)
theorem isWidth_any (x : Int) (w : World) : Calls Tryd.prog 23 #[.int .i64 x] w fun e w' => e = .returned (.bool (widB x)) ∧ w = w' := by
  go_enter Tryd.func23, Tryd.ntmps23
  go_wp2
  all_goals
    go_ret
    refine ⟨ret_bool ?_, rfl⟩
    unfold widB
    grind
theorem hash_str (l : List Int) (hl : l.length = 32) (g : Nat) (W : World) (hg : W.heap[g]? = some (.cells (l.map (Value.int .u8)).toArray 42 (0, 0))) :
    (convert 37 9 (.slice (some ⟨g, 0, none⟩) 32 32)).run Tryd.prog W = .ok (.string (strOfNums l)) W := by
  refine run_convert_bytes_arg (P := Tryd.prog) _ 37 5 Tryd.underlying37 Tryd.underlying5 g 0 32 32 l (by omega) (fun i hi => ?_) 9 Tryd.underlying9
  rw [Nat.zero_add, cell_of_row _ _ _ _ _ _ hg]
  simp [List.getD_eq_getElem?_getD, hl, show i < 32 by omega]
def aboveB (x y : List Int) (a b : ByteArray) : Bool := if x = y then Op.bytesLess a.toList b.toList else (!Op.bytesLess (strOfNums x).toList (strOfNums y).toList && !((strOfNums x).toList == (strOfNums y).toList))
set_option maxHeartbeats 1000000 in
set_option maxRecDepth 10000 in
theorem above_any (x y : List Int) (hx : x.length = 32) (hy : y.length = 32) (a b : ByteArray) (w : World) :
    Calls Tryd.prog 25 #[hashV x, .string a, hashV y, .string b] w fun e w' => e = .returned (.bool (aboveB x y a b)) ∧ Below w.heap.size w w' := by
  have hne := fun w => run_neq_hash x y hx hy w
  have hA : ((w.alloc (.cells (x.map (Value.int .u8)).toArray 42)).alloc (.cells (y.map (Value.int .u8)).toArray 42)).heap[w.heap.size]? = some (.cells (x.map (Value.int .u8)).toArray 42 (0, 0)) := heap_alloc2_old _ _ _
  have hB : ((w.alloc (.cells (x.map (Value.int .u8)).toArray 42)).alloc (.cells (y.map (Value.int .u8)).toArray 42)).heap[w.heap.size + 1]? = some (.cells (y.map (Value.int .u8)).toArray 42 (0, 0)) := heap_alloc2_new _ _ _
  have hi : (Tryd.prog.info? 42).map (·.size) = some ((x.map (Value.int .u8)).toArray.size) := by
    rw [show ((x.map (Value.int .u8)).toArray.size) = 32 by simp [hx]]; kernel_rfl
  have hj : (Tryd.prog.info? 42).map (·.size) = some ((y.map (Value.int .u8)).toArray.size) := by
    rw [show ((y.map (Value.int .u8)).toArray.size) = 32 by simp [hy]]; kernel_rfl
  have HA := Lib.hid hA; have HB := Lib.hid hB; have HI := Lib.hid hi; have HJ := Lib.hid hj
  have HX := Lib.hid hx; have HY := Lib.hid hy
  clear hA hB hi hj hx hy
  unfold hashV at *
  by_cases hxy : x = y
  · have hd : decide (x = y) = true := decide_eq_true hxy
    have HD : Hid (aboveB x y a b = Op.bytesLess a.toList b.toList) := Lib.hid (by unfold aboveB; rw [if_pos hxy])
    clear hxy
    go_enter Tryd.func25, Tryd.ntmps25
    go_wp2_with (first | ((with_reducible refine gate_dst (N := 9) rfl ?_); refine wpList_load_row rfl 42 _ rfl w.heap.size rfl _ _ _ _ HA.out Tryd.underlying42 rfl HI.out ?_) | ((with_reducible refine gate_dst (N := 10) rfl ?_); refine wpList_load_row rfl 42 _ rfl (w.heap.size + 1) rfl _ _ _ _ HB.out Tryd.underlying42 rfl HJ.out ?_))
    go_ret
    exact ⟨by rw [HD.out]; rfl, by (repeat' (first | exact Below.refl _ _ | (with_reducible assumption) | (with_reducible refine Below.setCell ?_ (by first | (simp; done) | (simp; omega)) _) | refine below_then ?_ (by assumption) | (with_reducible refine below_new2 ?_ _) | (with_reducible refine Below.drew ?_) | (with_reducible refine bdrewN ?_ _)))⟩
  · have hd : decide (x = y) = false := decide_eq_false hxy
    have HD : Hid (aboveB x y a b = (!Op.bytesLess (strOfNums x).toList (strOfNums y).toList && !((strOfNums x).toList == (strOfNums y).toList))) := Lib.hid (by unfold aboveB; rw [if_neg hxy])
    clear hxy
    go_enter Tryd.func25, Tryd.ntmps25
    go_wp2_with (first | ((with_reducible refine gate_dst (N := 9) rfl ?_); refine wpList_load_row rfl 42 _ rfl w.heap.size rfl _ _ _ _ HA.out Tryd.underlying42 rfl HI.out ?_) | ((with_reducible refine gate_dst (N := 10) rfl ?_); refine wpList_load_row rfl 42 _ rfl (w.heap.size + 1) rfl _ _ _ _ HB.out Tryd.underlying42 rfl HJ.out ?_))
    have hBel : Below w.heap.size w ((w.alloc (.cells (x.map (Value.int .u8)).toArray 42)).alloc (.cells (y.map (Value.int .u8)).toArray 42)) := by (repeat' (first | exact Below.refl _ _ | (with_reducible assumption) | (with_reducible refine Below.setCell ?_ (by first | (simp; done) | (simp; omega)) _) | refine below_then ?_ (by assumption) | (with_reducible refine below_new2 ?_ _) | (with_reducible refine Below.drew ?_) | (with_reducible refine bdrewN ?_ _)))
    generalize (w.alloc (.cells (x.map (Value.int .u8)).toArray 42)).alloc (.cells (y.map (Value.int .u8)).toArray 42) = W at HA HB hBel ⊢
    have kx := fun n => hash_str x HX.out w.heap.size (W.drewN n) HA.out
    have ky := fun n => hash_str y HY.out (w.heap.size + 1) (W.drewN n) HB.out
    have kx0 := hash_str x HX.out w.heap.size W HA.out
    have ky0 := hash_str y HY.out (w.heap.size + 1) W HB.out
    clear hne
    go_quiet (fail)
    go_wp2
    go_ret
    exact ⟨by rw [HD.out]; rfl, bdrewN hBel nq⟩
theorem catL_one (s : ByteArray) : catL [s] = s.data.toList := by simp [catL]
/-- hashOf of one string that the call has just laid. -/
theorem hashOne_any (s : ByteArray) (W w : World) (hW : W = w.alloc (.cells #[.string s] 9)) (ht : Tab w) (hs : s.size ≤ 4294967296) :
    Calls Tryd.prog 20 #[.slice (some ⟨w.heap.size, 0, none⟩) 1 1] W fun e w' => e = .returned (hashV (shaL s.data.toList)) ∧ Below w.heap.size w w' := by
  subst hW
  have h := hashOf_any w.heap.size [s] (w.alloc (.cells #[.string s] 9)) (fun j p hj => by
    match j, hj with
    | 0, hj =>
      simp only [List.getElem?_cons_zero, Option.some.injEq] at hj
      subst hj
      rw [cell_of_row _ _ _ _ _ _ (heap_alloc_new _ _)]; rfl) (ht.below (by (repeat' (first | exact Below.refl _ _ | (with_reducible assumption) | (with_reducible refine Below.setCell ?_ (by first | (simp; done) | (simp; omega)) _) | refine below_then ?_ (by assumption) | (with_reducible refine below_new2 ?_ _) | (with_reducible refine Below.drew ?_) | (with_reducible refine bdrewN ?_ _))))) (by rw [catL_one]; exact hs) (by simp) (by simp)
  rw [catL_one] at h
  refine h.mono ?_
  rintro e w' ⟨h1, hb⟩
  exact ⟨h1, ((Below.refl _ _).alloc (Nat.le_refl _) _).trans (hb.mono (by simp))⟩
theorem extract_all (s : ByteArray) (n : Nat) (h : s.size ≤ n) : s.extract 0 n = s := by
  apply ByteArray.ext
  rw [ByteArray.data_extract]
  exact Array.extract_eq_self_of_le h
def impl_Sha256.f (a0 : ByteArray) : Option ByteArray := if a0.size ≤ 4294967296 then some (shaV a0) else none
theorem impl_Sha256.calls (a0 r : ByteArray) (w : World) (h : impl_Sha256.f a0 = some r) (hTab : Tab w := by exact Tab.below (by assumption) (by repeat (first | (with_reducible first | exact HB.out | apply below_alloc | apply pw_below_drewN | apply below_drew1) | exact HB.out))) :
    Calls Tryd.prog 8 #[.string a0] w fun e w' => e = .returned (.string r) ∧ Below w.heap.size w w' := by
  unfold impl_Sha256.f at h
  split at h
  · rename_i hs
    obtain rfl := Option.some.inj h
    have HT := Lib.hid hTab; clear hTab
    go_enter Tryd.func8, Tryd.ntmps8
    go_wp2_with (go_at_call 20; refine (hashOne_any a0 _ w rfl HT.out hs).mono ?_; rintro e w1 ⟨rfl, hb1⟩)
    refine (text_h _ (shaL_length _) 32 _ (by omega) (by omega)).mono ?_
    rintro e w2 ⟨rfl, hb2⟩
    go_wp2
    go_ret
    refine ⟨?_, hb1.trans (hb2.mono hb1.size)⟩
    refine congrArg (fun z => Ending.returned (.string z)) ?_
    exact extract_all (shaV a0) 32 (Nat.le_of_eq (shaV_size a0))
  · cases h
def digV (s : ByteArray) (n : Int) : ByteArray := if widB n then (shaV s).extract 0 n.toNat else ⟨#[]⟩
theorem digV_yes {s : ByteArray} {n : Int} (h : widB n = true) : digV s n = (shaV s).extract 0 n.toNat := by unfold digV; rw [h]; rfl
theorem digV_no {s : ByteArray} {n : Int} (h : widB n = false) : digV s n = ⟨#[]⟩ := by unfold digV; rw [h]; rfl
def impl_Digest.f (a0 : ByteArray) (a1 : Int) : Option ByteArray := if a0.size ≤ 4294967296 then some (digV a0 a1) else none
theorem impl_Digest.calls (a0 : ByteArray) (a1 : Int) (r : ByteArray) (w : World) (h : impl_Digest.f a0 a1 = some r) (hTab : Tab w := by exact Tab.below (by assumption) (by repeat (first | (with_reducible first | exact HB.out | apply below_alloc | apply pw_below_drewN | apply below_drew1) | exact HB.out))) :
    Calls Tryd.prog 10 #[.string a0, .int .i64 a1] w fun e w' => e = .returned (.string r) ∧ Below w.heap.size w w' := by
  unfold impl_Digest.f at h
  split at h
  · rename_i hs
    obtain rfl := Option.some.inj h
    have HT := Lib.hid hTab; clear hTab
    by_cases hw : widB a1 = true
    · have HD := Lib.hid (digV_yes (s := a0) hw)
      have hr : 1 ≤ a1 ∧ a1 ≤ 32 := by unfold widB at hw; exact of_decide_eq_true hw
      go_enter Tryd.func10, Tryd.ntmps10
      go_wp2_with (first | (go_at_call 23; refine (isWidth_any _ _).mono ?_; rintro e w' ⟨rfl, rfl⟩) | (go_at_call 20; refine (hashOne_any a0 _ w rfl HT.out hs).mono ?_; rintro e w1 ⟨rfl, hb1⟩) | (go_at_call 21; refine (text_h _ (shaL_length _) a1 _ hr.1 hr.2).mono ?_; rintro e w2 ⟨rfl, hb2⟩))
      go_ret
      exact ⟨by rw [HD.out]; rfl, hb1.trans (hb2.mono hb1.size)⟩
    · have hw := Bool.eq_false_iff.2 hw
      have HD := Lib.hid (digV_no (s := a0) hw)
      go_enter Tryd.func10, Tryd.ntmps10
      go_wp2_with (go_at_call 23; refine (isWidth_any _ _).mono ?_; rintro e w' ⟨rfl, rfl⟩)
      go_ret
      exact ⟨by rw [HD.out]; rfl, by (repeat' (first | exact Below.refl _ _ | (with_reducible assumption) | (with_reducible refine Below.setCell ?_ (by first | (simp; done) | (simp; omega)) _) | refine below_then ?_ (by assumption) | (with_reducible refine below_new2 ?_ _) | (with_reducible refine Below.drew ?_) | (with_reducible refine bdrewN ?_ _)))⟩
  · cases h
def highB (a b : ByteArray) : Bool := aboveB (shaL a.data.toList) (shaL b.data.toList) a b
def impl_Higher.f (a0 a1 : ByteArray) : Option Bool := if a0.size ≤ 4294967296 ∧ a1.size ≤ 4294967296 then some (highB a0 a1) else none
theorem impl_Higher.calls (a0 a1 : ByteArray) (r : Bool) (w : World) (h : impl_Higher.f a0 a1 = some r) (hTab : Tab w := by exact Tab.below (by assumption) (by repeat (first | (with_reducible first | exact HB.out | apply below_alloc | apply pw_below_drewN | apply below_drew1) | exact HB.out))) :
    Calls Tryd.prog 12 #[.string a0, .string a1] w fun e w' => e = .returned (.bool r) ∧ Below w.heap.size w w' := by
  unfold impl_Higher.f at h
  split at h
  · rename_i hs
    obtain rfl := Option.some.inj h
    have HT := Lib.hid hTab; clear hTab
    go_enter Tryd.func12, Tryd.ntmps12
    go_wp2_with fail
    refine (hashOne_any a0 _ w rfl HT.out hs.1).mono ?_
    rintro e w1 ⟨rfl, hb1⟩
    go_wp2_with fail
    refine (hashOne_any a1 _ w1 rfl (HT.out.below hb1) hs.2).mono ?_
    rintro e w2 ⟨rfl, hb2⟩
    go_wp2_with fail
    refine (above_any _ _ (shaL_length _) (shaL_length _) a0 a1 _).mono ?_
    rintro e w3 ⟨rfl, hb3⟩
    go_wp2
    go_ret
    exact ⟨rfl, (hb1.trans (hb2.mono hb1.size)).trans (hb3.mono (Nat.le_trans hb1.size hb2.size))⟩
  · cases h
end Go.Proofs.YtmfejehhfmaodaaDoor.Z

end

/- What impl.NodeHash gives. -/
section
namespace Go.Proofs.YtmfejehhfmaodaaDoor.Z
open Go.RowKit Go.Proofs.YtmfejehhfmaodaaDoor Go.Proofs.YtmfejehhfmaodaaDoorW.PrintWords Go.Proofs.YtmfejehhfmaodaaDoorW.PrintLast
set_option linter.unusedVariables false
set_option linter.unusedSimpArgs false
/-- 'N' ahead. -/
def nText (s : ByteArray) : ByteArray := (⟨#[78]⟩ : ByteArray) ++ s
theorem catL_n (s : ByteArray) : catL [⟨#[78]⟩, s] = (nText s).data.toList := by simp [catL, nText, ByteArray.data_append]
/-- hashOf of 'N' and a string, in a slice that the call has just laid. -/
theorem hashN_any (s : ByteArray) (W w : World) (hW : W = w.alloc (.cells #[.string ⟨#[78]⟩, .string s] 9)) (ht : Tab w) (hs : s.size ≤ 4294967200) :
    Calls Tryd.prog 20 #[.slice (some ⟨w.heap.size, 0, none⟩) 2 2] W fun e w' => e = .returned (hashV (shaL (nText s).data.toList)) ∧ Below w.heap.size w w' := by
  subst hW
  have h := hashOf_any w.heap.size [⟨#[78]⟩, s] (w.alloc (.cells #[.string ⟨#[78]⟩, .string s] 9)) (fun j p hj => by
    rw [cell_of_row _ _ _ _ _ _ (heap_alloc_new _ _)]
    match j, hj with
    | 0, hj => simp only [List.getElem?_cons_zero, Option.some.injEq] at hj; subst hj; rfl
    | 1, hj => simp only [List.getElem?_cons_succ, List.getElem?_cons_zero, Option.some.injEq] at hj; subst hj; rfl) (ht.below (by (repeat' (first | exact Below.refl _ _ | (with_reducible assumption) | (with_reducible refine Below.setCell ?_ (by first | (simp; done) | (simp; omega)) _) | refine below_then ?_ (by assumption) | (with_reducible refine below_new2 ?_ _) | (with_reducible refine Below.drew ?_) | (with_reducible refine bdrewN ?_ _))))) (by rw [catL_n, nText, ByteArray.data_append]; simp only [Array.toList_append, List.length_append]; show 1 + s.size ≤ _; omega) (by simp) (by simp)
  rw [catL_n] at h
  refine h.mono ?_
  rintro e w' ⟨h1, hb⟩
  exact ⟨h1, ((Below.refl _ _).alloc (Nat.le_refl _) _).trans (hb.mono (by simp))⟩
def nodeHashV (a b c d : ByteArray) (x : Int) : ByteArray := if (encNode a b c d x).size = 0 then ⟨#[]⟩ else digV (nText (encNode a b c d x)) x
def impl_NodeHash.f (a0_0 a0_1 a0_2 a0_3 : ByteArray) (a1 : Int) : Option ByteArray := some (nodeHashV a0_0 a0_1 a0_2 a0_3 a1)
theorem encNode_size_le (a b c d : ByteArray) (x : Int) : (encNode a b c d x).size ≤ 4000 := by
  unfold encNode
  split
  · rename_i h
    have hs : ∀ s : ByteArray, (sizedS s).size = 2 + s.size := by intro s; unfold sizedS; rw [ByteArray.size_append, ByteArray.size_append]; rfl
    have hb : ∀ y : Int, (byteS y).size = 1 := fun _ => rfl
    rw [ByteArray.size_append, ByteArray.size_append, ByteArray.size_append, ByteArray.size_append, hs, hs, hb]
    unfold nodeOk isW hOk at h
    simp only [Bool.and_eq_true, Bool.or_eq_true, decide_eq_true_eq] at h
    omega
  · decide
theorem encNode_wid (a b c d : ByteArray) (x : Int) (h : (encNode a b c d x).size ≠ 0) : widB x = true := by
  unfold encNode at h
  split at h
  · rename_i hk
    unfold nodeOk isW at hk
    simp only [Bool.and_eq_true, decide_eq_true_eq] at hk
    unfold widB; rw [decide_eq_true_eq]; omega
  · exact absurd rfl h
theorem impl_NodeHash.calls (a0_0 a0_1 a0_2 a0_3 : ByteArray) (a1 : Int) (r : ByteArray) (w : World) (h : impl_NodeHash.f a0_0 a0_1 a0_2 a0_3 a1 = some r) (hTab : Tab w := by exact Tab.below (by assumption) (by repeat (first | (with_reducible first | exact HB.out | apply below_alloc | apply pw_below_drewN | apply below_drew1) | exact HB.out))) :
    Calls Tryd.prog 16 #[.agg #[.string a0_0, .string a0_1, .string a0_2, .string a0_3], .int .i64 a1] w fun e w' => e = .returned (.string r) ∧ Below w.heap.size w w' := by
  obtain rfl := Option.some.inj h
  clear h
  have HT := Lib.hid hTab; clear hTab
  have hle := encNode_size_le a0_0 a0_1 a0_2 a0_3 a1
  by_cases h0 : (encNode a0_0 a0_1 a0_2 a0_3 a1).size = 0
  · have hE : (encNode a0_0 a0_1 a0_2 a0_3 a1).toList.isEmpty = true := by rw [isEmpty_size, decide_eq_true_eq]; exact h0
    have HD : Hid (nodeHashV a0_0 a0_1 a0_2 a0_3 a1 = ⟨#[]⟩) := Lib.hid (by unfold nodeHashV; rw [if_pos h0])
    clear h0
    go_enter Tryd.func16, Tryd.ntmps16
    go_wp2_with (go_at_call 28; refine (encodeNode_any _ _ _ _ _ _).mono ?_; rintro e w1 ⟨rfl, hb1'⟩)
    have hb1 : Below w.heap.size w w1 := ((Below.refl _ _).alloc (Nat.le_refl _) _).trans (hb1'.mono (by simp))
    clear hb1'
    go_ret
    exact ⟨by rw [HD.out]; rfl, hb1⟩
  · have hE : (encNode a0_0 a0_1 a0_2 a0_3 a1).toList.isEmpty = false := by rw [isEmpty_size, decide_eq_false_iff_not]; exact h0
    have hw := encNode_wid _ _ _ _ _ h0
    have hr : 1 ≤ a1 ∧ a1 ≤ 32 := by unfold widB at hw; exact of_decide_eq_true hw
    have HD : Hid (nodeHashV a0_0 a0_1 a0_2 a0_3 a1 = (shaV (nText (encNode a0_0 a0_1 a0_2 a0_3 a1))).extract 0 a1.toNat) := Lib.hid (by unfold nodeHashV; rw [if_neg h0, digV_yes hw])
    clear h0 hw
    go_enter Tryd.func16, Tryd.ntmps16
    go_wp2_with (go_at_call 28; refine (encodeNode_any _ _ _ _ _ _).mono ?_; rintro e w1 ⟨rfl, hb1'⟩)
    have hb1 : Below w.heap.size w w1 := ((Below.refl _ _).alloc (Nat.le_refl _) _).trans (hb1'.mono (by simp))
    clear hb1'
    refine (hashN_any _ _ w1 rfl (HT.out.below hb1) (by omega)).mono ?_
    rintro e w2 ⟨rfl, hb2⟩
    go_wp2_with fail
    refine (text_h _ (shaL_length _) a1 _ hr.1 hr.2).mono ?_
    rintro e w3 ⟨rfl, hb3⟩
    go_wp2
    go_ret
    exact ⟨by rw [HD.out]; rfl, (hb1.trans (hb2.mono hb1.size)).trans (hb3.mono (Nat.le_trans hb1.size hb2.size))⟩
end Go.Proofs.YtmfejehhfmaodaaDoor.Z

end

/- Contracts of functions of the program, written by a program of this session over the translation's print. -/
section
namespace Go.Proofs.YtmfejehhfmaodaaDoor.Z
open Go.RowKit Go.Proofs.YtmfejehhfmaodaaDoorW.PrintWords Go.Proofs.YtmfejehhfmaodaaDoorW.PrintLast Go.Proofs.YtmfejehhfmaodaaDoorW.PrintMore
attribute [local go_sem] max2_int min2_int max_two min_two max_three min_three max_four min_four   -- for this text's walks alone
set_option linter.unusedVariables false
set_option linter.unusedSimpArgs false

/-! ### laws_FnExactNodeHash: function 6 -/
def laws_FnExactNodeHash.f (k : Nat) (a0_0 : ByteArray) (a0_1 : ByteArray) (a0_2 : ByteArray) (a0_3 : ByteArray) (a1 : Int) : Option (Bool) := (laws_szNode.f a0_0 a0_1 a0_2 a0_3 1048576).bind fun t201 => (if t201 < 0 then (some true) else ((laws_toNode.f a0_0 a0_1 a0_2 a0_3).bind fun bt202 => ((spec_NodeHash.f k bt202.1 bt202.2.1 bt202.2.2.1 bt202.2.2.2 a1).bind fun t206 => ((laws_toNode.f a0_0 a0_1 a0_2 a0_3).bind fun bt207 => ((impl_NodeHash.f bt207.1 bt207.2.1 bt207.2.2.1 bt207.2.2.2 a1).bind fun t211 => (if t211.toList = t206.toList then (some true) else (some false)))))))
theorem laws_FnExactNodeHash.mono : ∀ a0 a1 a2 a3 a4 k, LeO (laws_FnExactNodeHash.f k a0 a1 a2 a3 a4) (laws_FnExactNodeHash.f (k + 1) a0 a1 a2 a3 a4) := by
  intro a0 a1 a2 a3 a4 k
  unfold laws_FnExactNodeHash.f
  repeat' first
      | (with_reducible exact spec_NodeHash.mono _ _ _ _ _ _)
      | (with_reducible exact LeO.refl _)
      | (with_reducible exact LeO.none _)
      | (with_reducible refine LeO.ite ?_ ?_)
      | (with_reducible refine LeO.bind ?_ (fun _ => ?_))
      | exact spec_NodeHash.mono _ _ _ _ _ _
      | exact LeO.none _
      | refine LeO.ite ?_ ?_
      | refine LeO.bind ?_ (fun _ => ?_)
set_option maxHeartbeats 8000000 in
set_option maxRecDepth 100000 in
theorem laws_FnExactNodeHash.calls (k : Nat) (a0_0 : ByteArray) (a0_1 : ByteArray) (a0_2 : ByteArray) (a0_3 : ByteArray) (a1 : Int) (r : Bool) (w : World) (hTab : Tab w) (h : laws_FnExactNodeHash.f k a0_0 a0_1 a0_2 a0_3 a1 = some r) :
    Calls Tryd.prog 6 #[.agg #[.string a0_0, .string a0_1, .string a0_2, .string a0_3], .int .i64 a1] w fun e w' => e = .returned (.bool r) ∧ Below w.heap.size w w' := by
  have hu28 := Tryd.underlying28
  have HB := Aside0.mk (Below.refl w.heap.size w)
  have H : ((laws_szNode.f a0_0 a0_1 a0_2 a0_3 1048576).bind fun t201 => (if t201 < 0 then (some true) else ((laws_toNode.f a0_0 a0_1 a0_2 a0_3).bind fun bt202 => ((spec_NodeHash.f k bt202.1 bt202.2.1 bt202.2.2.1 bt202.2.2.2 a1).bind fun t206 => ((laws_toNode.f a0_0 a0_1 a0_2 a0_3).bind fun bt207 => ((impl_NodeHash.f bt207.1 bt207.2.1 bt207.2.2.1 bt207.2.2.2 a1).bind fun t211 => (if t211.toList = t206.toList then (some true) else (some false)))))))) = some r := h
  clear h
  replace H := Option.bind_eq_some_iff.mp H
  obtain ⟨t201, A30, H⟩ := H
  replace H : (if t201 < 0 then (some true) else ((laws_toNode.f a0_0 a0_1 a0_2 a0_3).bind fun bt202 => ((spec_NodeHash.f k bt202.1 bt202.2.1 bt202.2.2.1 bt202.2.2.2 a1).bind fun t206 => ((laws_toNode.f a0_0 a0_1 a0_2 a0_3).bind fun bt207 => ((impl_NodeHash.f bt207.1 bt207.2.1 bt207.2.2.1 bt207.2.2.2 a1).bind fun t211 => (if t211.toList = t206.toList then (some true) else (some false))))))) = some r := H
  have A3 := Aside0.mk A30
  clear A30
  by_cases c4 : t201 < 0
  · rw [if_pos c4] at H
    have c4b0 : decide (t201 < 0) = true := decide_eq_true c4
    clear c4
    obtain rfl := Option.some.inj H
    go_enter Tryd.func6, Tryd.ntmps6
    go_wp2_with (first | ((with_reducible refine gate_dst (N := 2) rfl ?_); refine box_event ?hg (N := 2) ?hd (cs := #[.string a0_0, .string a0_1, .string a0_2, .string a0_3]) (t := 28) ?hr ?_; (case hd => rfl); (case hg => rfl); (case hr => first | (go_simp; done) | (go_simp; rfl)); intro gb200 hg w5 hbox hb; have n0_ := Aside0.mk (below_step (by repeat (first | (with_reducible first | exact HB.out | apply below_alloc | apply pw_below_drewN | apply below_drew1) | exact HB.out)) hb); have n1_ := Aside0.mk (hbox); have n2_ := Aside0.mk ((by rw [hg]; exact (below_size (by repeat (first | (with_reducible first | exact HB.out | apply below_alloc | apply pw_below_drewN | apply below_drew1) | exact HB.out))) : w.heap.size ≤ gb200)); have n3_ := Aside0.mk ((by rw [hg]; exact (below_size (by repeat (first | (with_reducible first | exact HB.out | apply below_alloc | apply pw_below_drewN | apply below_drew1) | exact HB.out))) : w.heap.size ≤ gb200)); clear HB; have HB := n0_; have BK200 := n1_; have GW200 := n2_; have GE200 := n3_; clear n0_ n1_ n2_ n3_; clear hb hbox hg; have hcz6_0 : w5.cell? ⟨gb200, 0, none⟩ = some (.string a0_0) := (blk_cell BK200.out 0).trans rfl; have hcz6_1 : w5.cell? ⟨gb200, 1, none⟩ = some (.string a0_1) := (blk_cell BK200.out 1).trans rfl; have hcz6_2 : w5.cell? ⟨gb200, 2, none⟩ = some (.string a0_2) := (blk_cell BK200.out 2).trans rfl; have hcz6_3 : w5.cell? ⟨gb200, 3, none⟩ = some (.string a0_3) := (blk_cell BK200.out 3).trans rfl; have hfz6_0 := blk_frozen BK200.out 0; have hfz6_1 := blk_frozen BK200.out 1; have hfz6_2 := blk_frozen BK200.out 2; have hfz6_3 := blk_frozen BK200.out 3) | ((with_reducible refine gate_callee (f := 13) rfl ?_); refine goesL_ (some 10) rfl rfl Tryd.func13 (by kernel_rfl) rfl #[.agg #[.string a0_0, .string a0_1, .string a0_2, .string a0_3], .int .i64 1048576] rfl (by (try simp only [List.map_toArray, List.map_cons, List.map_nil]); first | done | rfl | (simp only [List.length_drop, List.length_take]; rfl)) ?_; (with_reducible refine (laws_szNode.calls a0_0 a0_1 a0_2 a0_3 1048576 t201 _ A3.out).mono ?_); rintro e w7 ⟨rfl, hb⟩; refine ⟨_, rfl, ?_⟩; have n0_ := Aside0.mk (blk_below (g := gb200) (o := .cells #[.string a0_0, .string a0_1, .string a0_2, .string a0_3] 28 (0, 0)) (by (with_reducible repeat (first | refine blk_drewN ?_ _ | refine blk_drew ?_ | refine blk_alloc ?_ _)); exact BK200.out) hb); have n1_ := Aside0.mk (below_step (by repeat (first | (with_reducible first | exact HB.out | apply below_alloc | apply pw_below_drewN | apply below_drew1 | refine below_set ?_ GE200.out) | exact HB.out)) hb); clear BK200; clear HB; have BK200 := n0_; have HB := n1_; clear n0_ n1_; (try clear hb); (try clear hb2); (try clear hk); (try clear hi)))
    go_ret
    exact ⟨by first | rfl | (simp [errW_none, errW_some] <;> rfl) | (simp [*, errW_none, errW_some] <;> rfl), by repeat (first | (with_reducible first | exact HB.out | apply below_alloc | apply pw_below_drewN | apply below_drew1 | refine below_set ?_ GE200.out) | exact HB.out)⟩
  · rw [if_neg c4] at H
    have c4b0 : decide (t201 < 0) = false := decide_eq_false c4
    clear c4
    replace H := Option.bind_eq_some_iff.mp H
    obtain ⟨⟨t202, t203, t204, t205⟩, A80, H⟩ := H
    replace H : ((spec_NodeHash.f k t202 t203 t204 t205 a1).bind fun t206 => ((laws_toNode.f a0_0 a0_1 a0_2 a0_3).bind fun bt207 => ((impl_NodeHash.f bt207.1 bt207.2.1 bt207.2.2.1 bt207.2.2.2 a1).bind fun t211 => (if t211.toList = t206.toList then (some true) else (some false))))) = some r := H
    have A8 := Aside0.mk A80
    clear A80
    replace H := Option.bind_eq_some_iff.mp H
    obtain ⟨t206, A90, H⟩ := H
    replace H : ((laws_toNode.f a0_0 a0_1 a0_2 a0_3).bind fun bt207 => ((impl_NodeHash.f bt207.1 bt207.2.1 bt207.2.2.1 bt207.2.2.2 a1).bind fun t211 => (if t211.toList = t206.toList then (some true) else (some false)))) = some r := H
    have A9 := Aside0.mk A90
    clear A90
    replace H := Option.bind_eq_some_iff.mp H
    obtain ⟨⟨t207, t208, t209, t210⟩, A100, H⟩ := H
    replace H : ((impl_NodeHash.f t207 t208 t209 t210 a1).bind fun t211 => (if t211.toList = t206.toList then (some true) else (some false))) = some r := H
    have A10 := Aside0.mk A100
    clear A100
    replace H := Option.bind_eq_some_iff.mp H
    obtain ⟨t211, A110, H⟩ := H
    replace H : (if t211.toList = t206.toList then (some true) else (some false)) = some r := H
    have A11 := Aside0.mk A110
    clear A110
    by_cases c12 : t211.toList = t206.toList
    · rw [if_pos c12] at H
      have c12b0 : (t211.toList == t206.toList) = true := beq_iff_eq.mpr c12
      have c12b1 : (t211.toList != t206.toList) = false := bne_eq_false_iff_eq.mpr c12
      clear c12
      obtain rfl := Option.some.inj H
      go_enter Tryd.func6, Tryd.ntmps6
      go_wp2_with (first | ((with_reducible refine gate_dst (N := 2) rfl ?_); refine box_event ?hg (N := 2) ?hd (cs := #[.string a0_0, .string a0_1, .string a0_2, .string a0_3]) (t := 28) ?hr ?_; (case hd => rfl); (case hg => rfl); (case hr => first | (go_simp; done) | (go_simp; rfl)); intro gb200 hg w13 hbox hb; have n0_ := Aside0.mk (below_step (by repeat (first | (with_reducible first | exact HB.out | apply below_alloc | apply pw_below_drewN | apply below_drew1) | exact HB.out)) hb); have n1_ := Aside0.mk (hbox); have n2_ := Aside0.mk ((by rw [hg]; exact (below_size (by repeat (first | (with_reducible first | exact HB.out | apply below_alloc | apply pw_below_drewN | apply below_drew1) | exact HB.out))) : w.heap.size ≤ gb200)); have n3_ := Aside0.mk ((by rw [hg]; exact (below_size (by repeat (first | (with_reducible first | exact HB.out | apply below_alloc | apply pw_below_drewN | apply below_drew1) | exact HB.out))) : w.heap.size ≤ gb200)); clear HB; have HB := n0_; have BK200 := n1_; have GW200 := n2_; have GE200 := n3_; clear n0_ n1_ n2_ n3_; clear hb hbox hg; have hcz14_0 : w13.cell? ⟨gb200, 0, none⟩ = some (.string a0_0) := (blk_cell BK200.out 0).trans rfl; have hcz14_1 : w13.cell? ⟨gb200, 1, none⟩ = some (.string a0_1) := (blk_cell BK200.out 1).trans rfl; have hcz14_2 : w13.cell? ⟨gb200, 2, none⟩ = some (.string a0_2) := (blk_cell BK200.out 2).trans rfl; have hcz14_3 : w13.cell? ⟨gb200, 3, none⟩ = some (.string a0_3) := (blk_cell BK200.out 3).trans rfl; have hfz14_0 := blk_frozen BK200.out 0; have hfz14_1 := blk_frozen BK200.out 1; have hfz14_2 := blk_frozen BK200.out 2; have hfz14_3 := blk_frozen BK200.out 3) | ((with_reducible refine gate_callee (f := 13) rfl ?_); refine goesL_ (some 10) rfl rfl Tryd.func13 (by kernel_rfl) rfl #[.agg #[.string a0_0, .string a0_1, .string a0_2, .string a0_3], .int .i64 1048576] rfl (by (try simp only [List.map_toArray, List.map_cons, List.map_nil]); first | done | rfl | (simp only [List.length_drop, List.length_take]; rfl)) ?_; (with_reducible refine (laws_szNode.calls a0_0 a0_1 a0_2 a0_3 1048576 t201 _ A3.out).mono ?_); rintro e w15 ⟨rfl, hb⟩; refine ⟨_, rfl, ?_⟩; have n0_ := Aside0.mk (blk_below (g := gb200) (o := .cells #[.string a0_0, .string a0_1, .string a0_2, .string a0_3] 28 (0, 0)) (by (with_reducible repeat (first | refine blk_drewN ?_ _ | refine blk_drew ?_ | refine blk_alloc ?_ _)); exact BK200.out) hb); have n1_ := Aside0.mk (below_step (by repeat (first | (with_reducible first | exact HB.out | apply below_alloc | apply pw_below_drewN | apply below_drew1 | refine below_set ?_ GE200.out) | exact HB.out)) hb); clear BK200; clear HB; have BK200 := n0_; have HB := n1_; clear n0_ n1_; (try clear hb); (try clear hb2); (try clear hk); (try clear hi); have hcz16_0 : w15.cell? ⟨gb200, 0, none⟩ = some (.string a0_0) := (blk_cell BK200.out 0).trans rfl; have hcz16_1 : w15.cell? ⟨gb200, 1, none⟩ = some (.string a0_1) := (blk_cell BK200.out 1).trans rfl; have hcz16_2 : w15.cell? ⟨gb200, 2, none⟩ = some (.string a0_2) := (blk_cell BK200.out 2).trans rfl; have hcz16_3 : w15.cell? ⟨gb200, 3, none⟩ = some (.string a0_3) := (blk_cell BK200.out 3).trans rfl; have hfz16_0 := blk_frozen BK200.out 0; have hfz16_1 := blk_frozen BK200.out 1; have hfz16_2 := blk_frozen BK200.out 2; have hfz16_3 := blk_frozen BK200.out 3) | ((with_reducible refine gate_callee (f := 15) rfl ?_); refine goesL_ (some 14) rfl rfl Tryd.func15 (by kernel_rfl) rfl #[.agg #[.string a0_0, .string a0_1, .string a0_2, .string a0_3]] rfl (by (try simp only [List.map_toArray, List.map_cons, List.map_nil]); first | done | rfl | (simp only [List.length_drop, List.length_take]; rfl)) ?_; (with_reducible refine (laws_toNode.calls a0_0 a0_1 a0_2 a0_3 t202 t203 t204 t205 _ A8.out).mono ?_); rintro e w17 ⟨rfl, hb⟩; refine ⟨_, rfl, ?_⟩; have n0_ := Aside0.mk (blk_below (g := gb200) (o := .cells #[.string a0_0, .string a0_1, .string a0_2, .string a0_3] 28 (0, 0)) (by (with_reducible repeat (first | refine blk_drewN ?_ _ | refine blk_drew ?_ | refine blk_alloc ?_ _)); exact BK200.out) hb); have n1_ := Aside0.mk (below_step (by repeat (first | (with_reducible first | exact HB.out | apply below_alloc | apply pw_below_drewN | apply below_drew1 | refine below_set ?_ GE200.out) | exact HB.out)) hb); clear BK200; clear HB; have BK200 := n0_; have HB := n1_; clear n0_ n1_; (try clear hb); (try clear hb2); (try clear hk); (try clear hi)) | ((with_reducible refine gate_callee (f := 14) rfl ?_); refine goesL_ (some 16) rfl rfl Tryd.func14 (by kernel_rfl) rfl #[.agg #[.string t202, .string t203, .string t204, .string t205], .int .i64 a1] rfl (by (try simp only [List.map_toArray, List.map_cons, List.map_nil]); first | done | rfl | (simp only [List.length_drop, List.length_take]; rfl)) ?_; (with_reducible refine (spec_NodeHash.calls k t202 t203 t204 t205 a1 t206 _ A9.out).mono ?_); rintro e w18 ⟨rfl, hb⟩; refine ⟨_, rfl, ?_⟩; have n0_ := Aside0.mk (blk_below (g := gb200) (o := .cells #[.string a0_0, .string a0_1, .string a0_2, .string a0_3] 28 (0, 0)) (by (with_reducible repeat (first | refine blk_drewN ?_ _ | refine blk_drew ?_ | refine blk_alloc ?_ _)); exact BK200.out) hb); have n1_ := Aside0.mk (below_step (by repeat (first | (with_reducible first | exact HB.out | apply below_alloc | apply pw_below_drewN | apply below_drew1 | refine below_set ?_ GE200.out) | exact HB.out)) hb); clear BK200; clear HB; have BK200 := n0_; have HB := n1_; clear n0_ n1_; (try clear hb); (try clear hb2); (try clear hk); (try clear hi); have hcz19_0 : w18.cell? ⟨gb200, 0, none⟩ = some (.string a0_0) := (blk_cell BK200.out 0).trans rfl; have hcz19_1 : w18.cell? ⟨gb200, 1, none⟩ = some (.string a0_1) := (blk_cell BK200.out 1).trans rfl; have hcz19_2 : w18.cell? ⟨gb200, 2, none⟩ = some (.string a0_2) := (blk_cell BK200.out 2).trans rfl; have hcz19_3 : w18.cell? ⟨gb200, 3, none⟩ = some (.string a0_3) := (blk_cell BK200.out 3).trans rfl; have hfz19_0 := blk_frozen BK200.out 0; have hfz19_1 := blk_frozen BK200.out 1; have hfz19_2 := blk_frozen BK200.out 2; have hfz19_3 := blk_frozen BK200.out 3) | ((with_reducible refine gate_callee (f := 15) rfl ?_); refine goesL_ (some 18) rfl rfl Tryd.func15 (by kernel_rfl) rfl #[.agg #[.string a0_0, .string a0_1, .string a0_2, .string a0_3]] rfl (by (try simp only [List.map_toArray, List.map_cons, List.map_nil]); first | done | rfl | (simp only [List.length_drop, List.length_take]; rfl)) ?_; (with_reducible refine (laws_toNode.calls a0_0 a0_1 a0_2 a0_3 t207 t208 t209 t210 _ A10.out).mono ?_); rintro e w20 ⟨rfl, hb⟩; refine ⟨_, rfl, ?_⟩; have n0_ := Aside0.mk (blk_below (g := gb200) (o := .cells #[.string a0_0, .string a0_1, .string a0_2, .string a0_3] 28 (0, 0)) (by (with_reducible repeat (first | refine blk_drewN ?_ _ | refine blk_drew ?_ | refine blk_alloc ?_ _)); exact BK200.out) hb); have n1_ := Aside0.mk (below_step (by repeat (first | (with_reducible first | exact HB.out | apply below_alloc | apply pw_below_drewN | apply below_drew1 | refine below_set ?_ GE200.out) | exact HB.out)) hb); clear BK200; clear HB; have BK200 := n0_; have HB := n1_; clear n0_ n1_; (try clear hb); (try clear hb2); (try clear hk); (try clear hi)) | ((with_reducible refine gate_callee (f := 16) rfl ?_); refine goesL_ (some 20) rfl rfl Tryd.func16 (by kernel_rfl) rfl #[.agg #[.string t207, .string t208, .string t209, .string t210], .int .i64 a1] rfl (by (try simp only [List.map_toArray, List.map_cons, List.map_nil]); first | done | rfl | (simp only [List.length_drop, List.length_take]; rfl)) ?_; (with_reducible refine (impl_NodeHash.calls t207 t208 t209 t210 a1 t211 _ A11.out).mono ?_); rintro e w21 ⟨rfl, hb⟩; refine ⟨_, rfl, ?_⟩; have n0_ := Aside0.mk (blk_below (g := gb200) (o := .cells #[.string a0_0, .string a0_1, .string a0_2, .string a0_3] 28 (0, 0)) (by (with_reducible repeat (first | refine blk_drewN ?_ _ | refine blk_drew ?_ | refine blk_alloc ?_ _)); exact BK200.out) hb); have n1_ := Aside0.mk (below_step (by repeat (first | (with_reducible first | exact HB.out | apply below_alloc | apply pw_below_drewN | apply below_drew1 | refine below_set ?_ GE200.out) | exact HB.out)) hb); clear BK200; clear HB; have BK200 := n0_; have HB := n1_; clear n0_ n1_; (try clear hb); (try clear hb2); (try clear hk); (try clear hi)))
      go_ret
      exact ⟨by first | rfl | (simp [errW_none, errW_some] <;> rfl) | (simp [*, errW_none, errW_some] <;> rfl), by repeat (first | (with_reducible first | exact HB.out | apply below_alloc | apply pw_below_drewN | apply below_drew1 | refine below_set ?_ GE200.out) | exact HB.out)⟩
    · rw [if_neg c12] at H
      have c12b0 : (t211.toList == t206.toList) = false := beq_eq_false_iff_ne.mpr c12
      have c12b1 : (t211.toList != t206.toList) = true := bne_iff_ne.mpr c12
      obtain rfl := Option.some.inj H
      go_enter Tryd.func6, Tryd.ntmps6
      go_wp2_with (first | ((with_reducible refine gate_dst (N := 2) rfl ?_); refine box_event ?hg (N := 2) ?hd (cs := #[.string a0_0, .string a0_1, .string a0_2, .string a0_3]) (t := 28) ?hr ?_; (case hd => rfl); (case hg => rfl); (case hr => first | (go_simp; done) | (go_simp; rfl)); intro gb200 hg w22 hbox hb; have n0_ := Aside0.mk (below_step (by repeat (first | (with_reducible first | exact HB.out | apply below_alloc | apply pw_below_drewN | apply below_drew1) | exact HB.out)) hb); have n1_ := Aside0.mk (hbox); have n2_ := Aside0.mk ((by rw [hg]; exact (below_size (by repeat (first | (with_reducible first | exact HB.out | apply below_alloc | apply pw_below_drewN | apply below_drew1) | exact HB.out))) : w.heap.size ≤ gb200)); have n3_ := Aside0.mk ((by rw [hg]; exact (below_size (by repeat (first | (with_reducible first | exact HB.out | apply below_alloc | apply pw_below_drewN | apply below_drew1) | exact HB.out))) : w.heap.size ≤ gb200)); clear HB; have HB := n0_; have BK200 := n1_; have GW200 := n2_; have GE200 := n3_; clear n0_ n1_ n2_ n3_; clear hb hbox hg; have hcz23_0 : w22.cell? ⟨gb200, 0, none⟩ = some (.string a0_0) := (blk_cell BK200.out 0).trans rfl; have hcz23_1 : w22.cell? ⟨gb200, 1, none⟩ = some (.string a0_1) := (blk_cell BK200.out 1).trans rfl; have hcz23_2 : w22.cell? ⟨gb200, 2, none⟩ = some (.string a0_2) := (blk_cell BK200.out 2).trans rfl; have hcz23_3 : w22.cell? ⟨gb200, 3, none⟩ = some (.string a0_3) := (blk_cell BK200.out 3).trans rfl; have hfz23_0 := blk_frozen BK200.out 0; have hfz23_1 := blk_frozen BK200.out 1; have hfz23_2 := blk_frozen BK200.out 2; have hfz23_3 := blk_frozen BK200.out 3) | ((with_reducible refine gate_callee (f := 13) rfl ?_); refine goesL_ (some 10) rfl rfl Tryd.func13 (by kernel_rfl) rfl #[.agg #[.string a0_0, .string a0_1, .string a0_2, .string a0_3], .int .i64 1048576] rfl (by (try simp only [List.map_toArray, List.map_cons, List.map_nil]); first | done | rfl | (simp only [List.length_drop, List.length_take]; rfl)) ?_; (with_reducible refine (laws_szNode.calls a0_0 a0_1 a0_2 a0_3 1048576 t201 _ A3.out).mono ?_); rintro e w24 ⟨rfl, hb⟩; refine ⟨_, rfl, ?_⟩; have n0_ := Aside0.mk (blk_below (g := gb200) (o := .cells #[.string a0_0, .string a0_1, .string a0_2, .string a0_3] 28 (0, 0)) (by (with_reducible repeat (first | refine blk_drewN ?_ _ | refine blk_drew ?_ | refine blk_alloc ?_ _)); exact BK200.out) hb); have n1_ := Aside0.mk (below_step (by repeat (first | (with_reducible first | exact HB.out | apply below_alloc | apply pw_below_drewN | apply below_drew1 | refine below_set ?_ GE200.out) | exact HB.out)) hb); clear BK200; clear HB; have BK200 := n0_; have HB := n1_; clear n0_ n1_; (try clear hb); (try clear hb2); (try clear hk); (try clear hi); have hcz25_0 : w24.cell? ⟨gb200, 0, none⟩ = some (.string a0_0) := (blk_cell BK200.out 0).trans rfl; have hcz25_1 : w24.cell? ⟨gb200, 1, none⟩ = some (.string a0_1) := (blk_cell BK200.out 1).trans rfl; have hcz25_2 : w24.cell? ⟨gb200, 2, none⟩ = some (.string a0_2) := (blk_cell BK200.out 2).trans rfl; have hcz25_3 : w24.cell? ⟨gb200, 3, none⟩ = some (.string a0_3) := (blk_cell BK200.out 3).trans rfl; have hfz25_0 := blk_frozen BK200.out 0; have hfz25_1 := blk_frozen BK200.out 1; have hfz25_2 := blk_frozen BK200.out 2; have hfz25_3 := blk_frozen BK200.out 3) | ((with_reducible refine gate_callee (f := 15) rfl ?_); refine goesL_ (some 14) rfl rfl Tryd.func15 (by kernel_rfl) rfl #[.agg #[.string a0_0, .string a0_1, .string a0_2, .string a0_3]] rfl (by (try simp only [List.map_toArray, List.map_cons, List.map_nil]); first | done | rfl | (simp only [List.length_drop, List.length_take]; rfl)) ?_; (with_reducible refine (laws_toNode.calls a0_0 a0_1 a0_2 a0_3 t202 t203 t204 t205 _ A8.out).mono ?_); rintro e w26 ⟨rfl, hb⟩; refine ⟨_, rfl, ?_⟩; have n0_ := Aside0.mk (blk_below (g := gb200) (o := .cells #[.string a0_0, .string a0_1, .string a0_2, .string a0_3] 28 (0, 0)) (by (with_reducible repeat (first | refine blk_drewN ?_ _ | refine blk_drew ?_ | refine blk_alloc ?_ _)); exact BK200.out) hb); have n1_ := Aside0.mk (below_step (by repeat (first | (with_reducible first | exact HB.out | apply below_alloc | apply pw_below_drewN | apply below_drew1 | refine below_set ?_ GE200.out) | exact HB.out)) hb); clear BK200; clear HB; have BK200 := n0_; have HB := n1_; clear n0_ n1_; (try clear hb); (try clear hb2); (try clear hk); (try clear hi)) | ((with_reducible refine gate_callee (f := 14) rfl ?_); refine goesL_ (some 16) rfl rfl Tryd.func14 (by kernel_rfl) rfl #[.agg #[.string t202, .string t203, .string t204, .string t205], .int .i64 a1] rfl (by (try simp only [List.map_toArray, List.map_cons, List.map_nil]); first | done | rfl | (simp only [List.length_drop, List.length_take]; rfl)) ?_; (with_reducible refine (spec_NodeHash.calls k t202 t203 t204 t205 a1 t206 _ A9.out).mono ?_); rintro e w27 ⟨rfl, hb⟩; refine ⟨_, rfl, ?_⟩; have n0_ := Aside0.mk (blk_below (g := gb200) (o := .cells #[.string a0_0, .string a0_1, .string a0_2, .string a0_3] 28 (0, 0)) (by (with_reducible repeat (first | refine blk_drewN ?_ _ | refine blk_drew ?_ | refine blk_alloc ?_ _)); exact BK200.out) hb); have n1_ := Aside0.mk (below_step (by repeat (first | (with_reducible first | exact HB.out | apply below_alloc | apply pw_below_drewN | apply below_drew1 | refine below_set ?_ GE200.out) | exact HB.out)) hb); clear BK200; clear HB; have BK200 := n0_; have HB := n1_; clear n0_ n1_; (try clear hb); (try clear hb2); (try clear hk); (try clear hi); have hcz28_0 : w27.cell? ⟨gb200, 0, none⟩ = some (.string a0_0) := (blk_cell BK200.out 0).trans rfl; have hcz28_1 : w27.cell? ⟨gb200, 1, none⟩ = some (.string a0_1) := (blk_cell BK200.out 1).trans rfl; have hcz28_2 : w27.cell? ⟨gb200, 2, none⟩ = some (.string a0_2) := (blk_cell BK200.out 2).trans rfl; have hcz28_3 : w27.cell? ⟨gb200, 3, none⟩ = some (.string a0_3) := (blk_cell BK200.out 3).trans rfl; have hfz28_0 := blk_frozen BK200.out 0; have hfz28_1 := blk_frozen BK200.out 1; have hfz28_2 := blk_frozen BK200.out 2; have hfz28_3 := blk_frozen BK200.out 3) | ((with_reducible refine gate_callee (f := 15) rfl ?_); refine goesL_ (some 18) rfl rfl Tryd.func15 (by kernel_rfl) rfl #[.agg #[.string a0_0, .string a0_1, .string a0_2, .string a0_3]] rfl (by (try simp only [List.map_toArray, List.map_cons, List.map_nil]); first | done | rfl | (simp only [List.length_drop, List.length_take]; rfl)) ?_; (with_reducible refine (laws_toNode.calls a0_0 a0_1 a0_2 a0_3 t207 t208 t209 t210 _ A10.out).mono ?_); rintro e w29 ⟨rfl, hb⟩; refine ⟨_, rfl, ?_⟩; have n0_ := Aside0.mk (blk_below (g := gb200) (o := .cells #[.string a0_0, .string a0_1, .string a0_2, .string a0_3] 28 (0, 0)) (by (with_reducible repeat (first | refine blk_drewN ?_ _ | refine blk_drew ?_ | refine blk_alloc ?_ _)); exact BK200.out) hb); have n1_ := Aside0.mk (below_step (by repeat (first | (with_reducible first | exact HB.out | apply below_alloc | apply pw_below_drewN | apply below_drew1 | refine below_set ?_ GE200.out) | exact HB.out)) hb); clear BK200; clear HB; have BK200 := n0_; have HB := n1_; clear n0_ n1_; (try clear hb); (try clear hb2); (try clear hk); (try clear hi)) | ((with_reducible refine gate_callee (f := 16) rfl ?_); refine goesL_ (some 20) rfl rfl Tryd.func16 (by kernel_rfl) rfl #[.agg #[.string t207, .string t208, .string t209, .string t210], .int .i64 a1] rfl (by (try simp only [List.map_toArray, List.map_cons, List.map_nil]); first | done | rfl | (simp only [List.length_drop, List.length_take]; rfl)) ?_; (with_reducible refine (impl_NodeHash.calls t207 t208 t209 t210 a1 t211 _ A11.out).mono ?_); rintro e w30 ⟨rfl, hb⟩; refine ⟨_, rfl, ?_⟩; have n0_ := Aside0.mk (blk_below (g := gb200) (o := .cells #[.string a0_0, .string a0_1, .string a0_2, .string a0_3] 28 (0, 0)) (by (with_reducible repeat (first | refine blk_drewN ?_ _ | refine blk_drew ?_ | refine blk_alloc ?_ _)); exact BK200.out) hb); have n1_ := Aside0.mk (below_step (by repeat (first | (with_reducible first | exact HB.out | apply below_alloc | apply pw_below_drewN | apply below_drew1 | refine below_set ?_ GE200.out) | exact HB.out)) hb); clear BK200; clear HB; have BK200 := n0_; have HB := n1_; clear n0_ n1_; (try clear hb); (try clear hb2); (try clear hk); (try clear hi)))
      go_ret
      exact ⟨by first | rfl | (simp [errW_none, errW_some] <;> rfl) | (simp [*, errW_none, errW_some] <;> rfl), by repeat (first | (with_reducible first | exact HB.out | apply below_alloc | apply pw_below_drewN | apply below_drew1 | refine below_set ?_ GE200.out) | exact HB.out)⟩

end Go.Proofs.YtmfejehhfmaodaaDoor.Z

end

/- Contracts of functions of the program, written by a program of this session over the translation's print. -/
section
namespace Go.Proofs.YtmfejehhfmaodaaDoor.Z
open Go.RowKit Go.Proofs.YtmfejehhfmaodaaDoorW.PrintWords Go.Proofs.YtmfejehhfmaodaaDoorW.PrintLast Go.Proofs.YtmfejehhfmaodaaDoorW.PrintMore
attribute [local go_sem] max2_int min2_int max_two min_two max_three min_three max_four min_four   -- for this text's walks alone
set_option linter.unusedVariables false
set_option linter.unusedSimpArgs false

/-! ### spec_l1Less: function 24 -/
mutual
def spec_l1Less.l0 : Nat → ByteArray → ByteArray → Int → Option (Bool)
  | 0, _, _, _ => none
  | k + 1, x0, x1, x5 => if x5 < (x0.size : Int) then (spec_l1Less.j1 k x0 x1 x5 (decide (x5 < (x1.size : Int)))) else (spec_l1Less.j1 k x0 x1 x5 false)
def spec_l1Less.j1 : Nat → ByteArray → ByteArray → Int → Bool → Option (Bool)
  | 0, _, _, _, _ => none
  | k + 1, x0, x1, x5, x15 => if x15 = true then (if 0 ≤ x5 then (if x5 < (x0.size : Int) then (if x5 < (x1.size : Int) then (if (bt x0 x5) = (bt x1 x5) then (spec_l1Less.l0 k x0 x1 (wrap64 (x5 + 1))) else (some (decide ((bt x0 x5) < (bt x1 x5))))) else (none)) else (none)) else (none)) else (some (decide ((x0.size : Int) < (x1.size : Int))))
end
def spec_l1Less.f (k : Nat) (a0 : ByteArray) (a1 : ByteArray) : Option (Bool) := spec_l1Less.l0 k a0 a1 0
theorem spec_l1Less.mono_l : ∀ k, (∀ y0 y1 y2, LeO (spec_l1Less.l0 k y0 y1 y2) (spec_l1Less.l0 (k + 1) y0 y1 y2)) ∧ (∀ y0 y1 y2 y3, LeO (spec_l1Less.j1 k y0 y1 y2 y3) (spec_l1Less.j1 (k + 1) y0 y1 y2 y3))
  | 0 => ⟨fun _ _ _ r h => by simp [spec_l1Less.l0] at h, fun _ _ _ _ r h => by simp [spec_l1Less.j1] at h⟩
  | k + 1 => by
    obtain ⟨ih0, ih1⟩ := spec_l1Less.mono_l k
    refine ⟨?_, ?_⟩
    · intro y0 y1 y2
      unfold spec_l1Less.l0
      repeat' first
      | (with_reducible exact ih0 _ _ _)
      | (with_reducible exact ih1 _ _ _ _)
      | (with_reducible exact LeO.refl _)
      | (with_reducible exact LeO.none _)
      | (with_reducible refine LeO.ite ?_ ?_)
      | (with_reducible refine LeO.bind ?_ (fun _ => ?_))
      | exact ih0 _ _ _
      | exact ih1 _ _ _ _
      | exact LeO.none _
      | refine LeO.ite ?_ ?_
      | refine LeO.bind ?_ (fun _ => ?_)
    · intro y0 y1 y2 y3
      unfold spec_l1Less.j1
      repeat' first
      | (with_reducible exact ih0 _ _ _)
      | (with_reducible exact ih1 _ _ _ _)
      | (with_reducible exact LeO.refl _)
      | (with_reducible exact LeO.none _)
      | (with_reducible refine LeO.ite ?_ ?_)
      | (with_reducible refine LeO.bind ?_ (fun _ => ?_))
      | exact ih0 _ _ _
      | exact ih1 _ _ _ _
      | exact LeO.none _
      | refine LeO.ite ?_ ?_
      | refine LeO.bind ?_ (fun _ => ?_)
theorem spec_l1Less.mono : ∀ a0 a1 k, LeO (spec_l1Less.f k a0 a1) (spec_l1Less.f (k + 1) a0 a1) := by
  intro a0 a1 k
  obtain ⟨ih0, ih1⟩ := spec_l1Less.mono_l k
  unfold spec_l1Less.f
  repeat' first
      | (with_reducible exact ih0 _ _ _)
      | (with_reducible exact ih1 _ _ _ _)
      | (with_reducible exact LeO.refl _)
      | (with_reducible exact LeO.none _)
      | (with_reducible refine LeO.ite ?_ ?_)
      | (with_reducible refine LeO.bind ?_ (fun _ => ?_))
      | exact ih0 _ _ _
      | exact ih1 _ _ _ _
      | exact LeO.none _
      | refine LeO.ite ?_ ?_
      | refine LeO.bind ?_ (fun _ => ?_)
set_option maxHeartbeats 8000000 in
set_option maxRecDepth 100000 in
theorem spec_l1Less.calls (k : Nat) (a0 : ByteArray) (a1 : ByteArray) (r : Bool) (w : World) (h : spec_l1Less.f k a0 a1 = some r) :
    Calls Tryd.prog 24 #[.string a0, .string a1] w fun e w' => e = .returned (.bool r) ∧ Drawn0 w w' := by
  have H : (spec_l1Less.l0 k a0 a1 0) = some r := h
  clear h
  have H' := Aside0.mk H
  clear H
  go_enter Tryd.func24, Tryd.ntmps24
  go_wp2
  repeat (go_quiet (fail); try go_wp2)
  go_loopg [5] k (fun kq v5 w' => ∃ (x5_1 : Int), v5 = .int .i64 x5_1 ∧ Aside0 (spec_l1Less.l0 kq a0 a1 x5_1 = some r) ∧ Aside0 (kq ≤ k) ∧ Drawn0 w w')
  case atStart => exact ⟨(0), (by first | rfl | (simp; done) | (simp [*]; done)), H', ⟨Nat.le_refl _⟩, by repeat (first | exact Drawn0.refl _ | apply Drawn0.step)⟩
  case round =>
    clear H'
    try clear c2
    try clear p2
    obtain ⟨x5_1, rfl, HA, HK1, ⟨m1, rfl⟩⟩ := hrel
    cases gk with
    | zero => exact absurd HA.out (by simp [spec_l1Less.l0])
    | succ k1 =>
      have H := HA.out
      clear HA
      simp only [spec_l1Less.l0] at H
      have HC3 := Aside0.mk H
      clear H
      go_upto_region 2 with (fail)
      repeat (go_quiet (fail); go_upto_region 2 with (fail))
      go_cut [15] (fun v15 wc => ∃ (kq : Nat) (x15_2 : Bool), v15 = .bool x15_2 ∧ Aside0 (spec_l1Less.j1 kq a0 a1 x5_1 x15_2 = some r) ∧ Aside0 (kq ≤ k1) ∧ Drawn0 w wc)
      case first =>
        have H := HC3.out
        clear HC3
        by_cases c4 : x5_1 < (a0.size : Int)
        · rw [if_pos c4] at H
          have c4b0 : decide (x5_1 < (a0.size : Int)) = true := decide_eq_true c4
          clear c4
          (first | rw [c4b0] | (simp only [i64_w, i32_w]; rw [c4b0]) | skip)
          have H' := Aside0.mk H
          clear H
          go_wp2
          repeat (go_quiet (fail); try go_wp2)
          go_meet
          case rel => exact ⟨_, (decide (x5_1 < (a1.size : Int))), (by first | rfl | (simp; done) | (simp [*]; done)), H', ⟨by have := HK1.out; first | omega | exact Nat.le_refl _⟩, by repeat (first | exact Drawn0.refl _ | apply Drawn0.step)⟩
        · rw [if_neg c4] at H
          have c4b0 : decide (x5_1 < (a0.size : Int)) = false := decide_eq_false c4
          clear c4
          (first | rw [c4b0] | (simp only [i64_w, i32_w]; rw [c4b0]) | skip)
          have H' := Aside0.mk H
          clear H
          go_wp2
          repeat (go_quiet (fail); try go_wp2)
          go_meet
          case rel => exact ⟨_, (false), (by first | rfl | (simp; done) | (simp [*]; done)), H', ⟨by have := HK1.out; first | omega | exact Nat.le_refl _⟩, by repeat (first | exact Drawn0.refl _ | apply Drawn0.step)⟩
      case rest =>
        clear HC3
        try clear c2
        try clear p2
        try clear c4
        try clear c4b0
        try clear p2
        obtain ⟨kq, x15_2, rfl, HA, HJ2, ⟨mc2, rfl⟩⟩ := hcut
        cases kq with
        | zero => exact absurd HA.out (by simp [spec_l1Less.j1])
        | succ kj2 =>
          have H := HA.out
          clear HA
          simp only [spec_l1Less.j1] at H
          by_cases c5 : x15_2 = true
          · subst c5
            have H1 : (if 0 ≤ x5_1 then (if x5_1 < (a0.size : Int) then (if x5_1 < (a1.size : Int) then (if (bt a0 x5_1) = (bt a1 x5_1) then (spec_l1Less.l0 kj2 a0 a1 (wrap64 (x5_1 + 1))) else (some (decide ((bt a0 x5_1) < (bt a1 x5_1))))) else (none)) else (none)) else (none)) = some r := by rw [if_pos rfl] at H; exact H
            clear H
            have H := H1
            clear H1
            by_cases c6 : 0 ≤ x5_1
            · rw [if_pos c6] at H
              have c6b0 : decide (0 ≤ x5_1) = true := decide_eq_true c6
              clear c6
              by_cases c7 : x5_1 < (a0.size : Int)
              · rw [if_pos c7] at H
                have c7b0 : decide (x5_1 < (a0.size : Int)) = true := decide_eq_true c7
                clear c7
                by_cases c9 : x5_1 < (a1.size : Int)
                · rw [if_pos c9] at H
                  have c9b0 : decide (x5_1 < (a1.size : Int)) = true := decide_eq_true c9
                  clear c9
                  by_cases c11 : (bt a0 x5_1) = (bt a1 x5_1)
                  · rw [if_pos c11] at H
                    have c11b0 : ((bt a0 x5_1) == (bt a1 x5_1)) = true := beq_iff_eq.mpr c11
                    have c11b1 : ((bt a0 x5_1) != (bt a1 x5_1)) = false := bne_eq_false_iff_eq.mpr c11
                    clear c11
                    have H' := Aside0.mk H
                    clear H
                    have p8 : 0 ≤ (x5_1 : Int) := of_decide_eq_true (by first | (with_reducible assumption) | assumption)
                    have q8 : x5_1 < (a0.size : Int) := of_decide_eq_true (by first | (with_reducible assumption) | assumption)
                    have hx8 := bt_at a0 x5_1
                    replace p8 := eq_true p8
                    replace q8 := eq_true q8
                    have p10 : 0 ≤ (x5_1 : Int) := of_decide_eq_true (by first | (with_reducible assumption) | assumption)
                    have q10 : x5_1 < (a1.size : Int) := of_decide_eq_true (by first | (with_reducible assumption) | assumption)
                    have hx10 := bt_at a1 x5_1
                    replace p10 := eq_true p10
                    replace q10 := eq_true q10
                    go_wp2
                    repeat (go_quiet (fail); try go_wp2)
                    go_roundg kj2
                    case measure => have := HK1.out; have := HJ2.out; omega
                    case rel => exact ⟨(wrap64 (x5_1 + 1)), (by first | rfl | (simp; done) | (simp [*]; done)), H', ⟨by have := HK1.out; have := HJ2.out; omega⟩, by repeat (first | exact Drawn0.refl _ | apply Drawn0.step)⟩
                  · rw [if_neg c11] at H
                    have c11b0 : ((bt a0 x5_1) == (bt a1 x5_1)) = false := beq_eq_false_iff_ne.mpr c11
                    have c11b1 : ((bt a0 x5_1) != (bt a1 x5_1)) = true := bne_iff_ne.mpr c11
                    obtain rfl := Option.some.inj H
                    have p8 : 0 ≤ (x5_1 : Int) := of_decide_eq_true (by first | (with_reducible assumption) | assumption)
                    have q8 : x5_1 < (a0.size : Int) := of_decide_eq_true (by first | (with_reducible assumption) | assumption)
                    have hx8 := bt_at a0 x5_1
                    replace p8 := eq_true p8
                    replace q8 := eq_true q8
                    have p10 : 0 ≤ (x5_1 : Int) := of_decide_eq_true (by first | (with_reducible assumption) | assumption)
                    have q10 : x5_1 < (a1.size : Int) := of_decide_eq_true (by first | (with_reducible assumption) | assumption)
                    have hx10 := bt_at a1 x5_1
                    replace p10 := eq_true p10
                    replace q10 := eq_true q10
                    have p12 : 0 ≤ (x5_1 : Int) := of_decide_eq_true (by first | (with_reducible assumption) | assumption)
                    have q12 : x5_1 < (a0.size : Int) := of_decide_eq_true (by first | (with_reducible assumption) | assumption)
                    have hx12 := bt_at a0 x5_1
                    replace p12 := eq_true p12
                    replace q12 := eq_true q12
                    have p13 : 0 ≤ (x5_1 : Int) := of_decide_eq_true (by first | (with_reducible assumption) | assumption)
                    have q13 : x5_1 < (a1.size : Int) := of_decide_eq_true (by first | (with_reducible assumption) | assumption)
                    have hx13 := bt_at a1 x5_1
                    replace p13 := eq_true p13
                    replace q13 := eq_true q13
                    go_wp2
                    repeat (go_quiet (fail); try go_wp2)
                    go_ret
                    exact ⟨by first | rfl | (simp; done) | (simp [*]; done), by repeat (first | exact Drawn0.refl _ | apply Drawn0.step)⟩
                · rw [if_neg c9] at H
                  exact absurd H (by simp)
              · rw [if_neg c7] at H
                exact absurd H (by simp)
            · rw [if_neg c6] at H
              exact absurd H (by simp)
          · replace c5 := Bool.eq_false_iff.mpr c5
            subst c5
            have H1 : (some (decide ((a0.size : Int) < (a1.size : Int)))) = some r := by rw [if_neg (show ¬ (false = true) by decide)] at H; exact H
            clear H
            have H := H1
            clear H1
            obtain rfl := Option.some.inj H
            go_wp2
            repeat (go_quiet (fail); try go_wp2)
            go_ret
            exact ⟨by first | rfl | (simp; done) | (simp [*]; done), by repeat (first | exact Drawn0.refl _ | apply Drawn0.step)⟩

end Go.Proofs.YtmfejehhfmaodaaDoor.Z

end
