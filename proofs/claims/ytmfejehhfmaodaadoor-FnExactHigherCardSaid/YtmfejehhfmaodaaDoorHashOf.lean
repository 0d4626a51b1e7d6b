/- What hashing gives. -/
import Derived.Test.YtmfejehhfmaodaaDoorFeed
import Derived.Deep.LoopGhost
namespace Go.Proofs.YtmfejehhfmaodaaDoor.Z
open Go.RowKit Go.Proofs.YtmfejehhfmaodaaDoor Go.Proofs.YtmfejehhfmaodaaDoorW.PrintWords Go.Proofs.YtmfejehhfmaodaaDoorW.PrintLast
set_option linter.unusedVariables false
set_option linter.unusedSimpArgs false
theorem ints_app (l m : List UInt8) : ints (l ++ m) = ints l ++ ints m := by simp [ints]
theorem ints_one (c : UInt8) : ints [c] = [(c.toNat : Int)] := rfl
theorem take_snoc (s : ByteArray) (k : Nat) (h : k < s.size) : s.data.toList.take (k + 1) = s.data.toList.take k ++ [s[k]] := by
  rw [List.take_succ_eq_append_getElem (by simpa using h)]; rfl
set_option maxHeartbeats 1000000 in
theorem feed_any (b : Nat) (l : List Int) (tot : Nat) (s : ByteArray) (w : World) (h : Fed b l tot w) (ht : Tab w) (hbg : 0 < b) (hs : s.size ≤ 8589934592) (htot : tot ≤ 8589934592) :
    Calls Tryd.prog 32 #[.pointer (some ⟨b, 0, none⟩), .string s] w fun e w' => e = .returned (.pointer (some ⟨b, 0, none⟩)) ∧ Fed b (l ++ ints s.data.toList) ((tot + s.size : Nat) : Int) w' ∧ w.grownBy w' (some b) := by
  have hgb : some 0 ≠ some b := by intro e; have := Option.some.inj e; omega
  have HH := Lib.hid h; clear h
  have HT := Lib.hid ht; clear ht
  go_enter Tryd.func32, Tryd.ntmps32
  go_wp2
  go_loopw [8] (fun i wr => ∃ n : Nat, n ≤ s.size ∧ i = .int .i64 n ∧ Fed b (l ++ ints (s.data.toList.take n)) tot wr ∧ w.grownBy wr (some b)) (fun i _ => s.size - (intOf i).toNat)
  case atStart => exact ⟨0, by omega, rfl, by simpa [ints] using HH.out, grown_refl _ _⟩
  case round =>
    obtain ⟨n, hn, rfl, hF, hG⟩ := hrel
    have hT := HT.out.grown hG hgb
    have HTr := Lib.hid hT; clear hT
    have HF := Lib.hid hF; clear hF
    by_cases hl : n < s.size
    · go_wp2_with (go_at_call 42; refine (add_any b _ _ _ _ HF.out HTr.out hbg).mono ?_; rintro e w1 ⟨rfl, h1, hg⟩; have H1 := Lib.hid h1; clear h1)
      go_roundw
      case rel =>
        refine ⟨n + 1, by omega, by go_num, ?_, Lib.grownBy_trans hG hg⟩
        rw [take_snoc s n hl, ints_app, ints_one, ← List.append_assoc]
        exact H1.out
      case measure => simp [intOf]; omega
    · obtain rfl : n = s.size := by omega
      have c1 := HF.out.cT
      have f1 := HF.out.f 73
      have e1 : s.data.toList.take s.size = s.data.toList := List.take_of_length_le (Nat.le_refl _)
      have HE := Lib.hid e1; clear e1
      go_wp2
      go_ret
      refine ⟨rfl, ?_, Lib.grownBy_setB hG _ _⟩
      have h := HF.out.setT ((tot + s.size : Nat) : Int)
      rw [HE.out] at h
      rw [show ((tot + s.size : Nat) : Int) = (tot : Int) + (s.size : Int) by omega] at h ⊢
      exact h
theorem len_byte_eq2 (n i : Nat) (hi : i ≤ 7) (hn : n ≤ 8589934592) : (((8 * n : Nat) : Int) / 2 ^ (8 * i)) % 256 = ((lenByte n (7 - i)).toNat : Int) := by
  unfold lenByte
  rw [show 7 - (7 - i) = i by omega, UInt8.toNat_ofNat']
  rw [show ((2 : Int) ^ (8 * i)) = ((2 ^ (8 * i) : Nat) : Int) by rw [Int.natCast_pow]; rfl]
  rw [← Int.natCast_ediv]
  generalize 8 * n / 2 ^ (8 * i) = q
  omega
/-- A block of bytes. -/
def Wby (g : Nat) (T : TypeId) (l : List Int) (w : World) : Prop := w.heap[g]? = some (.cells (l.map (Value.int .u8)).toArray T (0, 0))
section
variable {g : Nat} {T : TypeId} {l : List Int} {w w1 : World}
theorem Wby.lt (h : Wby g T l w) : g < w.heap.size := lt_of_block h
theorem Wby.f (h : Wby g T l w) (i : Nat) : w.frozen? ⟨g, i, none⟩ = false := frozen_of_row _ _ _ _ _ h
theorem Wby.c (h : Wby g T l w) (i : Nat) (hi : i < l.length) : w.cell? ⟨g, i, none⟩ = some (.int .u8 (rdN l i)) := by
  rw [cell_of_row _ _ _ _ _ _ h]
  simp [rdN, List.getD_eq_getElem?_getD, hi]
theorem Wby.set (h : Wby g T l w) (i : Nat) (x : Int) : Wby g T (l.set i x) (w.setCell ⟨g, i, none⟩ (.int .u8 x)) := by
  refine hset h ?_
  rw [List.map_set]
end
theorem idx8_0 (a b c d e f g z : Int) (w : World) : (Instr.index 66 (.agg #[.int .u32 a, .int .u32 b, .int .u32 c, .int .u32 d, .int .u32 e, .int .u32 f, .int .u32 g, .int .u32 z]) (.int .i64 0)).run Tryd.prog w = .ok (.int .u32 a) w := by kernel_rfl
theorem idx8_1 (a b c d e f g z : Int) (w : World) : (Instr.index 66 (.agg #[.int .u32 a, .int .u32 b, .int .u32 c, .int .u32 d, .int .u32 e, .int .u32 f, .int .u32 g, .int .u32 z]) (.int .i64 1)).run Tryd.prog w = .ok (.int .u32 b) w := by kernel_rfl
theorem idx8_2 (a b c d e f g z : Int) (w : World) : (Instr.index 66 (.agg #[.int .u32 a, .int .u32 b, .int .u32 c, .int .u32 d, .int .u32 e, .int .u32 f, .int .u32 g, .int .u32 z]) (.int .i64 2)).run Tryd.prog w = .ok (.int .u32 c) w := by kernel_rfl
theorem idx8_3 (a b c d e f g z : Int) (w : World) : (Instr.index 66 (.agg #[.int .u32 a, .int .u32 b, .int .u32 c, .int .u32 d, .int .u32 e, .int .u32 f, .int .u32 g, .int .u32 z]) (.int .i64 3)).run Tryd.prog w = .ok (.int .u32 d) w := by kernel_rfl
theorem idx8_4 (a b c d e f g z : Int) (w : World) : (Instr.index 66 (.agg #[.int .u32 a, .int .u32 b, .int .u32 c, .int .u32 d, .int .u32 e, .int .u32 f, .int .u32 g, .int .u32 z]) (.int .i64 4)).run Tryd.prog w = .ok (.int .u32 e) w := by kernel_rfl
theorem idx8_5 (a b c d e f g z : Int) (w : World) : (Instr.index 66 (.agg #[.int .u32 a, .int .u32 b, .int .u32 c, .int .u32 d, .int .u32 e, .int .u32 f, .int .u32 g, .int .u32 z]) (.int .i64 5)).run Tryd.prog w = .ok (.int .u32 f) w := by kernel_rfl
theorem idx8_6 (a b c d e f g z : Int) (w : World) : (Instr.index 66 (.agg #[.int .u32 a, .int .u32 b, .int .u32 c, .int .u32 d, .int .u32 e, .int .u32 f, .int .u32 g, .int .u32 z]) (.int .i64 6)).run Tryd.prog w = .ok (.int .u32 g) w := by kernel_rfl
theorem idx8_7 (a b c d e f g z : Int) (w : World) : (Instr.index 66 (.agg #[.int .u32 a, .int .u32 b, .int .u32 c, .int .u32 d, .int .u32 e, .int .u32 f, .int .u32 g, .int .u32 z]) (.int .i64 7)).run Tryd.prog w = .ok (.int .u32 z) w := by kernel_rfl
theorem idx8 (st : List Int) (n : Nat) (hn : n < 8) (w : World) : (Instr.index 66 (.agg #[.int .u32 (rdN st 0), .int .u32 (rdN st 1), .int .u32 (rdN st 2), .int .u32 (rdN st 3), .int .u32 (rdN st 4), .int .u32 (rdN st 5), .int .u32 (rdN st 6), .int .u32 (rdN st 7)]) (.int .i64 (n : Int))).run Tryd.prog w = .ok (.int .u32 (rdN st n)) w := by
  have h : n = 0 ∨ n = 1 ∨ n = 2 ∨ n = 3 ∨ n = 4 ∨ n = 5 ∨ n = 6 ∨ n = 7 := by omega
  rcases h with rfl | rfl | rfl | rfl | rfl | rfl | rfl | rfl
  · exact idx8_0 _ _ _ _ _ _ _ _ w
  · exact idx8_1 _ _ _ _ _ _ _ _ w
  · exact idx8_2 _ _ _ _ _ _ _ _ w
  · exact idx8_3 _ _ _ _ _ _ _ _ w
  · exact idx8_4 _ _ _ _ _ _ _ _ w
  · exact idx8_5 _ _ _ _ _ _ _ _ w
  · exact idx8_6 _ _ _ _ _ _ _ _ w
  · exact idx8_7 _ _ _ _ _ _ _ _ w
theorem set_out (st : List Int) (n : Nat) (hn : n < 8) :
    ((((outB st n ++ List.replicate (32 - 4 * n) 0).set (4 * n) (rdN st n / 16777216 % 256)).set (4 * n + 1) (rdN st n / 65536 % 256)).set (4 * n + 2) (rdN st n / 256 % 256)).set (4 * n + 3) (rdN st n % 256) = outB st (n + 1) ++ List.replicate (32 - 4 * (n + 1)) 0 := by
  have hl := outB_length st n
  rw [show 32 - 4 * n = (32 - 4 * (n + 1)) + 4 by omega]
  rw [List.set_append_right _ _ (by omega), List.set_append_right _ _ (by omega), List.set_append_right _ _ (by omega), List.set_append_right _ _ (by omega), hl]
  rw [show 4 * n - 4 * n = 0 by omega, show 4 * n + 1 - 4 * n = 1 by omega, show 4 * n + 2 - 4 * n = 2 by omega, show 4 * n + 3 - 4 * n = 3 by omega]
  rw [List.replicate_succ, List.replicate_succ, List.replicate_succ, List.replicate_succ, outB, List.append_assoc]
  rfl
set_option maxHeartbeats 1000000 in
theorem finish_any (b : Nat) (l : List UInt8) (w : World) (h : Fed b (ints l) (l.length : Nat) w) (ht : Tab w) (hbg : 0 < b) (hs : l.length ≤ 8589934592) :
    Calls Tryd.prog 33 #[.pointer (some ⟨b, 0, none⟩)] w fun e w' => e = .returned (.agg ((shaL l).map (Value.int .u8)).toArray) ∧ w.grownBy w' (some b) := by
  have hgb : some 0 ≠ some b := by intro e; have := Option.some.inj e; omega
  have hlt := h.lt
  have hzm := zerosN_mod l.length
  have hzl := zerosN_lt l.length
  have c0 := h.cT
  have HZM := Lib.hid hzm; clear hzm
  have HH := Lib.hid h; clear h
  have HT := Lib.hid ht; clear ht
  go_enter Tryd.func33, Tryd.ntmps33
  go_wp2_with fail
  refine (add_any b (ints l) _ 128 _ (HH.out.keep (Below.heap_alloc _ _ _ hlt)) (HT.out.below (by (repeat' (first | exact Below.refl _ _ | (with_reducible assumption) | (with_reducible refine Below.setCell ?_ (by first | (simp; done) | (simp; omega)) _) | refine below_then ?_ (by assumption) | (with_reducible refine below_new2 ?_ _) | (with_reducible refine Below.drew ?_) | (with_reducible refine bdrewN ?_ _))))) hbg).mono ?_
  rintro e w1 ⟨rfl, h1, hg1⟩
  have hT1 := HT.out.below (w1 := w.alloc (.cells ((List.replicate 32 (Value.int .u8 0)).toArray) 42)) (by (repeat' (first | exact Below.refl _ _ | (with_reducible assumption) | (with_reducible refine Below.setCell ?_ (by first | (simp; done) | (simp; omega)) _) | refine below_then ?_ (by assumption) | (with_reducible refine below_new2 ?_ _) | (with_reducible refine Below.drew ?_) | (with_reducible refine bdrewN ?_ _))))
  have HT1 := Lib.hid (Tab.grown hT1 hg1 hgb); clear hT1
  have H1 := Lib.hid h1; clear h1
  have gW1 : w.grownBy w1 (some b) := Lib.grownBy_trans (World.grownBy_alloc w _ _) hg1
  have hz1 := hg1.size
  simp only [World.size_alloc] at hz1
  have hR1 : w1.heap[w.heap.size]? = some (.cells ((List.replicate 32 (Value.int .u8 0)).toArray) 42 (0, 0)) := by
    rw [hg1.block w.heap.size (by simp) (by intro e; have := Option.some.inj e; omega)]
    exact heap_alloc_new _ _
  have HR1 := Lib.hid hR1; clear hR1
  rw [show ints l ++ [128] = ints (padZ l 0) by simp [padZ, ints]] at H1
  go_wp2
  go_loopg [15] (zerosN l.length) (fun kq v w' => ∃ j : Nat, j + kq = zerosN l.length ∧ Fed b (ints (padZ l j)) (l.length : Nat) w' ∧ w1.grownBy w' (some b))
  case atStart => exact ⟨0, by omega, H1.out, grown_refl _ _⟩
  case round =>
    clear c0
    obtain ⟨j, hj, hF, hG⟩ := hrel
    have HTr := Lib.hid (Tab.grown HT1.out hG hgb)
    have c2 := hF.cF
    have HF := Lib.hid hF; clear hF
    obtain ⟨q, hq⟩ : ∃ q, (ints (padZ l j)).length % 64 = q := ⟨_, rfl⟩
    rw [hq] at c2
    rw [ints_length, padZ_length] at hq
    cases gk with
    | zero =>
      obtain rfl : j = zerosN l.length := by omega
      have h56 : ((q : Int) != 56) = false := by rw [bne_eq_false_iff_eq]; have := HZM.out; omega
      clear hq
      go_wp2
      go_loopw [4] (fun i w' => ∃ m : Nat, m ≤ 8 ∧ i = .int .i64 (7 - (m : Int)) ∧ Fed b (ints (padZ l (zerosN l.length) ++ lenB l.length m)) (l.length : Nat) w' ∧ w1.grownBy w' (some b)) (fun i _ => (intOf i + 1).toNat)
      case atStart => exact ⟨0, by omega, rfl, by simpa [lenB] using HF.out, hG⟩
      case round =>
        clear HF HTr c2 h56 hG
        obtain ⟨m, hm, rfl, hF, hG⟩ := hrel
        have HTr := Lib.hid (Tab.grown HT1.out hG hgb)
        have HF := Lib.hid hF; clear hF
        by_cases h8 : m < 8
        · have t0 : (0 : Int) ≤ 7 - (m : Int) := by omega
          have hbyte : (l.length : Int) * 8 / 2 ^ (8 * (7 - m)) % 256 = ((lenByte l.length m).toNat : Int) := by
            have := len_byte_eq2 l.length (7 - m) (by omega) hs
            rw [show 7 - (7 - m) = m by omega, show ((8 * l.length : Nat) : Int) = (l.length : Int) * 8 by omega] at this
            exact this
          go_wp2_with (go_at_call 42; refine (add_any b _ _ ((lenByte l.length m).toNat : Int) _ HF.out HTr.out hbg).mono ?_; rintro e w2 ⟨rfl, h2, hg2⟩; have H2 := Lib.hid h2; clear h2)
          clear hbyte
          go_roundw
          case rel =>
            refine ⟨m + 1, by omega, by go_num, ?_, Lib.grownBy_trans hG hg2⟩
            rw [lenB_succ, ← List.append_assoc, ints_app]
            exact H2.out
          case measure => simp [intOf]; omega
        · obtain rfl : m = 8 := by omega
          rw [show padZ l (zerosN l.length) ++ lenB l.length 8 = padP l from rfl] at HF
          obtain ⟨blk, hH, _⟩ := HF.out.out
          have hst : stateP (ints (padP l)) ((ints (padP l)).length / 64) = stateP (ints (padP l)) ((l.length + 72) / 64) := by
            rw [ints_length, padP_length]; congr 1; omega
          rw [hst] at hH
          have hst8 := hH.st8
          obtain ⟨st, hs2⟩ : ∃ st, stateP (ints (padP l)) ((l.length + 72) / 64) = st := ⟨_, rfl⟩
          rw [hs2] at hH hst8
          have HS2 := Lib.hid hs2; clear hs2 hst
          have g0 := hH.cS 0 (by omega)
          have g1 := hH.cS 1 (by omega)
          have g2 := hH.cS 2 (by omega)
          have g3 := hH.cS 3 (by omega)
          have g4 := hH.cS 4 (by omega)
          have g5 := hH.cS 5 (by omega)
          have g6 := hH.cS 6 (by omega)
          have g7 := hH.cS 7 (by omega)
          have hbl := hH.lt
          have hz := hG.size
          have hz0 := hz
          clear hH
          rw [show (7 : Int) - ((8 : Nat) : Int) = -1 from rfl]
          go_wp2
          clear g0 g1 g2 g3 g4 g5 g6 g7
          obtain ⟨wo, hwo⟩ : ∃ wo : World, wo = wr := ⟨_, rfl⟩
          rw [← hwo]
          subst hwo
          go_loopw [37] (fun i w' => ∃ n : Nat, n ≤ 8 ∧ i = .int .i64 n ∧ Wby wo.heap.size 42 (outB st n ++ List.replicate (32 - 4 * n) 0) w' ∧ w1.grownBy w' (some b)) (fun i _ => 8 - (intOf i).toNat)
          case atStart => exact ⟨0, by omega, rfl, (heap_alloc_new _ _).trans rfl, Lib.grownBy_allocR hG _⟩
          case round =>
            clear hG hz
            obtain ⟨n, hn, rfl, hO, hG⟩ := hrel
            have HO := Lib.hid hO; clear hO
            have hz := hG.size
            have hll : (outB st n ++ List.replicate (32 - 4 * n) 0).length = 32 := by rw [List.length_append, outB_length, List.length_replicate]; omega
            by_cases hl : n < 8
            · have hidx := idx8 st n hl
              have d0 := HO.out.c (4 * n) (by omega)
              have d1 := HO.out.c (4 * n + 1) (by omega)
              have d2 := HO.out.c (4 * n + 2) (by omega)
              have d3 := HO.out.c (4 * n + 3) (by omega)
              have fo := HO.out.f
              have n8 : (n : Int) < 8 := by omega
              have n0 : (0 : Int) ≤ (n : Int) := by omega
              clear hll
              go_wp2
              go_roundw
              case rel =>
                refine ⟨n + 1, by omega, by go_num, ?_, ?_⟩
                · rw [← set_out st n hl]
                  exact (((HO.out.set (4 * n) _).set (4 * n + 1) _).set (4 * n + 2) _).set (4 * n + 3) _
                · have ho : w1.heap.size ≤ wo.heap.size := hz0
                  have h := fun (a : World) (g : w1.grownBy a (some b)) (i : Nat) (v : Value) => (⟨g.os, g.tape, g.output, by simpa using g.size, fun k hk hne => (heap_setCell_other _ _ _ _ (by show k ≠ wo.heap.size; omega)).trans (g.block k hk hne)⟩ : w1.grownBy (a.setCell ⟨wo.heap.size, i, none⟩ v) (some b))
                  exact h _ (h _ (h _ (h _ hG _ _) _ _) _ _) _ _
              case measure => simp [intOf]; omega
            · obtain rfl : n = 8 := by omega
              rw [show ((8 : Nat) : Int) = 8 from rfl]
              rw [show List.replicate (32 - 4 * 8) (0 : Int) = [] from rfl, List.append_nil] at HO hll
              have hRr : wr.heap[w.heap.size]? = some (.cells ((List.replicate 32 (Value.int .u8 0)).toArray) 42 (0, 0)) := (hG.block w.heap.size (by omega) (by intro e; have := Option.some.inj e; omega)).trans HR1.out
              have HRr := Lib.hid hRr; clear hRr
              have hsz : ((outB st 8).map (Value.int .u8)).toArray.size = 32 := by simp [hll]
              have hi : (Tryd.prog.info? 42).map (·.size) = some (((outB st 8).map (Value.int .u8)).toArray.size) := by rw [hsz]; kernel_rfl
              have h1c : (((outB st 8).map (Value.int .u8)).toArray).all (·.oneCell') = true := by simp [Value.oneCell']
              have HI := Lib.hid hi; clear hi
              have HSZ := Lib.hid hsz; clear hsz
              have H1C := Lib.hid h1c; clear h1c hll
              obtain ⟨cs, hcs⟩ : ∃ cs, ((outB st 8).map (Value.int .u8)).toArray = cs := ⟨_, rfl⟩
              have hOo : wr.heap[wo.heap.size]? = some (.cells cs 42 (0, 0)) := by rw [← hcs]; exact HO.out
              rw [hcs] at HI HSZ H1C
              have HCS := Lib.hid hcs
              have HOo := Lib.hid hOo
              clear hcs hOo HO
              go_wp2_with (first | ((with_reducible refine gate_dst (N := 68) rfl ?_); refine wpList_load_row rfl 42 _ rfl wo.heap.size rfl _ _ _ _ HOo.out Tryd.underlying42 rfl HI.out ?_) | refine wpList_store_row rfl 42 _ _ rfl w.heap.size cs rfl rfl _ _ HRr.out HI.out (by rw [HSZ.out]; rfl) H1C.out ?_)
              refine bodyPost_ret (v := .agg cs) (results_cell_row Tryd.results33 _ _ w.heap.size 42 cs (0, 0) _ rfl (setRow_heap _ _ _ _ _ _ HRr.out) Tryd.underlying42 rfl HI.out) rfl ⟨?_, ?_⟩
              · rw [← HCS.out, ← HS2.out]; rfl
              · have g := Lib.grownBy_trans gW1 hG
                exact ⟨g.os, g.tape, g.output, by rw [setRow_size]; exact g.size, fun k hk hne => (setRow_other _ _ _ _ (by omega)).trans (g.block k hk hne)⟩
    | succ gk =>
      have h56 : ((q : Int) != 56) = true := by rw [bne_iff_ne]; have := HZM.out; omega
      clear hq
      go_wp2_with (go_at_call 42; refine (add_any b _ _ 0 _ HF.out HTr.out hbg).mono ?_; rintro e w2 ⟨rfl, h2, hg2⟩; have H2 := Lib.hid h2; clear h2)
      go_roundg gk
      case measure => omega
      case rel =>
        refine ⟨j + 1, by omega, ?_, Lib.grownBy_trans hG hg2⟩
        rw [padZ_succ, ints_app]
        exact H2.out
end Go.Proofs.YtmfejehhfmaodaaDoor.Z
