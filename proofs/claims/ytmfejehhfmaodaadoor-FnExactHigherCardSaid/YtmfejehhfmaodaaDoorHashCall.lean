/- hashOf, and what stands on it. -/
import Derived.Test.YtmfejehhfmaodaaDoorHashOf
namespace Go.Proofs.YtmfejehhfmaodaaDoor.Z
open Go.RowKit Go.Proofs.YtmfejehhfmaodaaDoor Go.Proofs.YtmfejehhfmaodaaDoorW.PrintWords Go.Proofs.YtmfejehhfmaodaaDoorW.PrintLast
set_option linter.unusedVariables false
set_option linter.unusedSimpArgs false
def catL (ps : List ByteArray) : List UInt8 := ps.flatMap fun s => s.data.toList
theorem catL_snoc (ps : List ByteArray) (s : ByteArray) : catL (ps ++ [s]) = catL ps ++ s.data.toList := by simp [catL]
theorem catL_take_le (ps : List ByteArray) (n : Nat) : (catL (ps.take n)).length ≤ (catL ps).length := by
  have h : catL ps = catL (ps.take n) ++ catL (ps.drop n) := by
    unfold catL; rw [← List.flatMap_append, List.take_append_drop]
  rw [h, List.length_append]; omega
/-- A hash as a value. -/
def hashV (l : List Int) : Value := .agg (l.map (Value.int .u8)).toArray
set_option maxHeartbeats 1000000 in
theorem hashOf_any (g : Nat) (ps : List ByteArray) (w : World) (hc : ∀ j p, ps[j]? = some p → w.cell? ⟨g, j, none⟩ = some (.string p)) (ht : Tab w) (hsz : (catL ps).length ≤ 4294967296) (hn : ps.length ≤ 4294967296) (hg : g < w.heap.size) :
    Calls Tryd.prog 20 #[.slice (some ⟨g, 0, none⟩) ps.length ps.length] w fun e w' => e = .returned (hashV (shaL (catL ps))) ∧ Below w.heap.size w w' := by
  have HC := Lib.hid hc; clear hc
  have HT := Lib.hid ht; clear ht
  go_enter Tryd.func20, Tryd.ntmps20
  go_wp2_with (go_at_call 31; refine (newHasher_any _).mono ?_; rintro e w1 ⟨rfl, h1, hz1, hb1⟩; have H1 := Lib.hid h1; clear h1)
  have hz2 := hz1
  simp only [World.size_alloc] at hz2
  have hR1 : w1.heap[w.heap.size]? = some (.cells ((List.replicate 32 (Value.int .u8 0)).toArray) 42 (0, 0)) := (hb1.block _ (by simp)).trans (heap_alloc_new _ _)
  have HR1 := Lib.hid hR1; clear hR1
  have hF1 : Fed (w.heap.size + 1) (ints (catL (ps.take 0))) ((catL (ps.take 0)).length : Nat) w1 := by
    refine ⟨_, by simpa [ints, catL, stateP] using H1.out, fun j hj => by simp [catL, ints] at hj⟩
  have HF1 := Lib.hid hF1; clear hF1
  have hB1 : Below w.heap.size w w1 := ((Below.refl _ _).alloc (Nat.le_refl _) _).trans (hb1.mono (by simp))
  go_wp2
  go_loopw [9] (fun i wr => ∃ n : Nat, n ≤ ps.length ∧ i = .int .i64 n ∧ Fed (w.heap.size + 1) (ints (catL (ps.take n))) ((catL (ps.take n)).length : Nat) wr ∧ w1.grownBy wr (some (w.heap.size + 1))) (fun i _ => ps.length - (intOf i).toNat)
  case atStart => exact ⟨0, by omega, rfl, HF1.out, grown_refl _ _⟩
  case round =>
    obtain ⟨n, hn1, rfl, hF, hG⟩ := hrel
    have hBr : Below w.heap.size w wr := hB1.grown hG (by omega) (by intro k hk; have := Option.some.inj hk; omega)
    have HTr := Lib.hid (HT.out.below hBr)
    have hbg : 0 < w.heap.size + 1 := by have := HT.out.lt; omega
    have HF := Lib.hid hF; clear hF
    by_cases hl : n < ps.length
    · have hcn := HC.out n ps[n] (List.getElem?_eq_getElem hl)
      have hcr := (hBr.cell (p := ⟨g, n, none⟩) hg).trans hcn
      clear hcn
      have hle := catL_take_le ps n
      have hle1 : ps[n].size ≤ (catL ps).length := by
        have := catL_take_le ps (n + 1)
        rw [List.take_succ_eq_append_getElem hl, catL_snoc, List.length_append] at this
        have e : ps[n].data.toList.length = ps[n].size := rfl
        omega
      obtain ⟨p, hp⟩ : ∃ p, ps[n] = p := ⟨_, rfl⟩
      rw [hp] at hcr hle1
      have HP := Lib.hid hp; clear hp
      have n0 : (0 : Int) ≤ (n : Int) := by omega
      go_wp2_with (go_at_call 32; refine (feed_any _ _ _ _ _ HF.out HTr.out hbg (by omega) (by omega)).mono ?_; rintro e w2 ⟨rfl, h2, hg2⟩; have H2 := Lib.hid h2; clear h2)
      go_roundw
      case rel =>
        refine ⟨n + 1, by omega, by go_num, ?_, Lib.grownBy_trans hG hg2⟩
        rw [List.take_succ_eq_append_getElem hl, catL_snoc, HP.out, ints_app, List.length_append]
        exact H2.out
      case measure => simp [intOf]; omega
    · obtain rfl : n = ps.length := by omega
      rw [List.take_length] at HF
      have hRr : wr.heap[w.heap.size]? = some (.cells ((List.replicate 32 (Value.int .u8 0)).toArray) 42 (0, 0)) := (hG.block w.heap.size (by omega) (by intro e; have := Option.some.inj e; omega)).trans HR1.out
      have HRr := Lib.hid hRr; clear hRr
      have hz3 := hG.size
      have hi : (Tryd.prog.info? 42).map (·.size) = some (((shaL (catL ps)).map (Value.int .u8)).toArray.size) := by
        rw [show (((shaL (catL ps)).map (Value.int .u8)).toArray.size) = 32 by simp [shaL_length]]; kernel_rfl
      have h1c : (((shaL (catL ps)).map (Value.int .u8)).toArray).all (·.oneCell') = true := by simp [Value.oneCell']
      have hsz : ((List.replicate 32 (Value.int .u8 0)).toArray).size = ((shaL (catL ps)).map (Value.int .u8)).toArray.size := by simp [shaL_length]
      have HI := Lib.hid hi; clear hi
      have H1C := Lib.hid h1c; clear h1c
      have HSZ2 := Lib.hid hsz; clear hsz
      go_wp2_with (first | (go_at_call 33; refine (finish_any _ _ _ HF.out HTr.out hbg (by omega)).mono ?_; rintro e w2 ⟨rfl, hg2⟩; have HR2 := Lib.hid ((hg2.block w.heap.size (by omega) (by intro e; have := Option.some.inj e; omega)).trans HRr.out)) | refine wpList_store_row rfl 42 _ _ rfl w.heap.size _ rfl rfl _ _ HR2.out HI.out HSZ2.out H1C.out ?_)
      refine bodyPost_ret (v := hashV (shaL (catL ps))) (results_cell_row Tryd.results20 _ _ w.heap.size 42 _ (0, 0) _ rfl (setRow_heap _ _ _ _ _ _ HR2.out) Tryd.underlying42 rfl HI.out) rfl ⟨rfl, ?_⟩
      have hb : Below w.heap.size w w2 := hBr.grown hg2 (by have := hBr.size; omega) (by intro k hk; have := Option.some.inj hk; omega)
      exact ⟨hb.os, hb.tape, hb.output, by rw [setRow_size]; exact hb.size, fun k hk => (setRow_other _ _ _ _ (by omega)).trans (hb.block k hk)⟩
end Go.Proofs.YtmfejehhfmaodaaDoor.Z
