/- FnExactDecodeNode: the law's walk. -/
import Derived.Test.YtpbcobiompgigaaDecLaw
namespace Go.Proofs.Ytpbcobiompgigaa
open Go.RowKit
set_option linter.unusedVariables false
set_option linter.unusedSimpArgs false
set_option maxHeartbeats 400000 in
theorem eqNode_any (a b c d : ByteArray) (w : World) :
    Calls Try.prog 9 #[.agg #[.string a, .string b, .string c, .string d], .agg #[.string a, .string b, .string c, .string d]] w fun e w' => e = .returned (.bool true) ∧ Below w.heap.size w w' := by
  go_enter Try.func9, Try.ntmps9
  go_wp2
  all_goals
    go_ret
    exact ⟨ret_bool rfl, by (repeat' (first | exact Below.refl _ _ | (with_reducible assumption) | (with_reducible refine Below.setCell ?_ (by first | (simp; done) | (simp; omega)) _) | refine below_then ?_ (by assumption) | (with_reducible refine below_new2 ?_ _) | (with_reducible refine Below.drew ?_) | (with_reducible refine bdrewN ?_ _)))⟩
set_option maxHeartbeats 1000000 in
theorem lawFnExactDecodeNode (s : ByteArray) (x : Int) (w : World) :
    Calls Try.prog 3 #[.string s, .int .i64 x] w fun e w' => e = .returned (.bool true) ∧ Below w.heap.size w w' := by
  by_cases h : 1048576 < (s.size : Int)
  · go_enter Try.func3, Try.ntmps3
    go_wp2
    go_ret
    exact ⟨ret_bool rfl, by (repeat' (first | exact Below.refl _ _ | (with_reducible assumption) | (with_reducible refine Below.setCell ?_ (by first | (simp; done) | (simp; omega)) _) | refine below_then ?_ (by assumption) | (with_reducible refine below_new2 ?_ _) | (with_reducible refine Below.drew ?_) | (with_reducible refine bdrewN ?_ _)))⟩
  · have hs : s.size ≤ 4294967296 := by omega
    have hd := Lib.hid (dec_same s x)
    rcases hz : decI s x with _ | ⟨a, b, c, d⟩
    all_goals
      have HZ := Lib.hid hz; clear hz
      go_enter Try.func3, Try.ntmps3
      go_wp2_with (first | (go_at_call 7; refine (specDecodeNode_any s x hs _).mono ?_; rintro e wa ⟨rfl, hb_wa⟩; rw [hd.out, HZ.out]; obtain ⟨hc_wa, hf_wa⟩ := bcell hb_wa; have hz_wa := hb_wa.size; (try simp only [World.size_alloc] at hz_wa); (try simp only [World.size_alloc] at hc_wa); (try simp only [World.size_alloc] at hf_wa); have q0 : w.heap.size ≤ wa.heap.size := (by omega); unfold nodeV) | (go_at_call 8; refine (decodeNode_any s x _).mono ?_; rintro e wb ⟨rfl, hb_wb⟩; rw [HZ.out]; obtain ⟨hc_wb, hf_wb⟩ := bcell hb_wb; have hz_wb := hb_wb.size; (try simp only [World.size_alloc] at hz_wb); (try simp only [World.size_alloc] at hc_wb); (try simp only [World.size_alloc] at hf_wb); have q1 : wa.heap.size < wb.heap.size := (by omega); unfold nodeV) | (go_at_call 9; refine (eqNode_any _ _ _ _ _).mono ?_; rintro e wc ⟨rfl, hb_wc⟩; obtain ⟨hc_wc, hf_wc⟩ := bcell hb_wc; have hz_wc := hb_wc.size; (try simp only [World.size_alloc, World.size_setCell, World.size_drew] at hz_wc); (try simp only [World.size_alloc, World.size_setCell, World.size_drew] at hc_wc); (try simp only [World.size_alloc, World.size_setCell, World.size_drew] at hf_wc); (try have q_wa_0_wc : wa.heap.size < wc.heap.size := by omega); (try have q_wb_0_wc : wb.heap.size < wc.heap.size := by omega)))
      all_goals
        go_ret
        exact ⟨ret_bool rfl, by (repeat' (first | exact Below.refl _ _ | (with_reducible assumption) | (with_reducible refine Below.setCell ?_ (by first | (simp; done) | (simp; omega)) _) | refine below_then ?_ (by assumption) | (with_reducible refine below_new2 ?_ _) | (with_reducible refine Below.drew ?_) | (with_reducible refine bdrewN ?_ _)))⟩
end Go.Proofs.Ytpbcobiompgigaa
