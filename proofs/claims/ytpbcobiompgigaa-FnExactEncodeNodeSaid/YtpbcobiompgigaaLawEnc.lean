/- FnExactEncodeNode: the law's walk. -/
import Derived.Test.YtpbcobiompgigaaEnc2
namespace Go.Proofs.Ytpbcobiompgigaa
open Go.RowKit
set_option linter.unusedVariables false
set_option linter.unusedSimpArgs false
set_option maxHeartbeats 400000 in
theorem lawFnExactEncodeNode (a b c d : ByteArray) (x : Int) (w : World) :
    Calls Try.prog 4 #[.agg #[.string a, .string b, .string c, .string d], .int .i64 x] w fun e w' => e = .returned (.bool true) ∧ Below w.heap.size w w' := by
  go_enter Try.func4, Try.ntmps4
  go_wp2_with (first | (go_at_call 10; refine (szNode_any _ _ _ _ _ _).mono ?_; rintro e wa ⟨rfl, hb_wa⟩; obtain ⟨hc_wa, hf_wa⟩ := bcell hb_wa; have hz_wa := hb_wa.size; (try simp only [World.size_alloc, World.size_setCell, World.size_drew] at hz_wa); (try simp only [World.size_alloc, World.size_setCell, World.size_drew] at hc_wa); (try simp only [World.size_alloc, World.size_setCell, World.size_drew] at hf_wa); (try have q_w_0_wa : w.heap.size < wa.heap.size := by omega)) | (go_at_call 12; refine (toNode_any _ _ _ _ _).mono ?_; rintro e wb ⟨rfl, hb_wb⟩; obtain ⟨hc_wb, hf_wb⟩ := bcell hb_wb; have hz_wb := hb_wb.size; (try simp only [World.size_alloc, World.size_setCell, World.size_drew] at hz_wb); (try simp only [World.size_alloc, World.size_setCell, World.size_drew] at hc_wb); (try simp only [World.size_alloc, World.size_setCell, World.size_drew] at hf_wb); (try have q_w_0_wb : w.heap.size < wb.heap.size := by omega)) | (go_at_call 11; refine (specEncodeNode_any _ _ _ _ _ _).mono ?_; rintro e wc ⟨rfl, hb_wc⟩; obtain ⟨hc_wc, hf_wc⟩ := bcell hb_wc; have hz_wc := hb_wc.size; (try simp only [World.size_alloc, World.size_setCell, World.size_drew] at hz_wc); (try simp only [World.size_alloc, World.size_setCell, World.size_drew] at hc_wc); (try simp only [World.size_alloc, World.size_setCell, World.size_drew] at hf_wc); (try have q_w_0_wc : w.heap.size < wc.heap.size := by omega)) | (go_at_call 13; refine (encodeNode_any _ _ _ _ _ _).mono ?_; rintro e wd ⟨rfl, hb_wd⟩; obtain ⟨hc_wd, hf_wd⟩ := bcell hb_wd; have hz_wd := hb_wd.size; (try simp only [World.size_alloc, World.size_setCell, World.size_drew] at hz_wd); (try simp only [World.size_alloc, World.size_setCell, World.size_drew] at hc_wd); (try simp only [World.size_alloc, World.size_setCell, World.size_drew] at hf_wd); (try have q_w_0_wd : w.heap.size < wd.heap.size := by omega)))
  all_goals
    go_ret
    exact ⟨ret_bool rfl, by (repeat' (first | exact Below.refl _ _ | (with_reducible assumption) | (with_reducible refine Below.setCell ?_ (by first | (simp; done) | (simp; omega)) _) | refine below_then ?_ (by assumption) | (with_reducible refine below_new2 ?_ _) | (with_reducible refine Below.drew ?_) | (with_reducible refine bdrewN ?_ _)))⟩
end Go.Proofs.Ytpbcobiompgigaa
