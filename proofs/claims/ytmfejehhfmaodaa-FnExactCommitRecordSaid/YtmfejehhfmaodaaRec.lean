/- What impl.NodeRecord and impl.CommitRecord return. -/
import Derived.Test.YtmfejehhfmaodaaSect
import Derived.Test.YtmfejehhfmaodaaL1
namespace Go.Proofs.Ytmfejehhfmaodaa.Z
open Go.RowKit Go.Proofs.Ytmfejehhfmaodaa
set_option linter.unusedVariables false
set_option linter.unusedSimpArgs false
def nodeRecL (e : ByteArray) : List UInt8 := numL e.size 4 true 4 ++ e.data.toList
def nodeRec (e : ByteArray) : ByteArray := ⟨(secs (nodeRecL e) [83] [77] (nSec (nodeRecL e).length)).toArray⟩
def commitRecL (n : Nat) (r : ByteArray) : List UInt8 := numL n 4 true 4 ++ numL r.size 1 true 1 ++ r.data.toList
def commitRec (n : Nat) (r : ByteArray) : ByteArray := ⟨(secs (commitRecL n r) [67] [67] (nSec (commitRecL n r).length)).toArray⟩
def recOk (e : ByteArray) : Bool := decide (1 ≤ e.size ∧ e.size ≤ 4000)
def nodeRecV (a0 : ByteArray) : ByteArray := if recOk a0 then nodeRec a0 else ⟨#[]⟩
theorem nodeRecV_yes {a0 : ByteArray} (h : 1 ≤ a0.size ∧ a0.size ≤ 4000) : nodeRecV a0 = nodeRec a0 := by unfold nodeRecV recOk; rw [decide_eq_true h]; rfl
theorem nodeRecV_no {a0 : ByteArray} (h : ¬ (1 ≤ a0.size ∧ a0.size ≤ 4000)) : nodeRecV a0 = ⟨#[]⟩ := by unfold nodeRecV recOk; rw [decide_eq_false h]; rfl
def impl_NodeRecord.f (a0 : ByteArray) : Option ByteArray := some (nodeRecV a0)
theorem arr_size (l : List UInt8) : (⟨l.toArray⟩ : ByteArray).size = l.length := by simp [ByteArray.size]
set_option maxHeartbeats 1000000 in
theorem impl_NodeRecord.calls (a0 r : ByteArray) (w : World) (h : impl_NodeRecord.f a0 = some r) :
    Calls Try.prog 8 #[.string a0] w fun e w' => e = .returned (.string r) ∧ Below w.heap.size w w' := by
  obtain rfl := Option.some.inj h
  clear h
  have hsz : (a0.toList.isEmpty = true) ↔ a0.size = 0 := by
    rw [ByteArray.toList_eq, List.isEmpty_iff, Array.toList_eq_nil_iff, ← Array.size_eq_zero_iff]; rfl
  by_cases h0 : a0.size = 0
  · have hE := hsz.2 h0
    have hr := nodeRecV_no (a0 := a0) (by omega)
    have HR := Lib.hid hr; clear hr h0 hsz
    go_enter Try.func8, Try.ntmps8
    go_wp2
    go_ret
    exact ⟨by rw [HR.out]; rfl, by (repeat' (first | exact Below.refl _ _ | (with_reducible assumption) | (with_reducible refine Below.setCell ?_ (by first | (simp; done) | (simp; omega)) _) | refine below_then ?_ (by assumption) | (with_reducible refine below_new2 ?_ _) | (with_reducible refine Below.drew ?_) | (with_reducible refine bdrewN ?_ _)))⟩
  · have hE : a0.toList.isEmpty = false := by rw [Bool.eq_false_iff]; exact fun h => h0 (hsz.1 h)
    have h1 : 1 ≤ a0.size := by omega
    clear hsz h0
    by_cases h2 : a0.size ≤ 4000
    · have hr := nodeRecV_yes (a0 := a0) (by omega)
      have HR := Lib.hid hr; clear hr
      have hL : (nodeRecL a0).length = a0.size + 4 := by unfold nodeRecL; rw [List.length_append, numL_length]; show 4 + a0.data.size = a0.size + 4; show 4 + a0.size = _; omega
      have HL := Lib.hid hL; clear hL
      go_enter Try.func8, Try.ntmps8
      go_wp2_with fail
      refine (bnumber_any w.heap.size w.heap.size [] a0.size 4 true _ (Bld.fresh _ _) (by omega) (by omega) (by simp) (by simp)).mono ?_
      rintro e w1 ⟨rfl, hB1, hb1⟩
      have HB1 := Lib.hid hB1; clear hB1
      have hz1 := hb1.size
      simp only [World.size_alloc] at hz1
      go_wp2_with fail
      refine (btext_any w.heap.size w.heap.size _ a0 _ HB1.out (by rw [List.nil_append, numL_length]; omega) (by omega)).mono ?_
      rintro e w2 ⟨rfl, hB2, hb2⟩
      have HB2 := Lib.hid hB2; clear hB2
      have hz2 := hb2.size
      go_wp2_with fail
      refine (string_any 34 w.heap.size w.heap.size _ _ HB2.out (by intro h; have := congrArg List.length h; rw [List.length_append, List.nil_append, numL_length] at this; simp at this)).mono ?_
      rintro e w3 ⟨rfl, hb3⟩
      have hz3 := hb3.size
      go_wp2_with fail
      refine (sectors_any _ 83 77 83 77 rfl rfl (by rw [arr_size]; show 0 < (nodeRecL a0).length; rw [HL.out]; omega) (by rw [arr_size]; show (nodeRecL a0).length ≤ _; rw [HL.out]; omega) _).mono ?_
      rintro e w4 ⟨rfl, hb4⟩
      go_wp2
      go_ret
      refine ⟨?_, ?_⟩
      · refine congrArg (fun z => Ending.returned (.string z)) ?_
        rw [HR.out]; unfold nodeRec nodeRecL; simp only [List.length_append, List.append_assoc]; rfl
      · exact ((((Below.refl _ _).alloc (Nat.le_refl _) _).trans hb1).trans hb2).trans (hb3.trans (hb4.mono (by omega)))
    · have hr := nodeRecV_no (a0 := a0) (by omega)
      have HR := Lib.hid hr; clear hr
      go_enter Try.func8, Try.ntmps8
      go_wp2
      go_ret
      exact ⟨by rw [HR.out]; rfl, by (repeat' (first | exact Below.refl _ _ | (with_reducible assumption) | (with_reducible refine Below.setCell ?_ (by first | (simp; done) | (simp; omega)) _) | refine below_then ?_ (by assumption) | (with_reducible refine below_new2 ?_ _) | (with_reducible refine Below.drew ?_) | (with_reducible refine bdrewN ?_ _)))⟩
def comOk (n : Int) (r : ByteArray) : Bool := decide (1 ≤ n ∧ n ≤ 1000000 ∧ r.size ≤ 32)
def commitRecV (a0 : Int) (a1 : ByteArray) : ByteArray := if comOk a0 a1 then commitRec a0.toNat a1 else ⟨#[]⟩
theorem commitRecV_yes {a0 : Int} {a1 : ByteArray} (h : 1 ≤ a0 ∧ a0 ≤ 1000000 ∧ a1.size ≤ 32) : commitRecV a0 a1 = commitRec a0.toNat a1 := by unfold commitRecV comOk; rw [decide_eq_true h]; rfl
theorem commitRecV_no {a0 : Int} {a1 : ByteArray} (h : ¬ (1 ≤ a0 ∧ a0 ≤ 1000000 ∧ a1.size ≤ 32)) : commitRecV a0 a1 = ⟨#[]⟩ := by unfold commitRecV comOk; rw [decide_eq_false h]; rfl
def impl_CommitRecord.f (a0 : Int) (a1 : ByteArray) : Option ByteArray := some (commitRecV a0 a1)
set_option maxHeartbeats 1000000 in
theorem impl_CommitRecord.calls (a0 : Int) (a1 r : ByteArray) (w : World) (h : impl_CommitRecord.f a0 a1 = some r) :
    Calls Try.prog 6 #[.int .i64 a0, .string a1] w fun e w' => e = .returned (.string r) ∧ Below w.heap.size w w' := by
  obtain rfl := Option.some.inj h
  clear h
  by_cases h0 : 1 ≤ a0 ∧ a0 ≤ 1000000 ∧ a1.size ≤ 32
  · have hr := commitRecV_yes h0
    have HR := Lib.hid hr; clear hr
    obtain ⟨n, rfl⟩ := Int.eq_ofNat_of_zero_le (show 0 ≤ a0 by omega)
    have h1 : 1 ≤ n := by omega
    have h2 : n ≤ 1000000 := by omega
    have h3 : a1.size ≤ 32 := by omega
    clear h0
    have hL : (commitRecL n a1).length = a1.size + 5 := by unfold commitRecL; rw [List.length_append, List.length_append, numL_length, numL_length]; show 4 + 1 + a1.size = _; omega
    have HL := Lib.hid hL; clear hL
    go_enter Try.func6, Try.ntmps6
    go_wp2_with fail
    refine (bnumber_any w.heap.size w.heap.size [] n 4 true _ (Bld.fresh _ _) (by omega) (by omega) (by simp) (by simp)).mono ?_
    rintro e w1 ⟨rfl, hB1, hb1⟩
    have HB1 := Lib.hid hB1; clear hB1
    have hz1 := hb1.size
    simp only [World.size_alloc] at hz1
    go_wp2_with fail
    refine (bnumber_any w.heap.size w.heap.size _ a1.size 1 true _ HB1.out (by omega) (by omega) (by rw [List.nil_append, numL_length]; omega) (by omega)).mono ?_
    rintro e w2 ⟨rfl, hB2, hb2⟩
    have HB2 := Lib.hid hB2; clear hB2
    have hz2 := hb2.size
    go_wp2_with fail
    refine (btext_any w.heap.size w.heap.size _ a1 _ HB2.out (by rw [List.nil_append, List.length_append, numL_length, numL_length]; omega) (by omega)).mono ?_
    rintro e w3 ⟨rfl, hB3, hb3⟩
    have HB3 := Lib.hid hB3; clear hB3
    have hz3 := hb3.size
    go_wp2_with fail
    refine (string_any 34 w.heap.size w.heap.size _ _ HB3.out (by intro h; have := congrArg List.length h; rw [List.length_append, List.length_append, List.nil_append, numL_length, numL_length] at this; simp at this)).mono ?_
    rintro e w4 ⟨rfl, hb4⟩
    have hz4 := hb4.size
    go_wp2_with fail
    refine (sectors_any _ 67 67 67 67 rfl rfl (by rw [arr_size]; show 0 < (commitRecL n a1).length; rw [HL.out]; omega) (by rw [arr_size]; show (commitRecL n a1).length ≤ _; rw [HL.out]; omega) _).mono ?_
    rintro e w5 ⟨rfl, hb5⟩
    go_wp2
    go_ret
    refine ⟨?_, ?_⟩
    · refine congrArg (fun z => Ending.returned (.string z)) ?_
      rw [HR.out]; unfold commitRec commitRecL; simp only [List.length_append, List.append_assoc]; rfl
    · exact ((((Below.refl _ _).alloc (Nat.le_refl _) _).trans hb1).trans (hb2.trans hb3)).trans (hb4.trans (hb5.mono (by omega)))
  · have hr := commitRecV_no h0
    have HR := Lib.hid hr; clear hr
    by_cases h1 : a0 < 1
    · go_enter Try.func6, Try.ntmps6
      go_wp2
      go_ret
      exact ⟨by rw [HR.out]; rfl, by (repeat' (first | exact Below.refl _ _ | (with_reducible assumption) | (with_reducible refine Below.setCell ?_ (by first | (simp; done) | (simp; omega)) _) | refine below_then ?_ (by assumption) | (with_reducible refine below_new2 ?_ _) | (with_reducible refine Below.drew ?_) | (with_reducible refine bdrewN ?_ _)))⟩
    · by_cases h2 : 1000000 < a0
      · go_enter Try.func6, Try.ntmps6
        go_wp2
        go_ret
        exact ⟨by rw [HR.out]; rfl, by (repeat' (first | exact Below.refl _ _ | (with_reducible assumption) | (with_reducible refine Below.setCell ?_ (by first | (simp; done) | (simp; omega)) _) | refine below_then ?_ (by assumption) | (with_reducible refine below_new2 ?_ _) | (with_reducible refine Below.drew ?_) | (with_reducible refine bdrewN ?_ _)))⟩
      · have h3 : 32 < a1.size := by omega
        clear h0
        go_enter Try.func6, Try.ntmps6
        go_wp2
        go_ret
        exact ⟨by rw [HR.out]; rfl, by (repeat' (first | exact Below.refl _ _ | (with_reducible assumption) | (with_reducible refine Below.setCell ?_ (by first | (simp; done) | (simp; omega)) _) | refine below_then ?_ (by assumption) | (with_reducible refine below_new2 ?_ _) | (with_reducible refine Below.drew ?_) | (with_reducible refine bdrewN ?_ _)))⟩
end Go.Proofs.Ytmfejehhfmaodaa.Z
