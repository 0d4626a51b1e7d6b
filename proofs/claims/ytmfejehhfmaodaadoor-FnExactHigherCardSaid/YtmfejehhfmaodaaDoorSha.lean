/- Sha256, Digest and Higher of the program. -/
import Derived.Test.YtmfejehhfmaodaaDoorArrEq
namespace Go.Proofs.YtmfejehhfmaodaaDoor.Z
open Go.RowKit Go.Proofs.YtmfejehhfmaodaaDoor Go.Proofs.YtmfejehhfmaodaaDoorW.PrintWords Go.Proofs.YtmfejehhfmaodaaDoorW.PrintLast
set_option linter.unusedVariables false
set_option linter.unusedSimpArgs false
theorem strOfNums_take (l : List Int) (n : Nat) : strOfNums (l.take n) = (strOfNums l).extract 0 n := by
  apply ByteArray.ext
  unfold strOfNums
  simp [ByteArray.data_extract]
set_option maxHeartbeats 1000000 in
set_option maxRecDepth 10000 in
theorem text_h (l : List Int) (hl : l.length = 32) (n : Int) (w : World) (h0 : 1 ≤ n) (h1 : n ≤ 32) :
    Calls Tryd.prog 21 #[hashV l, .int .i64 n] w fun e w' => e = .returned (.string ((strOfNums l).extract 0 n.toNat)) ∧ Below w.heap.size w w' := by
  obtain ⟨n, rfl⟩ := Int.eq_ofNat_of_zero_le (show 0 ≤ n by omega)
  rw [Int.toNat_natCast]
  have h1' : 1 ≤ n := by omega
  have h2' : n ≤ 32 := by omega
  have hcv : (convert 37 9 (.slice (some ⟨w.heap.size, 0, none⟩) n 32)).run Tryd.prog (w.alloc (.cells (l.map (Value.int .u8)).toArray 42)) = .ok (.string ((strOfNums l).extract 0 n)) (w.alloc (.cells (l.map (Value.int .u8)).toArray 42)) := by
    rw [← strOfNums_take]
    refine run_convert_bytes_arg (P := Tryd.prog) _ 37 5 Tryd.underlying37 Tryd.underlying5 w.heap.size 0 n 32 (l.take n) (by simp; omega) (fun i hi => ?_) 9 Tryd.underlying9
    rw [Nat.zero_add, cell_of_row _ _ _ _ _ _ (heap_alloc_new _ _)]
    simp [List.getD_eq_getElem?_getD, List.getElem?_take, hl, hi, show i < 32 by omega]
  have HCV := Lib.hid hcv; clear hcv
  have HL := Lib.hid hl; clear hl
  unfold hashV
  go_enter Tryd.func21, Tryd.ntmps21
  go_wp2_with ((with_reducible refine gate_dst (N := 7) rfl ?_); refine wpList_convert rfl 37 9 _ rfl rfl HCV.out ?_)
  go_ret
  exact ⟨rfl, by (repeat' (first | exact Below.refl _ _ | (with_reducible assumption) | (with_reducible refine Below.setCell ?_ (by first | (simp; done) | (simp; omega)) _) | refine below_then ?_ (by assumption) | (with_reducible refine below_new2 ?_ _) | (with_reducible refine Below.drew ?_) | (with_reducible refine bdrewN ?_ _)))⟩
def widB (x : Int) : Bool := decide (1 ≤ x ∧ x ≤ 32)
theorem isWidth_any (x : Int) (w : World) : Calls Tryd.prog 23 #[.int .i64 x] w fun e w' => e = .returned (.bool (widB x)) ∧ w = w' := by
  go_enter Tryd.func23, Tryd.ntmps23
  go_wp2
  all_goals
    go_ret
    refine ⟨ret_bool ?_, rfl⟩
    unfold widB
    grind
theorem hash_str (l : List Int) (hl : l.length = 32) (g : Nat) (W : World) (hg : W.heap[g]? = some (.cells (l.map (Value.int .u8)).toArray 42 (0, 0))) :
    (convert 37 9 (.slice (some ⟨g, 0, none⟩) 32 32)).run Tryd.prog W = .ok (.string (strOfNums l)) W := by
  refine run_convert_bytes_arg (P := Tryd.prog) _ 37 5 Tryd.underlying37 Tryd.underlying5 g 0 32 32 l (by omega) (fun i hi => ?_) 9 Tryd.underlying9
  rw [Nat.zero_add, cell_of_row _ _ _ _ _ _ hg]
  simp [List.getD_eq_getElem?_getD, hl, show i < 32 by omega]
def aboveB (x y : List Int) (a b : ByteArray) : Bool := if x = y then Op.bytesLess a.toList b.toList else (!Op.bytesLess (strOfNums x).toList (strOfNums y).toList && !((strOfNums x).toList == (strOfNums y).toList))
set_option maxHeartbeats 1000000 in
set_option maxRecDepth 10000 in
theorem above_any (x y : List Int) (hx : x.length = 32) (hy : y.length = 32) (a b : ByteArray) (w : World) :
    Calls Tryd.prog 25 #[hashV x, .string a, hashV y, .string b] w fun e w' => e = .returned (.bool (aboveB x y a b)) ∧ Below w.heap.size w w' := by
  have hne := fun w => run_neq_hash x y hx hy w
  have hA : ((w.alloc (.cells (x.map (Value.int .u8)).toArray 42)).alloc (.cells (y.map (Value.int .u8)).toArray 42)).heap[w.heap.size]? = some (.cells (x.map (Value.int .u8)).toArray 42 (0, 0)) := heap_alloc2_old _ _ _
  have hB : ((w.alloc (.cells (x.map (Value.int .u8)).toArray 42)).alloc (.cells (y.map (Value.int .u8)).toArray 42)).heap[w.heap.size + 1]? = some (.cells (y.map (Value.int .u8)).toArray 42 (0, 0)) := heap_alloc2_new _ _ _
  have hi : (Tryd.prog.info? 42).map (·.size) = some ((x.map (Value.int .u8)).toArray.size) := by
    rw [show ((x.map (Value.int .u8)).toArray.size) = 32 by simp [hx]]; kernel_rfl
  have hj : (Tryd.prog.info? 42).map (·.size) = some ((y.map (Value.int .u8)).toArray.size) := by
    rw [show ((y.map (Value.int .u8)).toArray.size) = 32 by simp [hy]]; kernel_rfl
  have HA := Lib.hid hA; have HB := Lib.hid hB; have HI := Lib.hid hi; have HJ := Lib.hid hj
  have HX := Lib.hid hx; have HY := Lib.hid hy
  clear hA hB hi hj hx hy
  unfold hashV at *
  by_cases hxy : x = y
  · have hd : decide (x = y) = true := decide_eq_true hxy
    have HD : Hid (aboveB x y a b = Op.bytesLess a.toList b.toList) := Lib.hid (by unfold aboveB; rw [if_pos hxy])
    clear hxy
    go_enter Tryd.func25, Tryd.ntmps25
    go_wp2_with (first | ((with_reducible refine gate_dst (N := 9) rfl ?_); refine wpList_load_row rfl 42 _ rfl w.heap.size rfl _ _ _ _ HA.out Tryd.underlying42 rfl HI.out ?_) | ((with_reducible refine gate_dst (N := 10) rfl ?_); refine wpList_load_row rfl 42 _ rfl (w.heap.size + 1) rfl _ _ _ _ HB.out Tryd.underlying42 rfl HJ.out ?_))
    go_ret
    exact ⟨by rw [HD.out]; rfl, by (repeat' (first | exact Below.refl _ _ | (with_reducible assumption) | (with_reducible refine Below.setCell ?_ (by first | (simp; done) | (simp; omega)) _) | refine below_then ?_ (by assumption) | (with_reducible refine below_new2 ?_ _) | (with_reducible refine Below.drew ?_) | (with_reducible refine bdrewN ?_ _)))⟩
  · have hd : decide (x = y) = false := decide_eq_false hxy
    have HD : Hid (aboveB x y a b = (!Op.bytesLess (strOfNums x).toList (strOfNums y).toList && !((strOfNums x).toList == (strOfNums y).toList))) := Lib.hid (by unfold aboveB; rw [if_neg hxy])
    clear hxy
    go_enter Tryd.func25, Tryd.ntmps25
    go_wp2_with (first | ((with_reducible refine gate_dst (N := 9) rfl ?_); refine wpList_load_row rfl 42 _ rfl w.heap.size rfl _ _ _ _ HA.out Tryd.underlying42 rfl HI.out ?_) | ((with_reducible refine gate_dst (N := 10) rfl ?_); refine wpList_load_row rfl 42 _ rfl (w.heap.size + 1) rfl _ _ _ _ HB.out Tryd.underlying42 rfl HJ.out ?_))
    have hBel : Below w.heap.size w ((w.alloc (.cells (x.map (Value.int .u8)).toArray 42)).alloc (.cells (y.map (Value.int .u8)).toArray 42)) := by (repeat' (first | exact Below.refl _ _ | (with_reducible assumption) | (with_reducible refine Below.setCell ?_ (by first | (simp; done) | (simp; omega)) _) | refine below_then ?_ (by assumption) | (with_reducible refine below_new2 ?_ _) | (with_reducible refine Below.drew ?_) | (with_reducible refine bdrewN ?_ _)))
    generalize (w.alloc (.cells (x.map (Value.int .u8)).toArray 42)).alloc (.cells (y.map (Value.int .u8)).toArray 42) = W at HA HB hBel ⊢
    have kx := fun n => hash_str x HX.out w.heap.size (W.drewN n) HA.out
    have ky := fun n => hash_str y HY.out (w.heap.size + 1) (W.drewN n) HB.out
    have kx0 := hash_str x HX.out w.heap.size W HA.out
    have ky0 := hash_str y HY.out (w.heap.size + 1) W HB.out
    clear hne
    go_quiet (fail)
    go_wp2
    go_ret
    exact ⟨by rw [HD.out]; rfl, bdrewN hBel nq⟩
theorem catL_one (s : ByteArray) : catL [s] = s.data.toList := by simp [catL]
/-- hashOf of one string that the call has just laid. -/
theorem hashOne_any (s : ByteArray) (W w : World) (hW : W = w.alloc (.cells #[.string s] 9)) (ht : Tab w) (hs : s.size ≤ 4294967296) :
    Calls Tryd.prog 20 #[.slice (some ⟨w.heap.size, 0, none⟩) 1 1] W fun e w' => e = .returned (hashV (shaL s.data.toList)) ∧ Below w.heap.size w w' := by
  subst hW
  have h := hashOf_any w.heap.size [s] (w.alloc (.cells #[.string s] 9)) (fun j p hj => by
    match j, hj with
    | 0, hj =>
      simp only [List.getElem?_cons_zero, Option.some.injEq] at hj
      subst hj
      rw [cell_of_row _ _ _ _ _ _ (heap_alloc_new _ _)]; rfl) (ht.below (by (repeat' (first | exact Below.refl _ _ | (with_reducible assumption) | (with_reducible refine Below.setCell ?_ (by first | (simp; done) | (simp; omega)) _) | refine below_then ?_ (by assumption) | (with_reducible refine below_new2 ?_ _) | (with_reducible refine Below.drew ?_) | (with_reducible refine bdrewN ?_ _))))) (by rw [catL_one]; exact hs) (by simp) (by simp)
  rw [catL_one] at h
  refine h.mono ?_
  rintro e w' ⟨h1, hb⟩
  exact ⟨h1, ((Below.refl _ _).alloc (Nat.le_refl _) _).trans (hb.mono (by simp))⟩
theorem extract_all (s : ByteArray) (n : Nat) (h : s.size ≤ n) : s.extract 0 n = s := by
  apply ByteArray.ext
  rw [ByteArray.data_extract]
  exact Array.extract_eq_self_of_le h
def impl_Sha256.f (a0 : ByteArray) : Option ByteArray := if a0.size ≤ 4294967296 then some (shaV a0) else none
theorem impl_Sha256.calls (a0 r : ByteArray) (w : World) (h : impl_Sha256.f a0 = some r) (hTab : Tab w := by exact Tab.below (by assumption) (by repeat (first | (with_reducible first | exact HB.out | apply below_alloc | apply pw_below_drewN | apply below_drew1) | exact HB.out))) :
    Calls Tryd.prog 8 #[.string a0] w fun e w' => e = .returned (.string r) ∧ Below w.heap.size w w' := by
  unfold impl_Sha256.f at h
  split at h
  · rename_i hs
    obtain rfl := Option.some.inj h
    have HT := Lib.hid hTab; clear hTab
    go_enter Tryd.func8, Tryd.ntmps8
    go_wp2_with (go_at_call 20; refine (hashOne_any a0 _ w rfl HT.out hs).mono ?_; rintro e w1 ⟨rfl, hb1⟩)
    refine (text_h _ (shaL_length _) 32 _ (by omega) (by omega)).mono ?_
    rintro e w2 ⟨rfl, hb2⟩
    go_wp2
    go_ret
    refine ⟨?_, hb1.trans (hb2.mono hb1.size)⟩
    refine congrArg (fun z => Ending.returned (.string z)) ?_
    exact extract_all (shaV a0) 32 (Nat.le_of_eq (shaV_size a0))
  · cases h
def digV (s : ByteArray) (n : Int) : ByteArray := if widB n then (shaV s).extract 0 n.toNat else ⟨#[]⟩
theorem digV_yes {s : ByteArray} {n : Int} (h : widB n = true) : digV s n = (shaV s).extract 0 n.toNat := by unfold digV; rw [h]; rfl
theorem digV_no {s : ByteArray} {n : Int} (h : widB n = false) : digV s n = ⟨#[]⟩ := by unfold digV; rw [h]; rfl
def impl_Digest.f (a0 : ByteArray) (a1 : Int) : Option ByteArray := if a0.size ≤ 4294967296 then some (digV a0 a1) else none
theorem impl_Digest.calls (a0 : ByteArray) (a1 : Int) (r : ByteArray) (w : World) (h : impl_Digest.f a0 a1 = some r) (hTab : Tab w := by exact Tab.below (by assumption) (by repeat (first | (with_reducible first | exact HB.out | apply below_alloc | apply pw_below_drewN | apply below_drew1) | exact HB.out))) :
    Calls Tryd.prog 10 #[.string a0, .int .i64 a1] w fun e w' => e = .returned (.string r) ∧ Below w.heap.size w w' := by
  unfold impl_Digest.f at h
  split at h
  · rename_i hs
    obtain rfl := Option.some.inj h
    have HT := Lib.hid hTab; clear hTab
    by_cases hw : widB a1 = true
    · have HD := Lib.hid (digV_yes (s := a0) hw)
      have hr : 1 ≤ a1 ∧ a1 ≤ 32 := by unfold widB at hw; exact of_decide_eq_true hw
      go_enter Tryd.func10, Tryd.ntmps10
      go_wp2_with (first | (go_at_call 23; refine (isWidth_any _ _).mono ?_; rintro e w' ⟨rfl, rfl⟩) | (go_at_call 20; refine (hashOne_any a0 _ w rfl HT.out hs).mono ?_; rintro e w1 ⟨rfl, hb1⟩) | (go_at_call 21; refine (text_h _ (shaL_length _) a1 _ hr.1 hr.2).mono ?_; rintro e w2 ⟨rfl, hb2⟩))
      go_ret
      exact ⟨by rw [HD.out]; rfl, hb1.trans (hb2.mono hb1.size)⟩
    · have hw := Bool.eq_false_iff.2 hw
      have HD := Lib.hid (digV_no (s := a0) hw)
      go_enter Tryd.func10, Tryd.ntmps10
      go_wp2_with (go_at_call 23; refine (isWidth_any _ _).mono ?_; rintro e w' ⟨rfl, rfl⟩)
      go_ret
      exact ⟨by rw [HD.out]; rfl, by (repeat' (first | exact Below.refl _ _ | (with_reducible assumption) | (with_reducible refine Below.setCell ?_ (by first | (simp; done) | (simp; omega)) _) | refine below_then ?_ (by assumption) | (with_reducible refine below_new2 ?_ _) | (with_reducible refine Below.drew ?_) | (with_reducible refine bdrewN ?_ _)))⟩
  · cases h
def highB (a b : ByteArray) : Bool := aboveB (shaL a.data.toList) (shaL b.data.toList) a b
def impl_Higher.f (a0 a1 : ByteArray) : Option Bool := if a0.size ≤ 4294967296 ∧ a1.size ≤ 4294967296 then some (highB a0 a1) else none
theorem impl_Higher.calls (a0 a1 : ByteArray) (r : Bool) (w : World) (h : impl_Higher.f a0 a1 = some r) (hTab : Tab w := by exact Tab.below (by assumption) (by repeat (first | (with_reducible first | exact HB.out | apply below_alloc | apply pw_below_drewN | apply below_drew1) | exact HB.out))) :
    Calls Tryd.prog 12 #[.string a0, .string a1] w fun e w' => e = .returned (.bool r) ∧ Below w.heap.size w w' := by
  unfold impl_Higher.f at h
  split at h
  · rename_i hs
    obtain rfl := Option.some.inj h
    have HT := Lib.hid hTab; clear hTab
    go_enter Tryd.func12, Tryd.ntmps12
    go_wp2_with fail
    refine (hashOne_any a0 _ w rfl HT.out hs.1).mono ?_
    rintro e w1 ⟨rfl, hb1⟩
    go_wp2_with fail
    refine (hashOne_any a1 _ w1 rfl (HT.out.below hb1) hs.2).mono ?_
    rintro e w2 ⟨rfl, hb2⟩
    go_wp2_with fail
    refine (above_any _ _ (shaL_length _) (shaL_length _) a0 a1 _).mono ?_
    rintro e w3 ⟨rfl, hb3⟩
    go_wp2
    go_ret
    exact ⟨rfl, (hb1.trans (hb2.mono hb1.size)).trans (hb3.mono (Nat.le_trans hb1.size hb2.size))⟩
  · cases h
end Go.Proofs.YtmfejehhfmaodaaDoor.Z
