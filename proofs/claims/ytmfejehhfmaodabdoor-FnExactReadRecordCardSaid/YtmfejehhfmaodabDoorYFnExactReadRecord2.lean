/- Own texts, joined. -/
import Derived.Test.YtmfejehhfmaodabDoorYFnExactReadRecord0
/- Contracts of functions of the program, written by a program of this session over the translation's print. -/
section
namespace Go.Proofs.YtmfejehhfmaodabDoor.Z
open Go.RowKit Go.Proofs.YtmfejehhfmaodabDoorW.PrintWords Go.Proofs.YtmfejehhfmaodabDoorW.PrintLast Go.Proofs.YtmfejehhfmaodabDoorW.PrintMore
attribute [local go_sem] max2_int min2_int max_two min_two max_three min_three max_four min_four   -- for this text's walks alone
set_option linter.unusedVariables false
set_option linter.unusedSimpArgs false

/-! ### spec_l2Byte: function 90 -/
def spec_l2Byte.f (a0 : Int) : Option (ByteArray) := some (strOfNums (([(a0) % 256] : List Int)))
set_option maxHeartbeats 8000000 in
set_option maxRecDepth 100000 in
theorem spec_l2Byte.calls (a0 : Int) (r : ByteArray) (w : World) (h : spec_l2Byte.f a0 = some r) :
    Calls Tryd.prog 90 #[.int .i64 a0] w fun e w' => e = .returned (.string r) ∧ Below w.heap.size w w' := by
  have HB := Aside0.mk (Below.refl w.heap.size w)
  have H : (some (strOfNums (([(a0) % 256] : List Int)))) = some r := h
  clear h
  obtain ⟨y900001, hy900001⟩ : ∃ y_ : List Int, y_ = (([(a0) % 256] : List Int)) := ⟨_, rfl⟩
  replace H : (some (strOfNums y900001)) = some r := by first | (rw [hy900001]; with_reducible exact H) | (have H2_ := (Option.bind_some _ _).symm.trans H; rw [hy900001]; with_reducible exact H2_) | (have H2_ := (Option.bind_some _ _).symm.trans H; with_reducible exact H2_) | with_reducible exact H | (rw [hy900001]; exact H) | exact H
  have Ny900001 := Aside0.mk hy900001
  clear hy900001
  obtain rfl := Option.some.inj H
  go_enter Tryd.func90, Tryd.ntmps90
  go_wp2_with (first | ((with_reducible refine gate_dst (N := 5) rfl ?_); refine Kd.R_lit (Kd.int .u8) _ 5 ?hg (N := 5) ?hd (xs := ([(a0) % 256] : List Int)) (inner := [.int .u8 ((a0) % 256)]) (ok := fun _ => True) (okp := fun _ => True) ?hr ?hp (fun _ hk => hk) trivial (Below.refl _ _) (Nat.le_refl _) (by simp) ?_; (case hd => rfl); (case hg => rfl); (case hr => first | (go_simp; done) | (go_simp; rfl)); (case hp => exact (Reps.one (show Kd.M (Kd.int .u8) _ _ _ ((a0) % 256) [.int .u8 ((a0) % 256)] from rfl) (Reps.none _ _))); intro v900002 w2 ho3 hb hg_ hnew_; clear hg_ hnew_; (first | rw [← Ny900001.out] at ho3 | (simp only [Int.reduceToNat] at ho3; rw [← Ny900001.out] at ho3)); have n0_ := Aside0.mk (Kd.R_lower ho3 (below_size (by repeat (first | (with_reducible first | exact HB.out | apply below_alloc | apply pw_below_drewN | apply below_drew1) | exact HB.out)))); have n1_ := Aside0.mk (below_step (by repeat (first | (with_reducible first | exact HB.out | apply below_alloc | apply pw_below_drewN | apply below_drew1) | exact HB.out)) hb); clear HB; have HO900003 := n0_; have HB := n1_; clear n0_ n1_; clear hb ho3; have hcv4 := own_string (P := Tryd.prog) Tryd.underlying113 Tryd.underlying5 Tryd.underlying9 (Kd.own_of_R HO900003.out)))
  go_ret
  exact ⟨by first | rfl | (simp [errW_none, errW_some] <;> rfl) | (simp [*, errW_none, errW_some] <;> rfl), by repeat (first | (with_reducible first | exact HB.out | apply below_alloc | apply pw_below_drewN | apply below_drew1) | exact HB.out)⟩

end Go.Proofs.YtmfejehhfmaodabDoor.Z

end

/- Contracts of functions of the program, written by a program of this session over the translation's print. -/
section
namespace Go.Proofs.YtmfejehhfmaodabDoor.Z
open Go.RowKit Go.Proofs.YtmfejehhfmaodabDoorW.PrintWords Go.Proofs.YtmfejehhfmaodabDoorW.PrintLast Go.Proofs.YtmfejehhfmaodabDoorW.PrintMore
attribute [local go_sem] max2_int min2_int max_two min_two max_three min_three max_four min_four   -- for this text's walks alone
set_option linter.unusedVariables false
set_option linter.unusedSimpArgs false

/-! ### spec_l2Four: function 89 -/
def spec_l2Four.f (a0 : Int) : Option (ByteArray) := (spec_l2Byte.f (Int.tmod a0 256)).bind fun t890001 => ((spec_l2Byte.f (Int.tmod (wrap64 (Int.tdiv a0 256)) 256)).bind fun t890002 => (if t890001.size + t890002.size ≤ 9223372036854775807 then ((spec_l2Byte.f (Int.tmod (wrap64 (Int.tdiv a0 65536)) 256)).bind fun t890003 => (if (t890001 ++ t890002).size + t890003.size ≤ 9223372036854775807 then ((spec_l2Byte.f (Int.tmod (wrap64 (Int.tdiv a0 16777216)) 256)).bind fun t890004 => (if ((t890001 ++ t890002) ++ t890003).size + t890004.size ≤ 9223372036854775807 then (some (((t890001 ++ t890002) ++ t890003) ++ t890004)) else (none))) else (none))) else (none)))
set_option maxHeartbeats 8000000 in
set_option maxRecDepth 100000 in
theorem spec_l2Four.calls (a0 : Int) (r : ByteArray) (w : World) (h : spec_l2Four.f a0 = some r) :
    Calls Tryd.prog 89 #[.int .i64 a0] w fun e w' => e = .returned (.string r) ∧ Below w.heap.size w w' := by
  have HB := Aside0.mk (Below.refl w.heap.size w)
  have H : ((spec_l2Byte.f (Int.tmod a0 256)).bind fun t890001 => ((spec_l2Byte.f (Int.tmod (wrap64 (Int.tdiv a0 256)) 256)).bind fun t890002 => (if t890001.size + t890002.size ≤ 9223372036854775807 then ((spec_l2Byte.f (Int.tmod (wrap64 (Int.tdiv a0 65536)) 256)).bind fun t890003 => (if (t890001 ++ t890002).size + t890003.size ≤ 9223372036854775807 then ((spec_l2Byte.f (Int.tmod (wrap64 (Int.tdiv a0 16777216)) 256)).bind fun t890004 => (if ((t890001 ++ t890002) ++ t890003).size + t890004.size ≤ 9223372036854775807 then (some (((t890001 ++ t890002) ++ t890003) ++ t890004)) else (none))) else (none))) else (none)))) = some r := h
  clear h
  replace H := Option.bind_eq_some_iff.mp H
  obtain ⟨t890001, A20, H⟩ := H
  replace H : ((spec_l2Byte.f (Int.tmod (wrap64 (Int.tdiv a0 256)) 256)).bind fun t890002 => (if t890001.size + t890002.size ≤ 9223372036854775807 then ((spec_l2Byte.f (Int.tmod (wrap64 (Int.tdiv a0 65536)) 256)).bind fun t890003 => (if (t890001 ++ t890002).size + t890003.size ≤ 9223372036854775807 then ((spec_l2Byte.f (Int.tmod (wrap64 (Int.tdiv a0 16777216)) 256)).bind fun t890004 => (if ((t890001 ++ t890002) ++ t890003).size + t890004.size ≤ 9223372036854775807 then (some (((t890001 ++ t890002) ++ t890003) ++ t890004)) else (none))) else (none))) else (none))) = some r := H
  have A2 := Aside0.mk A20
  clear A20
  replace H := Option.bind_eq_some_iff.mp H
  obtain ⟨t890002, A30, H⟩ := H
  replace H : (if t890001.size + t890002.size ≤ 9223372036854775807 then ((spec_l2Byte.f (Int.tmod (wrap64 (Int.tdiv a0 65536)) 256)).bind fun t890003 => (if (t890001 ++ t890002).size + t890003.size ≤ 9223372036854775807 then ((spec_l2Byte.f (Int.tmod (wrap64 (Int.tdiv a0 16777216)) 256)).bind fun t890004 => (if ((t890001 ++ t890002) ++ t890003).size + t890004.size ≤ 9223372036854775807 then (some (((t890001 ++ t890002) ++ t890003) ++ t890004)) else (none))) else (none))) else (none)) = some r := H
  have A3 := Aside0.mk A30
  clear A30
  by_cases c4 : t890001.size + t890002.size ≤ 9223372036854775807
  · rw [if_pos c4] at H
    have c4b0 := eq_true c4
    have c4b1 : decide (t890001.size + t890002.size ≤ 9223372036854775807) = true := decide_eq_true c4
    try have c4b2 : (9223372036854775807 < t890001.size + t890002.size) = False := eq_false (Nat.not_lt.2 c4)
    replace H := Option.bind_eq_some_iff.mp H
    obtain ⟨t890003, A50, H⟩ := H
    replace H : (if (t890001 ++ t890002).size + t890003.size ≤ 9223372036854775807 then ((spec_l2Byte.f (Int.tmod (wrap64 (Int.tdiv a0 16777216)) 256)).bind fun t890004 => (if ((t890001 ++ t890002) ++ t890003).size + t890004.size ≤ 9223372036854775807 then (some (((t890001 ++ t890002) ++ t890003) ++ t890004)) else (none))) else (none)) = some r := H
    have A5 := Aside0.mk A50
    clear A50
    by_cases c6 : (t890001 ++ t890002).size + t890003.size ≤ 9223372036854775807
    · rw [if_pos c6] at H
      have c6b0 := eq_true c6
      have c6b1 : decide ((t890001 ++ t890002).size + t890003.size ≤ 9223372036854775807) = true := decide_eq_true c6
      try have c6b2 : (9223372036854775807 < (t890001 ++ t890002).size + t890003.size) = False := eq_false (Nat.not_lt.2 c6)
      try (have c6b3 := c6b2; simp only [ByteArray.size_append, ByteArray.size_extract, Nat.min_self] at c6b3)
      replace H := Option.bind_eq_some_iff.mp H
      obtain ⟨t890004, A70, H⟩ := H
      replace H : (if ((t890001 ++ t890002) ++ t890003).size + t890004.size ≤ 9223372036854775807 then (some (((t890001 ++ t890002) ++ t890003) ++ t890004)) else (none)) = some r := H
      have A7 := Aside0.mk A70
      clear A70
      by_cases c8 : ((t890001 ++ t890002) ++ t890003).size + t890004.size ≤ 9223372036854775807
      · rw [if_pos c8] at H
        have c8b0 := eq_true c8
        have c8b1 : decide (((t890001 ++ t890002) ++ t890003).size + t890004.size ≤ 9223372036854775807) = true := decide_eq_true c8
        try have c8b2 : (9223372036854775807 < ((t890001 ++ t890002) ++ t890003).size + t890004.size) = False := eq_false (Nat.not_lt.2 c8)
        try (have c8b3 := c8b2; simp only [ByteArray.size_append, ByteArray.size_extract, Nat.min_self] at c8b3)
        obtain rfl := Option.some.inj H
        go_enter Tryd.func89, Tryd.ntmps89
        go_wp2_with (first | ((with_reducible refine gate_callee (f := 90) rfl ?_); refine goesL_ (some 5) rfl rfl Tryd.func90 (by kernel_rfl) rfl #[.int .i64 (Int.tmod a0 256)] rfl (by (try simp only [List.map_toArray, List.map_cons, List.map_nil]); first | done | rfl | (simp only [List.length_drop, List.length_take]; rfl)) ?_; (with_reducible refine (spec_l2Byte.calls (Int.tmod a0 256) t890001 _ A2.out).mono ?_); rintro e w9 ⟨rfl, hb⟩; refine ⟨_, rfl, ?_⟩; have n0_ := Aside0.mk (below_step (by repeat (first | (with_reducible first | exact HB.out | apply below_alloc | apply pw_below_drewN | apply below_drew1) | exact HB.out)) hb); clear HB; have HB := n0_; clear n0_; (try clear hb); (try clear hb2); (try clear hk); (try clear hi)) | ((with_reducible refine gate_callee (f := 90) rfl ?_); refine goesL_ (some 9) rfl rfl Tryd.func90 (by kernel_rfl) rfl #[.int .i64 (Int.tmod (wrap64 (Int.tdiv a0 256)) 256)] rfl (by (try simp only [List.map_toArray, List.map_cons, List.map_nil]); first | done | rfl | (simp only [List.length_drop, List.length_take]; rfl)) ?_; (with_reducible refine (spec_l2Byte.calls (Int.tmod (wrap64 (Int.tdiv a0 256)) 256) t890002 _ A3.out).mono ?_); rintro e w10 ⟨rfl, hb⟩; refine ⟨_, rfl, ?_⟩; have n0_ := Aside0.mk (below_step (by repeat (first | (with_reducible first | exact HB.out | apply below_alloc | apply pw_below_drewN | apply below_drew1) | exact HB.out)) hb); clear HB; have HB := n0_; clear n0_; (try clear hb); (try clear hb2); (try clear hk); (try clear hi)) | ((with_reducible refine gate_callee (f := 90) rfl ?_); refine goesL_ (some 14) rfl rfl Tryd.func90 (by kernel_rfl) rfl #[.int .i64 (Int.tmod (wrap64 (Int.tdiv a0 65536)) 256)] rfl (by (try simp only [List.map_toArray, List.map_cons, List.map_nil]); first | done | rfl | (simp only [List.length_drop, List.length_take]; rfl)) ?_; (with_reducible refine (spec_l2Byte.calls (Int.tmod (wrap64 (Int.tdiv a0 65536)) 256) t890003 _ A5.out).mono ?_); rintro e w11 ⟨rfl, hb⟩; refine ⟨_, rfl, ?_⟩; have n0_ := Aside0.mk (below_step (by repeat (first | (with_reducible first | exact HB.out | apply below_alloc | apply pw_below_drewN | apply below_drew1) | exact HB.out)) hb); clear HB; have HB := n0_; clear n0_; (try clear hb); (try clear hb2); (try clear hk); (try clear hi)) | ((with_reducible refine gate_callee (f := 90) rfl ?_); refine goesL_ (some 19) rfl rfl Tryd.func90 (by kernel_rfl) rfl #[.int .i64 (Int.tmod (wrap64 (Int.tdiv a0 16777216)) 256)] rfl (by (try simp only [List.map_toArray, List.map_cons, List.map_nil]); first | done | rfl | (simp only [List.length_drop, List.length_take]; rfl)) ?_; (with_reducible refine (spec_l2Byte.calls (Int.tmod (wrap64 (Int.tdiv a0 16777216)) 256) t890004 _ A7.out).mono ?_); rintro e w12 ⟨rfl, hb⟩; refine ⟨_, rfl, ?_⟩; have n0_ := Aside0.mk (below_step (by repeat (first | (with_reducible first | exact HB.out | apply below_alloc | apply pw_below_drewN | apply below_drew1) | exact HB.out)) hb); clear HB; have HB := n0_; clear n0_; (try clear hb); (try clear hb2); (try clear hk); (try clear hi)))
        go_ret
        exact ⟨by first | rfl | (simp [errW_none, errW_some] <;> rfl) | (simp [*, errW_none, errW_some] <;> rfl), by repeat (first | (with_reducible first | exact HB.out | apply below_alloc | apply pw_below_drewN | apply below_drew1) | exact HB.out)⟩
      · rw [if_neg c8] at H
        exact absurd H (by simp)
    · rw [if_neg c6] at H
      exact absurd H (by simp)
  · rw [if_neg c4] at H
    exact absurd H (by simp)

end Go.Proofs.YtmfejehhfmaodabDoor.Z

end

/- What spec.l1Long and spec.l2Sized return. -/
section
namespace Go.Proofs.YtmfejehhfmaodabDoor.Z
open Go.RowKit Go.Proofs.YtmfejehhfmaodabDoor
set_option linter.unusedVariables false
set_option linter.unusedSimpArgs false
/-- n times the byte c. -/
def rep (n : Nat) (c : UInt8) : ByteArray := ⟨(List.replicate n c).toArray⟩
theorem rep_size (n : Nat) (c : UInt8) : (rep n c).size = n := by simp [rep, ByteArray.size]
theorem rep_add (m n : Nat) (c : UInt8) : rep m c ++ rep n c = rep (m + n) c := by
  apply ByteArray.ext
  simp [rep, ByteArray.data_append]
theorem rep_one (c : UInt8) : rep 1 c = ⟨#[c]⟩ := rfl
theorem rep_zero (c : UInt8) : rep 0 c = ⟨#[]⟩ := rfl
set_option maxHeartbeats 400000 in
theorem l1Long_nat (c : UInt8) : ∀ (n : Nat), n ≤ 4294967296 → ∀ w, Calls Tryd.prog 115 #[.int .i64 n, .string (rep 1 c)] w fun e w' => e = .returned (.string (rep n c)) ∧ Below w.heap.size w w' := by
  intro n
  induction n using Nat.strongRecOn with | ind n ih =>
  intro hn w
  have HI := Lib.hid ih; clear ih
  by_cases h0 : n = 0
  · subst h0
    go_enter Tryd.func115, Tryd.ntmps115
    go_wp2
    go_loop [5] (fun s => s = .string ⟨#[]⟩) (fun _ => 0)
    case atStart => rfl
    case round =>
      subst hrel
      go_wp2
      go_ret
      exact ⟨rfl, by (repeat' (first | exact Below.refl _ _ | (with_reducible assumption) | (with_reducible refine Below.setCell ?_ (by first | (simp; done) | (simp; omega)) _) | refine below_then ?_ (by assumption) | (with_reducible refine below_new2 ?_ _) | (with_reducible refine Below.drew ?_) | (with_reducible refine bdrewN ?_ _)))⟩
  · have hb0 : decide (0 < n) = true := by simp; omega
    have hb1 : decide ((0:Int) < (n : Int)) = true := by simp; omega
    have hp : 0 < n := by omega
    clear h0
    go_enter Tryd.func115, Tryd.ntmps115
    go_wp2
    go_loop [5] (fun s => ∃ m : Nat, 1 ≤ m ∧ m ≤ n ∧ s = .string (rep m c)) (fun s => match s with | .string b => n - b.size | _ => 0)
    case atStart => exact ⟨1, by omega, by omega, rfl⟩
    case round =>
      obtain ⟨m, h1, hm, rfl⟩ := hrel
      have hsz := rep_size m c
      by_cases hc : m * 2 ≤ n
      · go_wp2
        go_round
        case rel => exact ⟨m + m, by omega, by omega, by rw [rep_add]⟩
        case measure => simp [rep_size, ← rep_add]; omega
      · by_cases hl : m < n
        · have hj : m + (n - m) = n := by omega
          have HJ := Lib.hid hj; clear hj
          have hq := rep_size (n - m) c
          have hsum : (rep m c).size + (rep (n - m) c).size ≤ 9223372036854775807 := by rw [hsz, hq]; omega
          go_wp2_with fail
          rw [show ((n : Int) - (m : Int)) = ((n - m : Nat) : Int) by omega]
          refine (HI.out (n - m) (by omega) (by omega) _).mono ?_
          rintro e w1 ⟨rfl, hb⟩
          go_wp2
          go_ret
          exact ⟨by rw [rep_add, HJ.out]; rfl, by (repeat' (first | exact Below.refl _ _ | (with_reducible assumption) | (with_reducible refine Below.setCell ?_ (by first | (simp; done) | (simp; omega)) _) | refine below_then ?_ (by assumption) | (with_reducible refine below_new2 ?_ _) | (with_reducible refine Below.drew ?_) | (with_reducible refine bdrewN ?_ _)))⟩
        · obtain rfl : m = n := by omega
          go_wp2
          go_ret
          exact ⟨rfl, by (repeat' (first | exact Below.refl _ _ | (with_reducible assumption) | (with_reducible refine Below.setCell ?_ (by first | (simp; done) | (simp; omega)) _) | refine below_then ?_ (by assumption) | (with_reducible refine below_new2 ?_ _) | (with_reducible refine Below.drew ?_) | (with_reducible refine bdrewN ?_ _)))⟩
/-- What spec.l1Long answers for a text of one byte. -/
def spec_l1Long.f (a0 : Int) (a1 : ByteArray) : Option ByteArray :=
  if 0 ≤ a0 ∧ a0 ≤ 4294967296 ∧ a1.size = 1 then some (rep a0.toNat (a1.data.getD 0 0)) else none
theorem one_byte (s : ByteArray) (h : s.size = 1) : s = rep 1 (s.data.getD 0 0) := by
  obtain ⟨⟨l⟩⟩ := s
  match l, h with
  | [c], _ => rfl
theorem spec_l1Long.calls (a0 : Int) (a1 r : ByteArray) (w : World) (h : spec_l1Long.f a0 a1 = some r) :
    Calls Tryd.prog 115 #[.int .i64 a0, .string a1] w fun e w' => e = .returned (.string r) ∧ Below w.heap.size w w' := by
  unfold spec_l1Long.f at h
  split at h
  · rename_i hc
    obtain ⟨h0, h1, h2⟩ := hc
    obtain ⟨n, rfl⟩ := Int.eq_ofNat_of_zero_le h0
    obtain rfl := Option.some.inj h
    rw [Int.toNat_natCast]
    have := l1Long_nat (a1.data.getD 0 0) n (by omega) w
    rw [← one_byte a1 h2] at this
    exact this
  · cases h
end Go.Proofs.YtmfejehhfmaodabDoor.Z

end

/- Contracts of functions of the program, written by a program of this session over the translation's print. -/
section
namespace Go.Proofs.YtmfejehhfmaodabDoor.Z
open Go.RowKit Go.Proofs.YtmfejehhfmaodabDoorW.PrintWords Go.Proofs.YtmfejehhfmaodabDoorW.PrintLast Go.Proofs.YtmfejehhfmaodabDoorW.PrintMore
attribute [local go_sem] max2_int min2_int max_two min_two max_three min_three max_four min_four   -- for this text's walks alone
set_option linter.unusedVariables false
set_option linter.unusedSimpArgs false

/-! ### spec_l2Marked: function 88 -/
def spec_l2Marked.l0 : Nat → ByteArray → ByteArray → ByteArray → ByteArray → Int → Option (ByteArray)
  | 0, _, _, _, _, _ => none
  | k + 1, x0, x1, x2, x7, x8 => if x8 < (x0.size : Int) then (if (wrap64 (x8 + 63)) ≤ (x0.size : Int) then (if 0 ≤ x8 then (if x8 ≤ (wrap64 (x8 + 63)) then (if x8 = 0 then (if x7.size + (x0.extract (x8 : Int).toNat ((wrap64 (x8 + 63)) : Int).toNat).size ≤ 9223372036854775807 then (if (x7 ++ (x0.extract (x8 : Int).toNat ((wrap64 (x8 + 63)) : Int).toNat)).size + x1.size ≤ 9223372036854775807 then (spec_l2Marked.l0 k x0 x1 x2 ((x7 ++ (x0.extract (x8 : Int).toNat ((wrap64 (x8 + 63)) : Int).toNat)) ++ x1) (wrap64 (x8 + 63))) else (none)) else (none)) else (if x7.size + (x0.extract (x8 : Int).toNat ((wrap64 (x8 + 63)) : Int).toNat).size ≤ 9223372036854775807 then (if (x7 ++ (x0.extract (x8 : Int).toNat ((wrap64 (x8 + 63)) : Int).toNat)).size + x2.size ≤ 9223372036854775807 then (spec_l2Marked.l0 k x0 x1 x2 ((x7 ++ (x0.extract (x8 : Int).toNat ((wrap64 (x8 + 63)) : Int).toNat)) ++ x2) (wrap64 (x8 + 63))) else (none)) else (none))) else (none)) else (none)) else (if 0 ≤ x8 then (if x8 ≤ (x0.size : Int) then ((spec_l1Long.f (wrap64 ((wrap64 (x8 + 63)) - (x0.size : Int))) (⟨#[0]⟩ : ByteArray)).bind fun t880001 => (if (x0.extract (x8 : Int).toNat x0.size).size + t880001.size ≤ 9223372036854775807 then (if x8 = 0 then (if x7.size + ((x0.extract (x8 : Int).toNat x0.size) ++ t880001).size ≤ 9223372036854775807 then (if (x7 ++ ((x0.extract (x8 : Int).toNat x0.size) ++ t880001)).size + x1.size ≤ 9223372036854775807 then (spec_l2Marked.l0 k x0 x1 x2 ((x7 ++ ((x0.extract (x8 : Int).toNat x0.size) ++ t880001)) ++ x1) (wrap64 (x8 + 63))) else (none)) else (none)) else (if x7.size + ((x0.extract (x8 : Int).toNat x0.size) ++ t880001).size ≤ 9223372036854775807 then (if (x7 ++ ((x0.extract (x8 : Int).toNat x0.size) ++ t880001)).size + x2.size ≤ 9223372036854775807 then (spec_l2Marked.l0 k x0 x1 x2 ((x7 ++ ((x0.extract (x8 : Int).toNat x0.size) ++ t880001)) ++ x2) (wrap64 (x8 + 63))) else (none)) else (none))) else (none))) else (none)) else (none))) else (some x7)
def spec_l2Marked.f (k : Nat) (a0 : ByteArray) (a1 : ByteArray) (a2 : ByteArray) : Option (ByteArray) := spec_l2Marked.l0 k a0 a1 a2 (⟨#[]⟩ : ByteArray) 0
theorem spec_l2Marked.mono_l : ∀ k, (∀ y0 y1 y2 y3 y4, LeO (spec_l2Marked.l0 k y0 y1 y2 y3 y4) (spec_l2Marked.l0 (k + 1) y0 y1 y2 y3 y4))
  | 0 => fun _ _ _ _ _ r h => by simp [spec_l2Marked.l0] at h
  | k + 1 => by
    have ih0 := spec_l2Marked.mono_l k
    · intro y0 y1 y2 y3 y4
      unfold spec_l2Marked.l0
      repeat' first
      | (with_reducible exact ih0 _ _ _ _ _)
      | (with_reducible exact LeO.refl _)
      | (with_reducible exact LeO.none _)
      | (with_reducible refine LeO.ite ?_ ?_)
      | (with_reducible refine LeO.bind ?_ (fun _ => ?_))
      | exact ih0 _ _ _ _ _
      | exact LeO.none _
      | refine LeO.ite ?_ ?_
      | refine LeO.bind ?_ (fun _ => ?_)
theorem spec_l2Marked.mono : ∀ a0 a1 a2 k, LeO (spec_l2Marked.f k a0 a1 a2) (spec_l2Marked.f (k + 1) a0 a1 a2) := by
  intro a0 a1 a2 k
  have ih0 := spec_l2Marked.mono_l k
  unfold spec_l2Marked.f
  repeat' first
      | (with_reducible exact ih0 _ _ _ _ _)
      | (with_reducible exact LeO.refl _)
      | (with_reducible exact LeO.none _)
      | (with_reducible refine LeO.ite ?_ ?_)
      | (with_reducible refine LeO.bind ?_ (fun _ => ?_))
      | exact ih0 _ _ _ _ _
      | exact LeO.none _
      | refine LeO.ite ?_ ?_
      | refine LeO.bind ?_ (fun _ => ?_)
def spec_l2Marked.T9 : Bool × List (List Nat × List Nat) := (true, [([], []), ([], []), ([0, 1], [0, 1]), ([], []), ([], []), ([4], [4]), ([3, 5], [3, 5]), ([6], [6]), ([2, 7], [2, 7]), ([8, 7, 0, 1, 2, 3, 4, 5, 6, 7, 8], [8])])
def spec_l2Marked.B9 : List Nat := [0, 0, 3, 0, 0, 16, 56, 120, 255, 511]
theorem spec_l2Marked.tab9 : rtab .any (opsOf Tryd.f88 9) = spec_l2Marked.T9 := by kernel_rfl
theorem spec_l2Marked.bits9 : waitsOk spec_l2Marked.T9.2 spec_l2Marked.B9 = true := by kernel_rfl
set_option maxHeartbeats 8000000 in
set_option maxRecDepth 100000 in
theorem spec_l2Marked.calls (k : Nat) (a0 : ByteArray) (a1 : ByteArray) (a2 : ByteArray) (r : ByteArray) (w : World) (h : spec_l2Marked.f k a0 a1 a2 = some r) :
    Calls Tryd.prog 88 #[.string a0, .string a1, .string a2] w fun e w' => e = .returned (.string r) ∧ Below w.heap.size w w' := by
  have HB := Aside0.mk (Below.refl w.heap.size w)
  have H : (spec_l2Marked.l0 k a0 a1 a2 (⟨#[]⟩ : ByteArray) 0) = some r := h
  clear h
  have H' := Aside0.mk H
  clear H
  go_enter Tryd.func88, Tryd.ntmps88
  go_wp2
  go_loopg [7, 8] k (fun kq v7 v8 w' => ∃ (x7_1 : ByteArray) (x8_1 : Int), v7 = .string x7_1 ∧ v8 = .int .i64 x8_1 ∧ Aside0 (spec_l2Marked.l0 kq a0 a1 a2 x7_1 x8_1 = some r) ∧ Aside0 (kq ≤ k) ∧ Aside0 (Below w.heap.size w w'))
  case atStart => exact ⟨((⟨#[]⟩ : ByteArray)), (0), (by first | rfl | (simp; done) | (simp [*]; done)), (by first | rfl | (simp; done) | (simp [*]; done)), H', ⟨Nat.le_refl _⟩, ⟨by repeat (first | (with_reducible first | exact HB.out | apply below_alloc | apply pw_below_drewN | apply below_drew1) | exact HB.out)⟩⟩
  case round =>
    clear H'
    try clear p2
    obtain ⟨x7_1, x8_1, rfl, rfl, HA, HK1, HB⟩ := hrel
    cases gk with
    | zero => exact absurd HA.out (by simp [spec_l2Marked.l0])
    | succ k1 =>
      have H := HA.out
      clear HA
      simp only [spec_l2Marked.l0] at H
      by_cases c4 : x8_1 < (a0.size : Int)
      · rw [if_pos c4] at H
        have c4b0 : decide (x8_1 < (a0.size : Int)) = true := decide_eq_true c4
        clear c4
        by_cases c5 : (wrap64 (x8_1 + 63)) ≤ (a0.size : Int)
        · rw [if_pos c5] at H
          have c5b0 : decide ((wrap64 (x8_1 + 63)) ≤ (a0.size : Int)) = true := decide_eq_true c5
          clear c5
          by_cases c6 : 0 ≤ x8_1
          · rw [if_pos c6] at H
            have c6b0 := eq_true c6
            have c6b1 : decide (0 ≤ x8_1) = true := decide_eq_true c6
            clear c6
            by_cases c7 : x8_1 ≤ (wrap64 (x8_1 + 63))
            · rw [if_pos c7] at H
              have c7b0 := eq_true c7
              have c7b1 : decide (x8_1 ≤ (wrap64 (x8_1 + 63))) = true := decide_eq_true c7
              have c8b0 := eq_true (of_decide_eq_true (by first | (with_reducible assumption) | assumption) : (wrap64 (x8_1 + 63)) ≤ (a0.size : Int))
              by_cases c9 : x8_1 = 0
              · rw [if_pos c9] at H
                have c9b0 : (x8_1 == 0) = true := beq_iff_eq.mpr c9
                have c9b1 : (x8_1 != 0) = false := bne_eq_false_iff_eq.mpr c9
                clear c9
                by_cases c10 : x7_1.size + (a0.extract (x8_1 : Int).toNat ((wrap64 (x8_1 + 63)) : Int).toNat).size ≤ 9223372036854775807
                · rw [if_pos c10] at H
                  have c10b0 := eq_true c10
                  have c10b1 : decide (x7_1.size + (a0.extract (x8_1 : Int).toNat ((wrap64 (x8_1 + 63)) : Int).toNat).size ≤ 9223372036854775807) = true := decide_eq_true c10
                  try have c10b2 : (9223372036854775807 < x7_1.size + (a0.extract (x8_1 : Int).toNat ((wrap64 (x8_1 + 63)) : Int).toNat).size) = False := eq_false (Nat.not_lt.2 c10)
                  try (have c10b3 := c10b2; simp only [ByteArray.size_append, ByteArray.size_extract, Nat.min_self] at c10b3)
                  by_cases c11 : (x7_1 ++ (a0.extract (x8_1 : Int).toNat ((wrap64 (x8_1 + 63)) : Int).toNat)).size + a1.size ≤ 9223372036854775807
                  · rw [if_pos c11] at H
                    have c11b0 := eq_true c11
                    have c11b1 : decide ((x7_1 ++ (a0.extract (x8_1 : Int).toNat ((wrap64 (x8_1 + 63)) : Int).toNat)).size + a1.size ≤ 9223372036854775807) = true := decide_eq_true c11
                    try have c11b2 : (9223372036854775807 < (x7_1 ++ (a0.extract (x8_1 : Int).toNat ((wrap64 (x8_1 + 63)) : Int).toNat)).size + a1.size) = False := eq_false (Nat.not_lt.2 c11)
                    try (have c11b3 := c11b2; simp only [ByteArray.size_append, ByteArray.size_extract, Nat.min_self] at c11b3)
                    have H' := Aside0.mk H
                    clear H
                    go_wp2
                    go_roundg k1
                    case measure => have := HK1.out; omega
                    case rel => exact ⟨((x7_1 ++ (a0.extract (x8_1 : Int).toNat ((wrap64 (x8_1 + 63)) : Int).toNat)) ++ a1), (wrap64 (x8_1 + 63)), (by first | rfl | (simp; done) | (simp [*]; done)), (by first | rfl | (simp; done) | (simp [*]; done)), H', ⟨by have := HK1.out; omega⟩, ⟨by repeat (first | (with_reducible first | exact HB.out | apply below_alloc | apply pw_below_drewN | apply below_drew1) | exact HB.out)⟩⟩
                  · rw [if_neg c11] at H
                    exact absurd H (by simp)
                · rw [if_neg c10] at H
                  exact absurd H (by simp)
              · rw [if_neg c9] at H
                have c9b0 : (x8_1 == 0) = false := beq_eq_false_iff_ne.mpr c9
                have c9b1 : (x8_1 != 0) = true := bne_iff_ne.mpr c9
                by_cases c12 : x7_1.size + (a0.extract (x8_1 : Int).toNat ((wrap64 (x8_1 + 63)) : Int).toNat).size ≤ 9223372036854775807
                · rw [if_pos c12] at H
                  have c12b0 := eq_true c12
                  have c12b1 : decide (x7_1.size + (a0.extract (x8_1 : Int).toNat ((wrap64 (x8_1 + 63)) : Int).toNat).size ≤ 9223372036854775807) = true := decide_eq_true c12
                  try have c12b2 : (9223372036854775807 < x7_1.size + (a0.extract (x8_1 : Int).toNat ((wrap64 (x8_1 + 63)) : Int).toNat).size) = False := eq_false (Nat.not_lt.2 c12)
                  try (have c12b3 := c12b2; simp only [ByteArray.size_append, ByteArray.size_extract, Nat.min_self] at c12b3)
                  by_cases c13 : (x7_1 ++ (a0.extract (x8_1 : Int).toNat ((wrap64 (x8_1 + 63)) : Int).toNat)).size + a2.size ≤ 9223372036854775807
                  · rw [if_pos c13] at H
                    have c13b0 := eq_true c13
                    have c13b1 : decide ((x7_1 ++ (a0.extract (x8_1 : Int).toNat ((wrap64 (x8_1 + 63)) : Int).toNat)).size + a2.size ≤ 9223372036854775807) = true := decide_eq_true c13
                    try have c13b2 : (9223372036854775807 < (x7_1 ++ (a0.extract (x8_1 : Int).toNat ((wrap64 (x8_1 + 63)) : Int).toNat)).size + a2.size) = False := eq_false (Nat.not_lt.2 c13)
                    try (have c13b3 := c13b2; simp only [ByteArray.size_append, ByteArray.size_extract, Nat.min_self] at c13b3)
                    have H' := Aside0.mk H
                    clear H
                    go_wp2
                    go_roundg k1
                    case measure => have := HK1.out; omega
                    case rel => exact ⟨((x7_1 ++ (a0.extract (x8_1 : Int).toNat ((wrap64 (x8_1 + 63)) : Int).toNat)) ++ a2), (wrap64 (x8_1 + 63)), (by first | rfl | (simp; done) | (simp [*]; done)), (by first | rfl | (simp; done) | (simp [*]; done)), H', ⟨by have := HK1.out; omega⟩, ⟨by repeat (first | (with_reducible first | exact HB.out | apply below_alloc | apply pw_below_drewN | apply below_drew1) | exact HB.out)⟩⟩
                  · rw [if_neg c13] at H
                    exact absurd H (by simp)
                · rw [if_neg c12] at H
                  exact absurd H (by simp)
            · rw [if_neg c7] at H
              exact absurd H (by simp)
          · rw [if_neg c6] at H
            exact absurd H (by simp)
        · rw [if_neg c5] at H
          have c5b0 : decide ((wrap64 (x8_1 + 63)) ≤ (a0.size : Int)) = false := decide_eq_false c5
          clear c5
          by_cases c14 : 0 ≤ x8_1
          · rw [if_pos c14] at H
            have c14b0 := eq_true c14
            have c14b1 : decide (0 ≤ x8_1) = true := decide_eq_true c14
            clear c14
            by_cases c15 : x8_1 ≤ (a0.size : Int)
            · rw [if_pos c15] at H
              have c15b0 := eq_true c15
              have c15b1 : decide (x8_1 ≤ (a0.size : Int)) = true := decide_eq_true c15
              clear c15
              replace H := Option.bind_eq_some_iff.mp H
              obtain ⟨t880001, A160, H⟩ := H
              replace H : (if (a0.extract (x8_1 : Int).toNat a0.size).size + t880001.size ≤ 9223372036854775807 then (if x8_1 = 0 then (if x7_1.size + ((a0.extract (x8_1 : Int).toNat a0.size) ++ t880001).size ≤ 9223372036854775807 then (if (x7_1 ++ ((a0.extract (x8_1 : Int).toNat a0.size) ++ t880001)).size + a1.size ≤ 9223372036854775807 then (spec_l2Marked.l0 k1 a0 a1 a2 ((x7_1 ++ ((a0.extract (x8_1 : Int).toNat a0.size) ++ t880001)) ++ a1) (wrap64 (x8_1 + 63))) else (none)) else (none)) else (if x7_1.size + ((a0.extract (x8_1 : Int).toNat a0.size) ++ t880001).size ≤ 9223372036854775807 then (if (x7_1 ++ ((a0.extract (x8_1 : Int).toNat a0.size) ++ t880001)).size + a2.size ≤ 9223372036854775807 then (spec_l2Marked.l0 k1 a0 a1 a2 ((x7_1 ++ ((a0.extract (x8_1 : Int).toNat a0.size) ++ t880001)) ++ a2) (wrap64 (x8_1 + 63))) else (none)) else (none))) else (none)) = some r := H
              have A16 := Aside0.mk A160
              clear A160
              by_cases c17 : (a0.extract (x8_1 : Int).toNat a0.size).size + t880001.size ≤ 9223372036854775807
              · rw [if_pos c17] at H
                have c17b0 := eq_true c17
                have c17b1 : decide ((a0.extract (x8_1 : Int).toNat a0.size).size + t880001.size ≤ 9223372036854775807) = true := decide_eq_true c17
                try have c17b2 : (9223372036854775807 < (a0.extract (x8_1 : Int).toNat a0.size).size + t880001.size) = False := eq_false (Nat.not_lt.2 c17)
                try (have c17b3 := c17b2; simp only [ByteArray.size_append, ByteArray.size_extract, Nat.min_self] at c17b3)
                by_cases c18 : x8_1 = 0
                · rw [if_pos c18] at H
                  have c18b0 : (x8_1 == 0) = true := beq_iff_eq.mpr c18
                  have c18b1 : (x8_1 != 0) = false := bne_eq_false_iff_eq.mpr c18
                  clear c18
                  by_cases c19 : x7_1.size + ((a0.extract (x8_1 : Int).toNat a0.size) ++ t880001).size ≤ 9223372036854775807
                  · rw [if_pos c19] at H
                    have c19b0 := eq_true c19
                    have c19b1 : decide (x7_1.size + ((a0.extract (x8_1 : Int).toNat a0.size) ++ t880001).size ≤ 9223372036854775807) = true := decide_eq_true c19
                    try have c19b2 : (9223372036854775807 < x7_1.size + ((a0.extract (x8_1 : Int).toNat a0.size) ++ t880001).size) = False := eq_false (Nat.not_lt.2 c19)
                    try (have c19b3 := c19b2; simp only [ByteArray.size_append, ByteArray.size_extract, Nat.min_self] at c19b3)
                    by_cases c20 : (x7_1 ++ ((a0.extract (x8_1 : Int).toNat a0.size) ++ t880001)).size + a1.size ≤ 9223372036854775807
                    · rw [if_pos c20] at H
                      have c20b0 := eq_true c20
                      have c20b1 : decide ((x7_1 ++ ((a0.extract (x8_1 : Int).toNat a0.size) ++ t880001)).size + a1.size ≤ 9223372036854775807) = true := decide_eq_true c20
                      try have c20b2 : (9223372036854775807 < (x7_1 ++ ((a0.extract (x8_1 : Int).toNat a0.size) ++ t880001)).size + a1.size) = False := eq_false (Nat.not_lt.2 c20)
                      try (have c20b3 := c20b2; simp only [ByteArray.size_append, ByteArray.size_extract, Nat.min_self] at c20b3)
                      have H' := Aside0.mk H
                      clear H
                      try go_wp2
                      have n0_ := Aside0.mk (below_drew1 HB.out)
                      clear HB
                      have HB := n0_
                      clear n0_
                      refine start_ (n := 10) (S := fun w' => True) (ds := []) #[false, false, false, false, false, false, false, false, false, false] (by kernel_rfl) rfl rfl trivial (fun hHeld => ?_); refine with_tabW spec_l2Marked.tab9 spec_l2Marked.bits9 (fun HT_ HW_ => ?_)
                      generalize wr.drew = w21 at HB hHeld ⊢
                      refine pure_ (i := 0) (N := some 27) (v := ?_) (a' := ?_) #[true, false, false, false, false, false, false, false, false, false] rfl rfl (any_of HT_.out (by kernel_rfl)) (fun _ _ _ h => h) (Or.inl ⟨by rfl, ?_⟩) ?_ ?_
                      rotate_left
                      · intro w'
                        go_simp
                        with_reducible rfl
                      rotate_left
                      · simp only [Act.put, List.setIfInBounds_toArray, List.set_cons_zero, List.set_cons_succ, i64_w, i32_w]
                        rfl
                      refine pure_ (i := 1) (N := some 28) (v := ?_) (a' := ?_) #[true, true, false, false, false, false, false, false, false, false] rfl rfl (any_of HT_.out (by kernel_rfl)) (fun _ _ _ h => h) (Or.inl ⟨by rfl, ?_⟩) ?_ ?_
                      rotate_left
                      · intro w'
                        go_simp
                        with_reducible rfl
                      rotate_left
                      · simp only [Act.put, List.setIfInBounds_toArray, List.set_cons_zero, List.set_cons_succ, i64_w, i32_w]
                        rfl
                      refine pure_ (i := 2) (N := some 29) (v := ?_) (a' := ?_) #[true, true, true, false, false, false, false, false, false, false] rfl rfl (any_of HT_.out (by kernel_rfl)) (fun _ _ _ h => h) (Or.inl ⟨by rfl, ?_⟩) ?_ ?_
                      rotate_left
                      · intro w'
                        go_simp
                        with_reducible rfl
                      rotate_left
                      · simp only [Act.put, List.setIfInBounds_toArray, List.set_cons_zero, List.set_cons_succ, i64_w, i32_w]
                        rfl
                      refine pure_ (i := 3) (N := some 30) (v := ?_) (a' := ?_) #[true, true, true, true, false, false, false, false, false, false] rfl rfl (any_of HT_.out (by kernel_rfl)) (fun _ _ _ h => h) (Or.inl ⟨by rfl, ?_⟩) ?_ ?_
                      rotate_left
                      · intro w'
                        go_simp
                        with_reducible rfl
                      rotate_left
                      · simp only [Act.put, List.setIfInBounds_toArray, List.set_cons_zero, List.set_cons_succ, i64_w, i32_w]
                        rfl
                      refine pure_ (i := 4) (N := some 31) (v := ?_) (a' := ?_) #[true, true, true, true, true, false, false, false, false, false] rfl rfl (any_of HT_.out (by kernel_rfl)) (fun _ _ _ h => h) (Or.inl ⟨by rfl, ?_⟩) ?_ ?_
                      rotate_left
                      · intro w'
                        go_simp
                        with_reducible rfl
                      rotate_left
                      · simp only [Act.put, List.setIfInBounds_toArray, List.set_cons_zero, List.set_cons_succ, i64_w, i32_w]
                        rfl
                      refine pure_ (i := 5) (N := some 32) (v := ?_) (a' := ?_) #[true, true, true, true, true, true, false, false, false, false] rfl rfl (any_of HT_.out (by kernel_rfl)) (fun _ _ _ h => h) (Or.inl ⟨by rfl, ?_⟩) ?_ ?_
                      rotate_left
                      · intro w'
                        go_simp
                        with_reducible rfl
                      rotate_left
                      · simp only [Act.put, List.setIfInBounds_toArray, List.set_cons_zero, List.set_cons_succ, i64_w, i32_w]
                        rfl
                      refine pure_ (i := 6) (N := some 33) (v := ?_) (a' := ?_) #[true, true, true, true, true, true, true, false, false, false] rfl rfl (any_of HT_.out (by kernel_rfl)) (fun _ _ _ h => h) (Or.inl ⟨by rfl, ?_⟩) ?_ ?_
                      rotate_left
                      · intro w'
                        go_simp
                        with_reducible rfl
                      rotate_left
                      · simp only [Act.put, List.setIfInBounds_toArray, List.set_cons_zero, List.set_cons_succ, i64_w, i32_w]
                        rfl
                      refine one_ (i := 7) (N := some 34) #[true, true, true, true, true, true, true, true, false, false] rfl rfl (one_of HT_.out (by kernel_rfl)) (by decide) (fun K hK => ?_)
                      refine goes_ Tryd.func115 (by kernel_rfl) rfl #[.int .i64 (wrap64 ((wrap64 (x8_1 + 63)) - (a0.size : Int))), .string (⟨#[0]⟩ : ByteArray)] (by rfl) rfl rfl (by (try simp only [List.map_toArray, List.map_cons, List.map_nil]); first | done | rfl | (simp only [List.length_drop, List.length_take]; rfl)) ?_
                      with_reducible refine (spec_l1Long.calls (wrap64 ((wrap64 (x8_1 + 63)) - (a0.size : Int))) (⟨#[0]⟩ : ByteArray) t880001 _ A16.out).mono ?_
                      rintro e w22 ⟨rfl, hb⟩
                      refine ⟨_, rfl, ?_⟩
                      have n0_ := Aside0.mk (below_step (by repeat (first | (with_reducible first | exact HB.out | apply below_alloc | apply pw_below_drewN | apply below_drew1) | exact HB.out)) hb)
                      clear HB
                      have HB := n0_
                      clear n0_
                      (try clear hb)
                      (try clear hb2)
                      (try clear hk)
                      (try clear hi)
                      refine hK.out _ _ trivial (fun hHeld => ?_)
                      clear hK K
                      refine norm_ (a' := ?_) ?_ ?_
                      rotate_left
                      · show Act.put _ (some 34) _ = _
                        simp only [Act.put, List.setIfInBounds_toArray, List.set_cons_zero, List.set_cons_succ, i64_w, i32_w]
                        rfl
                      refine pure_ (i := 8) (N := some 35) (v := ?_) (a' := ?_) #[true, true, true, true, true, true, true, true, true, false] rfl rfl (any_of HT_.out (by kernel_rfl)) (fun _ _ _ h => h) (Or.inl ⟨by rfl, ?_⟩) ?_ ?_
                      rotate_left
                      · intro w'
                        go_simp
                        with_reducible rfl
                      rotate_left
                      · simp only [Act.put, List.setIfInBounds_toArray, List.set_cons_zero, List.set_cons_succ, i64_w, i32_w]
                        rfl
                      refine pure_ (i := 9) (N := some 10) (v := ?_) (a' := ?_) #[true, true, true, true, true, true, true, true, true, true] rfl rfl (any_of HT_.out (by kernel_rfl)) (fun _ _ _ h => h) (Or.inl ⟨by rfl, ?_⟩) ?_ ?_
                      rotate_left
                      · intro w'
                        go_simp
                        with_reducible rfl
                      rotate_left
                      · simp only [Act.put, List.setIfInBounds_toArray, List.set_cons_zero, List.set_cons_succ, i64_w, i32_w]
                        rfl
                      refine done_ (done_of HT_.out (by kernel_rfl)) ?_
                      try go_wp2
                      go_roundg k1
                      case measure => have := HK1.out; omega
                      case rel => exact ⟨((x7_1 ++ ((a0.extract (x8_1 : Int).toNat a0.size) ++ t880001)) ++ a1), (wrap64 (x8_1 + 63)), (by first | rfl | (simp; done) | (simp [*]; done)), (by first | rfl | (simp; done) | (simp [*]; done)), H', ⟨by have := HK1.out; omega⟩, ⟨by repeat (first | (with_reducible first | exact HB.out | apply below_alloc | apply pw_below_drewN | apply below_drew1) | exact HB.out)⟩⟩
                    · rw [if_neg c20] at H
                      exact absurd H (by simp)
                  · rw [if_neg c19] at H
                    exact absurd H (by simp)
                · rw [if_neg c18] at H
                  have c18b0 : (x8_1 == 0) = false := beq_eq_false_iff_ne.mpr c18
                  have c18b1 : (x8_1 != 0) = true := bne_iff_ne.mpr c18
                  by_cases c23 : x7_1.size + ((a0.extract (x8_1 : Int).toNat a0.size) ++ t880001).size ≤ 9223372036854775807
                  · rw [if_pos c23] at H
                    have c23b0 := eq_true c23
                    have c23b1 : decide (x7_1.size + ((a0.extract (x8_1 : Int).toNat a0.size) ++ t880001).size ≤ 9223372036854775807) = true := decide_eq_true c23
                    try have c23b2 : (9223372036854775807 < x7_1.size + ((a0.extract (x8_1 : Int).toNat a0.size) ++ t880001).size) = False := eq_false (Nat.not_lt.2 c23)
                    try (have c23b3 := c23b2; simp only [ByteArray.size_append, ByteArray.size_extract, Nat.min_self] at c23b3)
                    by_cases c24 : (x7_1 ++ ((a0.extract (x8_1 : Int).toNat a0.size) ++ t880001)).size + a2.size ≤ 9223372036854775807
                    · rw [if_pos c24] at H
                      have c24b0 := eq_true c24
                      have c24b1 : decide ((x7_1 ++ ((a0.extract (x8_1 : Int).toNat a0.size) ++ t880001)).size + a2.size ≤ 9223372036854775807) = true := decide_eq_true c24
                      try have c24b2 : (9223372036854775807 < (x7_1 ++ ((a0.extract (x8_1 : Int).toNat a0.size) ++ t880001)).size + a2.size) = False := eq_false (Nat.not_lt.2 c24)
                      try (have c24b3 := c24b2; simp only [ByteArray.size_append, ByteArray.size_extract, Nat.min_self] at c24b3)
                      have H' := Aside0.mk H
                      clear H
                      try go_wp2
                      have n0_ := Aside0.mk (below_drew1 HB.out)
                      clear HB
                      have HB := n0_
                      clear n0_
                      refine start_ (n := 10) (S := fun w' => True) (ds := []) #[false, false, false, false, false, false, false, false, false, false] (by kernel_rfl) rfl rfl trivial (fun hHeld => ?_); refine with_tabW spec_l2Marked.tab9 spec_l2Marked.bits9 (fun HT_ HW_ => ?_)
                      generalize wr.drew = w25 at HB hHeld ⊢
                      refine pure_ (i := 0) (N := some 27) (v := ?_) (a' := ?_) #[true, false, false, false, false, false, false, false, false, false] rfl rfl (any_of HT_.out (by kernel_rfl)) (fun _ _ _ h => h) (Or.inl ⟨by rfl, ?_⟩) ?_ ?_
                      rotate_left
                      · intro w'
                        go_simp
                        with_reducible rfl
                      rotate_left
                      · simp only [Act.put, List.setIfInBounds_toArray, List.set_cons_zero, List.set_cons_succ, i64_w, i32_w]
                        rfl
                      refine pure_ (i := 1) (N := some 28) (v := ?_) (a' := ?_) #[true, true, false, false, false, false, false, false, false, false] rfl rfl (any_of HT_.out (by kernel_rfl)) (fun _ _ _ h => h) (Or.inl ⟨by rfl, ?_⟩) ?_ ?_
                      rotate_left
                      · intro w'
                        go_simp
                        with_reducible rfl
                      rotate_left
                      · simp only [Act.put, List.setIfInBounds_toArray, List.set_cons_zero, List.set_cons_succ, i64_w, i32_w]
                        rfl
                      refine pure_ (i := 2) (N := some 29) (v := ?_) (a' := ?_) #[true, true, true, false, false, false, false, false, false, false] rfl rfl (any_of HT_.out (by kernel_rfl)) (fun _ _ _ h => h) (Or.inl ⟨by rfl, ?_⟩) ?_ ?_
                      rotate_left
                      · intro w'
                        go_simp
                        with_reducible rfl
                      rotate_left
                      · simp only [Act.put, List.setIfInBounds_toArray, List.set_cons_zero, List.set_cons_succ, i64_w, i32_w]
                        rfl
                      refine pure_ (i := 3) (N := some 30) (v := ?_) (a' := ?_) #[true, true, true, true, false, false, false, false, false, false] rfl rfl (any_of HT_.out (by kernel_rfl)) (fun _ _ _ h => h) (Or.inl ⟨by rfl, ?_⟩) ?_ ?_
                      rotate_left
                      · intro w'
                        go_simp
                        with_reducible rfl
                      rotate_left
                      · simp only [Act.put, List.setIfInBounds_toArray, List.set_cons_zero, List.set_cons_succ, i64_w, i32_w]
                        rfl
                      refine pure_ (i := 4) (N := some 31) (v := ?_) (a' := ?_) #[true, true, true, true, true, false, false, false, false, false] rfl rfl (any_of HT_.out (by kernel_rfl)) (fun _ _ _ h => h) (Or.inl ⟨by rfl, ?_⟩) ?_ ?_
                      rotate_left
                      · intro w'
                        go_simp
                        with_reducible rfl
                      rotate_left
                      · simp only [Act.put, List.setIfInBounds_toArray, List.set_cons_zero, List.set_cons_succ, i64_w, i32_w]
                        rfl
                      refine pure_ (i := 5) (N := some 32) (v := ?_) (a' := ?_) #[true, true, true, true, true, true, false, false, false, false] rfl rfl (any_of HT_.out (by kernel_rfl)) (fun _ _ _ h => h) (Or.inl ⟨by rfl, ?_⟩) ?_ ?_
                      rotate_left
                      · intro w'
                        go_simp
                        with_reducible rfl
                      rotate_left
                      · simp only [Act.put, List.setIfInBounds_toArray, List.set_cons_zero, List.set_cons_succ, i64_w, i32_w]
                        rfl
                      refine pure_ (i := 6) (N := some 33) (v := ?_) (a' := ?_) #[true, true, true, true, true, true, true, false, false, false] rfl rfl (any_of HT_.out (by kernel_rfl)) (fun _ _ _ h => h) (Or.inl ⟨by rfl, ?_⟩) ?_ ?_
                      rotate_left
                      · intro w'
                        go_simp
                        with_reducible rfl
                      rotate_left
                      · simp only [Act.put, List.setIfInBounds_toArray, List.set_cons_zero, List.set_cons_succ, i64_w, i32_w]
                        rfl
                      refine one_ (i := 7) (N := some 34) #[true, true, true, true, true, true, true, true, false, false] rfl rfl (one_of HT_.out (by kernel_rfl)) (by decide) (fun K hK => ?_)
                      refine goes_ Tryd.func115 (by kernel_rfl) rfl #[.int .i64 (wrap64 ((wrap64 (x8_1 + 63)) - (a0.size : Int))), .string (⟨#[0]⟩ : ByteArray)] (by rfl) rfl rfl (by (try simp only [List.map_toArray, List.map_cons, List.map_nil]); first | done | rfl | (simp only [List.length_drop, List.length_take]; rfl)) ?_
                      with_reducible refine (spec_l1Long.calls (wrap64 ((wrap64 (x8_1 + 63)) - (a0.size : Int))) (⟨#[0]⟩ : ByteArray) t880001 _ A16.out).mono ?_
                      rintro e w26 ⟨rfl, hb⟩
                      refine ⟨_, rfl, ?_⟩
                      have n0_ := Aside0.mk (below_step (by repeat (first | (with_reducible first | exact HB.out | apply below_alloc | apply pw_below_drewN | apply below_drew1) | exact HB.out)) hb)
                      clear HB
                      have HB := n0_
                      clear n0_
                      (try clear hb)
                      (try clear hb2)
                      (try clear hk)
                      (try clear hi)
                      refine hK.out _ _ trivial (fun hHeld => ?_)
                      clear hK K
                      refine norm_ (a' := ?_) ?_ ?_
                      rotate_left
                      · show Act.put _ (some 34) _ = _
                        simp only [Act.put, List.setIfInBounds_toArray, List.set_cons_zero, List.set_cons_succ, i64_w, i32_w]
                        rfl
                      refine pure_ (i := 8) (N := some 35) (v := ?_) (a' := ?_) #[true, true, true, true, true, true, true, true, true, false] rfl rfl (any_of HT_.out (by kernel_rfl)) (fun _ _ _ h => h) (Or.inl ⟨by rfl, ?_⟩) ?_ ?_
                      rotate_left
                      · intro w'
                        go_simp
                        with_reducible rfl
                      rotate_left
                      · simp only [Act.put, List.setIfInBounds_toArray, List.set_cons_zero, List.set_cons_succ, i64_w, i32_w]
                        rfl
                      refine pure_ (i := 9) (N := some 10) (v := ?_) (a' := ?_) #[true, true, true, true, true, true, true, true, true, true] rfl rfl (any_of HT_.out (by kernel_rfl)) (fun _ _ _ h => h) (Or.inl ⟨by rfl, ?_⟩) ?_ ?_
                      rotate_left
                      · intro w'
                        go_simp
                        with_reducible rfl
                      rotate_left
                      · simp only [Act.put, List.setIfInBounds_toArray, List.set_cons_zero, List.set_cons_succ, i64_w, i32_w]
                        rfl
                      refine done_ (done_of HT_.out (by kernel_rfl)) ?_
                      try go_wp2
                      go_roundg k1
                      case measure => have := HK1.out; omega
                      case rel => exact ⟨((x7_1 ++ ((a0.extract (x8_1 : Int).toNat a0.size) ++ t880001)) ++ a2), (wrap64 (x8_1 + 63)), (by first | rfl | (simp; done) | (simp [*]; done)), (by first | rfl | (simp; done) | (simp [*]; done)), H', ⟨by have := HK1.out; omega⟩, ⟨by repeat (first | (with_reducible first | exact HB.out | apply below_alloc | apply pw_below_drewN | apply below_drew1) | exact HB.out)⟩⟩
                    · rw [if_neg c24] at H
                      exact absurd H (by simp)
                  · rw [if_neg c23] at H
                    exact absurd H (by simp)
              · rw [if_neg c17] at H
                exact absurd H (by simp)
            · rw [if_neg c15] at H
              exact absurd H (by simp)
          · rw [if_neg c14] at H
            exact absurd H (by simp)
      · rw [if_neg c4] at H
        have c4b0 : decide (x8_1 < (a0.size : Int)) = false := decide_eq_false c4
        clear c4
        obtain rfl := Option.some.inj H
        go_wp2
        go_ret
        exact ⟨by first | rfl | (simp [errW_none, errW_some] <;> rfl) | (simp [*, errW_none, errW_some] <;> rfl), by repeat (first | (with_reducible first | exact HB.out | apply below_alloc | apply pw_below_drewN | apply below_drew1) | exact HB.out)⟩

end Go.Proofs.YtmfejehhfmaodabDoor.Z

end

/- Contracts of functions of the program, written by a program of this session over the translation's print. -/
section
namespace Go.Proofs.YtmfejehhfmaodabDoor.Z
open Go.RowKit Go.Proofs.YtmfejehhfmaodabDoorW.PrintWords Go.Proofs.YtmfejehhfmaodabDoorW.PrintLast Go.Proofs.YtmfejehhfmaodabDoorW.PrintMore
attribute [local go_sem] max2_int min2_int max_two min_two max_three min_three max_four min_four   -- for this text's walks alone
set_option linter.unusedVariables false
set_option linter.unusedSimpArgs false

/-! ### spec_CommitRecord: function 52 -/
def spec_CommitRecord.j0 : Nat → Int → ByteArray → Bool → Option (ByteArray)
  | 0, _, _, _ => none
  | k + 1, x0, x1, x15 => if x15 = true then (some (⟨#[]⟩ : ByteArray)) else ((spec_l2Four.f x0).bind fun t520001 => ((spec_l2Byte.f (x1.size : Int)).bind fun t520002 => (if t520001.size + t520002.size ≤ 9223372036854775807 then (if (t520001 ++ t520002).size + x1.size ≤ 9223372036854775807 then ((spec_l2Marked.f k ((t520001 ++ t520002) ++ x1) (⟨#[67]⟩ : ByteArray) (⟨#[]⟩ : ByteArray)).bind fun t520003 => (some t520003)) else (none)) else (none))))
def spec_CommitRecord.f (k : Nat) (a0 : Int) (a1 : ByteArray) : Option (ByteArray) := if a0 < 1 then (spec_CommitRecord.j0 k a0 a1 true) else (if a0 > 1000000 then (spec_CommitRecord.j0 k a0 a1 true) else (spec_CommitRecord.j0 k a0 a1 (decide ((a1.size : Int) > 32))))
theorem spec_CommitRecord.mono_l : ∀ k, (∀ y0 y1 y2, LeO (spec_CommitRecord.j0 k y0 y1 y2) (spec_CommitRecord.j0 (k + 1) y0 y1 y2))
  | 0 => fun _ _ _ r h => by simp [spec_CommitRecord.j0] at h
  | k + 1 => by
    have ih0 := spec_CommitRecord.mono_l k
    · intro y0 y1 y2
      unfold spec_CommitRecord.j0
      repeat' first
      | (with_reducible exact ih0 _ _ _)
      | (with_reducible exact spec_l2Marked.mono _ _ _ _)
      | (with_reducible exact LeO.refl _)
      | (with_reducible exact LeO.none _)
      | (with_reducible refine LeO.ite ?_ ?_)
      | (with_reducible refine LeO.bind ?_ (fun _ => ?_))
      | exact ih0 _ _ _
      | exact spec_l2Marked.mono _ _ _ _
      | exact LeO.none _
      | refine LeO.ite ?_ ?_
      | refine LeO.bind ?_ (fun _ => ?_)
theorem spec_CommitRecord.mono : ∀ a0 a1 k, LeO (spec_CommitRecord.f k a0 a1) (spec_CommitRecord.f (k + 1) a0 a1) := by
  intro a0 a1 k
  have ih0 := spec_CommitRecord.mono_l k
  unfold spec_CommitRecord.f
  repeat' first
      | (with_reducible exact ih0 _ _ _)
      | (with_reducible exact spec_l2Marked.mono _ _ _ _)
      | (with_reducible exact LeO.refl _)
      | (with_reducible exact LeO.none _)
      | (with_reducible refine LeO.ite ?_ ?_)
      | (with_reducible refine LeO.bind ?_ (fun _ => ?_))
      | exact ih0 _ _ _
      | exact spec_l2Marked.mono _ _ _ _
      | exact LeO.none _
      | refine LeO.ite ?_ ?_
      | refine LeO.bind ?_ (fun _ => ?_)
set_option maxHeartbeats 8000000 in
set_option maxRecDepth 100000 in
theorem spec_CommitRecord.calls (k : Nat) (a0 : Int) (a1 : ByteArray) (r : ByteArray) (w : World) (h : spec_CommitRecord.f k a0 a1 = some r) :
    Calls Tryd.prog 52 #[.int .i64 a0, .string a1] w fun e w' => e = .returned (.string r) ∧ Below w.heap.size w w' := by
  have HB := Aside0.mk (Below.refl w.heap.size w)
  have H : (if a0 < 1 then (spec_CommitRecord.j0 k a0 a1 true) else (if a0 > 1000000 then (spec_CommitRecord.j0 k a0 a1 true) else (spec_CommitRecord.j0 k a0 a1 (decide ((a1.size : Int) > 32))))) = some r := h
  clear h
  have HC3 := Aside0.mk H
  clear H
  go_enter Tryd.func52, Tryd.ntmps52
  go_upto_region 1 with (fail)
  go_cut [15] (fun v15 wc => ∃ (kq : Nat) (x15_2 : Bool), v15 = .bool x15_2 ∧ Aside0 (spec_CommitRecord.j0 kq a0 a1 x15_2 = some r) ∧ Aside0 (kq ≤ k) ∧ Aside0 (Below w.heap.size w wc))
  case first =>
    have H := HC3.out
    clear HC3
    by_cases c4 : a0 < 1
    · rw [if_pos c4] at H
      have c4b0 : decide (a0 < 1) = true := decide_eq_true c4
      clear c4
      (first | rw [c4b0] | (simp only [i64_w, i32_w]; rw [c4b0]) | skip)
      have H' := Aside0.mk H
      clear H
      go_wp2
      go_meet
      case rel => exact ⟨_, (true), (by first | rfl | (simp; done) | (simp [*]; done)), H', ⟨by first | omega | exact Nat.le_refl _⟩, ⟨by repeat (first | (with_reducible first | exact HB.out | apply below_alloc | apply pw_below_drewN | apply below_drew1) | exact HB.out)⟩⟩
    · rw [if_neg c4] at H
      have c4b0 : decide (a0 < 1) = false := decide_eq_false c4
      clear c4
      (first | rw [c4b0] | (simp only [i64_w, i32_w]; rw [c4b0]) | skip)
      by_cases c5 : a0 > 1000000
      · rw [if_pos c5] at H
        have c5b0 : decide (1000000 < a0) = true := decide_eq_true c5
        clear c5
        have H' := Aside0.mk H
        clear H
        go_wp2
        go_meet
        case rel => exact ⟨_, (true), (by first | rfl | (simp; done) | (simp [*]; done)), H', ⟨by first | omega | exact Nat.le_refl _⟩, ⟨by repeat (first | (with_reducible first | exact HB.out | apply below_alloc | apply pw_below_drewN | apply below_drew1) | exact HB.out)⟩⟩
      · rw [if_neg c5] at H
        have c5b0 : decide (1000000 < a0) = false := decide_eq_false c5
        clear c5
        have H' := Aside0.mk H
        clear H
        go_wp2
        go_meet
        case rel => exact ⟨_, (decide ((a1.size : Int) > 32)), (by first | rfl | (simp; done) | (simp [*]; done)), H', ⟨by first | omega | exact Nat.le_refl _⟩, ⟨by repeat (first | (with_reducible first | exact HB.out | apply below_alloc | apply pw_below_drewN | apply below_drew1) | exact HB.out)⟩⟩
  case rest =>
    clear HC3
    try clear p2
    try clear c4
    try clear c4b0
    try clear c5
    try clear c5b0
    obtain ⟨kq, x15_2, rfl, HA, HJ2, HB⟩ := hcut
    cases kq with
    | zero => exact absurd HA.out (by simp [spec_CommitRecord.j0])
    | succ kj2 =>
      have H := HA.out
      clear HA
      simp only [spec_CommitRecord.j0] at H
      by_cases c6 : x15_2 = true
      · subst c6
        have H1 : (some (⟨#[]⟩ : ByteArray)) = some r := by rw [if_pos rfl] at H; exact H
        clear H
        have H := H1
        clear H1
        obtain rfl := Option.some.inj H
        go_wp2
        go_ret
        exact ⟨by first | rfl | (simp [errW_none, errW_some] <;> rfl) | (simp [*, errW_none, errW_some] <;> rfl), by repeat (first | (with_reducible first | exact HB.out | apply below_alloc | apply pw_below_drewN | apply below_drew1) | exact HB.out)⟩
      · replace c6 := Bool.eq_false_iff.mpr c6
        subst c6
        have H1 : ((spec_l2Four.f a0).bind fun t520001 => ((spec_l2Byte.f (a1.size : Int)).bind fun t520002 => (if t520001.size + t520002.size ≤ 9223372036854775807 then (if (t520001 ++ t520002).size + a1.size ≤ 9223372036854775807 then ((spec_l2Marked.f kj2 ((t520001 ++ t520002) ++ a1) (⟨#[67]⟩ : ByteArray) (⟨#[]⟩ : ByteArray)).bind fun t520003 => (some t520003)) else (none)) else (none)))) = some r := by rw [if_neg (show ¬ (false = true) by decide)] at H; exact H
        clear H
        have H := H1
        clear H1
        replace H := Option.bind_eq_some_iff.mp H
        obtain ⟨t520001, A70, H⟩ := H
        replace H : ((spec_l2Byte.f (a1.size : Int)).bind fun t520002 => (if t520001.size + t520002.size ≤ 9223372036854775807 then (if (t520001 ++ t520002).size + a1.size ≤ 9223372036854775807 then ((spec_l2Marked.f kj2 ((t520001 ++ t520002) ++ a1) (⟨#[67]⟩ : ByteArray) (⟨#[]⟩ : ByteArray)).bind fun t520003 => (some t520003)) else (none)) else (none))) = some r := H
        have A7 := Aside0.mk A70
        clear A70
        replace H := Option.bind_eq_some_iff.mp H
        obtain ⟨t520002, A80, H⟩ := H
        replace H : (if t520001.size + t520002.size ≤ 9223372036854775807 then (if (t520001 ++ t520002).size + a1.size ≤ 9223372036854775807 then ((spec_l2Marked.f kj2 ((t520001 ++ t520002) ++ a1) (⟨#[67]⟩ : ByteArray) (⟨#[]⟩ : ByteArray)).bind fun t520003 => (some t520003)) else (none)) else (none)) = some r := H
        have A8 := Aside0.mk A80
        clear A80
        by_cases c9 : t520001.size + t520002.size ≤ 9223372036854775807
        · rw [if_pos c9] at H
          have c9b0 := eq_true c9
          have c9b1 : decide (t520001.size + t520002.size ≤ 9223372036854775807) = true := decide_eq_true c9
          try have c9b2 : (9223372036854775807 < t520001.size + t520002.size) = False := eq_false (Nat.not_lt.2 c9)
          by_cases c10 : (t520001 ++ t520002).size + a1.size ≤ 9223372036854775807
          · rw [if_pos c10] at H
            have c10b0 := eq_true c10
            have c10b1 : decide ((t520001 ++ t520002).size + a1.size ≤ 9223372036854775807) = true := decide_eq_true c10
            try have c10b2 : (9223372036854775807 < (t520001 ++ t520002).size + a1.size) = False := eq_false (Nat.not_lt.2 c10)
            try (have c10b3 := c10b2; simp only [ByteArray.size_append, ByteArray.size_extract, Nat.min_self] at c10b3)
            replace H := Option.bind_eq_some_iff.mp H
            obtain ⟨t520003, A110, H⟩ := H
            replace H : (some t520003) = some r := H
            have A11 := Aside0.mk A110
            clear A110
            obtain rfl := Option.some.inj H
            go_wp2_with (first | ((with_reducible refine gate_callee (f := 89) rfl ?_); refine goesL_ (some 17) rfl rfl Tryd.func89 (by kernel_rfl) rfl #[.int .i64 a0] rfl (by (try simp only [List.map_toArray, List.map_cons, List.map_nil]); first | done | rfl | (simp only [List.length_drop, List.length_take]; rfl)) ?_; (with_reducible refine (spec_l2Four.calls a0 t520001 _ A7.out).mono ?_); rintro e w12 ⟨rfl, hb⟩; refine ⟨_, rfl, ?_⟩; have n0_ := Aside0.mk (below_step (by repeat (first | (with_reducible first | exact HB.out | apply below_alloc | apply pw_below_drewN | apply below_drew1) | exact HB.out)) hb); clear HB; have HB := n0_; clear n0_; (try clear hb); (try clear hb2); (try clear hk); (try clear hi)) | ((with_reducible refine gate_callee (f := 90) rfl ?_); refine goesL_ (some 20) rfl rfl Tryd.func90 (by kernel_rfl) rfl #[.int .i64 (a1.size : Int)] rfl (by (try simp only [List.map_toArray, List.map_cons, List.map_nil]); first | done | rfl | (simp only [List.length_drop, List.length_take]; rfl)) ?_; (with_reducible refine (spec_l2Byte.calls (a1.size : Int) t520002 _ A8.out).mono ?_); rintro e w13 ⟨rfl, hb⟩; refine ⟨_, rfl, ?_⟩; have n0_ := Aside0.mk (below_step (by repeat (first | (with_reducible first | exact HB.out | apply below_alloc | apply pw_below_drewN | apply below_drew1) | exact HB.out)) hb); clear HB; have HB := n0_; clear n0_; (try clear hb); (try clear hb2); (try clear hk); (try clear hi)) | ((with_reducible refine gate_callee (f := 88) rfl ?_); refine goesL_ (some 24) rfl rfl Tryd.func88 (by kernel_rfl) rfl #[.string ((t520001 ++ t520002) ++ a1), .string (⟨#[67]⟩ : ByteArray), .string (⟨#[]⟩ : ByteArray)] rfl (by (try simp only [List.map_toArray, List.map_cons, List.map_nil]); first | done | rfl | (simp only [List.length_drop, List.length_take]; rfl)) ?_; (with_reducible refine (spec_l2Marked.calls kj2 ((t520001 ++ t520002) ++ a1) (⟨#[67]⟩ : ByteArray) (⟨#[]⟩ : ByteArray) t520003 _ A11.out).mono ?_); rintro e w14 ⟨rfl, hb⟩; refine ⟨_, rfl, ?_⟩; have n0_ := Aside0.mk (below_step (by repeat (first | (with_reducible first | exact HB.out | apply below_alloc | apply pw_below_drewN | apply below_drew1) | exact HB.out)) hb); clear HB; have HB := n0_; clear n0_; (try clear hb); (try clear hb2); (try clear hk); (try clear hi)))
            go_ret
            exact ⟨by first | rfl | (simp [errW_none, errW_some] <;> rfl) | (simp [*, errW_none, errW_some] <;> rfl), by repeat (first | (with_reducible first | exact HB.out | apply below_alloc | apply pw_below_drewN | apply below_drew1) | exact HB.out)⟩
          · rw [if_neg c10] at H
            exact absurd H (by simp)
        · rw [if_neg c9] at H
          exact absurd H (by simp)

end Go.Proofs.YtmfejehhfmaodabDoor.Z

end

/- Contracts of functions of the program, written by a program of this session over the translation's print. -/
section
namespace Go.Proofs.YtmfejehhfmaodabDoor.Z
open Go.RowKit Go.Proofs.YtmfejehhfmaodabDoorW.PrintWords Go.Proofs.YtmfejehhfmaodabDoorW.PrintLast Go.Proofs.YtmfejehhfmaodabDoorW.PrintMore
attribute [local go_sem] max2_int min2_int max_two min_two max_three min_three max_four min_four   -- for this text's walks alone
set_option linter.unusedVariables false
set_option linter.unusedSimpArgs false

/-! ### spec_l2Number: function 51 -/
def spec_l2Number.f (a0 : ByteArray) (a1 : Int) : Option (Int) := if 0 ≤ a1 then (if a1 < (a0.size : Int) then (if 0 ≤ (wrap64 (a1 + 1)) then (if (wrap64 (a1 + 1)) < (a0.size : Int) then (if 0 ≤ (wrap64 (a1 + 2)) then (if (wrap64 (a1 + 2)) < (a0.size : Int) then (if 0 ≤ (wrap64 (a1 + 3)) then (if (wrap64 (a1 + 3)) < (a0.size : Int) then (some (wrap64 ((wrap64 ((wrap64 ((wrap64 (bt a0 a1)) + (wrap64 ((wrap64 (bt a0 (wrap64 (a1 + 1)))) * 256)))) + (wrap64 ((wrap64 (bt a0 (wrap64 (a1 + 2)))) * 65536)))) + (wrap64 ((wrap64 (bt a0 (wrap64 (a1 + 3)))) * 16777216))))) else (none)) else (none)) else (none)) else (none)) else (none)) else (none)) else (none)) else (none)
set_option maxHeartbeats 8000000 in
set_option maxRecDepth 100000 in
theorem spec_l2Number.calls (a0 : ByteArray) (a1 : Int) (r : Int) (w : World) (h : spec_l2Number.f a0 a1 = some r) :
    Calls Tryd.prog 51 #[.string a0, .int .i64 a1] w fun e w' => e = .returned (.int .i64 r) ∧ Drawn0 w w' := by
  have H : (if 0 ≤ a1 then (if a1 < (a0.size : Int) then (if 0 ≤ (wrap64 (a1 + 1)) then (if (wrap64 (a1 + 1)) < (a0.size : Int) then (if 0 ≤ (wrap64 (a1 + 2)) then (if (wrap64 (a1 + 2)) < (a0.size : Int) then (if 0 ≤ (wrap64 (a1 + 3)) then (if (wrap64 (a1 + 3)) < (a0.size : Int) then (some (wrap64 ((wrap64 ((wrap64 ((wrap64 (bt a0 a1)) + (wrap64 ((wrap64 (bt a0 (wrap64 (a1 + 1)))) * 256)))) + (wrap64 ((wrap64 (bt a0 (wrap64 (a1 + 2)))) * 65536)))) + (wrap64 ((wrap64 (bt a0 (wrap64 (a1 + 3)))) * 16777216))))) else (none)) else (none)) else (none)) else (none)) else (none)) else (none)) else (none)) else (none)) = some r := h
  clear h
  by_cases c3 : 0 ≤ a1
  · rw [if_pos c3] at H
    have c3b0 : decide (0 ≤ a1) = true := decide_eq_true c3
    clear c3
    by_cases c4 : a1 < (a0.size : Int)
    · rw [if_pos c4] at H
      have c4b0 : decide (a1 < (a0.size : Int)) = true := decide_eq_true c4
      clear c4
      obtain ⟨ji6, hji6⟩ : ∃ j_ : Int, (wrap64 (a1 + 1)) = j_ := ⟨_, rfl⟩
      replace H : (if 0 ≤ (ji6) then (if (ji6) < (a0.size : Int) then (if 0 ≤ (wrap64 (a1 + 2)) then (if (wrap64 (a1 + 2)) < (a0.size : Int) then (if 0 ≤ (wrap64 (a1 + 3)) then (if (wrap64 (a1 + 3)) < (a0.size : Int) then (some (wrap64 ((wrap64 ((wrap64 ((wrap64 (bt a0 a1)) + (wrap64 ((wrap64 (bt a0 (ji6))) * 256)))) + (wrap64 ((wrap64 (bt a0 (wrap64 (a1 + 2)))) * 65536)))) + (wrap64 ((wrap64 (bt a0 (wrap64 (a1 + 3)))) * 16777216))))) else (none)) else (none)) else (none)) else (none)) else (none)) else (none)) = some r := by first | (rw [hji6] at H; exact H) | (simp only [hji6] at H ⊢; exact H)
      have hji6w : (IntKind.i64.wrap (a1 + 1)) = ji6 := (i64_w _).trans hji6
      by_cases c7 : 0 ≤ (ji6)
      · rw [if_pos c7] at H
        have c7b0 : decide (0 ≤ (ji6)) = true := decide_eq_true c7
        clear c7
        by_cases c8 : (ji6) < (a0.size : Int)
        · rw [if_pos c8] at H
          have c8b0 : decide ((ji6) < (a0.size : Int)) = true := decide_eq_true c8
          clear c8
          obtain ⟨ji10, hji10⟩ : ∃ j_ : Int, (wrap64 (a1 + 2)) = j_ := ⟨_, rfl⟩
          replace H : (if 0 ≤ (ji10) then (if (ji10) < (a0.size : Int) then (if 0 ≤ (wrap64 (a1 + 3)) then (if (wrap64 (a1 + 3)) < (a0.size : Int) then (some (wrap64 ((wrap64 ((wrap64 ((wrap64 (bt a0 a1)) + (wrap64 ((wrap64 (bt a0 (ji6))) * 256)))) + (wrap64 ((wrap64 (bt a0 (ji10))) * 65536)))) + (wrap64 ((wrap64 (bt a0 (wrap64 (a1 + 3)))) * 16777216))))) else (none)) else (none)) else (none)) else (none)) = some r := by first | (rw [hji10] at H; exact H) | (simp only [hji10] at H ⊢; exact H)
          have hji10w : (IntKind.i64.wrap (a1 + 2)) = ji10 := (i64_w _).trans hji10
          by_cases c11 : 0 ≤ (ji10)
          · rw [if_pos c11] at H
            have c11b0 : decide (0 ≤ (ji10)) = true := decide_eq_true c11
            clear c11
            by_cases c12 : (ji10) < (a0.size : Int)
            · rw [if_pos c12] at H
              have c12b0 : decide ((ji10) < (a0.size : Int)) = true := decide_eq_true c12
              clear c12
              obtain ⟨ji14, hji14⟩ : ∃ j_ : Int, (wrap64 (a1 + 3)) = j_ := ⟨_, rfl⟩
              replace H : (if 0 ≤ (ji14) then (if (ji14) < (a0.size : Int) then (some (wrap64 ((wrap64 ((wrap64 ((wrap64 (bt a0 a1)) + (wrap64 ((wrap64 (bt a0 (ji6))) * 256)))) + (wrap64 ((wrap64 (bt a0 (ji10))) * 65536)))) + (wrap64 ((wrap64 (bt a0 (ji14))) * 16777216))))) else (none)) else (none)) = some r := by first | (rw [hji14] at H; exact H) | (simp only [hji14] at H ⊢; exact H)
              have hji14w : (IntKind.i64.wrap (a1 + 3)) = ji14 := (i64_w _).trans hji14
              by_cases c15 : 0 ≤ (ji14)
              · rw [if_pos c15] at H
                have c15b0 : decide (0 ≤ (ji14)) = true := decide_eq_true c15
                clear c15
                by_cases c16 : (ji14) < (a0.size : Int)
                · rw [if_pos c16] at H
                  have c16b0 : decide ((ji14) < (a0.size : Int)) = true := decide_eq_true c16
                  clear c16
                  obtain rfl := Option.some.inj H
                  have p5 : 0 ≤ (a1 : Int) := of_decide_eq_true (by first | (with_reducible assumption) | assumption)
                  have q5 : a1 < (a0.size : Int) := of_decide_eq_true (by first | (with_reducible assumption) | assumption)
                  have hx5 := bt_at a0 a1
                  replace p5 := eq_true p5
                  replace q5 := eq_true q5
                  have p9 : 0 ≤ ((ji6) : Int) := of_decide_eq_true (by first | (with_reducible assumption) | assumption)
                  have q9 : (ji6) < (a0.size : Int) := of_decide_eq_true (by first | (with_reducible assumption) | assumption)
                  have hx9 := bt_at a0 (ji6)
                  replace p9 := eq_true p9
                  replace q9 := eq_true q9
                  have p13 : 0 ≤ ((ji10) : Int) := of_decide_eq_true (by first | (with_reducible assumption) | assumption)
                  have q13 : (ji10) < (a0.size : Int) := of_decide_eq_true (by first | (with_reducible assumption) | assumption)
                  have hx13 := bt_at a0 (ji10)
                  replace p13 := eq_true p13
                  replace q13 := eq_true q13
                  have p17 : 0 ≤ ((ji14) : Int) := of_decide_eq_true (by first | (with_reducible assumption) | assumption)
                  have q17 : (ji14) < (a0.size : Int) := of_decide_eq_true (by first | (with_reducible assumption) | assumption)
                  have hx17 := bt_at a0 (ji14)
                  replace p17 := eq_true p17
                  replace q17 := eq_true q17
                  go_enter Tryd.func51, Tryd.ntmps51
                  go_wp2
                  repeat (go_quiet (fail); try go_wp2)
                  go_ret
                  exact ⟨by first | rfl | (simp; done) | (simp only [← hji6, ← hji10, ← hji14] <;> (first | rfl | simp)) | (simp [*]; done), by repeat (first | exact Drawn0.refl _ | apply Drawn0.step)⟩
                · rw [if_neg c16] at H
                  exact absurd H (by simp)
              · rw [if_neg c15] at H
                exact absurd H (by simp)
            · rw [if_neg c12] at H
              exact absurd H (by simp)
          · rw [if_neg c11] at H
            exact absurd H (by simp)
        · rw [if_neg c8] at H
          exact absurd H (by simp)
      · rw [if_neg c7] at H
        exact absurd H (by simp)
    · rw [if_neg c4] at H
      exact absurd H (by simp)
  · rw [if_neg c3] at H
    exact absurd H (by simp)

end Go.Proofs.YtmfejehhfmaodabDoor.Z

end

/- Contracts of functions of the program, written by a program of this session over the translation's print. -/
section
namespace Go.Proofs.YtmfejehhfmaodabDoor.Z
open Go.RowKit Go.Proofs.YtmfejehhfmaodabDoorW.PrintWords Go.Proofs.YtmfejehhfmaodabDoorW.PrintLast Go.Proofs.YtmfejehhfmaodabDoorW.PrintMore
attribute [local go_sem] max2_int min2_int max_two min_two max_three min_three max_four min_four   -- for this text's walks alone
set_option linter.unusedVariables false
set_option linter.unusedSimpArgs false

/-! ### spec_l2Unmarked: function 53 -/
def spec_l2Unmarked.l0 : Nat → ByteArray → Int → Int → ByteArray → Int → Option (ByteArray)
  | 0, _, _, _, _, _ => none
  | k + 1, x0, x1, x2, x7, x8 => if x8 < x2 then (if 0 ≤ (wrap64 (x1 + (wrap64 (x8 * 64)))) then (if (wrap64 (x1 + (wrap64 (x8 * 64)))) ≤ (wrap64 ((wrap64 (x1 + (wrap64 (x8 * 64)))) + 63)) then (if (wrap64 ((wrap64 (x1 + (wrap64 (x8 * 64)))) + 63)) ≤ (x0.size : Int) then (if x7.size + (x0.extract ((wrap64 (x1 + (wrap64 (x8 * 64)))) : Int).toNat ((wrap64 ((wrap64 (x1 + (wrap64 (x8 * 64)))) + 63)) : Int).toNat).size ≤ 9223372036854775807 then (spec_l2Unmarked.l0 k x0 x1 x2 (x7 ++ (x0.extract ((wrap64 (x1 + (wrap64 (x8 * 64)))) : Int).toNat ((wrap64 ((wrap64 (x1 + (wrap64 (x8 * 64)))) + 63)) : Int).toNat)) (wrap64 (x8 + 1))) else (none)) else (none)) else (none)) else (none)) else (some x7)
def spec_l2Unmarked.f (k : Nat) (a0 : ByteArray) (a1 : Int) (a2 : Int) : Option (ByteArray) := spec_l2Unmarked.l0 k a0 a1 a2 (⟨#[]⟩ : ByteArray) 0
theorem spec_l2Unmarked.mono_l : ∀ k, (∀ y0 y1 y2 y3 y4, LeO (spec_l2Unmarked.l0 k y0 y1 y2 y3 y4) (spec_l2Unmarked.l0 (k + 1) y0 y1 y2 y3 y4))
  | 0 => fun _ _ _ _ _ r h => by simp [spec_l2Unmarked.l0] at h
  | k + 1 => by
    have ih0 := spec_l2Unmarked.mono_l k
    · intro y0 y1 y2 y3 y4
      unfold spec_l2Unmarked.l0
      repeat' first
      | (with_reducible exact ih0 _ _ _ _ _)
      | (with_reducible exact LeO.refl _)
      | (with_reducible exact LeO.none _)
      | (with_reducible refine LeO.ite ?_ ?_)
      | (with_reducible refine LeO.bind ?_ (fun _ => ?_))
      | exact ih0 _ _ _ _ _
      | exact LeO.none _
      | refine LeO.ite ?_ ?_
      | refine LeO.bind ?_ (fun _ => ?_)
theorem spec_l2Unmarked.mono : ∀ a0 a1 a2 k, LeO (spec_l2Unmarked.f k a0 a1 a2) (spec_l2Unmarked.f (k + 1) a0 a1 a2) := by
  intro a0 a1 a2 k
  have ih0 := spec_l2Unmarked.mono_l k
  unfold spec_l2Unmarked.f
  repeat' first
      | (with_reducible exact ih0 _ _ _ _ _)
      | (with_reducible exact LeO.refl _)
      | (with_reducible exact LeO.none _)
      | (with_reducible refine LeO.ite ?_ ?_)
      | (with_reducible refine LeO.bind ?_ (fun _ => ?_))
      | exact ih0 _ _ _ _ _
      | exact LeO.none _
      | refine LeO.ite ?_ ?_
      | refine LeO.bind ?_ (fun _ => ?_)
set_option maxHeartbeats 8000000 in
set_option maxRecDepth 100000 in
theorem spec_l2Unmarked.calls (k : Nat) (a0 : ByteArray) (a1 : Int) (a2 : Int) (r : ByteArray) (w : World) (h : spec_l2Unmarked.f k a0 a1 a2 = some r) :
    Calls Tryd.prog 53 #[.string a0, .int .i64 a1, .int .i64 a2] w fun e w' => e = .returned (.string r) ∧ Drawn0 w w' := by
  have H : (spec_l2Unmarked.l0 k a0 a1 a2 (⟨#[]⟩ : ByteArray) 0) = some r := h
  clear h
  have H' := Aside0.mk H
  clear H
  go_enter Tryd.func53, Tryd.ntmps53
  go_wp2
  go_loopg [7, 8] k (fun kq v7 v8 w' => ∃ (x7_1 : ByteArray) (x8_1 : Int), v7 = .string x7_1 ∧ v8 = .int .i64 x8_1 ∧ Aside0 (spec_l2Unmarked.l0 kq a0 a1 a2 x7_1 x8_1 = some r) ∧ Aside0 (kq ≤ k) ∧ Drawn0 w w')
  case atStart => exact ⟨((⟨#[]⟩ : ByteArray)), (0), (by first | rfl | (simp; done) | (simp [*]; done)), (by first | rfl | (simp; done) | (simp [*]; done)), H', ⟨Nat.le_refl _⟩, by repeat (first | exact Drawn0.refl _ | apply Drawn0.step)⟩
  case round =>
    clear H'
    try clear p2
    obtain ⟨x7_1, x8_1, rfl, rfl, HA, HK1, ⟨m1, rfl⟩⟩ := hrel
    cases gk with
    | zero => exact absurd HA.out (by simp [spec_l2Unmarked.l0])
    | succ k1 =>
      have H := HA.out
      clear HA
      simp only [spec_l2Unmarked.l0] at H
      by_cases c4 : x8_1 < a2
      · rw [if_pos c4] at H
        have c4b0 : decide (x8_1 < a2) = true := decide_eq_true c4
        clear c4
        obtain ⟨ji5, hji5⟩ : ∃ j_ : Int, (wrap64 (a1 + (wrap64 (x8_1 * 64)))) = j_ := ⟨_, rfl⟩
        replace H : (if 0 ≤ (ji5) then (if (ji5) ≤ (wrap64 ((ji5) + 63)) then (if (wrap64 ((ji5) + 63)) ≤ (a0.size : Int) then (if x7_1.size + (a0.extract ((ji5) : Int).toNat ((wrap64 ((ji5) + 63)) : Int).toNat).size ≤ 9223372036854775807 then (spec_l2Unmarked.l0 k1 a0 a1 a2 (x7_1 ++ (a0.extract ((ji5) : Int).toNat ((wrap64 ((ji5) + 63)) : Int).toNat)) (wrap64 (x8_1 + 1))) else (none)) else (none)) else (none)) else (none)) = some r := by first | (rw [hji5] at H; exact H) | (simp only [hji5] at H ⊢; exact H)
        have hji5w : (IntKind.i64.wrap (a1 + (wrap64 (x8_1 * 64)))) = ji5 := (i64_w _).trans hji5
        by_cases c6 : 0 ≤ (ji5)
        · rw [if_pos c6] at H
          have c6b0 := eq_true c6
          have c6b1 : decide (0 ≤ (ji5)) = true := decide_eq_true c6
          clear c6
          by_cases c7 : (ji5) ≤ (wrap64 ((ji5) + 63))
          · rw [if_pos c7] at H
            have c7b0 := eq_true c7
            have c7b1 : decide ((ji5) ≤ (wrap64 ((ji5) + 63))) = true := decide_eq_true c7
            by_cases c8 : (wrap64 ((ji5) + 63)) ≤ (a0.size : Int)
            · rw [if_pos c8] at H
              have c8b0 := eq_true c8
              have c8b1 : decide ((wrap64 ((ji5) + 63)) ≤ (a0.size : Int)) = true := decide_eq_true c8
              by_cases c9 : x7_1.size + (a0.extract ((ji5) : Int).toNat ((wrap64 ((ji5) + 63)) : Int).toNat).size ≤ 9223372036854775807
              · rw [if_pos c9] at H
                have c9b0 := eq_true c9
                have c9b1 : decide (x7_1.size + (a0.extract ((ji5) : Int).toNat ((wrap64 ((ji5) + 63)) : Int).toNat).size ≤ 9223372036854775807) = true := decide_eq_true c9
                try have c9b2 : (9223372036854775807 < x7_1.size + (a0.extract ((ji5) : Int).toNat ((wrap64 ((ji5) + 63)) : Int).toNat).size) = False := eq_false (Nat.not_lt.2 c9)
                try (have c9b3 := c9b2; simp only [ByteArray.size_append, ByteArray.size_extract, Nat.min_self] at c9b3)
                have H' := Aside0.mk H
                clear H
                go_wp2
                go_roundg k1
                case measure => have := HK1.out; omega
                case rel => exact ⟨(x7_1 ++ (a0.extract ((ji5) : Int).toNat ((wrap64 ((ji5) + 63)) : Int).toNat)), (wrap64 (x8_1 + 1)), (by first | rfl | (simp; done) | (simp only [← hji5] <;> (first | rfl | simp)) | (simp [*]; done)), (by first | rfl | (simp; done) | (simp [*]; done)), H', ⟨by have := HK1.out; omega⟩, by repeat (first | exact Drawn0.refl _ | apply Drawn0.step)⟩
              · rw [if_neg c9] at H
                exact absurd H (by simp)
            · rw [if_neg c8] at H
              exact absurd H (by simp)
          · rw [if_neg c7] at H
            exact absurd H (by simp)
        · rw [if_neg c6] at H
          exact absurd H (by simp)
      · rw [if_neg c4] at H
        have c4b0 : decide (x8_1 < a2) = false := decide_eq_false c4
        clear c4
        obtain rfl := Option.some.inj H
        go_wp2
        go_ret
        exact ⟨by first | rfl | (simp; done) | (simp [*]; done), by repeat (first | exact Drawn0.refl _ | apply Drawn0.step)⟩

end Go.Proofs.YtmfejehhfmaodabDoor.Z

end

/- Contracts of functions of the program, written by a program of this session over the translation's print. -/
section
namespace Go.Proofs.YtmfejehhfmaodabDoor.Z
open Go.RowKit Go.Proofs.YtmfejehhfmaodabDoorW.PrintWords Go.Proofs.YtmfejehhfmaodabDoorW.PrintLast Go.Proofs.YtmfejehhfmaodabDoorW.PrintMore
attribute [local go_sem] max2_int min2_int max_two min_two max_three min_three max_four min_four   -- for this text's walks alone
set_option linter.unusedVariables false
set_option linter.unusedSimpArgs false

/-! ### spec_NodeRecord: function 54 -/
def spec_NodeRecord.j0 : Nat → ByteArray → Bool → Option (ByteArray)
  | 0, _, _ => none
  | k + 1, x0, x10 => if x10 = true then (some (⟨#[]⟩ : ByteArray)) else ((spec_l2Four.f (x0.size : Int)).bind fun t540001 => (if t540001.size + x0.size ≤ 9223372036854775807 then ((spec_l2Marked.f k (t540001 ++ x0) (⟨#[83]⟩ : ByteArray) (⟨#[77]⟩ : ByteArray)).bind fun t540002 => (some t540002)) else (none)))
def spec_NodeRecord.f (k : Nat) (a0 : ByteArray) : Option (ByteArray) := if (a0.size : Int) < 1 then (spec_NodeRecord.j0 k a0 true) else (spec_NodeRecord.j0 k a0 (decide ((a0.size : Int) > 4000)))
theorem spec_NodeRecord.mono_l : ∀ k, (∀ y0 y1, LeO (spec_NodeRecord.j0 k y0 y1) (spec_NodeRecord.j0 (k + 1) y0 y1))
  | 0 => fun _ _ r h => by simp [spec_NodeRecord.j0] at h
  | k + 1 => by
    have ih0 := spec_NodeRecord.mono_l k
    · intro y0 y1
      unfold spec_NodeRecord.j0
      repeat' first
      | (with_reducible exact ih0 _ _)
      | (with_reducible exact spec_l2Marked.mono _ _ _ _)
      | (with_reducible exact LeO.refl _)
      | (with_reducible exact LeO.none _)
      | (with_reducible refine LeO.ite ?_ ?_)
      | (with_reducible refine LeO.bind ?_ (fun _ => ?_))
      | exact ih0 _ _
      | exact spec_l2Marked.mono _ _ _ _
      | exact LeO.none _
      | refine LeO.ite ?_ ?_
      | refine LeO.bind ?_ (fun _ => ?_)
theorem spec_NodeRecord.mono : ∀ a0 k, LeO (spec_NodeRecord.f k a0) (spec_NodeRecord.f (k + 1) a0) := by
  intro a0 k
  have ih0 := spec_NodeRecord.mono_l k
  unfold spec_NodeRecord.f
  repeat' first
      | (with_reducible exact ih0 _ _)
      | (with_reducible exact spec_l2Marked.mono _ _ _ _)
      | (with_reducible exact LeO.refl _)
      | (with_reducible exact LeO.none _)
      | (with_reducible refine LeO.ite ?_ ?_)
      | (with_reducible refine LeO.bind ?_ (fun _ => ?_))
      | exact ih0 _ _
      | exact spec_l2Marked.mono _ _ _ _
      | exact LeO.none _
      | refine LeO.ite ?_ ?_
      | refine LeO.bind ?_ (fun _ => ?_)
set_option maxHeartbeats 8000000 in
set_option maxRecDepth 100000 in
theorem spec_NodeRecord.calls (k : Nat) (a0 : ByteArray) (r : ByteArray) (w : World) (h : spec_NodeRecord.f k a0 = some r) :
    Calls Tryd.prog 54 #[.string a0] w fun e w' => e = .returned (.string r) ∧ Below w.heap.size w w' := by
  have HB := Aside0.mk (Below.refl w.heap.size w)
  have H : (if (a0.size : Int) < 1 then (spec_NodeRecord.j0 k a0 true) else (spec_NodeRecord.j0 k a0 (decide ((a0.size : Int) > 4000)))) = some r := h
  clear h
  have HC2 := Aside0.mk H
  clear H
  go_enter Tryd.func54, Tryd.ntmps54
  go_upto_region 1 with (fail)
  go_cut [10] (fun v10 wc => ∃ (kq : Nat) (x10_1 : Bool), v10 = .bool x10_1 ∧ Aside0 (spec_NodeRecord.j0 kq a0 x10_1 = some r) ∧ Aside0 (kq ≤ k) ∧ Aside0 (Below w.heap.size w wc))
  case first =>
    have H := HC2.out
    clear HC2
    by_cases c3 : (a0.size : Int) < 1
    · rw [if_pos c3] at H
      have c3b0 : decide ((a0.size : Int) < 1) = true := decide_eq_true c3
      have c3b1 : decide (a0.size < 1) = true := decide_eq_true (by omega)
      clear c3
      (first | rw [c3b0] | (simp only [i64_w, i32_w]; rw [c3b0]) | skip)
      have H' := Aside0.mk H
      clear H
      go_wp2
      go_meet
      case rel => exact ⟨_, (true), (by first | rfl | (simp; done) | (simp [*]; done)), H', ⟨by first | omega | exact Nat.le_refl _⟩, ⟨by repeat (first | (with_reducible first | exact HB.out | apply below_alloc | apply pw_below_drewN | apply below_drew1) | exact HB.out)⟩⟩
    · rw [if_neg c3] at H
      have c3b0 : decide ((a0.size : Int) < 1) = false := decide_eq_false c3
      have c3b1 : decide (a0.size < 1) = false := decide_eq_false (by omega)
      clear c3
      (first | rw [c3b0] | (simp only [i64_w, i32_w]; rw [c3b0]) | skip)
      have H' := Aside0.mk H
      clear H
      go_wp2
      go_meet
      case rel => exact ⟨_, (decide ((a0.size : Int) > 4000)), (by first | rfl | (simp; done) | (simp [*]; done)), H', ⟨by first | omega | exact Nat.le_refl _⟩, ⟨by repeat (first | (with_reducible first | exact HB.out | apply below_alloc | apply pw_below_drewN | apply below_drew1) | exact HB.out)⟩⟩
  case rest =>
    clear HC2
    try clear p2
    try clear c3
    try clear c3b0
    try clear c3b1
    obtain ⟨kq, x10_1, rfl, HA, HJ1, HB⟩ := hcut
    cases kq with
    | zero => exact absurd HA.out (by simp [spec_NodeRecord.j0])
    | succ kj1 =>
      have H := HA.out
      clear HA
      simp only [spec_NodeRecord.j0] at H
      by_cases c4 : x10_1 = true
      · subst c4
        have H1 : (some (⟨#[]⟩ : ByteArray)) = some r := by rw [if_pos rfl] at H; exact H
        clear H
        have H := H1
        clear H1
        obtain rfl := Option.some.inj H
        go_wp2
        go_ret
        exact ⟨by first | rfl | (simp [errW_none, errW_some] <;> rfl) | (simp [*, errW_none, errW_some] <;> rfl), by repeat (first | (with_reducible first | exact HB.out | apply below_alloc | apply pw_below_drewN | apply below_drew1) | exact HB.out)⟩
      · replace c4 := Bool.eq_false_iff.mpr c4
        subst c4
        have H1 : ((spec_l2Four.f (a0.size : Int)).bind fun t540001 => (if t540001.size + a0.size ≤ 9223372036854775807 then ((spec_l2Marked.f kj1 (t540001 ++ a0) (⟨#[83]⟩ : ByteArray) (⟨#[77]⟩ : ByteArray)).bind fun t540002 => (some t540002)) else (none))) = some r := by rw [if_neg (show ¬ (false = true) by decide)] at H; exact H
        clear H
        have H := H1
        clear H1
        replace H := Option.bind_eq_some_iff.mp H
        obtain ⟨t540001, A50, H⟩ := H
        replace H : (if t540001.size + a0.size ≤ 9223372036854775807 then ((spec_l2Marked.f kj1 (t540001 ++ a0) (⟨#[83]⟩ : ByteArray) (⟨#[77]⟩ : ByteArray)).bind fun t540002 => (some t540002)) else (none)) = some r := H
        have A5 := Aside0.mk A50
        clear A50
        by_cases c6 : t540001.size + a0.size ≤ 9223372036854775807
        · rw [if_pos c6] at H
          have c6b0 := eq_true c6
          have c6b1 : decide (t540001.size + a0.size ≤ 9223372036854775807) = true := decide_eq_true c6
          try have c6b2 : (9223372036854775807 < t540001.size + a0.size) = False := eq_false (Nat.not_lt.2 c6)
          replace H := Option.bind_eq_some_iff.mp H
          obtain ⟨t540002, A70, H⟩ := H
          replace H : (some t540002) = some r := H
          have A7 := Aside0.mk A70
          clear A70
          obtain rfl := Option.some.inj H
          go_wp2_with (first | ((with_reducible refine gate_callee (f := 89) rfl ?_); refine goesL_ (some 13) rfl rfl Tryd.func89 (by kernel_rfl) rfl #[.int .i64 (a0.size : Int)] rfl (by (try simp only [List.map_toArray, List.map_cons, List.map_nil]); first | done | rfl | (simp only [List.length_drop, List.length_take]; rfl)) ?_; (with_reducible refine (spec_l2Four.calls (a0.size : Int) t540001 _ A5.out).mono ?_); rintro e w8 ⟨rfl, hb⟩; refine ⟨_, rfl, ?_⟩; have n0_ := Aside0.mk (below_step (by repeat (first | (with_reducible first | exact HB.out | apply below_alloc | apply pw_below_drewN | apply below_drew1) | exact HB.out)) hb); clear HB; have HB := n0_; clear n0_; (try clear hb); (try clear hb2); (try clear hk); (try clear hi)) | ((with_reducible refine gate_callee (f := 88) rfl ?_); refine goesL_ (some 16) rfl rfl Tryd.func88 (by kernel_rfl) rfl #[.string (t540001 ++ a0), .string (⟨#[83]⟩ : ByteArray), .string (⟨#[77]⟩ : ByteArray)] rfl (by (try simp only [List.map_toArray, List.map_cons, List.map_nil]); first | done | rfl | (simp only [List.length_drop, List.length_take]; rfl)) ?_; (with_reducible refine (spec_l2Marked.calls kj1 (t540001 ++ a0) (⟨#[83]⟩ : ByteArray) (⟨#[77]⟩ : ByteArray) t540002 _ A7.out).mono ?_); rintro e w9 ⟨rfl, hb⟩; refine ⟨_, rfl, ?_⟩; have n0_ := Aside0.mk (below_step (by repeat (first | (with_reducible first | exact HB.out | apply below_alloc | apply pw_below_drewN | apply below_drew1) | exact HB.out)) hb); clear HB; have HB := n0_; clear n0_; (try clear hb); (try clear hb2); (try clear hk); (try clear hi)))
          go_ret
          exact ⟨by first | rfl | (simp [errW_none, errW_some] <;> rfl) | (simp [*, errW_none, errW_some] <;> rfl), by repeat (first | (with_reducible first | exact HB.out | apply below_alloc | apply pw_below_drewN | apply below_drew1) | exact HB.out)⟩
        · rw [if_neg c6] at H
          exact absurd H (by simp)

end Go.Proofs.YtmfejehhfmaodabDoor.Z

end
