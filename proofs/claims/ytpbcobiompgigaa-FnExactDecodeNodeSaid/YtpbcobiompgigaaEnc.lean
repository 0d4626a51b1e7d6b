/- Encodings of nodes: what the functions give. -/
import Derived.Test.YtpbcobiompgigaaCodecW
import Derived.Deep.RegionHeld3
namespace Go.Proofs.Ytpbcobiompgigaa
open Go.RowKit
set_option linter.unusedVariables false
set_option linter.unusedSimpArgs false
def isW (w : Int) : Bool := decide (1 ≤ w) && decide (w ≤ 32)
def hOk (h : ByteArray) (w : Int) : Bool := decide (h.size = 0) || decide ((h.size : Int) = w)
def nodeOk (k v l r : ByteArray) (w : Int) : Bool := isW w && decide (1 ≤ k.size) && decide (k.size ≤ 256) && decide (v.size ≤ 2000) && hOk l w && hOk r w
def byteS (x : Int) : ByteArray := ⟨#[UInt8.ofNat x.toNat]⟩
theorem byteS_size (x : Int) : (byteS x).size = 1 := rfl
def sizedS (s : ByteArray) : ByteArray := byteS (s.size / 256) ++ byteS (s.size % 256) ++ s
theorem sizedS_size (s : ByteArray) : (sizedS s).size = 2 + s.size := by simp [sizedS, byteS_size]
def flagsOf (l r : ByteArray) : Int := (if l.size = 0 then 0 else 1) + (if r.size = 0 then 0 else 2)
def encNode (k v l r : ByteArray) (w : Int) : ByteArray := if nodeOk k v l r w = true then sizedS k ++ sizedS v ++ byteS (flagsOf l r) ++ l ++ r else ⟨#[]⟩
set_option maxHeartbeats 400000 in
theorem isWidth_any (x : Int) (w : World) : Calls Try.prog 20 #[.int .i64 x] w fun e w' => e = .returned (.bool (isW x)) ∧ w = w' := by
  go_enter Try.func20, Try.ntmps20
  go_wp2
  all_goals
    go_ret
    refine ⟨ret_bool ?_, rfl⟩
    go_light
    unfold isW
    grind
set_option maxHeartbeats 400000 in
theorem l1Width_any (x : Int) (w : World) : Calls Try.prog 19 #[.int .i64 x] w fun e w' => e = .returned (.bool (isW x)) ∧ w = w' := by
  go_enter Try.func19, Try.ntmps19
  go_wp2
  all_goals
    go_ret
    refine ⟨ret_bool ?_, rfl⟩
    go_light
    unfold isW
    grind
theorem size_zero (s : ByteArray) : s = ByteArray.empty ↔ s.size = 0 := by
  constructor
  · intro h; rw [h]; rfl
  · intro h; exact ByteArray.ext (Array.size_eq_zero_iff.mp h)
set_option maxHeartbeats 400000 in
theorem l2HashOk_any (h : ByteArray) (x : Int) (w : World) : Calls Try.prog 37 #[.string h, .int .i64 x] w fun e w' => e = .returned (.bool (hOk h x)) ∧ w = w' := by
  go_enter Try.func37, Try.ntmps37
  go_wp2
  all_goals
    go_ret
    refine ⟨ret_bool ?_, rfl⟩
    go_light
    have := size_zero h
    unfold hOk
    grind
theorem byte1_str (w : World) (y : Int) (T : TypeId) (g c : Nat) (hg : g = w.heap.size) :
    (convert 51 9 (.slice (some ⟨g, 0, none⟩) 1 c)).run Try.prog (w.alloc (.cells #[.int .u8 y] T)) = .ok (.string ⟨#[UInt8.ofNat y.toNat]⟩) (w.alloc (.cells #[.int .u8 y] T)) := by
  subst hg
  have h := run_convert_bytes_arg (P := Try.prog) (w.alloc (.cells #[.int .u8 y] T)) 51 5 Try.underlying51 Try.underlying5 w.heap.size 0 1 c [y] rfl (fun i hi => by
    obtain rfl : i = 0 := by omega
    rw [World.cell?_alloc_new w _ _ (0 + 0)]; rfl) 9 Try.underlying9
  exact h
theorem byteS_mod (x : Int) (h : 0 ≤ x) : (⟨#[UInt8.ofNat (x % 256).toNat]⟩ : ByteArray) = byteS x := by
  unfold byteS
  congr 3
  apply UInt8.toNat_inj.mp
  rw [UInt8.toNat_ofNat', UInt8.toNat_ofNat']; omega
set_option maxHeartbeats 400000 in
theorem l2Byte_any (x : Int) (hx : 0 ≤ x) (w : World) : Calls Try.prog 27 #[.int .i64 x] w fun e w' => e = .returned (.string (byteS x)) ∧ Below w.heap.size w w' := by
  go_enter Try.func27, Try.ntmps27
  go_wp2_with ((with_reducible refine gate_dst (N := 6) rfl ?_); refine wpList_convert rfl 51 9 _ rfl rfl (byte1_str _ _ _ _ _ rfl) ?_)
  go_ret
  refine ⟨ret_str ?_, by (repeat' (first | exact Below.refl _ _ | (with_reducible assumption) | (with_reducible refine Below.setCell ?_ (by first | (simp; done) | (simp; omega)) _) | refine below_then ?_ (by assumption) | (with_reducible refine below_new2 ?_ _) | (with_reducible refine Below.drew ?_) | (with_reducible refine bdrewN ?_ _)))⟩
  exact byteS_mod x hx
set_option maxHeartbeats 400000 in
theorem l2Sized_any (s : ByteArray) (hs : s.size ≤ 4294967296) (w : World) : Calls Try.prog 26 #[.string s] w fun e w' => e = .returned (.string (sizedS s)) ∧ Below w.heap.size w w' := by
  have z1 : (byteS (s.size / 256)).size + (byteS (s.size % 256)).size ≤ 9223372036854775807 := by rw [byteS_size, byteS_size]; omega
  have z2 : (byteS (s.size / 256)).size + (byteS (s.size % 256)).size + s.size ≤ 9223372036854775807 := by rw [byteS_size, byteS_size]; omega
  go_enter Try.func26, Try.ntmps26
  go_wp2_with fail
  (go_at_call 27; refine (l2Byte_any _ (by omega) _).mono ?_; rintro e wa ⟨rfl, hb_wa⟩; obtain ⟨hc_wa, hf_wa⟩ := bcell hb_wa; have hz_wa := hb_wa.size; (try simp only [World.size_alloc, World.size_setCell, World.size_drew] at hz_wa); (try simp only [World.size_alloc, World.size_setCell, World.size_drew] at hc_wa); (try simp only [World.size_alloc, World.size_setCell, World.size_drew] at hf_wa); skip)
  go_wp2_with fail
  (go_at_call 27; refine (l2Byte_any _ (by omega) _).mono ?_; rintro e wb ⟨rfl, hb_wb⟩; obtain ⟨hc_wb, hf_wb⟩ := bcell hb_wb; have hz_wb := hb_wb.size; (try simp only [World.size_alloc, World.size_setCell, World.size_drew] at hz_wb); (try simp only [World.size_alloc, World.size_setCell, World.size_drew] at hc_wb); (try simp only [World.size_alloc, World.size_setCell, World.size_drew] at hf_wb); skip)
  go_wp2
  go_ret
  exact ⟨rfl, by (repeat' (first | exact Below.refl _ _ | (with_reducible assumption) | (with_reducible refine Below.setCell ?_ (by first | (simp; done) | (simp; omega)) _) | refine below_then ?_ (by assumption) | (with_reducible refine below_new2 ?_ _) | (with_reducible refine Below.drew ?_) | (with_reducible refine bdrewN ?_ _)))⟩
def szNode (a b c d : ByteArray) (left : Int) : Int :=
  if wrap64 (left - a.size) < 0 then -1 else if wrap64 (wrap64 (left - a.size) - b.size) < 0 then -1 else if wrap64 (wrap64 (wrap64 (left - a.size) - b.size) - c.size) < 0 then -1 else
  if wrap64 (wrap64 (wrap64 (wrap64 (left - a.size) - b.size) - c.size) - d.size) < 0 then -1 else wrap64 (wrap64 (wrap64 (wrap64 (left - a.size) - b.size) - c.size) - d.size)
set_option maxHeartbeats 400000 in
theorem szNode_any (a b c d : ByteArray) (left : Int) (w : World) :
    Calls Try.prog 10 #[.agg #[.string a, .string b, .string c, .string d], .int .i64 left] w fun e w' => e = .returned (.int .i64 (szNode a b c d left)) ∧ Below w.heap.size w w' := by
  go_enter Try.func10, Try.ntmps10
  go_wp2
  all_goals
    go_ret
    refine ⟨ret_int ?_, by (repeat' (first | exact Below.refl _ _ | (with_reducible assumption) | (with_reducible refine Below.setCell ?_ (by first | (simp; done) | (simp; omega)) _) | refine below_then ?_ (by assumption) | (with_reducible refine below_new2 ?_ _) | (with_reducible refine Below.drew ?_) | (with_reducible refine bdrewN ?_ _)))⟩
    go_light
    unfold szNode
    grind
theorem szNode_bound {a b c d : ByteArray} {left : Int} (h1 : a.size ≤ maxLen) (h2 : b.size ≤ maxLen) (h3 : c.size ≤ maxLen) (h4 : d.size ≤ maxLen) (h0 : 0 ≤ left) (hl : left ≤ 4294967296) (h : ¬ szNode a b c d left < 0) : (a.size : Int) + b.size + c.size + d.size ≤ left := by
  unfold maxLen at *
  unfold szNode wrap64 at h
  split at h
  · omega
  · split at h
    · omega
    · split at h
      · omega
      · split at h <;> omega
set_option maxHeartbeats 400000 in
theorem toNode_any (a b c d : ByteArray) (w : World) :
    Calls Try.prog 12 #[.agg #[.string a, .string b, .string c, .string d]] w fun e w' => e = .returned (.agg #[.string a, .string b, .string c, .string d]) ∧ Below w.heap.size w w' := by
  go_enter Try.func12, Try.ntmps12
  go_wp2
  refine bodyPost_ret (v := .agg #[.string a, .string b, .string c, .string d]) (by simp [results, Try.results12, go_sem]; try rfl) rfl ⟨rfl, by (repeat' (first | exact Below.refl _ _ | (with_reducible assumption) | (with_reducible refine Below.setCell ?_ (by first | (simp; done) | (simp; omega)) _) | refine below_then ?_ (by assumption) | (with_reducible refine below_new2 ?_ _) | (with_reducible refine Below.drew ?_) | (with_reducible refine bdrewN ?_ _)))⟩
set_option maxHeartbeats 400000 in
theorem l2NodeOk_any (a b c d : ByteArray) (x : Int) (w : World) :
    Calls Try.prog 25 #[.agg #[.string a, .string b, .string c, .string d], .int .i64 x] w fun e w' => e = .returned (.bool (nodeOk a b c d x)) ∧ Below w.heap.size w w' := by
  unfold nodeOk
  by_cases hw : isW x = true
  · by_cases h2 : hOk c x = true
    all_goals
      go_enter Try.func25, Try.ntmps25
      go_wp2_with (first | (go_at_call 19; refine (l1Width_any _ _).mono ?_; rintro e wq ⟨rfl, rfl⟩) | (go_at_call 37; refine (l2HashOk_any _ _ _).mono ?_; rintro e wq ⟨rfl, rfl⟩))
      all_goals
        go_ret
        refine ⟨ret_bool ?_, by (repeat' (first | exact Below.refl _ _ | (with_reducible assumption) | (with_reducible refine Below.setCell ?_ (by first | (simp; done) | (simp; omega)) _) | refine below_then ?_ (by assumption) | (with_reducible refine below_new2 ?_ _) | (with_reducible refine Below.drew ?_) | (with_reducible refine bdrewN ?_ _)))⟩
        go_light
        grind
  · go_enter Try.func25, Try.ntmps25
    go_wp2_with (first | (go_at_call 19; refine (l1Width_any _ _).mono ?_; rintro e wq ⟨rfl, rfl⟩) | (go_at_call 37; refine (l2HashOk_any _ _ _).mono ?_; rintro e wq ⟨rfl, rfl⟩))
    all_goals
      go_ret
      refine ⟨ret_bool ?_, by (repeat' (first | exact Below.refl _ _ | (with_reducible assumption) | (with_reducible refine Below.setCell ?_ (by first | (simp; done) | (simp; omega)) _) | refine below_then ?_ (by assumption) | (with_reducible refine below_new2 ?_ _) | (with_reducible refine Below.drew ?_) | (with_reducible refine bdrewN ?_ _)))⟩
      go_light
      grind
set_option maxHeartbeats 400000 in
theorem fits_any (h : ByteArray) (x : Int) (p : Addr) (w : World) (hp : w.cell? p = some (.int .i64 x)) :
    Calls Try.prog 36 #[.string h, .pointer (some p)] w fun e w' => e = .returned (.bool (hOk h x)) ∧ w = w' := by
  have he : h.toList.isEmpty = decide (h.size = 0) := by
    rw [Bool.eq_iff_iff, decide_eq_true_eq, ← size_zero, ← toList_nil_iff_emptyBytes, List.isEmpty_iff]
  unfold hOk
  rw [← he]
  clear he
  go_enter Try.func36, Try.ntmps36
  go_wp2
  all_goals
    go_ret
    refine ⟨ret_bool ?_, rfl⟩
    go_light
    clear hp
    grind
set_option maxHeartbeats 400000 in
theorem nodeValid_any (a b c d : ByteArray) (x : Int) (w : World) :
    Calls Try.prog 24 #[.agg #[.string a, .string b, .string c, .string d], .int .i64 x] w fun e w' => e = .returned (.bool (nodeOk a b c d x)) ∧ Below w.heap.size w w' := by
  unfold nodeOk
  by_cases hw : isW x = true
  · by_cases h2 : hOk c x = true
    all_goals
      go_enter Try.func24, Try.ntmps24
      go_wp2_with (first | (go_at_call 20; refine (isWidth_any _ _).mono ?_; rintro e wq ⟨rfl, rfl⟩) | (go_at_call 36; refine (fits_any _ x _ _ (by simp [go_sem])).mono ?_; rintro e wq ⟨rfl, rfl⟩))
      all_goals
        go_ret
        refine ⟨ret_bool ?_, by (repeat' (first | exact Below.refl _ _ | (with_reducible assumption) | (with_reducible refine Below.setCell ?_ (by first | (simp; done) | (simp; omega)) _) | refine below_then ?_ (by assumption) | (with_reducible refine below_new2 ?_ _) | (with_reducible refine Below.drew ?_) | (with_reducible refine bdrewN ?_ _)))⟩
        go_light
        grind
  · go_enter Try.func24, Try.ntmps24
    go_wp2_with (first | (go_at_call 20; refine (isWidth_any _ _).mono ?_; rintro e wq ⟨rfl, rfl⟩) | (go_at_call 36; refine (fits_any _ x _ _ (by simp [go_sem])).mono ?_; rintro e wq ⟨rfl, rfl⟩))
    all_goals
      go_ret
      refine ⟨ret_bool ?_, by (repeat' (first | exact Below.refl _ _ | (with_reducible assumption) | (with_reducible refine Below.setCell ?_ (by first | (simp; done) | (simp; omega)) _) | refine below_then ?_ (by assumption) | (with_reducible refine below_new2 ?_ _) | (with_reducible refine Below.drew ?_) | (with_reducible refine bdrewN ?_ _)))⟩
      go_light
      grind
set_option maxHeartbeats 400000 in
theorem specEncodeNode_any (a b c d : ByteArray) (x : Int) (w : World) :
    Calls Try.prog 11 #[.agg #[.string a, .string b, .string c, .string d], .int .i64 x] w fun e w' => e = .returned (.string (encNode a b c d x)) ∧ Below w.heap.size w w' := by
  by_cases hok : nodeOk a b c d x = true
  · have hsz : a.size ≤ 256 ∧ b.size ≤ 2000 ∧ c.size ≤ 32 ∧ d.size ≤ 32 := by
      unfold nodeOk hOk isW at hok
      simp only [Bool.and_eq_true, Bool.or_eq_true, decide_eq_true_eq] at hok
      omega
    obtain ⟨h1, h2, h3, h4⟩ := hsz
    have he : encNode a b c d x = sizedS a ++ sizedS b ++ byteS (flagsOf c d) ++ c ++ d := by unfold encNode; rw [if_pos hok]
    have HE := Lib.hid he; clear he
    have h1b : a.size ≤ 4294967296 := by omega
    have h2b : b.size ≤ 4294967296 := by omega
    have z0 := fun x => byteS_size x
    have z1 : ¬ (9223372036854775807 < (sizedS a).size + (sizedS b).size) := by rw [sizedS_size, sizedS_size]; omega
    have z20 : ¬ (9223372036854775807 < (sizedS a).size + (sizedS b).size + (byteS 0).size) := by simp only [ByteArray.size_append, sizedS_size, byteS_size]; omega
    have z30 : ¬ (9223372036854775807 < (sizedS a).size + (sizedS b).size + (byteS 0).size + c.size) := by simp only [ByteArray.size_append, sizedS_size, byteS_size]; omega
    have z40 : ¬ (9223372036854775807 < (sizedS a).size + (sizedS b).size + (byteS 0).size + c.size + d.size) := by simp only [ByteArray.size_append, sizedS_size, byteS_size]; omega
    have z21 : ¬ (9223372036854775807 < (sizedS a).size + (sizedS b).size + (byteS 1).size) := by simp only [ByteArray.size_append, sizedS_size, byteS_size]; omega
    have z31 : ¬ (9223372036854775807 < (sizedS a).size + (sizedS b).size + (byteS 1).size + c.size) := by simp only [ByteArray.size_append, sizedS_size, byteS_size]; omega
    have z41 : ¬ (9223372036854775807 < (sizedS a).size + (sizedS b).size + (byteS 1).size + c.size + d.size) := by simp only [ByteArray.size_append, sizedS_size, byteS_size]; omega
    have z22 : ¬ (9223372036854775807 < (sizedS a).size + (sizedS b).size + (byteS 2).size) := by simp only [ByteArray.size_append, sizedS_size, byteS_size]; omega
    have z32 : ¬ (9223372036854775807 < (sizedS a).size + (sizedS b).size + (byteS 2).size + c.size) := by simp only [ByteArray.size_append, sizedS_size, byteS_size]; omega
    have z42 : ¬ (9223372036854775807 < (sizedS a).size + (sizedS b).size + (byteS 2).size + c.size + d.size) := by simp only [ByteArray.size_append, sizedS_size, byteS_size]; omega
    have z23 : ¬ (9223372036854775807 < (sizedS a).size + (sizedS b).size + (byteS 3).size) := by simp only [ByteArray.size_append, sizedS_size, byteS_size]; omega
    have z33 : ¬ (9223372036854775807 < (sizedS a).size + (sizedS b).size + (byteS 3).size + c.size) := by simp only [ByteArray.size_append, sizedS_size, byteS_size]; omega
    have z43 : ¬ (9223372036854775807 < (sizedS a).size + (sizedS b).size + (byteS 3).size + c.size + d.size) := by simp only [ByteArray.size_append, sizedS_size, byteS_size]; omega
    have z50 : ¬ (9223372036854775807 < (sizedS a).size + (sizedS b).size + (byteS 0).size + d.size) := by simp only [ByteArray.size_append, sizedS_size, byteS_size]; omega
    have z51 : ¬ (9223372036854775807 < (sizedS a).size + (sizedS b).size + (byteS 1).size + d.size) := by simp only [ByteArray.size_append, sizedS_size, byteS_size]; omega
    have z52 : ¬ (9223372036854775807 < (sizedS a).size + (sizedS b).size + (byteS 2).size + d.size) := by simp only [ByteArray.size_append, sizedS_size, byteS_size]; omega
    have z53 : ¬ (9223372036854775807 < (sizedS a).size + (sizedS b).size + (byteS 3).size + d.size) := by simp only [ByteArray.size_append, sizedS_size, byteS_size]; omega
    clear z0
    by_cases hc : c.size = 0
    all_goals
      by_cases hd : d.size = 0
      all_goals
        go_enter Try.func11, Try.ntmps11
        go_wp2_with (first | (go_at_call 25; refine (l2NodeOk_any _ _ _ _ _ _).mono ?_; rintro e wa ⟨rfl, hb_wa⟩; obtain ⟨hc_wa, hf_wa⟩ := bcell hb_wa; have hz_wa := hb_wa.size; (try simp only [World.size_alloc, World.size_setCell, World.size_drew] at hz_wa); (try simp only [World.size_alloc, World.size_setCell, World.size_drew] at hc_wa); (try simp only [World.size_alloc, World.size_setCell, World.size_drew] at hf_wa); (try have q_w_0_wa : w.heap.size < wa.heap.size := by omega)))
        have hS : wa.cell? ⟨w.heap.size, 0, none⟩ = some (.string a) ∧ wa.cell? ⟨w.heap.size, 1, none⟩ = some (.string b) ∧ wa.cell? ⟨w.heap.size, 2, none⟩ = some (.string c) ∧ wa.cell? ⟨w.heap.size, 3, none⟩ = some (.string d) := by
          refine ⟨?_, ?_, ?_, ?_⟩ <;> (rw [hc_wa _ _ (by omega)]; simp [go_sem])
        obtain ⟨e0, e1, e2, e3⟩ := hS
        clear hc_wa hf_wa
        go_region_held3 (fun w' => w'.cell? ⟨w.heap.size, 0, none⟩ = some (.string a) ∧ w'.cell? ⟨w.heap.size, 1, none⟩ = some (.string b) ∧ w'.cell? ⟨w.heap.size, 2, none⟩ = some (.string c) ∧ w'.cell? ⟨w.heap.size, 3, none⟩ = some (.string d))
          (first
            | exact held4B (by assumption) (by assumption)
            | assumption
            | (simp [*]; done))
          (first
            | (go_at_call 27; refine (l2Byte_any _ (by decide) _).mono ?_; rintro e wx ⟨rfl, hbx⟩)
            | (go_at_call_of 26 (Value.string a); refine (l2Sized_any a h1b _).mono ?_; rintro e wx ⟨rfl, hbx⟩)
            | (go_at_call_of 26 (Value.string b); refine (l2Sized_any b h2b _).mono ?_; rintro e wx ⟨rfl, hbx⟩))
        go_wp2
        all_goals
          go_ret
          refine ⟨?_, by (repeat' (first | exact Below.refl _ _ | (with_reducible assumption) | (with_reducible refine Below.setCell ?_ (by first | (simp; done) | (simp; omega)) _) | refine below_then ?_ (by assumption) | (with_reducible refine below_new2 ?_ _) | (with_reducible refine Below.drew ?_) | (with_reducible refine bdrewN ?_ _)))⟩
          rw [HE.out]
          simp [flagsOf, hc, hd]
  · have he : encNode a b c d x = ⟨#[]⟩ := by unfold encNode; rw [if_neg hok]
    have HE := Lib.hid he; clear he
    go_enter Try.func11, Try.ntmps11
    go_wp2_with (first | (go_at_call 25; refine (l2NodeOk_any _ _ _ _ _ _).mono ?_; rintro e wa ⟨rfl, hb_wa⟩; obtain ⟨hc_wa, hf_wa⟩ := bcell hb_wa; have hz_wa := hb_wa.size; (try simp only [World.size_alloc, World.size_setCell, World.size_drew] at hz_wa); (try simp only [World.size_alloc, World.size_setCell, World.size_drew] at hc_wa); (try simp only [World.size_alloc, World.size_setCell, World.size_drew] at hf_wa); skip))
    all_goals
      go_ret
      exact ⟨by rw [HE.out]; rfl, by (repeat' (first | exact Below.refl _ _ | (with_reducible assumption) | (with_reducible refine Below.setCell ?_ (by first | (simp; done) | (simp; omega)) _) | refine below_then ?_ (by assumption) | (with_reducible refine below_new2 ?_ _) | (with_reducible refine Below.drew ?_) | (with_reducible refine bdrewN ?_ _)))⟩
end Go.Proofs.Ytpbcobiompgigaa
