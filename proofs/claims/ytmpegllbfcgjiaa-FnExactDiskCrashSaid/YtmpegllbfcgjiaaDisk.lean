/- The disk functions: what each call gives. -/
import Derived.Test.YtmpegllbfcgjiaaBase
namespace Go.Proofs.Ytmpegllbfcgjiaa
open Go.RowKit
set_option linter.unusedVariables false
set_option linter.unusedSimpArgs false
def szDisk (s n : ByteArray) (left : Int) : Int :=
  if wrap64 (left - s.size) < 0 then -1 else if wrap64 (wrap64 (left - s.size) - n.size) < 0 then -1 else wrap64 (wrap64 (left - s.size) - n.size)
def dsk (s n : ByteArray) (c : Int) : Value := .agg #[.string s, .string n, .int .i64 c]
set_option maxHeartbeats 400000 in
theorem szDisk_any (s n : ByteArray) (c left : Int) (w : World) :
    Calls Try.prog 8 #[.agg #[.string s, .string n, .int .i64 c], .int .i64 left] w fun e w' => e = .returned (.int .i64 (szDisk s n left)) ∧ Below w.heap.size w w' := by
  go_enter Try.func8, Try.ntmps8
  go_wp2
  all_goals
    go_ret
    refine ⟨ret_int ?_, below_new2 (Below.refl _ _) _⟩
    go_light
    unfold szDisk
    grind
set_option maxHeartbeats 400000 in
theorem toDisk_any (s n : ByteArray) (c : Int) (w : World) :
    Calls Try.prog 10 #[.agg #[.string s, .string n, .int .i64 c]] w fun e w' => e = .returned (.agg #[.string s, .string n, .int .i64 c]) ∧ Below w.heap.size w w' := by
  go_enter Try.func10, Try.ntmps10
  go_wp2
  exact bodyPost_ret (v := .agg #[.string s, .string n, .int .i64 c]) (by simp [results, Try.results10, go_sem]) rfl ⟨rfl, below_new2 (below_new2 (below_new2 (Below.refl _ _) _) _) _⟩
set_option maxHeartbeats 400000 in
theorem eqDisk_any (s n s2 n2: ByteArray) (c c2 : Int) (w : World) :
    Calls Try.prog 12 #[.agg #[.string s, .string n, .int .i64 c], .agg #[.string s2, .string n2, .int .i64 c2]] w fun e w' => e = .returned (.bool (s.toList == s2.toList && n.toList == n2.toList && c == c2)) ∧ Below w.heap.size w w' := by
  go_enter Try.func12, Try.ntmps12
  go_wp2
  all_goals
    go_ret
    refine ⟨ret_bool ?_, below_new2 (below_new2 (Below.refl _ _) _) _⟩
    go_light
    grind
def hasPre (s p : ByteArray) : Bool := decide (p.size ≤ s.size) && ((s.extract 0 p.size).toList == p.toList)
set_option maxHeartbeats 400000 in
theorem hasPrefix_any (s p : ByteArray) (w : World) :
    Calls Try.prog 24 #[.string s, .string p] w fun e w' => e = .returned (.bool (hasPre s p)) ∧ w = w' := by
  go_enter Try.func24, Try.ntmps24
  go_wp2
  all_goals
    go_ret
    refine ⟨ret_bool ?_, rfl⟩
    go_light
    unfold hasPre
    simp [*]
/-- A disk that is valid. -/
def diskOk (s n : ByteArray) (c : Int) : Bool := decide (0 ≤ c) && decide (c ≤ 1048576) && decide ((n.size : Int) ≤ c) && hasPre n s
set_option maxHeartbeats 400000 in
theorem l3DiskOk_any (s n : ByteArray) (c : Int) (w : World) :
    Calls Try.prog 21 #[.agg #[.string s, .string n, .int .i64 c]] w fun e w' => e = .returned (.bool (diskOk s n c)) ∧ Below w.heap.size w w' := by
  by_cases hle : s.size ≤ n.size
  all_goals
    have hle' := hle
    go_enter Try.func21, Try.ntmps21
    go_wp2
    all_goals try (go_quiet (fail); go_wp2)
  all_goals
    go_ret
    refine ⟨ret_bool ?_, by (repeat' (first | exact Below.refl _ _ | (with_reducible assumption) | (with_reducible refine Below.setCell ?_ (by first | (simp; done) | (simp; omega)) _) | refine below_then ?_ (by assumption) | (with_reducible refine below_new2 ?_ _) | (with_reducible refine Below.drew ?_) | (with_reducible refine bdrewN ?_ _)))⟩
    go_light
    unfold diskOk hasPre
    grind
set_option maxHeartbeats 400000 in
theorem diskValid_any (s n : ByteArray) (c : Int) (w : World) :
    Calls Try.prog 22 #[.agg #[.string s, .string n, .int .i64 c]] w fun e w' => e = .returned (.bool (diskOk s n c)) ∧ Below w.heap.size w w' := by
  go_enter Try.func22, Try.ntmps22
  go_wp2
  all_goals
    go_ret
    refine ⟨ret_bool ?_, by (repeat' (first | exact Below.refl _ _ | (with_reducible assumption) | (with_reducible refine Below.setCell ?_ (by first | (simp; done) | (simp; omega)) _) | refine below_then ?_ (by assumption) | (with_reducible refine below_new2 ?_ _) | (with_reducible refine Below.drew ?_) | (with_reducible refine bdrewN ?_ _)))⟩
    go_light
    unfold diskOk hasPre
    grind
def Dsk : Type := ByteArray × ByteArray × Int
def vDsk (d : ByteArray × ByteArray × Int) : Value := .agg #[.string d.1, .string d.2.1, .int .i64 d.2.2]
def vDskCode (r : (ByteArray × ByteArray × Int) × Int) : Value := .tuple #[vDsk r.1, .int .i64 r.2]
attribute [go_sem] vDsk vDskCode
def noDsk : ByteArray × ByteArray × Int := (⟨#[]⟩, ⟨#[]⟩, 0)
def pSync (s n : ByteArray) (c : Int) : (ByteArray × ByteArray × Int) × Int := if diskOk s n c = true then ((n, n, c), 0) else (noDsk, 9)
set_option maxHeartbeats 400000 in
theorem specDiskSync_any (s n : ByteArray) (c : Int) (w : World) :
    Calls Try.prog 13 #[.agg #[.string s, .string n, .int .i64 c]] w fun e w' => e = .returned (vDskCode (pSync s n c)) ∧ Below w.heap.size w w' := by
  by_cases hok : diskOk s n c = true
  all_goals
    go_enter Try.func13, Try.ntmps13
    go_wp2_with (go_at_call 21; refine (l3DiskOk_any _ _ _ _).mono ?_; rintro e w1 ⟨rfl, hb⟩; obtain ⟨hc, hf⟩ := bcell hb; have hz := hb.size; (try simp only [World.size_alloc, World.size_setCell, World.size_drew] at hz); (try simp only [World.size_alloc, World.size_setCell, World.size_drew] at hc); (try simp only [World.size_alloc, World.size_setCell, World.size_drew] at hf))
  · refine bodyPost_ret (v := .tuple #[.agg #[.string n, .string n, .int .i64 c], .int .i64 0]) (by simp [results, Try.results13, go_sem, hc, hz]; try rfl) rfl ⟨?_, ?_⟩
    · simp [pSync, hok, vDskCode, vDsk, noDsk]
    · (repeat' (first | exact Below.refl _ _ | (with_reducible assumption) | (with_reducible refine Below.setCell ?_ (by first | (simp; done) | (simp; omega)) _) | refine below_then ?_ (by assumption) | (with_reducible refine below_new2 ?_ _) | (with_reducible refine Below.drew ?_) | (with_reducible refine bdrewN ?_ _)))
  · refine bodyPost_ret (v := .tuple #[.agg #[.string (⟨#[]⟩ : ByteArray), .string (⟨#[]⟩ : ByteArray), .int .i64 0], .int .i64 9]) (by simp [results, Try.results13, go_sem, hc, hz]; try rfl) rfl ⟨?_, ?_⟩
    · simp [pSync, hok, vDskCode, vDsk, noDsk]
    · (repeat' (first | exact Below.refl _ _ | (with_reducible assumption) | (with_reducible refine Below.setCell ?_ (by first | (simp; done) | (simp; omega)) _) | refine below_then ?_ (by assumption) | (with_reducible refine below_new2 ?_ _) | (with_reducible refine Below.drew ?_) | (with_reducible refine bdrewN ?_ _)))
set_option maxHeartbeats 400000 in
theorem implDiskSync_any (s n : ByteArray) (c : Int) (w : World) :
    Calls Try.prog 14 #[.agg #[.string s, .string n, .int .i64 c]] w fun e w' => e = .returned (vDskCode (pSync s n c)) ∧ Below w.heap.size w w' := by
  by_cases hok : diskOk s n c = true
  all_goals
    go_enter Try.func14, Try.ntmps14
    go_wp2_with (go_at_call 22; refine (diskValid_any _ _ _ _).mono ?_; rintro e w1 ⟨rfl, hb⟩; obtain ⟨hc, hf⟩ := bcell hb; have hz := hb.size; (try simp only [World.size_alloc, World.size_setCell, World.size_drew] at hz); (try simp only [World.size_alloc, World.size_setCell, World.size_drew] at hc); (try simp only [World.size_alloc, World.size_setCell, World.size_drew] at hf))
  · refine bodyPost_ret (v := .tuple #[.agg #[.string n, .string n, .int .i64 c], .int .i64 0]) (by simp [results, Try.results14, go_sem, hc, hz]; try rfl) rfl ⟨?_, ?_⟩
    · simp [pSync, hok, vDskCode, vDsk, noDsk]
    · (repeat' (first | exact Below.refl _ _ | (with_reducible assumption) | (with_reducible refine Below.setCell ?_ (by first | (simp; done) | (simp; omega)) _) | refine below_then ?_ (by assumption) | (with_reducible refine below_new2 ?_ _) | (with_reducible refine Below.drew ?_) | (with_reducible refine bdrewN ?_ _)))
  · refine bodyPost_ret (v := .tuple #[.agg #[.string (⟨#[]⟩ : ByteArray), .string (⟨#[]⟩ : ByteArray), .int .i64 0], .int .i64 9]) (by simp [results, Try.results14, go_sem, hc, hz]; try rfl) rfl ⟨?_, ?_⟩
    · simp [pSync, hok, vDskCode, vDsk, noDsk]
    · (repeat' (first | exact Below.refl _ _ | (with_reducible assumption) | (with_reducible refine Below.setCell ?_ (by first | (simp; done) | (simp; omega)) _) | refine below_then ?_ (by assumption) | (with_reducible refine below_new2 ?_ _) | (with_reducible refine Below.drew ?_) | (with_reducible refine bdrewN ?_ _)))
def pAppend (s n : ByteArray) (c : Int) (t : ByteArray) : (ByteArray × ByteArray × Int) × Int :=
  if diskOk s n c = true then (if c < n.size + t.size then ((s, n, c), 1) else ((s, n ++ t, c), 0)) else (noDsk, 9)
set_option maxHeartbeats 400000 in
theorem specDiskAppend_any (s n : ByteArray) (c : Int) (t : ByteArray) (ht : n.size + t.size ≤ 4294967296) (w : World) :
    Calls Try.prog 15 #[.agg #[.string s, .string n, .int .i64 c], .string t] w fun e w' => e = .returned (vDskCode (pAppend s n c t)) ∧ Below w.heap.size w w' := by
  by_cases hok : diskOk s n c = true
  · by_cases hr : c < n.size + t.size
    all_goals
      go_enter Try.func15, Try.ntmps15
      go_wp2_with (go_at_call 21; refine (l3DiskOk_any _ _ _ _).mono ?_; rintro e w1 ⟨rfl, hb⟩; obtain ⟨hc, hf⟩ := bcell hb; have hz := hb.size; (try simp only [World.size_alloc, World.size_setCell, World.size_drew] at hz); (try simp only [World.size_alloc, World.size_setCell, World.size_drew] at hc); (try simp only [World.size_alloc, World.size_setCell, World.size_drew] at hf))
    · refine bodyPost_ret (v := .tuple #[.agg #[.string s, .string n, .int .i64 c], .int .i64 1]) (by simp [results, Try.results15, go_sem, hc, hz]; try rfl) rfl ⟨?_, ?_⟩
      · rw [pAppend, if_pos hok]; first | (rw [if_pos (by omega)]; rfl) | (rw [if_neg (by omega)]; rfl)
      · (repeat' (first | exact Below.refl _ _ | (with_reducible assumption) | (with_reducible refine Below.setCell ?_ (by first | (simp; done) | (simp; omega)) _) | refine below_then ?_ (by assumption) | (with_reducible refine below_new2 ?_ _) | (with_reducible refine Below.drew ?_) | (with_reducible refine bdrewN ?_ _)))
    · refine bodyPost_ret (v := .tuple #[.agg #[.string s, .string (n ++ t), .int .i64 c], .int .i64 0]) (by simp [results, Try.results15, go_sem, hc, hz]; try rfl) rfl ⟨?_, ?_⟩
      · rw [pAppend, if_pos hok]; first | (rw [if_pos (by omega)]; rfl) | (rw [if_neg (by omega)]; rfl)
      · (repeat' (first | exact Below.refl _ _ | (with_reducible assumption) | (with_reducible refine Below.setCell ?_ (by first | (simp; done) | (simp; omega)) _) | refine below_then ?_ (by assumption) | (with_reducible refine below_new2 ?_ _) | (with_reducible refine Below.drew ?_) | (with_reducible refine bdrewN ?_ _)))
  · go_enter Try.func15, Try.ntmps15
    go_wp2_with (go_at_call 21; refine (l3DiskOk_any _ _ _ _).mono ?_; rintro e w1 ⟨rfl, hb⟩; obtain ⟨hc, hf⟩ := bcell hb; have hz := hb.size; (try simp only [World.size_alloc, World.size_setCell, World.size_drew] at hz); (try simp only [World.size_alloc, World.size_setCell, World.size_drew] at hc); (try simp only [World.size_alloc, World.size_setCell, World.size_drew] at hf))
    refine bodyPost_ret (v := .tuple #[.agg #[.string (⟨#[]⟩ : ByteArray), .string (⟨#[]⟩ : ByteArray), .int .i64 0], .int .i64 9]) (by simp [results, Try.results15, go_sem, hc, hz]; try rfl) rfl ⟨?_, ?_⟩
    · simp [pAppend, hok, vDskCode, vDsk, noDsk]
    · (repeat' (first | exact Below.refl _ _ | (with_reducible assumption) | (with_reducible refine Below.setCell ?_ (by first | (simp; done) | (simp; omega)) _) | refine below_then ?_ (by assumption) | (with_reducible refine below_new2 ?_ _) | (with_reducible refine Below.drew ?_) | (with_reducible refine bdrewN ?_ _)))
set_option maxHeartbeats 400000 in
theorem implDiskAppend_any (s n : ByteArray) (c : Int) (t : ByteArray) (ht : n.size + t.size ≤ 4294967296) (w : World) :
    Calls Try.prog 16 #[.agg #[.string s, .string n, .int .i64 c], .string t] w fun e w' => e = .returned (vDskCode (pAppend s n c t)) ∧ Below w.heap.size w w' := by
  by_cases hok : diskOk s n c = true
  · by_cases hr : c < n.size + t.size
    all_goals
      go_enter Try.func16, Try.ntmps16
      go_wp2_with (go_at_call 22; refine (diskValid_any _ _ _ _).mono ?_; rintro e w1 ⟨rfl, hb⟩; obtain ⟨hc, hf⟩ := bcell hb; have hz := hb.size; (try simp only [World.size_alloc, World.size_setCell, World.size_drew] at hz); (try simp only [World.size_alloc, World.size_setCell, World.size_drew] at hc); (try simp only [World.size_alloc, World.size_setCell, World.size_drew] at hf))
    · refine bodyPost_ret (v := .tuple #[.agg #[.string s, .string n, .int .i64 c], .int .i64 1]) (by simp [results, Try.results16, go_sem, hc, hz]; try rfl) rfl ⟨?_, ?_⟩
      · rw [pAppend, if_pos hok]; first | (rw [if_pos (by omega)]; rfl) | (rw [if_neg (by omega)]; rfl)
      · (repeat' (first | exact Below.refl _ _ | (with_reducible assumption) | (with_reducible refine Below.setCell ?_ (by first | (simp; done) | (simp; omega)) _) | refine below_then ?_ (by assumption) | (with_reducible refine below_new2 ?_ _) | (with_reducible refine Below.drew ?_) | (with_reducible refine bdrewN ?_ _)))
    · refine bodyPost_ret (v := .tuple #[.agg #[.string s, .string (n ++ t), .int .i64 c], .int .i64 0]) (by simp [results, Try.results16, go_sem, hc, hz]; try rfl) rfl ⟨?_, ?_⟩
      · rw [pAppend, if_pos hok]; first | (rw [if_pos (by omega)]; rfl) | (rw [if_neg (by omega)]; rfl)
      · (repeat' (first | exact Below.refl _ _ | (with_reducible assumption) | (with_reducible refine Below.setCell ?_ (by first | (simp; done) | (simp; omega)) _) | refine below_then ?_ (by assumption) | (with_reducible refine below_new2 ?_ _) | (with_reducible refine Below.drew ?_) | (with_reducible refine bdrewN ?_ _)))
  · go_enter Try.func16, Try.ntmps16
    go_wp2_with (go_at_call 22; refine (diskValid_any _ _ _ _).mono ?_; rintro e w1 ⟨rfl, hb⟩; obtain ⟨hc, hf⟩ := bcell hb; have hz := hb.size; (try simp only [World.size_alloc, World.size_setCell, World.size_drew] at hz); (try simp only [World.size_alloc, World.size_setCell, World.size_drew] at hc); (try simp only [World.size_alloc, World.size_setCell, World.size_drew] at hf))
    refine bodyPost_ret (v := .tuple #[.agg #[.string (⟨#[]⟩ : ByteArray), .string (⟨#[]⟩ : ByteArray), .int .i64 0], .int .i64 9]) (by simp [results, Try.results16, go_sem, hc, hz]; try rfl) rfl ⟨?_, ?_⟩
    · simp [pAppend, hok, vDskCode, vDsk, noDsk]
    · (repeat' (first | exact Below.refl _ _ | (with_reducible assumption) | (with_reducible refine Below.setCell ?_ (by first | (simp; done) | (simp; omega)) _) | refine below_then ?_ (by assumption) | (with_reducible refine below_new2 ?_ _) | (with_reducible refine Below.drew ?_) | (with_reducible refine bdrewN ?_ _)))
def pCut (s n : ByteArray) (c : Int) (k : Int) : (ByteArray × ByteArray × Int) × Int :=
  if diskOk s n c = true ∧ 0 ≤ k ∧ k ≤ n.size then ((n.extract 0 k.toNat, n.extract 0 k.toNat, c), 0) else (noDsk, 9)
set_option maxHeartbeats 400000 in
theorem specDiskCut_any (s n : ByteArray) (c : Int) (k : Int) (w : World) :
    Calls Try.prog 9 #[.agg #[.string s, .string n, .int .i64 c], .int .i64 k] w fun e w' => e = .returned (vDskCode (pCut s n c k)) ∧ Below w.heap.size w w' := by
  by_cases hok : diskOk s n c = true
  · by_cases hk : 0 ≤ k
    · by_cases hn : k ≤ n.size
      · go_enter Try.func9, Try.ntmps9
        go_wp2_with (go_at_call 21; refine (l3DiskOk_any _ _ _ _).mono ?_; rintro e w1 ⟨rfl, hb⟩; obtain ⟨hc, hf⟩ := bcell hb; have hz := hb.size; (try simp only [World.size_alloc, World.size_setCell, World.size_drew] at hz); (try simp only [World.size_alloc, World.size_setCell, World.size_drew] at hc); (try simp only [World.size_alloc, World.size_setCell, World.size_drew] at hf))
        go_region
        go_wp2
        refine bodyPost_ret (v := .tuple #[.agg #[.string (n.extract 0 k.toNat), .string (n.extract 0 k.toNat), .int .i64 c], .int .i64 0]) (by simp [results, Try.results9, go_sem, hc, hz]; try rfl) rfl ⟨?_, ?_⟩
        · rw [pCut, if_pos ⟨hok, hk, hn⟩]; rfl
        · (repeat' (first | exact Below.refl _ _ | (with_reducible assumption) | (with_reducible refine Below.setCell ?_ (by first | (simp; done) | (simp; omega)) _) | refine below_then ?_ (by assumption) | (with_reducible refine below_new2 ?_ _) | (with_reducible refine Below.drew ?_) | (with_reducible refine bdrewN ?_ _)))
      · go_enter Try.func9, Try.ntmps9
        go_wp2_with (go_at_call 21; refine (l3DiskOk_any _ _ _ _).mono ?_; rintro e w1 ⟨rfl, hb⟩; obtain ⟨hc, hf⟩ := bcell hb; have hz := hb.size; (try simp only [World.size_alloc, World.size_setCell, World.size_drew] at hz); (try simp only [World.size_alloc, World.size_setCell, World.size_drew] at hc); (try simp only [World.size_alloc, World.size_setCell, World.size_drew] at hf))
        refine bodyPost_ret (v := .tuple #[.agg #[.string (⟨#[]⟩ : ByteArray), .string (⟨#[]⟩ : ByteArray), .int .i64 0], .int .i64 9]) (by simp [results, Try.results9, go_sem, hc, hz]; try rfl) rfl ⟨?_, ?_⟩
        · rw [pCut, if_neg (by omega)]; rfl
        · (repeat' (first | exact Below.refl _ _ | (with_reducible assumption) | (with_reducible refine Below.setCell ?_ (by first | (simp; done) | (simp; omega)) _) | refine below_then ?_ (by assumption) | (with_reducible refine below_new2 ?_ _) | (with_reducible refine Below.drew ?_) | (with_reducible refine bdrewN ?_ _)))
    · go_enter Try.func9, Try.ntmps9
      go_wp2_with (go_at_call 21; refine (l3DiskOk_any _ _ _ _).mono ?_; rintro e w1 ⟨rfl, hb⟩; obtain ⟨hc, hf⟩ := bcell hb; have hz := hb.size; (try simp only [World.size_alloc, World.size_setCell, World.size_drew] at hz); (try simp only [World.size_alloc, World.size_setCell, World.size_drew] at hc); (try simp only [World.size_alloc, World.size_setCell, World.size_drew] at hf))
      refine bodyPost_ret (v := .tuple #[.agg #[.string (⟨#[]⟩ : ByteArray), .string (⟨#[]⟩ : ByteArray), .int .i64 0], .int .i64 9]) (by simp [results, Try.results9, go_sem, hc, hz]; try rfl) rfl ⟨?_, ?_⟩
      · rw [pCut, if_neg (by omega)]; rfl
      · (repeat' (first | exact Below.refl _ _ | (with_reducible assumption) | (with_reducible refine Below.setCell ?_ (by first | (simp; done) | (simp; omega)) _) | refine below_then ?_ (by assumption) | (with_reducible refine below_new2 ?_ _) | (with_reducible refine Below.drew ?_) | (with_reducible refine bdrewN ?_ _)))
  · go_enter Try.func9, Try.ntmps9
    go_wp2_with (go_at_call 21; refine (l3DiskOk_any _ _ _ _).mono ?_; rintro e w1 ⟨rfl, hb⟩; obtain ⟨hc, hf⟩ := bcell hb; have hz := hb.size; (try simp only [World.size_alloc, World.size_setCell, World.size_drew] at hz); (try simp only [World.size_alloc, World.size_setCell, World.size_drew] at hc); (try simp only [World.size_alloc, World.size_setCell, World.size_drew] at hf))
    refine bodyPost_ret (v := .tuple #[.agg #[.string (⟨#[]⟩ : ByteArray), .string (⟨#[]⟩ : ByteArray), .int .i64 0], .int .i64 9]) (by simp [results, Try.results9, go_sem, hc, hz]; try rfl) rfl ⟨?_, ?_⟩
    · rw [pCut, if_neg (fun h => hok h.1)]; rfl
    · (repeat' (first | exact Below.refl _ _ | (with_reducible assumption) | (with_reducible refine Below.setCell ?_ (by first | (simp; done) | (simp; omega)) _) | refine below_then ?_ (by assumption) | (with_reducible refine below_new2 ?_ _) | (with_reducible refine Below.drew ?_) | (with_reducible refine bdrewN ?_ _)))
set_option maxHeartbeats 400000 in
theorem implDiskCut_any (s n : ByteArray) (c : Int) (k : Int) (w : World) :
    Calls Try.prog 11 #[.agg #[.string s, .string n, .int .i64 c], .int .i64 k] w fun e w' => e = .returned (vDskCode (pCut s n c k)) ∧ Below w.heap.size w w' := by
  by_cases hok : diskOk s n c = true
  · by_cases hk : 0 ≤ k
    · by_cases hn : k ≤ n.size
      · go_enter Try.func11, Try.ntmps11
        go_wp2_with (go_at_call 22; refine (diskValid_any _ _ _ _).mono ?_; rintro e w1 ⟨rfl, hb⟩; obtain ⟨hc, hf⟩ := bcell hb; have hz := hb.size; (try simp only [World.size_alloc, World.size_setCell, World.size_drew] at hz); (try simp only [World.size_alloc, World.size_setCell, World.size_drew] at hc); (try simp only [World.size_alloc, World.size_setCell, World.size_drew] at hf))
        go_region
        go_wp2
        refine bodyPost_ret (v := .tuple #[.agg #[.string (n.extract 0 k.toNat), .string (n.extract 0 k.toNat), .int .i64 c], .int .i64 0]) (by simp [results, Try.results11, go_sem, hc, hz]; try rfl) rfl ⟨?_, ?_⟩
        · rw [pCut, if_pos ⟨hok, hk, hn⟩]; rfl
        · (repeat' (first | exact Below.refl _ _ | (with_reducible assumption) | (with_reducible refine Below.setCell ?_ (by first | (simp; done) | (simp; omega)) _) | refine below_then ?_ (by assumption) | (with_reducible refine below_new2 ?_ _) | (with_reducible refine Below.drew ?_) | (with_reducible refine bdrewN ?_ _)))
      · go_enter Try.func11, Try.ntmps11
        go_wp2_with (go_at_call 22; refine (diskValid_any _ _ _ _).mono ?_; rintro e w1 ⟨rfl, hb⟩; obtain ⟨hc, hf⟩ := bcell hb; have hz := hb.size; (try simp only [World.size_alloc, World.size_setCell, World.size_drew] at hz); (try simp only [World.size_alloc, World.size_setCell, World.size_drew] at hc); (try simp only [World.size_alloc, World.size_setCell, World.size_drew] at hf))
        refine bodyPost_ret (v := .tuple #[.agg #[.string (⟨#[]⟩ : ByteArray), .string (⟨#[]⟩ : ByteArray), .int .i64 0], .int .i64 9]) (by simp [results, Try.results11, go_sem, hc, hz]; try rfl) rfl ⟨?_, ?_⟩
        · rw [pCut, if_neg (by omega)]; rfl
        · (repeat' (first | exact Below.refl _ _ | (with_reducible assumption) | (with_reducible refine Below.setCell ?_ (by first | (simp; done) | (simp; omega)) _) | refine below_then ?_ (by assumption) | (with_reducible refine below_new2 ?_ _) | (with_reducible refine Below.drew ?_) | (with_reducible refine bdrewN ?_ _)))
    · go_enter Try.func11, Try.ntmps11
      go_wp2_with (go_at_call 22; refine (diskValid_any _ _ _ _).mono ?_; rintro e w1 ⟨rfl, hb⟩; obtain ⟨hc, hf⟩ := bcell hb; have hz := hb.size; (try simp only [World.size_alloc, World.size_setCell, World.size_drew] at hz); (try simp only [World.size_alloc, World.size_setCell, World.size_drew] at hc); (try simp only [World.size_alloc, World.size_setCell, World.size_drew] at hf))
      refine bodyPost_ret (v := .tuple #[.agg #[.string (⟨#[]⟩ : ByteArray), .string (⟨#[]⟩ : ByteArray), .int .i64 0], .int .i64 9]) (by simp [results, Try.results11, go_sem, hc, hz]; try rfl) rfl ⟨?_, ?_⟩
      · rw [pCut, if_neg (by omega)]; rfl
      · (repeat' (first | exact Below.refl _ _ | (with_reducible assumption) | (with_reducible refine Below.setCell ?_ (by first | (simp; done) | (simp; omega)) _) | refine below_then ?_ (by assumption) | (with_reducible refine below_new2 ?_ _) | (with_reducible refine Below.drew ?_) | (with_reducible refine bdrewN ?_ _)))
  · go_enter Try.func11, Try.ntmps11
    go_wp2_with (go_at_call 22; refine (diskValid_any _ _ _ _).mono ?_; rintro e w1 ⟨rfl, hb⟩; obtain ⟨hc, hf⟩ := bcell hb; have hz := hb.size; (try simp only [World.size_alloc, World.size_setCell, World.size_drew] at hz); (try simp only [World.size_alloc, World.size_setCell, World.size_drew] at hc); (try simp only [World.size_alloc, World.size_setCell, World.size_drew] at hf))
    refine bodyPost_ret (v := .tuple #[.agg #[.string (⟨#[]⟩ : ByteArray), .string (⟨#[]⟩ : ByteArray), .int .i64 0], .int .i64 9]) (by simp [results, Try.results11, go_sem, hc, hz]; try rfl) rfl ⟨?_, ?_⟩
    · rw [pCut, if_neg (fun h => hok h.1)]; rfl
    · (repeat' (first | exact Below.refl _ _ | (with_reducible assumption) | (with_reducible refine Below.setCell ?_ (by first | (simp; done) | (simp; omega)) _) | refine below_then ?_ (by assumption) | (with_reducible refine below_new2 ?_ _) | (with_reducible refine Below.drew ?_) | (with_reducible refine bdrewN ?_ _)))
end Go.Proofs.Ytmpegllbfcgjiaa
