/- DecodeNode of the reference. -/
import Derived.Test.YtpbcobiompgigaaDec
namespace Go.Proofs.Ytpbcobiompgigaa
open Go.RowKit
set_option linter.unusedVariables false
set_option linter.unusedSimpArgs false
def byteAt (s : ByteArray) (i : Nat) : Nat := (s.data.toList.getD i 0).toNat
theorem byteAt_lt (s : ByteArray) (i : Nat) : byteAt s i < 256 := UInt8.toNat_lt _
theorem byteAt_eq (s : ByteArray) (i : Nat) (h : i < s.size) : byteAt s i = (s[i]'h).toNat := by
  have h2 : i < s.data.toList.length := by simpa using h
  unfold byteAt
  rw [List.getD_eq_getElem?_getD, List.getElem?_eq_getElem h2]
  rfl
theorem pieceNum (s : ByteArray) (i : Nat) (h : i < s.size) (h2 : i + 1 < s.size) :
    wrap64 (wrap64 (wrap64 ((s[i]'h).toNat : Int) * 256) + wrap64 ((s[i + 1]'h2).toNat : Int)) = ((byteAt s i * 256 + byteAt s (i + 1) : Nat) : Int) := by
  rw [byteAt_eq s i h, byteAt_eq s (i + 1) h2]
  have h3 := (s[i]'h).toNat_lt
  have h4 := (s[i + 1]'h2).toNat_lt
  unfold wrap64; omega
def pieceS (s : ByteArray) (i : Nat) : Option (ByteArray × Nat) :=
  if s.size < i + 2 then none else if s.size < i + 2 + (byteAt s i * 256 + byteAt s (i + 1)) then none else
    some (s.extract (i + 2) (i + 2 + (byteAt s i * 256 + byteAt s (i + 1))), i + 2 + (byteAt s i * 256 + byteAt s (i + 1)))
def pieceV : Option (ByteArray × Nat) → Value
  | some (k, n) => .tuple #[.string k, .int .i64 n, .bool true]
  | none => .tuple #[.string ⟨#[]⟩, .int .i64 0, .bool false]
set_option maxHeartbeats 400000 in
theorem l2Piece_any (s : ByteArray) (i : Nat) (hs : s.size ≤ 4294967296) (hi : i ≤ 4294967296) (w : World) :
    Calls Try.prog 18 #[.string s, .int .i64 i] w fun e w' => e = .returned (pieceV (pieceS s i)) ∧ Below w.heap.size w w' := by
  unfold pieceS
  have hm := byteAt_lt s i
  have hl := byteAt_lt s (i + 1)
  by_cases h1 : s.size < i + 2
  · rw [if_pos h1]
    have g1 : (s.size : Int) < (i : Int) + 2 := by omega
    go_enter Try.func18, Try.ntmps18
    go_wp2
    refine bodyPost_ret (v := pieceV none) (by simp [results, Try.results18, go_sem, pieceV]; try rfl) rfl ⟨?_, ?_⟩
    · rfl
    · (repeat' (first | exact Below.refl _ _ | (with_reducible assumption) | (with_reducible refine Below.setCell ?_ (by first | (simp; done) | (simp; omega)) _) | refine below_then ?_ (by assumption) | (with_reducible refine below_new2 ?_ _) | (with_reducible refine Below.drew ?_) | (with_reducible refine bdrewN ?_ _)))
  · rw [if_neg h1]
    have g1 : ¬ (s.size : Int) < (i : Int) + 2 := by omega
    have b1 : i < s.size := by omega
    have b2 : i + 1 < s.size := by omega
    have hnb : byteAt s i * 256 + byteAt s (i + 1) < 65536 := by omega
    have hnum := pieceNum s i b1 b2
    generalize byteAt s i * 256 + byteAt s (i + 1) = n at hnb hnum ⊢
    have HN := Lib.hid hnum; clear hnum
    have b3 : (0 : Int) ≤ (i : Int) := by omega
    have b4 : (i : Int) < (s.size : Int) := by omega
    have b5 : (0 : Int) ≤ (i : Int) + 1 := by omega
    have b6 : (i : Int) + 1 < (s.size : Int) := by omega
    clear hm hl
    by_cases h2 : s.size < i + 2 + n
    · rw [if_pos h2]
      have g2 : (s.size : Int) < (i : Int) + 2 + n := by omega
      go_enter Try.func18, Try.ntmps18
      go_wp2
      go_region
      rw [HN.out]
      go_wp2
      refine bodyPost_ret (v := pieceV none) (by simp [results, Try.results18, go_sem, pieceV]; try rfl) rfl ⟨?_, ?_⟩
      · rfl
      · (repeat' (first | exact Below.refl _ _ | (with_reducible assumption) | (with_reducible refine Below.setCell ?_ (by first | (simp; done) | (simp; omega)) _) | refine below_then ?_ (by assumption) | (with_reducible refine below_new2 ?_ _) | (with_reducible refine Below.drew ?_) | (with_reducible refine bdrewN ?_ _)))
    · rw [if_neg h2]
      have g2 : ¬ (s.size : Int) < (i : Int) + 2 + n := by omega
      have g3 : (i : Int) + 2 + n ≤ s.size := by omega
      have g4 : (0 : Int) ≤ (i : Int) + 2 := by omega
      have g5 : (i : Int) + 2 ≤ (i : Int) + 2 + n := by omega
      go_enter Try.func18, Try.ntmps18
      go_wp2
      go_region
      rw [HN.out]
      go_wp2
      refine bodyPost_ret (v := .tuple #[.string (s.extract (i + 2) (i + 2 + n)), .int .i64 ((i : Int) + 2 + n), .bool true]) (by simp [results, Try.results18, go_sem, pieceV]; try rfl) rfl ⟨?_, ?_⟩
      · simp [pieceV]
      · (repeat' (first | exact Below.refl _ _ | (with_reducible assumption) | (with_reducible refine Below.setCell ?_ (by first | (simp; done) | (simp; omega)) _) | refine below_then ?_ (by assumption) | (with_reducible refine below_new2 ?_ _) | (with_reducible refine Below.drew ?_) | (with_reducible refine bdrewN ?_ _)))
theorem l2Piece0_any (s : ByteArray) (hs : s.size ≤ 4294967296) (w : World) :
    Calls Try.prog 18 #[.string s, .int .i64 0] w fun e w' => e = .returned (pieceV (pieceS s 0)) ∧ Below w.heap.size w w' := l2Piece_any s 0 hs (by omega) w
theorem pieceS_le {s k : ByteArray} {i n : Nat} (h : pieceS s i = some (k, n)) : n ≤ s.size ∧ i + 2 ≤ n := by
  unfold pieceS at h
  split at h
  · cases h
  · split at h
    · cases h
    · simp only [Option.some.injEq, Prod.mk.injEq] at h
      omega
def finS (s : ByteArray) (x : Int) (k v l r : ByteArray) : Option (ByteArray × ByteArray × ByteArray × ByteArray) := if encNode k v l r x = s then some (k, v, l, r) else none
def decS (s : ByteArray) (x : Int) : Option (ByteArray × ByteArray × ByteArray × ByteArray) :=
  match pieceS s 0 with
  | none => none
  | some (k, i) =>
    match pieceS s i with
    | none => none
    | some (v, n) =>
      if s.size ≤ n ∨ isW x = false then none else
      if byteAt s n % 2 = 1 then
        if ((s.size - (n + 1) : Nat) : Int) < x then none else finS s x k v ((s.extract (n + 1) s.size).extract 0 x.toNat) ((s.extract (n + 1) s.size).extract x.toNat (s.size - (n + 1)))
      else finS s x k v ⟨#[]⟩ (s.extract (n + 1) s.size)
set_option maxHeartbeats 4000000 in
theorem specDecodeNode_any (s : ByteArray) (x : Int) (hs : s.size ≤ 4294967296) (w : World) :
    Calls Try.prog 7 #[.string s, .int .i64 x] w fun e w' => e = .returned (nodeV (decS s x)) ∧ Below w.heap.size w w' := by
  unfold decS
  rcases h1 : pieceS s 0 with _ | ⟨k, i⟩
  · have H1 := Lib.hid h1; clear h1
    dsimp only
    go_enter Try.func7, Try.ntmps7
    go_wp2_with (first | (go_at_call_of 18 (Value.int .i64 0); refine (l2Piece0_any s hs _).mono ?_; rintro e wa ⟨rfl, hb_wa⟩; rw [H1.out]; obtain ⟨hc_wa, hf_wa⟩ := bcell hb_wa; have hz_wa := hb_wa.size; (try simp only [World.size_alloc] at hz_wa); (try simp only [World.size_alloc] at hc_wa); (try simp only [World.size_alloc] at hf_wa); have q0 : w.heap.size < wa.heap.size := (by omega); unfold pieceV))
    all_goals
      have t0 : wa.cell? ⟨w.heap.size, 0, none⟩ = some (.string ⟨#[]⟩) := by go_simp
      have t1 : wa.cell? ⟨w.heap.size, 1, none⟩ = some (.string ⟨#[]⟩) := by go_simp
      have t2 : wa.cell? ⟨w.heap.size, 2, none⟩ = some (.string ⟨#[]⟩) := by go_simp
      have t3 : wa.cell? ⟨w.heap.size, 3, none⟩ = some (.string ⟨#[]⟩) := by go_simp
      refine bodyPost_ret (v := .tuple #[.agg #[.string ⟨#[]⟩, .string ⟨#[]⟩, .string ⟨#[]⟩, .string ⟨#[]⟩], .bool false]) (by simp [results, Try.results7, go_sem, t0, t1, t2, t3]; try rfl) rfl ⟨?_, ?_⟩
      · rfl
      · (repeat' (first | exact Below.refl _ _ | (with_reducible assumption) | (with_reducible refine Below.setCell ?_ (by first | (simp; done) | (simp; omega)) _) | refine below_then ?_ (by assumption) | (with_reducible refine below_new2 ?_ _) | (with_reducible refine Below.drew ?_) | (with_reducible refine bdrewN ?_ _)))
  · have hi := (pieceS_le h1).1
    have H1 := Lib.hid h1; clear h1
    dsimp only
    rcases h2 : pieceS s i with _ | ⟨v, n⟩
    · have H2 := Lib.hid h2; clear h2
      dsimp only
      go_enter Try.func7, Try.ntmps7
      go_wp2_with (first | (go_at_call_of 18 (Value.int .i64 0); refine (l2Piece0_any s hs _).mono ?_; rintro e wa ⟨rfl, hb_wa⟩; rw [H1.out]; obtain ⟨hc_wa, hf_wa⟩ := bcell hb_wa; have hz_wa := hb_wa.size; (try simp only [World.size_alloc] at hz_wa); (try simp only [World.size_alloc] at hc_wa); (try simp only [World.size_alloc] at hf_wa); have q0 : w.heap.size < wa.heap.size := (by omega); unfold pieceV) | (go_at_call_of 18 (Value.int .i64 (i : Int)); refine (l2Piece_any s i hs (by omega) _).mono ?_; rintro e wb ⟨rfl, hb_wb⟩; rw [H2.out]; obtain ⟨hc_wb, hf_wb⟩ := bcell hb_wb; have hz_wb := hb_wb.size; (try simp only [World.size_alloc] at hz_wb); (try simp only [World.size_alloc] at hc_wb); (try simp only [World.size_alloc] at hf_wb); have q1 : w.heap.size < wb.heap.size := (by omega); unfold pieceV))
      all_goals
        have t0 : wb.cell? ⟨w.heap.size, 0, none⟩ = some (.string ⟨#[]⟩) := by go_simp
        have t1 : wb.cell? ⟨w.heap.size, 1, none⟩ = some (.string ⟨#[]⟩) := by go_simp
        have t2 : wb.cell? ⟨w.heap.size, 2, none⟩ = some (.string ⟨#[]⟩) := by go_simp
        have t3 : wb.cell? ⟨w.heap.size, 3, none⟩ = some (.string ⟨#[]⟩) := by go_simp
        refine bodyPost_ret (v := .tuple #[.agg #[.string ⟨#[]⟩, .string ⟨#[]⟩, .string ⟨#[]⟩, .string ⟨#[]⟩], .bool false]) (by simp [results, Try.results7, go_sem, t0, t1, t2, t3]; try rfl) rfl ⟨?_, ?_⟩
        · rfl
        · (repeat' (first | exact Below.refl _ _ | (with_reducible assumption) | (with_reducible refine Below.setCell ?_ (by first | (simp; done) | (simp; omega)) _) | refine below_then ?_ (by assumption) | (with_reducible refine below_new2 ?_ _) | (with_reducible refine Below.drew ?_) | (with_reducible refine bdrewN ?_ _)))
    · have hn := (pieceS_le h2).1
      have H2 := Lib.hid h2; clear h2
      dsimp only
      by_cases h3 : s.size ≤ n ∨ isW x = false
      · rw [if_pos h3]
        by_cases h4 : s.size ≤ n
        · clear h3
          have h5 : (s.size : Int) ≤ (n : Int) := by omega
          go_enter Try.func7, Try.ntmps7
          go_wp2_with (first | (go_at_call_of 18 (Value.int .i64 0); refine (l2Piece0_any s hs _).mono ?_; rintro e wa ⟨rfl, hb_wa⟩; rw [H1.out]; obtain ⟨hc_wa, hf_wa⟩ := bcell hb_wa; have hz_wa := hb_wa.size; (try simp only [World.size_alloc] at hz_wa); (try simp only [World.size_alloc] at hc_wa); (try simp only [World.size_alloc] at hf_wa); have q0 : w.heap.size < wa.heap.size := (by omega); unfold pieceV) | (go_at_call_of 18 (Value.int .i64 (i : Int)); refine (l2Piece_any s i hs (by omega) _).mono ?_; rintro e wb ⟨rfl, hb_wb⟩; rw [H2.out]; obtain ⟨hc_wb, hf_wb⟩ := bcell hb_wb; have hz_wb := hb_wb.size; (try simp only [World.size_alloc] at hz_wb); (try simp only [World.size_alloc] at hc_wb); (try simp only [World.size_alloc] at hf_wb); have q1 : w.heap.size < wb.heap.size := (by omega); unfold pieceV))
          all_goals
            have t0 : wb.cell? ⟨w.heap.size, 0, none⟩ = some (.string ⟨#[]⟩) := by go_simp
            have t1 : wb.cell? ⟨w.heap.size, 1, none⟩ = some (.string ⟨#[]⟩) := by go_simp
            have t2 : wb.cell? ⟨w.heap.size, 2, none⟩ = some (.string ⟨#[]⟩) := by go_simp
            have t3 : wb.cell? ⟨w.heap.size, 3, none⟩ = some (.string ⟨#[]⟩) := by go_simp
            refine bodyPost_ret (v := .tuple #[.agg #[.string ⟨#[]⟩, .string ⟨#[]⟩, .string ⟨#[]⟩, .string ⟨#[]⟩], .bool false]) (by simp [results, Try.results7, go_sem, t0, t1, t2, t3]; try rfl) rfl ⟨?_, ?_⟩
            · rfl
            · (repeat' (first | exact Below.refl _ _ | (with_reducible assumption) | (with_reducible refine Below.setCell ?_ (by first | (simp; done) | (simp; omega)) _) | refine below_then ?_ (by assumption) | (with_reducible refine below_new2 ?_ _) | (with_reducible refine Below.drew ?_) | (with_reducible refine bdrewN ?_ _)))
        · have h5 : ¬ (s.size : Int) ≤ (n : Int) := by omega
          have h6 : isW x = false := by rcases h3 with h | h <;> simp_all
          clear h3
          go_enter Try.func7, Try.ntmps7
          go_wp2_with (first | (go_at_call_of 18 (Value.int .i64 0); refine (l2Piece0_any s hs _).mono ?_; rintro e wa ⟨rfl, hb_wa⟩; rw [H1.out]; obtain ⟨hc_wa, hf_wa⟩ := bcell hb_wa; have hz_wa := hb_wa.size; (try simp only [World.size_alloc] at hz_wa); (try simp only [World.size_alloc] at hc_wa); (try simp only [World.size_alloc] at hf_wa); have q0 : w.heap.size < wa.heap.size := (by omega); unfold pieceV) | (go_at_call_of 18 (Value.int .i64 (i : Int)); refine (l2Piece_any s i hs (by omega) _).mono ?_; rintro e wb ⟨rfl, hb_wb⟩; rw [H2.out]; obtain ⟨hc_wb, hf_wb⟩ := bcell hb_wb; have hz_wb := hb_wb.size; (try simp only [World.size_alloc] at hz_wb); (try simp only [World.size_alloc] at hc_wb); (try simp only [World.size_alloc] at hf_wb); have q1 : w.heap.size < wb.heap.size := (by omega); unfold pieceV) | (go_at_call 19; refine (l1Width_any _ _).mono ?_; rintro e wq ⟨rfl, rfl⟩))
          all_goals
            have t0 : wb.cell? ⟨w.heap.size, 0, none⟩ = some (.string ⟨#[]⟩) := by go_simp
            have t1 : wb.cell? ⟨w.heap.size, 1, none⟩ = some (.string ⟨#[]⟩) := by go_simp
            have t2 : wb.cell? ⟨w.heap.size, 2, none⟩ = some (.string ⟨#[]⟩) := by go_simp
            have t3 : wb.cell? ⟨w.heap.size, 3, none⟩ = some (.string ⟨#[]⟩) := by go_simp
            refine bodyPost_ret (v := .tuple #[.agg #[.string ⟨#[]⟩, .string ⟨#[]⟩, .string ⟨#[]⟩, .string ⟨#[]⟩], .bool false]) (by simp [results, Try.results7, go_sem, t0, t1, t2, t3]; try rfl) rfl ⟨?_, ?_⟩
            · rfl
            · (repeat' (first | exact Below.refl _ _ | (with_reducible assumption) | (with_reducible refine Below.setCell ?_ (by first | (simp; done) | (simp; omega)) _) | refine below_then ?_ (by assumption) | (with_reducible refine below_new2 ?_ _) | (with_reducible refine Below.drew ?_) | (with_reducible refine bdrewN ?_ _)))
      · rw [if_neg h3]
        have h5 : ¬ (s.size : Int) ≤ (n : Int) := by omega
        have h6 : isW x = true := by cases h : isW x <;> simp_all
        clear h3
        have h7 : 1 ≤ x ∧ x ≤ 32 := by unfold isW at h6; simp at h6; omega
        obtain ⟨h8, h9⟩ := h7
        have g0 : (0 : Int) ≤ (n : Int) := by omega
        have g1 : (n : Int) < (s.size : Int) := by omega
        have g2 : (0 : Int) ≤ (n : Int) + 1 := by omega
        have g3 : (n : Int) + 1 ≤ (s.size : Int) := by omega
        have b1 : n < s.size := by omega
        have hby := byteAt_eq s n b1
        by_cases h10 : byteAt s n % 2 = 1
        · rw [if_pos h10]
          have g4 : (((s[n]'b1).toNat : Int) % 2 == 1) = true := by rw [hby] at h10; rw [beq_iff_eq]; omega
          clear hby h10
          by_cases h11 : ((s.size - (n + 1) : Nat) : Int) < x
          · rw [if_pos h11]
            go_enter Try.func7, Try.ntmps7
            go_wp2_with (first | (go_at_call_of 18 (Value.int .i64 0); refine (l2Piece0_any s hs _).mono ?_; rintro e wa ⟨rfl, hb_wa⟩; rw [H1.out]; obtain ⟨hc_wa, hf_wa⟩ := bcell hb_wa; have hz_wa := hb_wa.size; (try simp only [World.size_alloc] at hz_wa); (try simp only [World.size_alloc] at hc_wa); (try simp only [World.size_alloc] at hf_wa); have q0 : w.heap.size < wa.heap.size := (by omega); unfold pieceV) | (go_at_call_of 18 (Value.int .i64 (i : Int)); refine (l2Piece_any s i hs (by omega) _).mono ?_; rintro e wb ⟨rfl, hb_wb⟩; rw [H2.out]; obtain ⟨hc_wb, hf_wb⟩ := bcell hb_wb; have hz_wb := hb_wb.size; (try simp only [World.size_alloc] at hz_wb); (try simp only [World.size_alloc] at hc_wb); (try simp only [World.size_alloc] at hf_wb); have q1 : w.heap.size < wb.heap.size := (by omega); unfold pieceV) | (go_at_call 19; refine (l1Width_any _ _).mono ?_; rintro e wq ⟨rfl, rfl⟩) | (go_at_call 11; refine (specEncodeNode_any _ _ _ _ _ _).mono ?_; rintro e wc ⟨rfl, hb_wc⟩; obtain ⟨hc_wc, hf_wc⟩ := bcell hb_wc; have hz_wc := hb_wc.size; (try simp only [World.size_alloc, World.size_setCell, World.size_drew] at hz_wc); (try simp only [World.size_alloc, World.size_setCell, World.size_drew] at hc_wc); (try simp only [World.size_alloc, World.size_setCell, World.size_drew] at hf_wc); (try have q_w_0_wc : w.heap.size < wc.heap.size := by omega); (try have q_wb_0_wc : wb.heap.size < wc.heap.size := by omega)))
            all_goals
              have t0 : wb.cell? ⟨w.heap.size, 0, none⟩ = some (.string ⟨#[]⟩) := by go_simp
              have t1 : wb.cell? ⟨w.heap.size, 1, none⟩ = some (.string ⟨#[]⟩) := by go_simp
              have t2 : wb.cell? ⟨w.heap.size, 2, none⟩ = some (.string ⟨#[]⟩) := by go_simp
              have t3 : wb.cell? ⟨w.heap.size, 3, none⟩ = some (.string ⟨#[]⟩) := by go_simp
              refine bodyPost_ret (v := .tuple #[.agg #[.string ⟨#[]⟩, .string ⟨#[]⟩, .string ⟨#[]⟩, .string ⟨#[]⟩], .bool false]) (by simp [results, Try.results7, go_sem, t0, t1, t2, t3, q1]; try rfl) rfl ⟨?_, ?_⟩
              · rfl
              · (repeat' (first | exact Below.refl _ _ | (with_reducible assumption) | (with_reducible refine Below.setCell ?_ (by first | (simp; done) | (simp; omega)) _) | refine below_then ?_ (by assumption) | (with_reducible refine below_new2 ?_ _) | (with_reducible refine Below.drew ?_) | (with_reducible refine bdrewN ?_ _)))
          · rw [if_neg h11]
            have g5 : x ≤ ((s.size - (n + 1) : Nat) : Int) := by omega
            have g7 : (0 : Int) ≤ x := by omega
            unfold finS
            by_cases h12 : encNode k v ((s.extract (n + 1) s.size).extract 0 x.toNat) ((s.extract (n + 1) s.size).extract x.toNat (s.size - (n + 1))) x = s
            · rw [if_pos h12]
              have g6 : ((encNode k v ((s.extract (n + 1) s.size).extract 0 x.toNat) ((s.extract (n + 1) s.size).extract x.toNat (s.size - (n + 1))) x).toList == s.toList) = true := by rw [str_eq]; exact decide_eq_true h12
              clear h12
              go_enter Try.func7, Try.ntmps7
              go_wp2_with (first | (go_at_call_of 18 (Value.int .i64 0); refine (l2Piece0_any s hs _).mono ?_; rintro e wa ⟨rfl, hb_wa⟩; rw [H1.out]; obtain ⟨hc_wa, hf_wa⟩ := bcell hb_wa; have hz_wa := hb_wa.size; (try simp only [World.size_alloc] at hz_wa); (try simp only [World.size_alloc] at hc_wa); (try simp only [World.size_alloc] at hf_wa); have q0 : w.heap.size < wa.heap.size := (by omega); unfold pieceV) | (go_at_call_of 18 (Value.int .i64 (i : Int)); refine (l2Piece_any s i hs (by omega) _).mono ?_; rintro e wb ⟨rfl, hb_wb⟩; rw [H2.out]; obtain ⟨hc_wb, hf_wb⟩ := bcell hb_wb; have hz_wb := hb_wb.size; (try simp only [World.size_alloc] at hz_wb); (try simp only [World.size_alloc] at hc_wb); (try simp only [World.size_alloc] at hf_wb); have q1 : w.heap.size < wb.heap.size := (by omega); unfold pieceV) | (go_at_call 19; refine (l1Width_any _ _).mono ?_; rintro e wq ⟨rfl, rfl⟩) | (go_at_call 11; refine (specEncodeNode_any _ _ _ _ _ _).mono ?_; rintro e wc ⟨rfl, hb_wc⟩; obtain ⟨hc_wc, hf_wc⟩ := bcell hb_wc; have hz_wc := hb_wc.size; (try simp only [World.size_alloc, World.size_setCell, World.size_drew] at hz_wc); (try simp only [World.size_alloc, World.size_setCell, World.size_drew] at hc_wc); (try simp only [World.size_alloc, World.size_setCell, World.size_drew] at hf_wc); (try have q_w_0_wc : w.heap.size < wc.heap.size := by omega); (try have q_wb_0_wc : wb.heap.size < wc.heap.size := by omega)))
              all_goals
                have t0 : wc.cell? ⟨w.heap.size, 0, none⟩ = some (.string ⟨#[]⟩) := by go_simp
                have t1 : wc.cell? ⟨w.heap.size, 1, none⟩ = some (.string ⟨#[]⟩) := by go_simp
                have t2 : wc.cell? ⟨w.heap.size, 2, none⟩ = some (.string ⟨#[]⟩) := by go_simp
                have t3 : wc.cell? ⟨w.heap.size, 3, none⟩ = some (.string ⟨#[]⟩) := by go_simp
                refine bodyPost_ret (v := .tuple #[.agg #[.string k, .string v, .string ((s.extract (n + 1) s.size).extract 0 x.toNat), .string ((s.extract (n + 1) s.size).extract x.toNat (s.size - (n + 1)))], .bool true]) (by simp [results, Try.results7, go_sem, t0, t1, t2, t3, q1]; try rfl) rfl ⟨?_, ?_⟩
                · rfl
                · (repeat' (first | exact Below.refl _ _ | (with_reducible assumption) | (with_reducible refine Below.setCell ?_ (by first | (simp; done) | (simp; omega)) _) | refine below_then ?_ (by assumption) | (with_reducible refine below_new2 ?_ _) | (with_reducible refine Below.drew ?_) | (with_reducible refine bdrewN ?_ _)))
            · rw [if_neg h12]
              have g6 : ((encNode k v ((s.extract (n + 1) s.size).extract 0 x.toNat) ((s.extract (n + 1) s.size).extract x.toNat (s.size - (n + 1))) x).toList == s.toList) = false := by rw [str_eq]; exact decide_eq_false h12
              clear h12
              go_enter Try.func7, Try.ntmps7
              go_wp2_with (first | (go_at_call_of 18 (Value.int .i64 0); refine (l2Piece0_any s hs _).mono ?_; rintro e wa ⟨rfl, hb_wa⟩; rw [H1.out]; obtain ⟨hc_wa, hf_wa⟩ := bcell hb_wa; have hz_wa := hb_wa.size; (try simp only [World.size_alloc] at hz_wa); (try simp only [World.size_alloc] at hc_wa); (try simp only [World.size_alloc] at hf_wa); have q0 : w.heap.size < wa.heap.size := (by omega); unfold pieceV) | (go_at_call_of 18 (Value.int .i64 (i : Int)); refine (l2Piece_any s i hs (by omega) _).mono ?_; rintro e wb ⟨rfl, hb_wb⟩; rw [H2.out]; obtain ⟨hc_wb, hf_wb⟩ := bcell hb_wb; have hz_wb := hb_wb.size; (try simp only [World.size_alloc] at hz_wb); (try simp only [World.size_alloc] at hc_wb); (try simp only [World.size_alloc] at hf_wb); have q1 : w.heap.size < wb.heap.size := (by omega); unfold pieceV) | (go_at_call 19; refine (l1Width_any _ _).mono ?_; rintro e wq ⟨rfl, rfl⟩) | (go_at_call 11; refine (specEncodeNode_any _ _ _ _ _ _).mono ?_; rintro e wc ⟨rfl, hb_wc⟩; obtain ⟨hc_wc, hf_wc⟩ := bcell hb_wc; have hz_wc := hb_wc.size; (try simp only [World.size_alloc, World.size_setCell, World.size_drew] at hz_wc); (try simp only [World.size_alloc, World.size_setCell, World.size_drew] at hc_wc); (try simp only [World.size_alloc, World.size_setCell, World.size_drew] at hf_wc); (try have q_w_0_wc : w.heap.size < wc.heap.size := by omega); (try have q_wb_0_wc : wb.heap.size < wc.heap.size := by omega)))
              all_goals
                have t0 : wc.cell? ⟨w.heap.size, 0, none⟩ = some (.string ⟨#[]⟩) := by go_simp
                have t1 : wc.cell? ⟨w.heap.size, 1, none⟩ = some (.string ⟨#[]⟩) := by go_simp
                have t2 : wc.cell? ⟨w.heap.size, 2, none⟩ = some (.string ⟨#[]⟩) := by go_simp
                have t3 : wc.cell? ⟨w.heap.size, 3, none⟩ = some (.string ⟨#[]⟩) := by go_simp
                refine bodyPost_ret (v := .tuple #[.agg #[.string ⟨#[]⟩, .string ⟨#[]⟩, .string ⟨#[]⟩, .string ⟨#[]⟩], .bool false]) (by simp [results, Try.results7, go_sem, t0, t1, t2, t3, q1]; try rfl) rfl ⟨?_, ?_⟩
                · rfl
                · (repeat' (first | exact Below.refl _ _ | (with_reducible assumption) | (with_reducible refine Below.setCell ?_ (by first | (simp; done) | (simp; omega)) _) | refine below_then ?_ (by assumption) | (with_reducible refine below_new2 ?_ _) | (with_reducible refine Below.drew ?_) | (with_reducible refine bdrewN ?_ _)))
        · rw [if_neg h10]
          have g4 : (((s[n]'b1).toNat : Int) % 2 == 1) = false := by rw [hby] at h10; rw [beq_eq_false_iff_ne]; omega
          clear hby h10
          unfold finS
          by_cases h12 : encNode k v ⟨#[]⟩ (s.extract (n + 1) s.size) x = s
          · rw [if_pos h12]
            have g6 : ((encNode k v ⟨#[]⟩ (s.extract (n + 1) s.size) x).toList == s.toList) = true := by rw [str_eq]; exact decide_eq_true h12
            clear h12
            go_enter Try.func7, Try.ntmps7
            go_wp2_with (first | (go_at_call_of 18 (Value.int .i64 0); refine (l2Piece0_any s hs _).mono ?_; rintro e wa ⟨rfl, hb_wa⟩; rw [H1.out]; obtain ⟨hc_wa, hf_wa⟩ := bcell hb_wa; have hz_wa := hb_wa.size; (try simp only [World.size_alloc] at hz_wa); (try simp only [World.size_alloc] at hc_wa); (try simp only [World.size_alloc] at hf_wa); have q0 : w.heap.size < wa.heap.size := (by omega); unfold pieceV) | (go_at_call_of 18 (Value.int .i64 (i : Int)); refine (l2Piece_any s i hs (by omega) _).mono ?_; rintro e wb ⟨rfl, hb_wb⟩; rw [H2.out]; obtain ⟨hc_wb, hf_wb⟩ := bcell hb_wb; have hz_wb := hb_wb.size; (try simp only [World.size_alloc] at hz_wb); (try simp only [World.size_alloc] at hc_wb); (try simp only [World.size_alloc] at hf_wb); have q1 : w.heap.size < wb.heap.size := (by omega); unfold pieceV) | (go_at_call 19; refine (l1Width_any _ _).mono ?_; rintro e wq ⟨rfl, rfl⟩) | (go_at_call 11; refine (specEncodeNode_any _ _ _ _ _ _).mono ?_; rintro e wc ⟨rfl, hb_wc⟩; obtain ⟨hc_wc, hf_wc⟩ := bcell hb_wc; have hz_wc := hb_wc.size; (try simp only [World.size_alloc, World.size_setCell, World.size_drew] at hz_wc); (try simp only [World.size_alloc, World.size_setCell, World.size_drew] at hc_wc); (try simp only [World.size_alloc, World.size_setCell, World.size_drew] at hf_wc); (try have q_w_0_wc : w.heap.size < wc.heap.size := by omega); (try have q_wb_0_wc : wb.heap.size < wc.heap.size := by omega)))
            all_goals
              have t0 : wc.cell? ⟨w.heap.size, 0, none⟩ = some (.string ⟨#[]⟩) := by go_simp
              have t1 : wc.cell? ⟨w.heap.size, 1, none⟩ = some (.string ⟨#[]⟩) := by go_simp
              have t2 : wc.cell? ⟨w.heap.size, 2, none⟩ = some (.string ⟨#[]⟩) := by go_simp
              have t3 : wc.cell? ⟨w.heap.size, 3, none⟩ = some (.string ⟨#[]⟩) := by go_simp
              refine bodyPost_ret (v := .tuple #[.agg #[.string k, .string v, .string ⟨#[]⟩, .string (s.extract (n + 1) s.size)], .bool true]) (by simp [results, Try.results7, go_sem, t0, t1, t2, t3, q1]; try rfl) rfl ⟨?_, ?_⟩
              · rfl
              · (repeat' (first | exact Below.refl _ _ | (with_reducible assumption) | (with_reducible refine Below.setCell ?_ (by first | (simp; done) | (simp; omega)) _) | refine below_then ?_ (by assumption) | (with_reducible refine below_new2 ?_ _) | (with_reducible refine Below.drew ?_) | (with_reducible refine bdrewN ?_ _)))
          · rw [if_neg h12]
            have g6 : ((encNode k v ⟨#[]⟩ (s.extract (n + 1) s.size) x).toList == s.toList) = false := by rw [str_eq]; exact decide_eq_false h12
            clear h12
            go_enter Try.func7, Try.ntmps7
            go_wp2_with (first | (go_at_call_of 18 (Value.int .i64 0); refine (l2Piece0_any s hs _).mono ?_; rintro e wa ⟨rfl, hb_wa⟩; rw [H1.out]; obtain ⟨hc_wa, hf_wa⟩ := bcell hb_wa; have hz_wa := hb_wa.size; (try simp only [World.size_alloc] at hz_wa); (try simp only [World.size_alloc] at hc_wa); (try simp only [World.size_alloc] at hf_wa); have q0 : w.heap.size < wa.heap.size := (by omega); unfold pieceV) | (go_at_call_of 18 (Value.int .i64 (i : Int)); refine (l2Piece_any s i hs (by omega) _).mono ?_; rintro e wb ⟨rfl, hb_wb⟩; rw [H2.out]; obtain ⟨hc_wb, hf_wb⟩ := bcell hb_wb; have hz_wb := hb_wb.size; (try simp only [World.size_alloc] at hz_wb); (try simp only [World.size_alloc] at hc_wb); (try simp only [World.size_alloc] at hf_wb); have q1 : w.heap.size < wb.heap.size := (by omega); unfold pieceV) | (go_at_call 19; refine (l1Width_any _ _).mono ?_; rintro e wq ⟨rfl, rfl⟩) | (go_at_call 11; refine (specEncodeNode_any _ _ _ _ _ _).mono ?_; rintro e wc ⟨rfl, hb_wc⟩; obtain ⟨hc_wc, hf_wc⟩ := bcell hb_wc; have hz_wc := hb_wc.size; (try simp only [World.size_alloc, World.size_setCell, World.size_drew] at hz_wc); (try simp only [World.size_alloc, World.size_setCell, World.size_drew] at hc_wc); (try simp only [World.size_alloc, World.size_setCell, World.size_drew] at hf_wc); (try have q_w_0_wc : w.heap.size < wc.heap.size := by omega); (try have q_wb_0_wc : wb.heap.size < wc.heap.size := by omega)))
            all_goals
              have t0 : wc.cell? ⟨w.heap.size, 0, none⟩ = some (.string ⟨#[]⟩) := by go_simp
              have t1 : wc.cell? ⟨w.heap.size, 1, none⟩ = some (.string ⟨#[]⟩) := by go_simp
              have t2 : wc.cell? ⟨w.heap.size, 2, none⟩ = some (.string ⟨#[]⟩) := by go_simp
              have t3 : wc.cell? ⟨w.heap.size, 3, none⟩ = some (.string ⟨#[]⟩) := by go_simp
              refine bodyPost_ret (v := .tuple #[.agg #[.string ⟨#[]⟩, .string ⟨#[]⟩, .string ⟨#[]⟩, .string ⟨#[]⟩], .bool false]) (by simp [results, Try.results7, go_sem, t0, t1, t2, t3, q1]; try rfl) rfl ⟨?_, ?_⟩
              · rfl
              · (repeat' (first | exact Below.refl _ _ | (with_reducible assumption) | (with_reducible refine Below.setCell ?_ (by first | (simp; done) | (simp; omega)) _) | refine below_then ?_ (by assumption) | (with_reducible refine below_new2 ?_ _) | (with_reducible refine Below.drew ?_) | (with_reducible refine bdrewN ?_ _)))
end Go.Proofs.Ytpbcobiompgigaa
