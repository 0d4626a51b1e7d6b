/- A crash of a disk: the reference byte by byte, the program sector by sector. -/
import Derived.Test.YtmpegllbfcgjiaaDisk
import Derived.Test.YtmpegllbfcgjiaaInts
import Derived.Test.YtmpegllbfcgjiaaCrash
namespace Go.Proofs.Ytmpegllbfcgjiaa
open Go.RowKit
set_option linter.unusedVariables false
set_option linter.unusedSimpArgs false
set_option maxHeartbeats 400000 in
theorem l3Kept_any (s n : ByteArray) (c : Int) (pv : Value) (pk : List Int) (i : Nat) (w : World) (h : Rd w 1 pv pk.length (ics pk)) (hp : pk.length ≤ 4294967296) (hs : s.size ≤ 4294967296) (hi : i ≤ 4294967296) (hsi : s.size ≤ i) :
    Calls Try.prog 23 #[.agg #[.string s, .string n, .int .i64 c], pv, .int .i64 i] w fun e w' => e = .returned (.bool (crKept s.size pk i)) ∧ Below w.heap.size w w' := by
  obtain ⟨hlen, A, c2, rfl, hc, hcell⟩ := h
  have hd : s.size / 64 ≤ i / 64 := by omega
  by_cases hj : i / 64 - s.size / 64 < pk.length
  · obtain ⟨b, off, rfl, hbl, hcells⟩ := hcell (by omega)
    obtain ⟨x, hx⟩ : ∃ x, x = pk.getD (i / 64 - s.size / 64) 0 := ⟨_, rfl⟩
    have hr1 : w.cell? ⟨b, off + (i / 64 - s.size / 64), none⟩ = some (.int .i64 x) := by
      rw [hcells _ (by omega), ics_get pk _ (by omega), hx]
    have hkept : crKept s.size pk i = decide (((i - max (i / 64 * 64) s.size : Nat) : Int) < x) := by
      unfold crKept; rw [← hx]; simp [hj]
    clear hcells hcell
    rw [hkept]
    clear hkept hx
    by_cases hb : i / 64 * 64 < s.size
    all_goals
      go_enter Try.func23, Try.ntmps23
      go_wp2
      go_ret
      refine ⟨ret_bool ?_, by (repeat' (first | exact Below.refl _ _ | (with_reducible assumption) | (with_reducible refine Below.setCell ?_ (by first | (simp; done) | (simp; omega)) _) | refine below_then ?_ (by assumption) | (with_reducible refine below_new2 ?_ _) | (with_reducible refine Below.drew ?_) | (with_reducible refine bdrewN ?_ _)))⟩
      go_light
      congr 1
      rw [eq_iff_iff]
      omega
  · have hkept : crKept s.size pk i = false := by unfold crKept; simp [hj]
    rw [hkept]
    go_enter Try.func23, Try.ntmps23
    go_wp2
    go_ret
    exact ⟨rfl, by (repeat' (first | exact Below.refl _ _ | (with_reducible assumption) | (with_reducible refine Below.setCell ?_ (by first | (simp; done) | (simp; omega)) _) | refine below_then ?_ (by assumption) | (with_reducible refine below_new2 ?_ _) | (with_reducible refine Below.drew ?_) | (with_reducible refine bdrewN ?_ _)))⟩
theorem diskOk_pre {s n : ByteArray} {c : Int} (h : diskOk s n c = true) : s.size ≤ n.size ∧ n.data.toList.take s.size = s.data.toList := by
  unfold diskOk hasPre at h
  simp only [Bool.and_eq_true, decide_eq_true_eq, beq_iff_eq] at h
  obtain ⟨_, h1, h2⟩ := h
  refine ⟨h1, ?_⟩
  rw [ByteArray.toList_eq, ByteArray.toList_eq] at h2
  rw [← h2]
  simp
def pCrash (s n : ByteArray) (c : Int) (pk : List Int) : ByteArray × ByteArray × Int :=
  if diskOk s n c = true then (⟨(crash n.data.toList s.size pk).toArray⟩, ⟨(crash n.data.toList s.size pk).toArray⟩, c) else noDsk
theorem infoU8 : (Try.prog.info? 5).map (fun i => (i.zero, i.size, i.bytes)) = some (some (.int .u8 0), 1, 1) := by kernel_rfl
set_option maxHeartbeats 1000000 in
theorem specDiskCrash_any (s n : ByteArray) (c : Int) (pv : Value) (pk : List Int) (w : World) (h : Rd w 1 pv pk.length (ics pk)) (hp : pk.length ≤ 4294967296) (hn : n.size ≤ 4294967296) :
    Calls Try.prog 17 #[.agg #[.string s, .string n, .int .i64 c], pv] w fun e w' => e = .returned (vDsk (pCrash s n c pk)) ∧ Below w.heap.size w w' := by
  by_cases hok : diskOk s n c = true
  · obtain ⟨hle, htake⟩ := diskOk_pre hok
    have hres : pCrash s n c pk = (⟨(crash n.data.toList s.size pk).toArray⟩, ⟨(crash n.data.toList s.size pk).toArray⟩, c) := by unfold pCrash; rw [if_pos hok]
    have HRES := Lib.hid hres; clear hres
    have HT := Lib.hid htake; clear htake
    have HRd := Lib.hid h
    obtain ⟨hlen, A, cc, rfl, hcc, hcell⟩ := h
    clear hlen hcell
    go_enter Try.func17, Try.ntmps17
    go_wp2_with (first | (go_at_call 21; refine (l3DiskOk_any _ _ _ _).mono ?_; rintro e wa ⟨rfl, hb_wa⟩; obtain ⟨hc_wa, hf_wa⟩ := bcell hb_wa; have hz_wa := hb_wa.size; (try simp only [World.size_alloc, World.size_setCell, World.size_drew] at hz_wa); (try simp only [World.size_alloc, World.size_setCell, World.size_drew] at hc_wa); (try simp only [World.size_alloc, World.size_setCell, World.size_drew] at hf_wa); (try have q_w_0_wa : w.heap.size < wa.heap.size := by omega); (try have q_w_1_wa : w.heap.size + 1 < wa.heap.size := by omega)) | ((with_reducible refine gate_dst (N := 15) rfl ?_); refine wpList_bytes wa.heap.size rfl 9 42 5 _ rfl Try.underlying9 Try.underlying42 Try.underlying5 s rfl (by first | assumption | (simp; omega) | omega) (by unfold maxLen; omega) ?_; rintro v_wb wb ho_wb hv_wb hb_wb; obtain ⟨hc_wb, hf_wb⟩ := bcell hb_wb; have hz_wb := hb_wb.size; (try simp only [World.size_alloc, World.size_setCell, World.size_drew] at hz_wb); (try simp only [World.size_alloc, World.size_setCell, World.size_drew] at hc_wb); (try simp only [World.size_alloc, World.size_setCell, World.size_drew] at hf_wb); (try have q_w_0_wb : w.heap.size < wb.heap.size := by omega); (try have q_w_1_wb : w.heap.size + 1 < wb.heap.size := by omega)))
    go_loopw [5, 6, 7] (fun v e i wr => ∃ k : Nat, s.size ≤ k ∧ k ≤ n.size ∧ i = .int .i64 k ∧ e = .int .i64 (crEnd s.size pk (k - s.size) : Nat) ∧ OwnB wr wa.heap.size v (crOut n.data.toList s.size pk (k - s.size)) ∧ Below wa.heap.size wa wr) (fun _ _ i _ => n.size - (intOf i).toNat)
    case atStart => exact ⟨s.size, Nat.le_refl _, hle, rfl, by simp [crEnd], by simp only [Nat.sub_self, crOut]; rw [HT.out]; exact ho_wb, hb_wb⟩
    case round =>
      obtain ⟨k, hk1, hk2, rfl, rfl, hO, hB⟩ := hrel
      obtain ⟨A5, c5, rfl⟩ := hO.form
      obtain ⟨hc_wr, hf_wr⟩ := bcell2 hB
      by_cases hlt : k < n.size
      · have hrd : Hid (Rd wr 1 (.slice A pk.length cc) pk.length (ics pk)) := Lib.hid ((HRd.out.below ((below_new2 (below_new2 (Below.refl _ _) _) _).trans (hb_wa.mono (by simp; omega))) (Nat.le_refl _)).below hB (Nat.le_refl _))
        have hz_wr := hB.size
        have HL := Lib.hid (crOut_length n.data.toList s.size pk (by simpa using hle) (k - s.size))
        have q1 : w.heap.size < wr.heap.size := by omega
        have q2 : w.heap.size + 1 < wr.heap.size := by omega
        have HO := Lib.hid hO; clear hO
        have hsucc : Hid (k + 1 - s.size = (k - s.size) + 1) := Lib.hid (by omega)
        have hsk : Hid (s.size + (k - s.size) = k) := Lib.hid (by omega)
        by_cases hkept : crKept s.size pk k = true
        · go_wp2_with (first | (go_at_call 23; refine (l3Kept_any s n c _ pk k _ (hrd.out.below (Below.refl _ _) (Nat.le_refl _)) hp (by omega) (by omega) hk1).mono ?_; rintro e wc ⟨rfl, hb_wc⟩; obtain ⟨hc_wc, hf_wc⟩ := bcell hb_wc; have hz_wc := hb_wc.size; (try simp only [World.size_alloc, World.size_setCell, World.size_drew] at hz_wc); (try simp only [World.size_alloc, World.size_setCell, World.size_drew] at hc_wc); (try simp only [World.size_alloc, World.size_setCell, World.size_drew] at hf_wc); (try have q_w_0_wc : w.heap.size < wc.heap.size := by omega); (try have q_w_1_wc : w.heap.size + 1 < wc.heap.size := by omega)) | ((with_reducible refine gate_dst (N := 39) rfl ?_); refine wpList_appB1 (w0 := wc) wa.heap.size rfl _ _ 42 5 rfl Try.underlying42 infoU8 rfl (n[k]'hlt) rfl rfl (HO.out.below hb_wc) (by have := HL.out; omega) (by omega) ?_; rintro v' wd ho_wd hb_wd))
          go_roundw
          case rel =>
            refine ⟨k + 1, by omega, by omega, by go_num, ?_, ?_, (hB.trans (hb_wc.mono hz_wr)).trans hb_wd⟩
            · rw [hsucc.out]; unfold crEnd; rw [hsk.out, if_pos hkept]; go_num
            · rw [hsucc.out]; unfold crOut; rw [hsk.out, if_pos hkept]
              have e : n.data.toList.getD k 0 = n[k]'hlt := by
                rw [List.getD_eq_getElem?_getD, List.getElem?_eq_getElem (by simpa using hlt)]; rfl
              rw [e]; exact ho_wd
          case measure => simp [intOf]; omega
        · go_wp2_with (first | (go_at_call 23; refine (l3Kept_any s n c _ pk k _ (hrd.out.below (Below.refl _ _) (Nat.le_refl _)) hp (by omega) (by omega) hk1).mono ?_; rintro e wc ⟨rfl, hb_wc⟩; obtain ⟨hc_wc, hf_wc⟩ := bcell hb_wc; have hz_wc := hb_wc.size; (try simp only [World.size_alloc, World.size_setCell, World.size_drew] at hz_wc); (try simp only [World.size_alloc, World.size_setCell, World.size_drew] at hc_wc); (try simp only [World.size_alloc, World.size_setCell, World.size_drew] at hf_wc); (try have q_w_0_wc : w.heap.size < wc.heap.size := by omega); (try have q_w_1_wc : w.heap.size + 1 < wc.heap.size := by omega)) | ((with_reducible refine gate_dst (N := 44) rfl ?_); refine wpList_appB1 (w0 := wc) wa.heap.size rfl _ _ 42 5 rfl Try.underlying42 infoU8 rfl 0 rfl rfl (HO.out.below hb_wc) (by have := HL.out; omega) (by omega) ?_; rintro v' wd ho_wd hb_wd))
          go_roundw
          case rel =>
            refine ⟨k + 1, by omega, by omega, by go_num, ?_, ?_, (hB.trans (hb_wc.mono hz_wr)).trans hb_wd⟩
            · rw [hsucc.out]; conv => rhs; unfold crEnd
              rw [hsk.out, if_neg hkept]
            · rw [hsucc.out]; unfold crOut; rw [hsk.out, if_neg hkept]
              exact ho_wd
          case measure => simp [intOf]; omega
      · obtain rfl : k = n.size := by omega
        have hEL := crEnd_le s.size pk (n.size - s.size)
        have HL := Lib.hid (crOut_length n.data.toList s.size pk (by simpa using hle) (n.size - s.size))
        have hz_wr := hB.size
        have q1 : w.heap.size < wr.heap.size := by omega
        have q2 : w.heap.size + 1 < wr.heap.size := by omega
        have hBW : Below w.heap.size w wr := (below_then (below_new2 (below_new2 (Below.refl _ _) _) _) hb_wa).trans (hB.mono (by omega))
        have HCR : Hid ((⟨((crOut n.data.toList s.size pk (n.size - s.size)).take (crEnd s.size pk (n.size - s.size))).toArray⟩ : ByteArray) = ⟨(crash n.data.toList s.size pk).toArray⟩) := Lib.hid rfl
        rcases hO.2 with ⟨hv, hz⟩ | ⟨g, cap, hv, h1, h2, h3, h4, -⟩
        · have hE0 : crEnd s.size pk (n.size - s.size) = 0 := by have := HL.out; omega
          have HO := Lib.hid hO
          have HC0 : Hid ((crash n.data.toList s.size pk) = []) := Lib.hid (by unfold crash; rw [show n.data.toList.length = n.size from by simp, hE0, List.take_zero])
          rw [hv, hE0]
          clear hO hv hEL HCR
          have HZ := Lib.hid hz; clear hz
          have HE := Lib.hid hE0; clear hE0
          have hkv := fun (w : World) (l c : Nat) => Lib.hid (run_convert_bytes_nil (P := Try.prog) w 42 5 Try.underlying42 Try.underlying5 l c 9 Try.underlying9)
          go_wp2_with ((with_reducible refine gate_dst (N := 48) rfl ?_); refine wpList_convert rfl 42 9 _ rfl rfl (hkv _ _ _).out ?_)
          refine bodyPost_ret (v := .agg #[.string (⟨#[]⟩ : ByteArray), .string (⟨#[]⟩ : ByteArray), .int .i64 c]) (by simp [results, Try.results17, go_sem, hc_wr, hc_wa, q_w_0_wa, q_w_1_wa]; try rfl) rfl ⟨?_, ?_⟩
          · unfold vDsk; rw [HRES.out, HC0.out]; try rfl
          · refine Below.setCell (Below.setCell (Below.setCell hBW ?_ _) ?_ _) ?_ _ <;> simp
        · cases hv
          have hEL2 : crEnd s.size pk (n.size - s.size) ≤ (crOut n.data.toList s.size pk (n.size - s.size)).length := by have := HL.out; omega
          have hEC : crEnd s.size pk (n.size - s.size) ≤ c5 := by omega
          have HO := Lib.hid hO; clear hO
          go_wp2_with ((with_reducible refine gate_dst (N := 48) rfl ?_); refine wpList_convert rfl 42 9 _ rfl rfl (OwnB.strTo HO.out _ hEL2 42 9 5 Try.underlying42 Try.underlying5 Try.underlying9) ?_; rw [HCR.out])
          refine bodyPost_ret (v := .agg #[.string ⟨(crash n.data.toList s.size pk).toArray⟩, .string ⟨(crash n.data.toList s.size pk).toArray⟩, .int .i64 c]) (by simp [results, Try.results17, go_sem, hc_wr, hc_wa, q_w_0_wa, q_w_1_wa]; try rfl) rfl ⟨?_, ?_⟩
          · unfold vDsk; rw [HRES.out]
          · refine Below.setCell (Below.setCell (Below.setCell hBW ?_ _) ?_ _) ?_ _ <;> simp
  · have hres : pCrash s n c pk = noDsk := by unfold pCrash; rw [if_neg hok]
    rw [hres]
    obtain ⟨hlen, A, cc, rfl, hcc, hcell⟩ := h
    clear hlen hcell hres
    go_enter Try.func17, Try.ntmps17
    go_wp2_with (go_at_call 21; refine (l3DiskOk_any _ _ _ _).mono ?_; rintro e wa ⟨rfl, hb_wa⟩; obtain ⟨hc_wa, hf_wa⟩ := bcell hb_wa; have hz_wa := hb_wa.size; (try simp only [World.size_alloc, World.size_setCell, World.size_drew] at hz_wa); (try simp only [World.size_alloc, World.size_setCell, World.size_drew] at hc_wa); (try simp only [World.size_alloc, World.size_setCell, World.size_drew] at hf_wa); (try have q_w_0_wa : w.heap.size < wa.heap.size := by omega); (try have q_w_1_wa : w.heap.size + 1 < wa.heap.size := by omega))
    refine bodyPost_ret (v := .agg #[.string (⟨#[]⟩ : ByteArray), .string (⟨#[]⟩ : ByteArray), .int .i64 0]) (by simp [results, Try.results17, go_sem, hc_wa, q_w_0_wa, q_w_1_wa]; try rfl) rfl ⟨?_, ?_⟩
    · rfl
    · (repeat' (first | exact Below.refl _ _ | (with_reducible assumption) | (with_reducible refine Below.setCell ?_ (by first | (simp; done) | (simp; omega)) _) | refine below_then ?_ (by assumption) | (with_reducible refine below_new2 ?_ _) | (with_reducible refine Below.drew ?_) | (with_reducible refine bdrewN ?_ _)))
end Go.Proofs.Ytmpegllbfcgjiaa
