/- The program's crash of a disk, sector by sector. -/
import Derived.Test.YtmpegllbfcgjiaaDiskCrash
namespace Go.Proofs.Ytmpegllbfcgjiaa
open Go.RowKit
set_option linter.unusedVariables false
set_option linter.unusedSimpArgs false
set_option maxHeartbeats 1000000 in
theorem implDiskCrash_any (s n : ByteArray) (c : Int) (pv : Value) (pk : List Int) (w : World) (h : Rd w 1 pv pk.length (ics pk)) (hp : pk.length ≤ 4294967296) (hn : n.size ≤ 4294967296) :
    Calls Try.prog 19 #[.agg #[.string s, .string n, .int .i64 c], pv] w fun e w' => e = .returned (vDsk (pCrash s n c pk)) ∧ Below w.heap.size w w' := by
  by_cases hok : diskOk s n c = true
  · obtain ⟨hle, htake⟩ := diskOk_pre hok
    have hres : pCrash s n c pk = (⟨(crash n.data.toList s.size pk).toArray⟩, ⟨(crash n.data.toList s.size pk).toArray⟩, c) := by unfold pCrash; rw [if_pos hok]
    have HRES := Lib.hid hres; clear hres
    have HT := Lib.hid htake; clear htake
    obtain ⟨hlen, A, cc, rfl, hcc, hcell⟩ := h
    have HCell := Lib.hid hcell
    clear hlen hcell
    obtain ⟨nl, hnl⟩ : ∃ nl, nl = n.data.toList := ⟨_, rfl⟩
    have hnlen : Hid (nl.length = n.size) := Lib.hid (by rw [hnl]; simp)
    have hf : Hid (s.size ≤ nl.length) := Lib.hid (by rw [hnl]; simpa using hle)
    rw [← hnl] at HT HRES
    have HNL := Lib.hid hnl; clear hnl
    go_enter Try.func19, Try.ntmps19
    go_wp2_with (first | (go_at_call 22; refine (diskValid_any _ _ _ _).mono ?_; rintro e wa ⟨rfl, hb_wa⟩; obtain ⟨hc_wa, hf_wa⟩ := bcell hb_wa; have hz_wa := hb_wa.size; (try simp only [World.size_alloc, World.size_setCell, World.size_drew] at hz_wa); (try simp only [World.size_alloc, World.size_setCell, World.size_drew] at hc_wa); (try simp only [World.size_alloc, World.size_setCell, World.size_drew] at hf_wa); (try have q_w_0_wa : w.heap.size < wa.heap.size := by omega); (try have q_w_1_wa : w.heap.size + 1 < wa.heap.size := by omega)) | ((with_reducible refine gate_dst (N := 16) rfl ?_); refine wpList_bytes wa.heap.size rfl 9 42 5 _ rfl Try.underlying9 Try.underlying42 Try.underlying5 s rfl (by first | assumption | (simp; omega) | omega) (by unfold maxLen; omega) ?_; rintro v_wb wb ho_wb hv_wb hb_wb; obtain ⟨hc_wb, hf_wb⟩ := bcell hb_wb; have hz_wb := hb_wb.size; (try simp only [World.size_alloc, World.size_setCell, World.size_drew] at hz_wb); (try simp only [World.size_alloc, World.size_setCell, World.size_drew] at hc_wb); (try simp only [World.size_alloc, World.size_setCell, World.size_drew] at hf_wb); (try have q_w_0_wb : w.heap.size < wb.heap.size := by omega); (try have q_w_1_wb : w.heap.size + 1 < wb.heap.size := by omega)))
    go_loopw [5, 6, 7] (fun v e i wr => ∃ j : Nat, j ≤ pk.length ∧ i = .int .i64 j ∧ e = .int .i64 (crAt s.size n.size j : Nat) ∧ OwnB wr wa.heap.size v (crGot nl s.size pk j) ∧ Below wa.heap.size wa wr) (fun _ _ i _ => pk.length - (intOf i).toNat)
    case atStart => exact ⟨0, Nat.zero_le _, rfl, rfl, by rw [crGot_zero _ _ _ hf.out, HT.out]; exact ho_wb, hb_wb⟩
    case round =>
      obtain ⟨j, hj1, rfl, rfl, hO, hB⟩ := hrel
      obtain ⟨A5, c5, rfl⟩ := hO.form
      obtain ⟨hc_wr, hf_wr⟩ := bcell2 hB
      have hz_wr := hB.size
      have q1 : w.heap.size < wr.heap.size := by omega
      have q2 : w.heap.size + 1 < wr.heap.size := by omega
      have HO := Lib.hid hO; clear hO
      have hge := crAt_ge s.size n.size j hle
      have hle2 := crAt_le s.size n.size j hle
      have HGL : Hid ((crGot nl s.size pk j).length ≤ crAt s.size n.size j) := Lib.hid (by have := crGot_le nl s.size pk hf.out j; rw [hnlen.out] at this; exact this)
      by_cases hlt : crAt s.size n.size j < n.size
      · by_cases hjp : j < pk.length
        · obtain ⟨b, off, rfl, hbl, hcells⟩ := HCell.out (by omega)
          obtain ⟨x, hx⟩ : ∃ x, x = pk.getD j 0 := ⟨_, rfl⟩
          have hr1 : wr.cell? ⟨b, off + j, none⟩ = some (.int .i64 x) := by
            rw [hB.cell (p := ⟨b, off + j, none⟩) (by show b < _; omega), hb_wa.cell (p := ⟨b, off + j, none⟩) (by simp; omega)]
            rw [World.cell?_alloc_past _ _ _ (by simp; omega), World.cell?_alloc_past _ _ _ hbl, hcells j (by omega), ics_get pk j hjp, hx]
          clear hcells
          have HX := Lib.hid hx; clear hx
          have hsucc := Lib.hid (crAt_succ s.size n.size j hle hlt)
          have hsome := fun hm => crGot_some nl s.size pk hf.out j hjp (by rw [hnlen.out]; exact hlt) hm
          have hnone := fun hm => crGot_none nl s.size pk hf.out j hjp (by rw [hnlen.out]; exact hlt) hm
          rw [hnlen.out] at hsome hnone
          have HSome := Lib.hid hsome; have HNone := Lib.hid hnone; clear hsome hnone
          obtain ⟨at_, hat⟩ : ∃ a, a = crAt s.size n.size j := ⟨_, rfl⟩
          obtain ⟨en, hen⟩ : ∃ a, a = crStop n.size at_ := ⟨_, rfl⟩
          obtain ⟨m, hm⟩ : ∃ a, a = crMany n.size pk at_ j := ⟨_, rfl⟩
          rw [← hat] at hlt hge hle2 HGL hsucc HSome HNone ⊢
          rw [← hen] at hsucc
          rw [← hm] at HSome HNone
          have hS : (if (n.size : Int) < ((at_ : Int) / 64 + 1) * 64 then (n.size : Int) else ((at_ : Int) / 64 + 1) * 64) = (en : Int) := by
            rw [hen]; unfold crStop; split <;> omega
          have h1 : at_ ≤ en := by rw [hen]; unfold crStop; omega
          have hM : (m : Int) = min (max x 0) (en - at_) := by rw [hm]; unfold crMany; rw [← HX.out, ← hen]; omega
          have hme : at_ + m ≤ en := by rw [hm, hen]; unfold crMany crStop; omega
          have hen2 : en ≤ n.size := by rw [hen]; unfold crStop; omega
          have HEN := Lib.hid hen; have HMM := Lib.hid hm; have HAT := Lib.hid hat
          clear hen hm hat
          by_cases hx0 : x ≤ 0
          · have hm0 : m = 0 := by omega
            have hn1 : ¬ (en : Int) - at_ < 0 := by omega
            clear hM
            have HM0 := Lib.hid hm0; clear hm0
            have hrel2 : Hid (OwnB wr wa.heap.size (.slice A5 (crGot nl s.size pk j).length c5) (crGot nl s.size pk (j + 1))) := Lib.hid (by rw [HNone.out HM0.out]; exact HO.out)
            have hcase : x < 0 ∨ x = 0 := by omega
            rcases hcase with hx1 | rfl
            all_goals
              go_wp2_with fail
              refine ⟨⟨j + 1, by omega, by go_num, by rw [hsucc.out], hrel2.out, hB⟩, by simp [intOf]; omega⟩
          · have hpos : 0 < m := by omega
            have hcase : ((en : Int) - at_ < x ∧ (en : Int) - at_ = m) ∨ (¬ (en : Int) - at_ < x ∧ x = m) := by omega
            clear hM
            have HG2 := Lib.hid (HSome.out hpos)
            have hext : Hid ((n.extract at_ (at_ + m)).data.toList = (nl.drop at_).take m) := Lib.hid (by rw [HNL.out]; simp)
            have hxs : (n.extract at_ (at_ + m)).size = m := by simp; omega
            have HXS := Lib.hid hxs; clear hxs
            obtain ⟨gl, hgl⟩ : ∃ gl, gl = crGot nl s.size pk j := ⟨_, rfl⟩
            rw [← hgl] at HG2 HO HGL ⊢
            clear hgl HNone HSome
            rcases hcase with ⟨hx1, hm1⟩ | ⟨hx1, rfl⟩
            all_goals
              go_wp2_with fail
              obtain ⟨wo, rfl⟩ : ∃ wo : World, wo = wr := ⟨_, rfl⟩
              go_loopw [5] (fun v w2 => ∃ l : List UInt8, OwnB w2 wa.heap.size v l ∧ Hid (∃ i, l = gl ++ List.replicate i 0) ∧ Hid (l.length ≤ at_) ∧ Below wa.heap.size wa w2) (fun v _ => at_ - lenOf v)
              case atStart => exact ⟨gl, HO.out, Lib.hid ⟨0, by simp⟩, HGL, hB⟩
              case round =>
                obtain ⟨l, hO2, hl2, hll, hB2⟩ := hrel
                obtain ⟨A6, c6, rfl⟩ := hO2.form
                obtain ⟨hc_w2, hf_w2⟩ := bcell2 hB2
                have hz_w2 := hB2.size
                have q3 : w.heap.size < wr.heap.size := by omega
                have q4 : w.heap.size + 1 < wr.heap.size := by omega
                have HO2 := Lib.hid hO2; clear hO2
                by_cases hl : l.length < at_
                · go_wp2_with ((with_reducible refine gate_dst (N := 58) rfl ?_); refine wpList_appB1 (w0 := wr) wa.heap.size rfl _ _ 42 5 rfl Try.underlying42 infoU8 rfl 0 rfl rfl HO2.out (by omega) (by omega) ?_; rintro v' wd ho_wd hb_wd)
                  obtain ⟨A7, c7, rfl⟩ := ho_wd.form
                  go_roundw
                  case rel => exact ⟨l ++ [0], ho_wd, Lib.hid (by obtain ⟨i, hi⟩ := hl2.out; exact ⟨i + 1, by rw [hi, List.replicate_succ', List.append_assoc]⟩), Lib.hid (by simp; omega), hB2.trans (hb_wd.mono (by omega))⟩
                  case measure => simp; omega
                · have hfin : Hid (l = gl ++ List.replicate (at_ - gl.length) 0) := Lib.hid (by
                    obtain ⟨i, hi⟩ := hl2.out
                    have h3 := hll.out
                    have h4 := HGL.out
                    have h5 : l.length = gl.length + i := by rw [hi]; simp
                    rw [hi]; congr 2; omega)
                  go_wp2_with ((with_reducible refine gate_dst (N := 67) rfl ?_); refine wpList_appBs wa.heap.size rfl _ _ 42 9 5 rfl Try.underlying42 Try.underlying9 infoU8 rfl (n.extract at_ (at_ + m)) rfl HO2.out (by rw [HXS.out]; have := hll.out; omega) (by omega) ?_; rintro v' wd ho_wd hb_wd)
                  have hfinal : OwnB wd wa.heap.size v' (crGot nl s.size pk (j + 1)) := by rw [HG2.out, ← hext.out, ← hfin.out]; exact ho_wd
                  refine ⟨⟨j + 1, by omega, by go_num, by rw [hsucc.out], hfinal, hB2.trans (hb_wd.mono (by omega))⟩, by simp [intOf]; omega⟩
        · have HC := crGot_all nl s.size pk hf.out j (by rw [hnlen.out]; omega)
          have hBW : Below w.heap.size w wr := (below_then (below_new2 (below_new2 (Below.refl _ _) _) _) hb_wa).trans (hB.mono (by omega))
          rw [HC] at HO ⊢
          clear HC HGL
          go_wp2_with (first | ((with_reducible refine gate_dst (N := 70) rfl ?_); refine wpList_convert rfl 42 9 _ rfl rfl (OwnB.str HO.out 42 9 5 Try.underlying42 Try.underlying5 Try.underlying9) ?_) | ((with_reducible refine gate_dst (N := 72) rfl ?_); refine wpList_convert rfl 42 9 _ rfl rfl (OwnB.str HO.out 42 9 5 Try.underlying42 Try.underlying5 Try.underlying9) ?_))
          refine bodyPost_ret (v := .agg #[.string ⟨(crash nl s.size pk).toArray⟩, .string ⟨(crash nl s.size pk).toArray⟩, .int .i64 c]) (by simp [results, Try.results19, go_sem, hc_wr, hc_wa, q_w_0_wa, q_w_1_wa]; try rfl) rfl ⟨?_, ?_⟩
          · unfold vDsk; rw [HRES.out]
          · refine Below.setCell (Below.setCell (Below.setCell hBW ?_ _) ?_ _) ?_ _ <;> simp
      · have HC := crGot_all nl s.size pk hf.out j (by rw [hnlen.out]; omega)
        have hBW : Below w.heap.size w wr := (below_then (below_new2 (below_new2 (Below.refl _ _) _) _) hb_wa).trans (hB.mono (by omega))
        rw [HC] at HO ⊢
        clear HC HGL
        go_wp2_with (first | ((with_reducible refine gate_dst (N := 70) rfl ?_); refine wpList_convert rfl 42 9 _ rfl rfl (OwnB.str HO.out 42 9 5 Try.underlying42 Try.underlying5 Try.underlying9) ?_) | ((with_reducible refine gate_dst (N := 72) rfl ?_); refine wpList_convert rfl 42 9 _ rfl rfl (OwnB.str HO.out 42 9 5 Try.underlying42 Try.underlying5 Try.underlying9) ?_))
        refine bodyPost_ret (v := .agg #[.string ⟨(crash nl s.size pk).toArray⟩, .string ⟨(crash nl s.size pk).toArray⟩, .int .i64 c]) (by simp [results, Try.results19, go_sem, hc_wr, hc_wa, q_w_0_wa, q_w_1_wa]; try rfl) rfl ⟨?_, ?_⟩
        · unfold vDsk; rw [HRES.out]
        · refine Below.setCell (Below.setCell (Below.setCell hBW ?_ _) ?_ _) ?_ _ <;> simp
  · have hres : pCrash s n c pk = noDsk := by unfold pCrash; rw [if_neg hok]
    rw [hres]
    obtain ⟨hlen, A, cc, rfl, hcc, hcell⟩ := h
    clear hlen hcell hres
    go_enter Try.func19, Try.ntmps19
    go_wp2_with (go_at_call 22; refine (diskValid_any _ _ _ _).mono ?_; rintro e wa ⟨rfl, hb_wa⟩; obtain ⟨hc_wa, hf_wa⟩ := bcell hb_wa; have hz_wa := hb_wa.size; (try simp only [World.size_alloc, World.size_setCell, World.size_drew] at hz_wa); (try simp only [World.size_alloc, World.size_setCell, World.size_drew] at hc_wa); (try simp only [World.size_alloc, World.size_setCell, World.size_drew] at hf_wa); (try have q_w_0_wa : w.heap.size < wa.heap.size := by omega); (try have q_w_1_wa : w.heap.size + 1 < wa.heap.size := by omega))
    refine bodyPost_ret (v := .agg #[.string (⟨#[]⟩ : ByteArray), .string (⟨#[]⟩ : ByteArray), .int .i64 0]) (by simp [results, Try.results19, go_sem, hc_wa, q_w_0_wa, q_w_1_wa]; try rfl) rfl ⟨?_, ?_⟩
    · rfl
    · (repeat' (first | exact Below.refl _ _ | (with_reducible assumption) | (with_reducible refine Below.setCell ?_ (by first | (simp; done) | (simp; omega)) _) | refine below_then ?_ (by assumption) | (with_reducible refine below_new2 ?_ _) | (with_reducible refine Below.drew ?_) | (with_reducible refine bdrewN ?_ _)))
end Go.Proofs.Ytmpegllbfcgjiaa
