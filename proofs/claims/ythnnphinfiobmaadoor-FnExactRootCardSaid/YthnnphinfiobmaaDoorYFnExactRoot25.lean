/- Own texts and the print's words that they use, joined by a program of this session. -/
import Derived.Test.YthnnphinfiobmaaDoorYFnExactRoot24
import Derived.Test.YthnnphinfiobmaaDoorYFnExactRoot21
import Derived.WalkLawsBesides
section
namespace Go.Proofs.YthnnphinfiobmaaDoor.Z
open Go.RowKit Go.Proofs.YthnnphinfiobmaaDoor Go.Proofs.YthnnphinfiobmaaDoorW.PrintWords Go.Proofs.YthnnphinfiobmaaDoorW.PrintLast
set_option linter.unusedVariables false
set_option linter.unusedSimpArgs false
set_option maxRecDepth 100000
theorem wpStill_loadG {P : Program} {ops : Array Oper} {w : World} {Q : Act → Prop} {a : Act} {o : Oper} {rest : List Oper} (hw : Region.wanted o (yielded ops a.tmps) = true) (ty : TypeId) (x : Operand) (ho : o.op = .load ty x) (p v : Value) (hx : a.eval x = p)
    (hrun : (Instr.loadAt ty p).run P w = .ok v w) (h : wpStill P ops w Q rest (a.put o.dst v)) : wpStill P ops w Q (o :: rest) a := by
  unfold wpStill
  rw [if_pos hw]
  unfold Oper.still execOp
  simp only [ho, hx, Sem.run_bind, hrun, Result.andThen_ok, Sem.run_pure]
  exact ⟨rfl, h⟩
structure InnIs (t : Sh Nd) (p : Nd) (m : Nat) (wi w : World) : Prop where
  le : m ≤ (edge t).length
  row : w.heap[p.b]? = some (.cells (rowT p (ptrT (sub m t)) (.pointer none)) 76 (0, 0))
  grown : wi.grownBy w (some p.b)
  up : ∀ i x, m ≤ i → (edge t)[i]? = some x → abN p x = true
theorem infoTree : (Tryd.prog.info? 67).map (fun i => (i.zero, i.size, i.bytes)) = some (some (.pointer none), 1, 8) := by kernel_rfl
theorem rd_pair (ps : List S65) (j : Nat) (h : j < ps.length) : rd_T65 ps (j : Int) = ps[j] := by
  unfold rd_T65
  rw [Int.toNat_natCast, List.getD_eq_getElem?_getD, List.getElem?_eq_getElem h]; rfl
theorem heldPI {u : World} {b : Nat} {k v : ByteArray} (h1 : u.cell? ⟨b, 0, none⟩ = some (.string k)) (h2 : u.cell? ⟨b, 1, none⟩ = some (.string v)) (h3 : Tab u) : u.cell? ⟨b, 0, none⟩ = some (.string k) ∧ u.cell? ⟨b, 1, none⟩ = some (.string v) ∧ Tab u := ⟨h1, h2, h3⟩
theorem heldPB {u w1 : World} {b : Nat} {k v : ByteArray} (hb : Below u.heap.size u w1) (h : u.cell? ⟨b, 0, none⟩ = some (.string k) ∧ u.cell? ⟨b, 1, none⟩ = some (.string v) ∧ Tab u) : w1.cell? ⟨b, 0, none⟩ = some (.string k) ∧ w1.cell? ⟨b, 1, none⟩ = some (.string v) ∧ Tab w1 := ⟨cellB hb h.1, cellB hb h.2.1, h.2.2.below hb⟩
theorem heldPD {u : World} {b : Nat} {k v : ByteArray} (h : u.cell? ⟨b, 0, none⟩ = some (.string k) ∧ u.cell? ⟨b, 1, none⟩ = some (.string v) ∧ Tab u) : u.drew.cell? ⟨b, 0, none⟩ = some (.string k) ∧ u.drew.cell? ⟨b, 1, none⟩ = some (.string v) ∧ Tab u.drew := h
theorem heldPA {u : World} {b : Nat} {k v : ByteArray} (o : Obj) (h : u.cell? ⟨b, 0, none⟩ = some (.string k) ∧ u.cell? ⟨b, 1, none⟩ = some (.string v) ∧ Tab u) : (u.alloc o).cell? ⟨b, 0, none⟩ = some (.string k) ∧ (u.alloc o).cell? ⟨b, 1, none⟩ = some (.string v) ∧ Tab (u.alloc o) := heldPB ((Below.refl _ _).alloc (Nat.le_refl _) o) h
theorem hashOne_at (s : ByteArray) (g : Nat) (W : World) (hc : W.cell? ⟨g, 0, none⟩ = some (.string s)) (ht : Tab W) (hs : s.size ≤ 4294967296) :
    Calls Tryd.prog 86 #[.slice (some ⟨g, 0, none⟩) 1 1] W fun e w' => e = .returned (hashV (keyL s)) ∧ Below W.heap.size W w' := by
  have h := hashOf_any g [s] W (fun j p hj => by
    match j, hj with
    | 0, hj =>
      simp only [List.getElem?_cons_zero, Option.some.injEq] at hj
      subst hj
      exact hc) ht (by rw [catL_one]; exact hs) (by simp) (World.block_lt_of_cell? _ ⟨g, 0, none⟩ hc)
  rw [catL_one] at h
  exact h
theorem list32 {α : Type} (l : List α) (h : l.length = 32) : ∃ x0 x1 x2 x3 x4 x5 x6 x7 x8 x9 x10 x11 x12 x13 x14 x15 x16 x17 x18 x19 x20 x21 x22 x23 x24 x25 x26 x27 x28 x29 x30 x31, l = [x0, x1, x2, x3, x4, x5, x6, x7, x8, x9, x10, x11, x12, x13, x14, x15, x16, x17, x18, x19, x20, x21, x22, x23, x24, x25, x26, x27, x28, x29, x30, x31] :=
  match l, h with
  | [x0, x1, x2, x3, x4, x5, x6, x7, x8, x9, x10, x11, x12, x13, x14, x15, x16, x17, x18, x19, x20, x21, x22, x23, x24, x25, x26, x27, x28, x29, x30, x31], _ => ⟨x0, x1, x2, x3, x4, x5, x6, x7, x8, x9, x10, x11, x12, x13, x14, x15, x16, x17, x18, x19, x20, x21, x22, x23, x24, x25, x26, x27, x28, x29, x30, x31, rfl⟩
theorem GrowIs.after {base : Nat} {ps : List S65} {j : Nat} {t : Sh Nd} {v : Value} {w0 w w1 : World} (h : GrowIs base ps j t v w0 w) (hb : Below w.heap.size w w1) (hw : base ≤ w.heap.size) : GrowIs base ps j t v w0 w1 :=
  { h with inm := h.inm.below hb, own := h.own.below hb, below := h.below.trans (hb.mono hw) }
set_option maxHeartbeats 4000000 in
theorem grow_any (A0 : Option Addr) (c0 : Nat) (ps : List S65) (W : Nat) (hW1 : 1 ≤ W) (hW2 : W ≤ 32) (w : World) (hr0 : Kd.C k65 w A0 ps.length ps) (hc0 : ps.length ≤ c0) (hlen : ps.length ≤ 1048576) (hsz : ∀ p ∈ ps, p.f0.size ≤ 4294967296) (hT : Tab w) :
    Calls Tryd.prog 43 #[.slice A0 ps.length c0, .int .i64 W] w fun e w' => ∃ t, e = .returned (ptrT (sealT W t)) ∧ InM w' (sealT W t) ∧ (blks t).Nodup ∧ (∀ b ∈ blks t, w.heap.size ≤ b) ∧ mapS er t = cart abP ps ∧ Below w.heap.size w w' := by
  have HR := Lib.hid hr0; clear hr0
  have HS := Lib.hid hsz; clear hsz
  have HT := Lib.hid hT; clear hT
  obtain ⟨W1, hWE⟩ : ∃ W1, W1 = w.alloc (.cells #[.int .i64 W] 3) := ⟨_, rfl⟩
  have hz1 : W1.heap.size = w.heap.size + 1 := by rw [hWE]; simp
  have hB1 : Below w.heap.size w W1 := by rw [hWE]; exact (Below.refl _ _).alloc (Nat.le_refl _) _
  have hV1 : W1.heap[w.heap.size]? = some (.cells #[.int .i64 W] 3 (0, 0)) := by rw [hWE]; exact heap_alloc_new w _
  have HWE := Lib.hid hWE
  have HB1 := Lib.hid hB1
  have HV1 := Lib.hid hV1
  clear hWE hB1 hV1
  go_enter Tryd.func43, Tryd.ntmps43
  go_upto_region 1 with fail
  rw [← HWE.out]
  go_wp2_with fail
  go_loopw [5, 11] (fun v i wr => ∃ (j : Nat) (t : Sh Nd), j ≤ ps.length ∧ i = .int .i64 j ∧ GrowIs (w.heap.size + 1) ps j t v W1 wr) (fun _ i _ => ps.length - (intOf i).toNat)
  case atStart => exact ⟨0, .nil, by omega, rfl, by rw [← hz1]; exact GrowIs.start _ _ _⟩
  case round =>
    obtain ⟨j, t, hj, rfl, hG⟩ := hrel
    obtain ⟨A, c, rfl⟩ := hG.own.form
    have HG := Lib.hid hG; clear hG
    have HBw := Lib.hid (HB1.out.trans (HG.out.below.mono (by omega)))
    by_cases hl : j < ps.length
    · obtain ⟨ad, e, hx0, hx1⟩ := at_T65 HR.out (j : Int) (by omega) (by omega)
      cases e
      rw [rd_pair ps j hl] at hx0 hx1
      have hks := HS.out ps[j] (List.getElem_mem _)
      obtain ⟨⟨k, v⟩, hp⟩ : ∃ p, ps[j] = p := ⟨_, rfl⟩
      rw [hp] at hx0 hx1 hks
      have HP := Lib.hid hp; clear hp
      dsimp only at hx0 hx1 hks
      replace hx0 := (HBw.out.cell (World.block_lt_of_cell? w _ hx0)).trans hx0
      replace hx1 := (HBw.out.cell (World.block_lt_of_cell? w _ hx1)).trans hx1
      rw [Int.toNat_natCast] at hx0 hx1
      have hj0 : (0 : Int) ≤ (j : Int) := by omega
      have hj1 : (j : Int) < (ps.length : Int) := by omega
      go_upto_region 5 with fail
      obtain ⟨W2, hWE2⟩ : ∃ W2, W2 = wr.alloc (.cells #[.string k, .string v] 65) := ⟨_, rfl⟩
      rw [← hWE2]
      have hz2 : W2.heap.size = wr.heap.size + 1 := by rw [hWE2]; simp
      have hb2 : Below wr.heap.size wr W2 := by rw [hWE2]; exact (Below.refl _ _).alloc (Nat.le_refl _) _
      have hn2 : W2.heap[wr.heap.size]? = some (.cells #[.string k, .string v] 65 (0, 0)) := by rw [hWE2]; exact heap_alloc_new wr _
      have p0 : W2.cell? ⟨wr.heap.size, 0, none⟩ = some (.string k) := (cell_of_row _ _ _ _ _ _ hn2).trans rfl
      have p1 : W2.cell? ⟨wr.heap.size, 1, none⟩ = some (.string v) := (cell_of_row _ _ _ _ _ _ hn2).trans rfl
      have hT2 := HT.out.below (HBw.out.trans (hb2.mono HBw.out.size))
      have hq : (W2.alloc (.cells #[.string k] 9)).drew.cell? ⟨wr.heap.size + 1, 0, none⟩ = some (.string k) := by
        rw [← hz2]; exact (cell_of_row _ _ _ _ _ _ (heap_alloc_new W2 _)).trans rfl
      have HQ := Lib.hid (hashOne_at k _ _ hq (hT2.below ((Below.refl _ _).alloc (Nat.le_refl _) _).drew) hks)
      obtain ⟨x0, x1, x2, x3, x4, x5, x6, x7, x8, x9, x10, x11, x12, x13, x14, x15, x16, x17, x18, x19, x20, x21, x22, x23, x24, x25, x26, x27, x28, x29, x30, x31, hxs⟩ := list32 (keyL k) (keyL_length k)
      have HXS := Lib.hid hxs
      have hvx : hashV (keyL k) = .agg #[.int .u8 x0, .int .u8 x1, .int .u8 x2, .int .u8 x3, .int .u8 x4, .int .u8 x5, .int .u8 x6, .int .u8 x7, .int .u8 x8, .int .u8 x9, .int .u8 x10, .int .u8 x11, .int .u8 x12, .int .u8 x13, .int .u8 x14, .int .u8 x15, .int .u8 x16, .int .u8 x17, .int .u8 x18, .int .u8 x19, .int .u8 x20, .int .u8 x21, .int .u8 x22, .int .u8 x23, .int .u8 x24, .int .u8 x25, .int .u8 x26, .int .u8 x27, .int .u8 x28, .int .u8 x29, .int .u8 x30, .int .u8 x31] := by unfold hashV; rw [hxs]; rfl
      rw [hvx] at HQ
      have HB2 := Lib.hid hb2
      clear hxs hvx
      have HN2 := Lib.hid hn2
      clear hWE2 hb2 hn2 hq hx0 hx1 hj0 hj1
      go_region_held3 (fun w' => w'.cell? ⟨wr.heap.size, 0, none⟩ = some (.string k) ∧ w'.cell? ⟨wr.heap.size, 1, none⟩ = some (.string v) ∧ Tab w')
        (repeat' (first | (with_reducible assumption) | (with_reducible exact heldPI p0 p1 hT2) | (with_reducible refine heldPD ?_) | (with_reducible refine heldPA _ ?_) | (with_reducible refine heldPB (by assumption) ?_)))
        (first | (go_at_call 86; refine (HQ.out).mono ?_; rintro e w3 ⟨rfl, hb3⟩))
      obtain ⟨W4, hWE4⟩ : ∃ W4, W4 = w3.alloc (.cells #[.string k, .string v, .int .u8 x0, .int .u8 x1, .int .u8 x2, .int .u8 x3, .int .u8 x4, .int .u8 x5, .int .u8 x6, .int .u8 x7, .int .u8 x8, .int .u8 x9, .int .u8 x10, .int .u8 x11, .int .u8 x12, .int .u8 x13, .int .u8 x14, .int .u8 x15, .int .u8 x16, .int .u8 x17, .int .u8 x18, .int .u8 x19, .int .u8 x20, .int .u8 x21, .int .u8 x22, .int .u8 x23, .int .u8 x24, .int .u8 x25, .int .u8 x26, .int .u8 x27, .int .u8 x28, .int .u8 x29, .int .u8 x30, .int .u8 x31, .pointer none, .pointer none, .string ⟨#[]⟩, .string ⟨#[]⟩] 76) := ⟨_, rfl⟩
      rw [← hWE4]
      obtain ⟨nb, hnb⟩ : ∃ nb, w3.heap.size = nb := ⟨_, rfl⟩
      have hrow4 : W4.heap[nb]? = some (.cells (rowT ⟨nb, k, v, ⟨#[]⟩, ⟨#[]⟩⟩ (.pointer none) (.pointer none)) 76 (0, 0)) := by
        rw [hWE4, ← hnb, heap_alloc_new]; unfold rowT rowL; rw [HXS.out]; rfl
      have hb23 : Below W2.heap.size W2 w3 := ((Below.refl _ _).alloc (Nat.le_refl _) _).drew.trans (hb3.mono (by simp))
      have hb4 : Below wr.heap.size wr W4 := by
        rw [hWE4]
        exact (HB2.out.trans (hb23.mono (by omega))).alloc (by have := hb23.size; omega) _
      have hn4 : W4.heap[wr.heap.size]? = some (.cells #[.string k, .string v] 65 (0, 0)) := by
        rw [hWE4, heap_alloc_old _ _ (by have := hb23.size; omega)]
        exact (hb23.block _ (by omega)).trans HN2.out
      have hzn : wr.heap.size < nb := by have := hb23.size; omega
      have hG4 := HG.out.after hb4 (by have := HG.out.below.size; omega)
      have hnt : nb ∉ blks t := fun h => by have := HG.out.inm.lt nb h; omega
      have hgv : ∀ g, (Value.slice A (edge t).length c).ownBlock = some g → g < wr.heap.size := fun g h => (HG.out.own.lt g h).2
      rw [hnb]
      have HROW := Lib.hid hrow4
      have HB4 := Lib.hid hb4
      have HN4 := Lib.hid hn4
      have HG4 := Lib.hid hG4
      have HNT := Lib.hid hnt
      have HGV := Lib.hid hgv
      have hwo : w.heap.size + 1 ≤ wr.heap.size := by have := HG.out.below.size; omega
      clear hWE4 hnb hrow4 hb4 hn4 hG4 hnt hgv hb3 hb23 HG p0 p1 HQ HXS HB2 HN2 hz2
      obtain ⟨wo, rfl⟩ : ∃ wo : World, wo = wr := ⟨_, rfl⟩
      go_wp2_with fail
      go_loopw [5] (fun u w2 => ∃ m, u = .slice A m c ∧ InnIs t ⟨nb, k, v, ⟨#[]⟩, ⟨#[]⟩⟩ m W4 w2) (fun u _ => lenOf u)
      case atStart => exact ⟨_, rfl, Nat.le_refl _, by rw [sub_end]; exact HROW.out, grown_refl _ _, fun i x hi hx => by rw [List.getElem?_eq_none hi] at hx; cases hx⟩
      case round =>
        obtain ⟨m, rfl, hI⟩ := hrel
        have hle := hI.le
        have hown := Own.short0 (HG4.out.own.grown hI.grown (fun q hq h => by have := HGV.out q hq; have : _ = nb := Option.some.inj h; omega)) m hle
        have HI := Lib.hid hI; clear hI
        have HO := Lib.hid hown
        have hzg := HI.out.grown.size
        have hz4 := HB4.out.size
        have hln := HG4.out.own.bound
        have hfew := HG4.out.few
        have hbw := HG4.out.below.size
        cases m with
        | zero =>
          clear hown
          go_wp2_with fail
          go_quiet (fail)
          obtain ⟨wq, hwq⟩ : ∃ wq, wq = wr.drewN nq := ⟨_, rfl⟩
          rw [← hwq]
          have hbq : Below wr.heap.size wr wq := by rw [hwq]; exact bdrewN (Below.refl _ _) nq
          have HIN : Hid (InM wq (graft 0 t ⟨nb, k, v, ⟨#[]⟩, ⟨#[]⟩⟩)) := Lib.hid (InM.graft0 ((HG4.out.inm.grown HI.out.grown (fun q hq => by cases hq; exact HNT.out)).below hbq) ((hbq.block nb (lt_of_block HI.out.row)).trans HI.out.row))
          have HOQ := Lib.hid (HO.out.below hbq)
          have HBQ := Lib.hid ((HG4.out.below.grown HI.out.grown (by omega) (fun q hq => by have : nb = q := Option.some.inj hq; omega)).trans (hbq.mono (by omega)))
          have hzq := hbq.size
          clear hwq hbq
          have HK : Hid (∀ x, 0 < 0 → (edge t)[0 - 1]? = some x → abN ⟨nb, k, v, ⟨#[]⟩, ⟨#[]⟩⟩ x = false) := Lib.hid (fun x h0 _ => absurd h0 (Nat.lt_irrefl 0))
          (have HOWN := Lib.hid (HOQ.out.alloc (.cells #[.pointer (some ⟨nb, 0, none⟩)] 67)); have HSRC := Lib.hid (src_one wq 123 67 67 Tryd.underlying123 (.pointer (some ⟨nb, 0, none⟩)) rfl); go_wp2_with (at_builtin; go_loud (refine wpList_app (w.heap.size + 1) rfl _ _ 123 123 rfl 67 (.pointer none) 1 8 Tryd.underlying123 infoTree rfl rfl HOWN.out _ 1 [.pointer (some ⟨nb, 0, none⟩)] rfl HSRC.out (by unfold maxLen; omega) (by omega) (by simp; omega) ?_; intro v' w' hown' hgrow hvv; obtain ⟨A', c', rfl⟩ := hown'.form; have HO' := Lib.hid hown'; have HG' := Lib.hid hgrow; have HV' := Lib.hid hvv; clear hown' hgrow hvv)); refine ⟨⟨j + 1, graft 0 t ⟨nb, k, v, ⟨#[]⟩, ⟨#[]⟩⟩, by omega, by go_num, HG4.out.next (p := ⟨nb, k, v, ⟨#[]⟩, ⟨#[]⟩⟩) (by rw [List.getElem?_eq_getElem hl, HP.out]; rfl) (Nat.zero_le _) HNT.out (by show _ ≤ nb; omega) (HIN.out.below ((Below.refl _ _).alloc (Nat.le_refl _) _)) (HK.out) HI.out.up (own_slice _ _ _ _) HG'.out HO'.out HV'.out (fun h => by have : nb < wo.heap.size := HGV.out _ h; omega) ((HBQ.out.alloc (by omega) _).grown HG'.out (by simp; omega) (fun q hq => (HOQ.out.lt q hq).1))⟩, by simp [intOf]; omega⟩)
        | succ m =>
          obtain ⟨e, he⟩ : ∃ e, (edge t)[m]? = some e := ⟨_, List.getElem?_eq_getElem (by omega)⟩
          have hem := edge_blks t e (List.mem_of_getElem? he)
          have hebn : e.b ≠ nb := fun h => HNT.out (h ▸ hem)
          obtain ⟨l, r, hre⟩ := HG4.out.inm.edge m e he
          have hre1 := (HI.out.grown.block e.b (lt_of_block hre) (fun h => hebn (Option.some.inj h))).trans hre
          obtain ⟨g, cap, hv, hg1, hg2, hg3, hg4, hg5⟩ := hown.at (by omega)
          cases hv
          have hci := hg4 m (by omega)
          rw [List.getElem?_take, if_pos (by omega), ptrs, List.getElem?_map, he, Option.map_some] at hci
          have he0 := (cell_of_row _ _ _ _ _ _ hre1).trans (rowT_key _ _ _)
          have kl1 := rank_load (w := wr.drew) (x := ⟨nb, k, v, ⟨#[]⟩, ⟨#[]⟩⟩) (show wr.heap[nb]? = _ from HI.out.row)
          have kl2 := rank_load (w := wr.drew) (x := e) (show wr.heap[e.b]? = _ from hre1)
          have hnb4 := lt_of_block HROW.out
          have pv0 : wr.cell? ⟨wo.heap.size, 0, none⟩ = some (.string k) := (cell_of_row _ _ _ _ _ _ ((HI.out.grown.block _ (by omega) (fun h => by have : _ = nb := Option.some.inj h; omega)).trans HN4.out)).trans rfl
          have hb35 := (cell_of_row _ _ 35 _ _ _ hre1).trans (rowT_right _ _ _)
          have hf35 := frozen_of_row _ _ 35 _ _ hre1
          have hb34 := (cell_of_row _ _ 34 _ _ _ HI.out.row).trans (rowT_left _ _ _)
          have hf34 := frozen_of_row _ _ 34 _ _ HI.out.row
          have HKL1 := Lib.hid kl1
          have HKL2 := Lib.hid kl2
          have HE := Lib.hid he
          have HEM := Lib.hid hem
          have HRE := Lib.hid hre1
          obtain ⟨M, hM⟩ : ∃ M, m + 1 = M := ⟨_, rfl⟩
          have hM0 : 0 < M := by omega
          have hMi : (0 : Int) < (M : Int) := by omega
          have hw : IntKind.i64.wrap ((M : Int) - 1) = (m : Int) := by
            rw [show (M : Int) - 1 = (m : Int) by omega]; exact wrapN m (by unfold maxLen at hln; omega)
          have hm0 : (0 : Int) ≤ (m : Int) := by omega
          have hmM : m < M := by omega
          have hmc : m ≤ c := by omega
          have hc0 : ¬ (0 = c) := by omega
          rw [hM] at HI HO hle hg3 ⊢
          have HM := Lib.hid hM
          clear kl1 kl2 hre1 hre he hown hem hg4 hg5 hg1 hM
          unfold ptrB at hci
          dsimp only at hb34 hf34
          by_cases hab : abN ⟨nb, k, v, ⟨#[]⟩, ⟨#[]⟩⟩ e = true
          · have HAB : Hid (aboveB (keyL k) (keyL e.key) k e.key = true) := Lib.hid hab
            clear hab
            go_wp2_with fail
            go_still_tail 29, (by kernel_rfl)
            go_loud (refine wpStill_loadG (by rfl) 74 _ rfl _ (hashV (keyL k)) rfl HKL1.out ?_)
            repeat still_step
            go_loud (refine wpStill_loadG (by rfl) 74 _ rfl _ (hashV (keyL e.key)) rfl HKL2.out ?_)
            repeat still_step
            try refine wpStill_nil ?_
            change wpList _ _ _ _ _ wr.drew
            go_wp2_with fail
            refine (above_any (keyL k) (keyL e.key) (keyL_length _) (keyL_length _) k e.key _).mono ?_
            rintro e' w5 ⟨rfl, hb5⟩
            rw [HAB.out]
            have hb6 : Below wr.heap.size wr w5 := (Below.refl _ _).drew.trans hb5
            have hci5 := cellB hb6 hci
            have hrow5 := (hb6.block nb (lt_of_block HI.out.row)).trans HI.out.row
            have HB6 := Lib.hid hb6
            have HROW5 := Lib.hid hrow5
            have h34 := (cell_of_row _ _ 34 _ _ _ hrow5).trans (rowT_left _ _ _)
            have f34 := frozen_of_row _ _ 34 _ _ hrow5
            clear hb34 hf34 hb35 hf35 hb5 hb6 hrow5 hci he0 pv0
            go_wp2_with fail
            go_roundw
            case rel =>
              refine ⟨m, rfl, by omega, ?_, gTwo HI.out.grown (gTwo (gBelow HB6.out _) (gSet _ _ _ _) (.inl rfl)) (.inl rfl), fun i x hi hx => ?_⟩
              · rw [sub_ptr t m e HE.out]
                exact blk_put HROW5.out 34 _ (rowT_setLeft _ _ _ _)
              · rcases Nat.eq_or_lt_of_le hi with h | h
                · subst h; rw [HE.out] at hx; cases hx; exact HAB.out
                · exact HI.out.up i x (by have := HM.out; omega) hx
            case measure => simp; omega
          · have hab2 : abN ⟨nb, k, v, ⟨#[]⟩, ⟨#[]⟩⟩ e = false := Bool.eq_false_iff.2 hab
            have HAB : Hid (aboveB (keyL k) (keyL e.key) k e.key = false) := Lib.hid hab2
            clear hab
            go_wp2_with fail
            go_still_tail 29, (by kernel_rfl)
            go_loud (refine wpStill_loadG (by rfl) 74 _ rfl _ (hashV (keyL k)) rfl HKL1.out ?_)
            repeat still_step
            go_loud (refine wpStill_loadG (by rfl) 74 _ rfl _ (hashV (keyL e.key)) rfl HKL2.out ?_)
            repeat still_step
            try refine wpStill_nil ?_
            change wpList _ _ _ _ _ wr.drew
            go_wp2_with fail
            refine (above_any (keyL k) (keyL e.key) (keyL_length _) (keyL_length _) k e.key _).mono ?_
            rintro e' w5 ⟨rfl, hb5⟩
            rw [HAB.out]
            have hb6 : Below wr.heap.size wr w5 := (Below.refl _ _).drew.trans hb5
            have hci5 := cellB hb6 hci
            have hrow5 := (hb6.block nb (lt_of_block HI.out.row)).trans HI.out.row
            have HB6 := Lib.hid hb6
            have HROW5 := Lib.hid hrow5
            have hre5 := (hb6.block e.b (lt_of_block HRE.out)).trans HRE.out
            have h35 := (cell_of_row _ _ 35 _ _ _ hre5).trans (rowT_right _ _ _)
            have f35 := frozen_of_row _ _ 35 _ _ hre5
            have HIN5 := Lib.hid ((HG4.out.inm.grown HI.out.grown (fun q hq => by cases hq; exact HNT.out)).below hb6)
            have HO5 := Lib.hid (HO.out.below hb6)
            clear hb34 hf34 hb35 hf35 hb5 hb6 hrow5 hci he0 pv0 hre5
            go_upto_region 11 with fail
            obtain ⟨wq, hwq⟩ : ∃ wq, wq = w5.setCell ⟨e.b, 35, none⟩ (.pointer (some ⟨nb, 0, none⟩)) := ⟨_, rfl⟩
            rw [← hwq]
            have HIN : Hid (InM wq (graft M t ⟨nb, k, v, ⟨#[]⟩, ⟨#[]⟩⟩)) := Lib.hid (by
              rw [hwq]
              have hM := HM.out
              subst hM
              exact InM.graft (p := ⟨nb, k, v, ⟨#[]⟩, ⟨#[]⟩⟩) m e HIN5.out HG4.out.nodup HNT.out HE.out HROW5.out)
            have HOQ := Lib.hid (HO5.out.set (p := ⟨e.b, 35, none⟩) (fun h => HG4.out.apart e.b h HEM.out) (.pointer (some ⟨nb, 0, none⟩)))
            rw [← hwq] at HOQ
            have HBQ : Hid (Below (w.heap.size + 1) W1 wq) := Lib.hid (by
              rw [hwq]
              exact ((HG4.out.below.grown HI.out.grown (by omega) (fun q hq => by have : nb = q := Option.some.inj hq; omega)).trans (HB6.out.mono (by omega))).setCell (by have := HG4.out.ge e.b HEM.out; show _ ≤ e.b; omega) _)
            have hzq : wr.heap.size ≤ wq.heap.size := by rw [hwq]; simpa using HB6.out.size
            clear hwq h35 f35 hci5
            have HK : Hid (∀ x, 0 < M → (edge t)[M - 1]? = some x → abN ⟨nb, k, v, ⟨#[]⟩, ⟨#[]⟩⟩ x = false) := Lib.hid (fun x _ hx => by rw [← HM.out, Nat.add_sub_cancel, HE.out] at hx; cases hx; exact HAB.out)
            (have HOWN := Lib.hid (HOQ.out.alloc (.cells #[.pointer (some ⟨nb, 0, none⟩)] 67)); have HSRC := Lib.hid (src_one wq 123 67 67 Tryd.underlying123 (.pointer (some ⟨nb, 0, none⟩)) rfl); go_wp2_with (at_builtin; go_loud (refine wpList_app (w.heap.size + 1) rfl _ _ 123 123 rfl 67 (.pointer none) 1 8 Tryd.underlying123 infoTree rfl rfl HOWN.out _ 1 [.pointer (some ⟨nb, 0, none⟩)] rfl HSRC.out (by unfold maxLen; omega) (by omega) (by simp; omega) ?_; intro v' w' hown' hgrow hvv; obtain ⟨A', c', rfl⟩ := hown'.form; have HO' := Lib.hid hown'; have HG' := Lib.hid hgrow; have HV' := Lib.hid hvv; clear hown' hgrow hvv)); refine ⟨⟨j + 1, graft M t ⟨nb, k, v, ⟨#[]⟩, ⟨#[]⟩⟩, by omega, by go_num, HG4.out.next (p := ⟨nb, k, v, ⟨#[]⟩, ⟨#[]⟩⟩) (by rw [List.getElem?_eq_getElem hl, HP.out]; rfl) (hle) HNT.out (by show _ ≤ nb; omega) (HIN.out.below ((Below.refl _ _).alloc (Nat.le_refl _) _)) (HK.out) HI.out.up (own_slice _ _ _ _) HG'.out HO'.out HV'.out (fun h => by have : nb < wo.heap.size := HGV.out _ h; omega) ((HBQ.out.alloc (by omega) _).grown HG'.out (by simp; omega) (fun q hq => (HOQ.out.lt q hq).1))⟩, by simp [intOf]; omega⟩)
    · obtain rfl : j = ps.length := by omega
      have hsh := HG.out.shape
      rw [List.take_length] at hsh
      have HSH := Lib.hid hsh
      clear hsh hl hj
      have hV := (HG.out.below.block w.heap.size (by omega)).trans HV1.out
      have HV := Lib.hid hV
      have HTr := Lib.hid (HT.out.below HBw.out)
      have htl := HT.out.lt
      cases t with
      | nil =>
        have hz : (edge (Sh.nil : Sh Nd)).length = 0 := rfl
        rw [hz]
        clear hV hz
        go_wp2
        go_ret
        exact ⟨.nil, rfl, trivial, List.nodup_nil, fun b h => by simp [blks] at h, HSH.out, HBw.out⟩
      | node x l r =>
        obtain ⟨n, hn⟩ : ∃ n, (edge (Sh.node x l r)).length = n + 1 := ⟨(edge r).length, by rw [edge, List.length_cons]⟩
        obtain ⟨g, cap, hv, hg1, hg2, hg3, hg4, hg5⟩ := HG.out.own.at (by omega)
        cases hv
        have hci := hg4 0 (by omega)
        rw [ptrs, edge, List.map_cons, List.getElem?_cons_zero] at hci
        have hap := HG.out.apart g rfl
        have hmf : ∀ (fn : Fn) (first cap : Array Value) (w : World), (Instr.makeFunc fn first cap).run Tryd.prog w = .ok (.func fn first cap) w := fun _ _ _ _ => rfl
        have hVn : w.heap.size ∉ blks (.node x l r) := fun h => by have := HG.out.ge _ h; omega
        have hTn : 0 ∉ blks (.node x l r) := fun h => by have := HG.out.ge _ h; omega
        rw [hn]
        have HN := Lib.hid hn
        have HCI := Lib.hid hci
        have HEA := Lib.hid (eachSeal_any w.heap.size W hW1 hW2 (.node x l r) wr HG.out.inm HG.out.nodup hV hVn HTr.out hTn)
        unfold ptrB at hci
        have e1 : ((((n + 1 : Nat) : Int) == 0) = false) := by rw [beq_eq_false_iff_ne]; omega
        have h1 : (0 : Int) < ((n + 1 : Nat) : Int) := by omega
        clear hn hg4 hg5 hg1 hap hVn hTn hV
        go_wp2_with fail
        refine (HEA.out).mono ?_
        rintro e w2 ⟨rfl, hi2, hf2⟩
        have hci2 : w2.cell? ⟨g, 0, none⟩ = some (.pointer (some ⟨x.b, 0, none⟩)) := (World.cell?_of_block (a := ⟨g, 0, none⟩) (hf2.block g hg2 (HG.out.apart g rfl))).trans hci
        have HI2 := Lib.hid hi2
        have HF2 := Lib.hid hf2
        clear hi2 hf2 hci
        go_wp2
        go_ret
        exact ⟨_, rfl, HI2.out, HG.out.nodup, fun b h => by have := HG.out.ge b h; omega, HSH.out, HBw.out.trans (HF2.out.below HBw.out.size (fun b h => by have := HG.out.ge b h; omega))⟩
end Go.Proofs.YthnnphinfiobmaaDoor.Z
end
section
namespace Go.Proofs.YthnnphinfiobmaaDoor.Z
open Go.RowKit Go.Proofs.YthnnphinfiobmaaDoorW.PrintWords Go.Proofs.YthnnphinfiobmaaDoorW.PrintLast Go.Proofs.YthnnphinfiobmaaDoorW.PrintMore
attribute [local go_sem] max2_int min2_int max_two min_two max_three min_three max_four min_four   -- for this text's walks alone
set_option linter.unusedVariables false
set_option linter.unusedSimpArgs false
def impl_pairFits.f (a0 : ByteArray) (a1 : ByteArray) : Option (Bool) := if (a0.size : Int) ≥ 1 then (if (a0.size : Int) ≤ 256 then (some (decide ((a1.size : Int) ≤ 2000))) else (some false)) else (some false)
set_option maxHeartbeats 8000000 in
set_option maxRecDepth 100000 in
theorem impl_pairFits.calls (a0 : ByteArray) (a1 : ByteArray) (r : Bool) (w : World) (h : impl_pairFits.f a0 a1 = some r) :
    Calls Tryd.prog 85 #[.string a0, .string a1] w fun e w' => e = .returned (.bool r) ∧ Drawn0 w w' := by
  have H : (if (a0.size : Int) ≥ 1 then (if (a0.size : Int) ≤ 256 then (some (decide ((a1.size : Int) ≤ 2000))) else (some false)) else (some false)) = some r := h
  clear h
  by_cases c3 : (a0.size : Int) ≥ 1
  · rw [if_pos c3] at H
    have c3b0 : decide (1 ≤ (a0.size : Int)) = true := decide_eq_true c3
    have c3b1 : decide (1 ≤ a0.size) = true := decide_eq_true (by omega)
    clear c3
    by_cases c4 : (a0.size : Int) ≤ 256
    · rw [if_pos c4] at H
      have c4b0 : decide ((a0.size : Int) ≤ 256) = true := decide_eq_true c4
      have c4b1 : decide (a0.size ≤ 256) = true := decide_eq_true (by omega)
      clear c4
      obtain rfl := Option.some.inj H
      go_enter Tryd.func85, Tryd.ntmps85
      go_wp2
      go_ret
      exact ⟨by first | rfl | (simp; done) | (simp [*]; done), by repeat (first | exact Drawn0.refl _ | apply Drawn0.step)⟩
    · rw [if_neg c4] at H
      have c4b0 : decide ((a0.size : Int) ≤ 256) = false := decide_eq_false c4
      have c4b1 : decide (a0.size ≤ 256) = false := decide_eq_false (by omega)
      clear c4
      obtain rfl := Option.some.inj H
      go_enter Tryd.func85, Tryd.ntmps85
      go_wp2
      go_ret
      exact ⟨by first | rfl | (simp; done) | (simp [*]; done), by repeat (first | exact Drawn0.refl _ | apply Drawn0.step)⟩
  · rw [if_neg c3] at H
    have c3b0 : decide (1 ≤ (a0.size : Int)) = false := decide_eq_false c3
    have c3b1 : decide (1 ≤ a0.size) = false := decide_eq_false (by omega)
    clear c3
    obtain rfl := Option.some.inj H
    go_enter Tryd.func85, Tryd.ntmps85
    go_wp2
    go_ret
    exact ⟨by first | rfl | (simp; done) | (simp [*]; done), by repeat (first | exact Drawn0.refl _ | apply Drawn0.step)⟩
end Go.Proofs.YthnnphinfiobmaaDoor.Z
end
section
namespace Go.Proofs.YthnnphinfiobmaaDoor.Z
open Go.RowKit Go.Proofs.YthnnphinfiobmaaDoorW.PrintWords Go.Proofs.YthnnphinfiobmaaDoorW.PrintLast Go.Proofs.YthnnphinfiobmaaDoorW.PrintMore
attribute [local go_sem] max2_int min2_int max_two min_two max_three min_three max_four min_four   -- for this text's walks alone
set_option linter.unusedVariables false
set_option linter.unusedSimpArgs false
def impl_isMap.l0 : Nat → List (S65) → List (S65) → Int → Int → Option (Bool)
  | 0, _, _, _, _ => none
  | k + 1, x0, x8, x9, x10 => if x10 < x9 then (if 0 ≤ x10 then (if x10 < (x8.length : Int) then ((impl_pairFits.f ((rd_T65 x8 x10).f0) ((rd_T65 x8 x10).f1)).bind fun t410003 => (if t410003 = true then (if x10 > 0 then (if 0 ≤ (wrap64 (x10 - 1)) then (if (wrap64 (x10 - 1)) < (x0.length : Int) then (if ((Op.bytesLess (((rd_T65 x0 (wrap64 (x10 - 1))).f0).toList) (((rd_T65 x8 x10).f0).toList)) = true) then (impl_isMap.l0 k x0 x8 x9 (wrap64 (x10 + 1))) else (some false)) else (none)) else (none)) else (impl_isMap.l0 k x0 x8 x9 (wrap64 (x10 + 1)))) else (some false))) else (none)) else (none)) else (some true)
def impl_isMap.f (k : Nat) (l0 : List (S65)) : Option (Bool) := if (l0.length : Int) > 500 then (some false) else (impl_isMap.l0 k l0 l0 (l0.length : Int) 0)
theorem impl_isMap.mono_l : ∀ k, (∀ y0 y1 y2 y3, LeO (impl_isMap.l0 k y0 y1 y2 y3) (impl_isMap.l0 (k + 1) y0 y1 y2 y3))
  | 0 => fun _ _ _ _ r h => by simp [impl_isMap.l0] at h
  | k + 1 => by
    have ih0 := impl_isMap.mono_l k
    · intro y0 y1 y2 y3
      unfold impl_isMap.l0
      repeat' first
      | (with_reducible exact ih0 _ _ _ _)
      | (with_reducible exact LeO.refl _)
      | (with_reducible exact LeO.none _)
      | (with_reducible refine LeO.ite ?_ ?_)
      | (with_reducible refine LeO.bind ?_ (fun _ => ?_))
      | exact ih0 _ _ _ _
      | exact LeO.none _
      | refine LeO.ite ?_ ?_
      | refine LeO.bind ?_ (fun _ => ?_)
theorem impl_isMap.mono : ∀ a0 k, LeO (impl_isMap.f k a0) (impl_isMap.f (k + 1) a0) := by
  intro a0 k
  have ih0 := impl_isMap.mono_l k
  unfold impl_isMap.f
  repeat' first
      | (with_reducible exact ih0 _ _ _ _)
      | (with_reducible exact LeO.refl _)
      | (with_reducible exact LeO.none _)
      | (with_reducible refine LeO.ite ?_ ?_)
      | (with_reducible refine LeO.bind ?_ (fun _ => ?_))
      | exact ih0 _ _ _ _
      | exact LeO.none _
      | refine LeO.ite ?_ ?_
      | refine LeO.bind ?_ (fun _ => ?_)
set_option maxHeartbeats 8000000 in
set_option maxRecDepth 100000 in
theorem impl_isMap.calls (k : Nat) (A0 : Option Addr) (c0 : Nat) (l0 : List (S65)) (r : Bool) (w : World) (hr0 : Kd.C k65 w A0 l0.length l0) (hc0 : l0.length ≤ c0) (h : impl_isMap.f k l0 = some r) :
    Calls Tryd.prog 41 #[.slice A0 l0.length c0] w fun e w' => e = .returned (.bool r) ∧ Below w.heap.size w w' := by
  have hu65 := Tryd.underlying65
  have HR0 := Aside0.mk hr0
  have HC0 := Aside0.mk hc0
  clear hr0 hc0
  have HB := Aside0.mk (Below.refl w.heap.size w)
  have H : (if (l0.length : Int) > 500 then (some false) else (impl_isMap.l0 k l0 l0 (l0.length : Int) 0)) = some r := h
  clear h
  by_cases c2 : (l0.length : Int) > 500
  · rw [if_pos c2] at H
    have c2b0 : decide (500 < (l0.length : Int)) = true := decide_eq_true c2
    have c2b1 : decide (500 < l0.length) = true := decide_eq_true (by omega)
    clear c2
    obtain rfl := Option.some.inj H
    go_enter Tryd.func41, Tryd.ntmps41
    go_wp2
    repeat (go_quiet (fail); try go_wp2)
    go_ret
    exact ⟨by first | rfl | (simp [errW_none, errW_some] <;> rfl) | (simp [*, errW_none, errW_some] <;> rfl), by repeat (first | (with_reducible first | exact HB.out | apply below_alloc | apply pw_below_drewN | apply below_drew1) | exact HB.out)⟩
  · rw [if_neg c2] at H
    have c2b0 : decide (500 < (l0.length : Int)) = false := decide_eq_false c2
    have c2b1 : decide (500 < l0.length) = false := decide_eq_false (by omega)
    clear c2
    have H' := Aside0.mk H
    clear H
    go_enter Tryd.func41, Tryd.ntmps41
    go_wp2
    repeat (go_quiet (fail); try go_wp2)
    go_loopg [10] k (fun kq v10 w' => ∃ (x10_1 : Int), v10 = .int .i64 x10_1 ∧ Aside0 (impl_isMap.l0 kq l0 l0 (l0.length : Int) x10_1 = some r) ∧ Aside0 (kq ≤ k) ∧ Aside0 (Below w.heap.size w w'))
    case atStart => exact ⟨(0), (by first | rfl | (simp; done) | (simp [*]; done)), H', ⟨Nat.le_refl _⟩, ⟨by repeat (first | (with_reducible first | exact HB.out | apply below_alloc | apply pw_below_drewN | apply below_drew1) | exact HB.out)⟩⟩
    case round =>
      clear H'
      try clear c2
      try clear c2b0
      try clear c2b1
      try clear p2
      obtain ⟨x10_1, rfl, HA, HK1, HB⟩ := hrel
      cases gk with
      | zero => exact absurd HA.out (by simp [impl_isMap.l0])
      | succ k1 =>
        have H := HA.out
        clear HA
        simp only [impl_isMap.l0] at H
        by_cases c3 : x10_1 < (l0.length : Int)
        · rw [if_pos c3] at H
          have c3b0 : decide (x10_1 < (l0.length : Int)) = true := decide_eq_true c3
          clear c3
          by_cases c4 : 0 ≤ x10_1
          · rw [if_pos c4] at H
            have c4b0 : decide (0 ≤ x10_1) = true := decide_eq_true c4
            clear c4
            by_cases c5 : x10_1 < (l0.length : Int)
            · rw [if_pos c5] at H
              have c5b0 : decide (x10_1 < (l0.length : Int)) = true := decide_eq_true c5
              clear c5
              replace H := Option.bind_eq_some_iff.mp H
              obtain ⟨t410003, A60, H⟩ := H
              replace H : (if t410003 = true then (if x10_1 > 0 then (if 0 ≤ (wrap64 (x10_1 - 1)) then (if (wrap64 (x10_1 - 1)) < (l0.length : Int) then (if ((Op.bytesLess (((rd_T65 l0 (wrap64 (x10_1 - 1))).f0).toList) (((rd_T65 l0 x10_1).f0).toList)) = true) then (impl_isMap.l0 k1 l0 l0 (l0.length : Int) (wrap64 (x10_1 + 1))) else (some false)) else (none)) else (none)) else (impl_isMap.l0 k1 l0 l0 (l0.length : Int) (wrap64 (x10_1 + 1)))) else (some false)) = some r := H
              have A6 := Aside0.mk A60
              clear A60
              by_cases c7 : t410003 = true
              · subst c7
                have H1 : (if x10_1 > 0 then (if 0 ≤ (wrap64 (x10_1 - 1)) then (if (wrap64 (x10_1 - 1)) < (l0.length : Int) then (if ((Op.bytesLess (((rd_T65 l0 (wrap64 (x10_1 - 1))).f0).toList) (((rd_T65 l0 x10_1).f0).toList)) = true) then (impl_isMap.l0 k1 l0 l0 (l0.length : Int) (wrap64 (x10_1 + 1))) else (some false)) else (none)) else (none)) else (impl_isMap.l0 k1 l0 l0 (l0.length : Int) (wrap64 (x10_1 + 1)))) = some r := by rw [if_pos rfl] at H; exact H
                clear H
                have H := H1
                clear H1
                by_cases c8 : x10_1 > 0
                · rw [if_pos c8] at H
                  have c8b0 : decide (0 < x10_1) = true := decide_eq_true c8
                  clear c8
                  obtain ⟨ji9, hji9⟩ : ∃ j_ : Int, (wrap64 (x10_1 - 1)) = j_ := ⟨_, rfl⟩
                  replace H : (if 0 ≤ (ji9) then (if (ji9) < (l0.length : Int) then (if ((Op.bytesLess (((rd_T65 l0 (ji9)).f0).toList) (((rd_T65 l0 x10_1).f0).toList)) = true) then (impl_isMap.l0 k1 l0 l0 (l0.length : Int) (wrap64 (x10_1 + 1))) else (some false)) else (none)) else (none)) = some r := by first | (rw [hji9] at H; exact H) | (simp only [hji9] at H ⊢; exact H)
                  (try rw [hji9] at A6)
                  have hji9w : (IntKind.i64.wrap (x10_1 - 1)) = ji9 := (i64_w _).trans hji9
                  by_cases c10 : 0 ≤ (ji9)
                  · rw [if_pos c10] at H
                    have c10b0 : decide (0 ≤ (ji9)) = true := decide_eq_true c10
                    clear c10
                    by_cases c11 : (ji9) < (l0.length : Int)
                    · rw [if_pos c11] at H
                      have c11b0 : decide ((ji9) < (l0.length : Int)) = true := decide_eq_true c11
                      clear c11
                      by_cases c12 : ((Op.bytesLess (((rd_T65 l0 (ji9)).f0).toList) (((rd_T65 l0 x10_1).f0).toList)) = true)
                      · rw [if_pos c12] at H
                        have c12b0 : (Op.bytesLess (((rd_T65 l0 (ji9)).f0).toList) (((rd_T65 l0 x10_1).f0).toList)) = true := c12
                        clear c12
                        have H' := Aside0.mk H
                        clear H
                        have p410001 : 0 ≤ (x10_1 : Int) := of_decide_eq_true (by first | (with_reducible assumption) | assumption)
                        have q410001 : x10_1 < (l0.length : Int) := of_decide_eq_true (by first | (with_reducible assumption) | assumption)
                        obtain ⟨ad410001, e410001, hx410001_0, hx410001_1⟩ := at_T65 HR0.out x10_1 p410001 q410001
                        cases e410001
                        replace hx410001_0 := (HB.out.cell (World.block_lt_of_cell? w _ hx410001_0)).trans hx410001_0
                        replace hx410001_1 := (HB.out.cell (World.block_lt_of_cell? w _ hx410001_1)).trans hx410001_1
                        replace p410001 := eq_true p410001
                        replace q410001 := eq_true q410001
                        go_wp2_with (first | ((with_reducible refine gate_dst (N := 4) rfl ?_); refine box_event ?hg (N := 4) ?hd (cs := #[.string (⟨#[]⟩ : ByteArray), .string (⟨#[]⟩ : ByteArray)]) (t := 65) ?hr ?_; (case hd => rfl); (case hg => rfl); (case hr => first | (go_simp; done) | (go_simp; rfl)); intro gb410002 hg w13 hbox hb; have n0_ := Aside0.mk (below_step (by repeat (first | (with_reducible first | exact HB.out | apply below_alloc | apply pw_below_drewN | apply below_drew1) | exact HB.out)) hb); have n1_ := Aside0.mk (hbox); have n2_ := Aside0.mk ((by rw [hg]; exact (below_size (by repeat (first | (with_reducible first | exact HB.out | apply below_alloc | apply pw_below_drewN | apply below_drew1) | exact HB.out))) : w.heap.size ≤ gb410002)); have n3_ := Aside0.mk ((by rw [hg]; exact (below_size (by repeat (first | (with_reducible first | exact HB.out | apply below_alloc | apply pw_below_drewN | apply below_drew1) | exact HB.out))) : w.heap.size ≤ gb410002)); clear HB; have HB := n0_; have BK410002 := n1_; have GW410002 := n2_; have GE410002 := n3_; clear n0_ n1_ n2_ n3_; clear hb hbox hg; have hcz14_0 : w13.cell? ⟨gb410002, 0, none⟩ = some (.string (⟨#[]⟩ : ByteArray)) := (blk_cell BK410002.out 0).trans rfl; have hcz14_1 : w13.cell? ⟨gb410002, 1, none⟩ = some (.string (⟨#[]⟩ : ByteArray)) := (blk_cell BK410002.out 1).trans rfl; have hfz14_0 := blk_frozen BK410002.out 0; have hfz14_1 := blk_frozen BK410002.out 1) | (go_at_call 85; (with_reducible refine (impl_pairFits.calls ((rd_T65 l0 x10_1).f0) ((rd_T65 l0 x10_1).f1) true _ A6.out).mono ?_); rintro e w' ⟨rfl, ⟨nd, rfl⟩⟩; (try first | exact ⟨rfl, _, World.drewN_drewN _ _ _⟩ | exact ⟨rfl, _, Eq.trans (World.drewN_drewN _ _ _) (congrArg (World.drewN _) (Nat.add_assoc _ _ _))⟩); have p410004 : 0 ≤ ((ji9) : Int) := of_decide_eq_true (by first | (with_reducible assumption) | assumption); have q410004 : (ji9) < (l0.length : Int) := of_decide_eq_true (by first | (with_reducible assumption) | assumption); obtain ⟨ad410004, e410004, hx410004_0, hx410004_1⟩ := at_T65 HR0.out (ji9) p410004 q410004; obtain rfl : ad410001 = ad410004 := (by injection e410004); have hn410004_0 : ad410001.block ≠ gb410002 := Nat.ne_of_lt (Nat.lt_of_lt_of_le (by have := World.block_lt_of_cell? _ _ hx410004_0; first | rwa [add_block] at this | exact this) GW410002.out); have hn410004_1 : ad410001.block ≠ gb410002 := Nat.ne_of_lt (Nat.lt_of_lt_of_le (by have := World.block_lt_of_cell? _ _ hx410004_0; first | rwa [add_block] at this | exact this) GW410002.out); replace hx410004_0 := (HB.out.cell (World.block_lt_of_cell? w _ hx410004_0)).trans hx410004_0; replace hx410004_1 := (HB.out.cell (World.block_lt_of_cell? w _ hx410004_1)).trans hx410004_1; replace hx410004_0 := (cell_far (p := ⟨gb410002, 0, none⟩) (by first | (rw [add_block]; exact hn410004_0) | (show (Addr.add _ _).block ≠ _; rw [add_block]; exact hn410004_0) | exact hn410004_0) (.string ((rd_T65 l0 x10_1).f0))).trans hx410004_0; replace hx410004_1 := (cell_far (p := ⟨gb410002, 0, none⟩) (by first | (rw [add_block]; exact hn410004_0) | (show (Addr.add _ _).block ≠ _; rw [add_block]; exact hn410004_0) | exact hn410004_0) (.string ((rd_T65 l0 x10_1).f0))).trans hx410004_1; replace hx410004_0 := (cell_far (p := ⟨gb410002, 1, none⟩) (by first | (rw [add_block]; exact hn410004_1) | (show (Addr.add _ _).block ≠ _; rw [add_block]; exact hn410004_1) | exact hn410004_1) (.string ((rd_T65 l0 x10_1).f1))).trans hx410004_0; replace hx410004_1 := (cell_far (p := ⟨gb410002, 1, none⟩) (by first | (rw [add_block]; exact hn410004_1) | (show (Addr.add _ _).block ≠ _; rw [add_block]; exact hn410004_1) | exact hn410004_1) (.string ((rd_T65 l0 x10_1).f1))).trans hx410004_1; (try have hy410004_0 := fun (n_ : Nat) => (show ((((w13.drewN n_).setCell ⟨gb410002, 0, none⟩ (.string ((rd_T65 l0 x10_1).f0))).setCell ⟨gb410002, 1, none⟩ (.string ((rd_T65 l0 x10_1).f1)))).cell? _ = some _ from hx410004_0)); (try have hy410004_1 := fun (n_ : Nat) => (show ((((w13.drewN n_).setCell ⟨gb410002, 0, none⟩ (.string ((rd_T65 l0 x10_1).f0))).setCell ⟨gb410002, 1, none⟩ (.string ((rd_T65 l0 x10_1).f1)))).cell? _ = some _ from hx410004_1)); clear hn410004_0; clear hn410004_1; replace p410004 := eq_true p410004; replace q410004 := eq_true q410004))
                        repeat (go_quiet (first | ((with_reducible refine gate_dst (N := 4) rfl ?_); refine box_event ?hg (N := 4) ?hd (cs := #[.string (⟨#[]⟩ : ByteArray), .string (⟨#[]⟩ : ByteArray)]) (t := 65) ?hr ?_; (case hd => rfl); (case hg => rfl); (case hr => first | (go_simp; done) | (go_simp; rfl)); intro gb410002 hg w13 hbox hb; have n0_ := Aside0.mk (below_step (by repeat (first | (with_reducible first | exact HB.out | apply below_alloc | apply pw_below_drewN | apply below_drew1) | exact HB.out)) hb); have n1_ := Aside0.mk (hbox); have n2_ := Aside0.mk ((by rw [hg]; exact (below_size (by repeat (first | (with_reducible first | exact HB.out | apply below_alloc | apply pw_below_drewN | apply below_drew1) | exact HB.out))) : w.heap.size ≤ gb410002)); have n3_ := Aside0.mk ((by rw [hg]; exact (below_size (by repeat (first | (with_reducible first | exact HB.out | apply below_alloc | apply pw_below_drewN | apply below_drew1) | exact HB.out))) : w.heap.size ≤ gb410002)); clear HB; have HB := n0_; have BK410002 := n1_; have GW410002 := n2_; have GE410002 := n3_; clear n0_ n1_ n2_ n3_; clear hb hbox hg; have hcz14_0 : w13.cell? ⟨gb410002, 0, none⟩ = some (.string (⟨#[]⟩ : ByteArray)) := (blk_cell BK410002.out 0).trans rfl; have hcz14_1 : w13.cell? ⟨gb410002, 1, none⟩ = some (.string (⟨#[]⟩ : ByteArray)) := (blk_cell BK410002.out 1).trans rfl; have hfz14_0 := blk_frozen BK410002.out 0; have hfz14_1 := blk_frozen BK410002.out 1) | (go_at_call 85; (with_reducible refine (impl_pairFits.calls ((rd_T65 l0 x10_1).f0) ((rd_T65 l0 x10_1).f1) true _ A6.out).mono ?_); rintro e w' ⟨rfl, ⟨nd, rfl⟩⟩; (try first | exact ⟨rfl, _, World.drewN_drewN _ _ _⟩ | exact ⟨rfl, _, Eq.trans (World.drewN_drewN _ _ _) (congrArg (World.drewN _) (Nat.add_assoc _ _ _))⟩); have p410004 : 0 ≤ ((ji9) : Int) := of_decide_eq_true (by first | (with_reducible assumption) | assumption); have q410004 : (ji9) < (l0.length : Int) := of_decide_eq_true (by first | (with_reducible assumption) | assumption); obtain ⟨ad410004, e410004, hx410004_0, hx410004_1⟩ := at_T65 HR0.out (ji9) p410004 q410004; obtain rfl : ad410001 = ad410004 := (by injection e410004); have hn410004_0 : ad410001.block ≠ gb410002 := Nat.ne_of_lt (Nat.lt_of_lt_of_le (by have := World.block_lt_of_cell? _ _ hx410004_0; first | rwa [add_block] at this | exact this) GW410002.out); have hn410004_1 : ad410001.block ≠ gb410002 := Nat.ne_of_lt (Nat.lt_of_lt_of_le (by have := World.block_lt_of_cell? _ _ hx410004_0; first | rwa [add_block] at this | exact this) GW410002.out); replace hx410004_0 := (HB.out.cell (World.block_lt_of_cell? w _ hx410004_0)).trans hx410004_0; replace hx410004_1 := (HB.out.cell (World.block_lt_of_cell? w _ hx410004_1)).trans hx410004_1; replace hx410004_0 := (cell_far (p := ⟨gb410002, 0, none⟩) (by first | (rw [add_block]; exact hn410004_0) | (show (Addr.add _ _).block ≠ _; rw [add_block]; exact hn410004_0) | exact hn410004_0) (.string ((rd_T65 l0 x10_1).f0))).trans hx410004_0; replace hx410004_1 := (cell_far (p := ⟨gb410002, 0, none⟩) (by first | (rw [add_block]; exact hn410004_0) | (show (Addr.add _ _).block ≠ _; rw [add_block]; exact hn410004_0) | exact hn410004_0) (.string ((rd_T65 l0 x10_1).f0))).trans hx410004_1; replace hx410004_0 := (cell_far (p := ⟨gb410002, 1, none⟩) (by first | (rw [add_block]; exact hn410004_1) | (show (Addr.add _ _).block ≠ _; rw [add_block]; exact hn410004_1) | exact hn410004_1) (.string ((rd_T65 l0 x10_1).f1))).trans hx410004_0; replace hx410004_1 := (cell_far (p := ⟨gb410002, 1, none⟩) (by first | (rw [add_block]; exact hn410004_1) | (show (Addr.add _ _).block ≠ _; rw [add_block]; exact hn410004_1) | exact hn410004_1) (.string ((rd_T65 l0 x10_1).f1))).trans hx410004_1; (try have hy410004_0 := fun (n_ : Nat) => (show ((((w13.drewN n_).setCell ⟨gb410002, 0, none⟩ (.string ((rd_T65 l0 x10_1).f0))).setCell ⟨gb410002, 1, none⟩ (.string ((rd_T65 l0 x10_1).f1)))).cell? _ = some _ from hx410004_0)); (try have hy410004_1 := fun (n_ : Nat) => (show ((((w13.drewN n_).setCell ⟨gb410002, 0, none⟩ (.string ((rd_T65 l0 x10_1).f0))).setCell ⟨gb410002, 1, none⟩ (.string ((rd_T65 l0 x10_1).f1)))).cell? _ = some _ from hx410004_1)); clear hn410004_0; clear hn410004_1; replace p410004 := eq_true p410004; replace q410004 := eq_true q410004)); try go_wp2_with (first | ((with_reducible refine gate_dst (N := 4) rfl ?_); refine box_event ?hg (N := 4) ?hd (cs := #[.string (⟨#[]⟩ : ByteArray), .string (⟨#[]⟩ : ByteArray)]) (t := 65) ?hr ?_; (case hd => rfl); (case hg => rfl); (case hr => first | (go_simp; done) | (go_simp; rfl)); intro gb410002 hg w13 hbox hb; have n0_ := Aside0.mk (below_step (by repeat (first | (with_reducible first | exact HB.out | apply below_alloc | apply pw_below_drewN | apply below_drew1) | exact HB.out)) hb); have n1_ := Aside0.mk (hbox); have n2_ := Aside0.mk ((by rw [hg]; exact (below_size (by repeat (first | (with_reducible first | exact HB.out | apply below_alloc | apply pw_below_drewN | apply below_drew1) | exact HB.out))) : w.heap.size ≤ gb410002)); have n3_ := Aside0.mk ((by rw [hg]; exact (below_size (by repeat (first | (with_reducible first | exact HB.out | apply below_alloc | apply pw_below_drewN | apply below_drew1) | exact HB.out))) : w.heap.size ≤ gb410002)); clear HB; have HB := n0_; have BK410002 := n1_; have GW410002 := n2_; have GE410002 := n3_; clear n0_ n1_ n2_ n3_; clear hb hbox hg; have hcz14_0 : w13.cell? ⟨gb410002, 0, none⟩ = some (.string (⟨#[]⟩ : ByteArray)) := (blk_cell BK410002.out 0).trans rfl; have hcz14_1 : w13.cell? ⟨gb410002, 1, none⟩ = some (.string (⟨#[]⟩ : ByteArray)) := (blk_cell BK410002.out 1).trans rfl; have hfz14_0 := blk_frozen BK410002.out 0; have hfz14_1 := blk_frozen BK410002.out 1) | (go_at_call 85; (with_reducible refine (impl_pairFits.calls ((rd_T65 l0 x10_1).f0) ((rd_T65 l0 x10_1).f1) true _ A6.out).mono ?_); rintro e w' ⟨rfl, ⟨nd, rfl⟩⟩; (try first | exact ⟨rfl, _, World.drewN_drewN _ _ _⟩ | exact ⟨rfl, _, Eq.trans (World.drewN_drewN _ _ _) (congrArg (World.drewN _) (Nat.add_assoc _ _ _))⟩); have p410004 : 0 ≤ ((ji9) : Int) := of_decide_eq_true (by first | (with_reducible assumption) | assumption); have q410004 : (ji9) < (l0.length : Int) := of_decide_eq_true (by first | (with_reducible assumption) | assumption); obtain ⟨ad410004, e410004, hx410004_0, hx410004_1⟩ := at_T65 HR0.out (ji9) p410004 q410004; obtain rfl : ad410001 = ad410004 := (by injection e410004); have hn410004_0 : ad410001.block ≠ gb410002 := Nat.ne_of_lt (Nat.lt_of_lt_of_le (by have := World.block_lt_of_cell? _ _ hx410004_0; first | rwa [add_block] at this | exact this) GW410002.out); have hn410004_1 : ad410001.block ≠ gb410002 := Nat.ne_of_lt (Nat.lt_of_lt_of_le (by have := World.block_lt_of_cell? _ _ hx410004_0; first | rwa [add_block] at this | exact this) GW410002.out); replace hx410004_0 := (HB.out.cell (World.block_lt_of_cell? w _ hx410004_0)).trans hx410004_0; replace hx410004_1 := (HB.out.cell (World.block_lt_of_cell? w _ hx410004_1)).trans hx410004_1; replace hx410004_0 := (cell_far (p := ⟨gb410002, 0, none⟩) (by first | (rw [add_block]; exact hn410004_0) | (show (Addr.add _ _).block ≠ _; rw [add_block]; exact hn410004_0) | exact hn410004_0) (.string ((rd_T65 l0 x10_1).f0))).trans hx410004_0; replace hx410004_1 := (cell_far (p := ⟨gb410002, 0, none⟩) (by first | (rw [add_block]; exact hn410004_0) | (show (Addr.add _ _).block ≠ _; rw [add_block]; exact hn410004_0) | exact hn410004_0) (.string ((rd_T65 l0 x10_1).f0))).trans hx410004_1; replace hx410004_0 := (cell_far (p := ⟨gb410002, 1, none⟩) (by first | (rw [add_block]; exact hn410004_1) | (show (Addr.add _ _).block ≠ _; rw [add_block]; exact hn410004_1) | exact hn410004_1) (.string ((rd_T65 l0 x10_1).f1))).trans hx410004_0; replace hx410004_1 := (cell_far (p := ⟨gb410002, 1, none⟩) (by first | (rw [add_block]; exact hn410004_1) | (show (Addr.add _ _).block ≠ _; rw [add_block]; exact hn410004_1) | exact hn410004_1) (.string ((rd_T65 l0 x10_1).f1))).trans hx410004_1; (try have hy410004_0 := fun (n_ : Nat) => (show ((((w13.drewN n_).setCell ⟨gb410002, 0, none⟩ (.string ((rd_T65 l0 x10_1).f0))).setCell ⟨gb410002, 1, none⟩ (.string ((rd_T65 l0 x10_1).f1)))).cell? _ = some _ from hx410004_0)); (try have hy410004_1 := fun (n_ : Nat) => (show ((((w13.drewN n_).setCell ⟨gb410002, 0, none⟩ (.string ((rd_T65 l0 x10_1).f0))).setCell ⟨gb410002, 1, none⟩ (.string ((rd_T65 l0 x10_1).f1)))).cell? _ = some _ from hx410004_1)); clear hn410004_0; clear hn410004_1; replace p410004 := eq_true p410004; replace q410004 := eq_true q410004)))
                        go_roundg k1
                        case measure => have := HK1.out; omega
                        case rel => exact ⟨(wrap64 (x10_1 + 1)), (by first | rfl | (simp; done) | (simp [*]; done)), H', ⟨by have := HK1.out; omega⟩, ⟨by repeat (first | (with_reducible first | exact HB.out | apply below_alloc | apply pw_below_drewN | apply below_drew1 | refine below_set ?_ GE410002.out) | exact HB.out)⟩⟩
                      · rw [if_neg c12] at H
                        have c12b0 : (Op.bytesLess (((rd_T65 l0 (ji9)).f0).toList) (((rd_T65 l0 x10_1).f0).toList)) = false := by simpa using c12
                        clear c12
                        obtain rfl := Option.some.inj H
                        have p410001 : 0 ≤ (x10_1 : Int) := of_decide_eq_true (by first | (with_reducible assumption) | assumption)
                        have q410001 : x10_1 < (l0.length : Int) := of_decide_eq_true (by first | (with_reducible assumption) | assumption)
                        obtain ⟨ad410001, e410001, hx410001_0, hx410001_1⟩ := at_T65 HR0.out x10_1 p410001 q410001
                        cases e410001
                        replace hx410001_0 := (HB.out.cell (World.block_lt_of_cell? w _ hx410001_0)).trans hx410001_0
                        replace hx410001_1 := (HB.out.cell (World.block_lt_of_cell? w _ hx410001_1)).trans hx410001_1
                        replace p410001 := eq_true p410001
                        replace q410001 := eq_true q410001
                        go_wp2_with (first | ((with_reducible refine gate_dst (N := 4) rfl ?_); refine box_event ?hg (N := 4) ?hd (cs := #[.string (⟨#[]⟩ : ByteArray), .string (⟨#[]⟩ : ByteArray)]) (t := 65) ?hr ?_; (case hd => rfl); (case hg => rfl); (case hr => first | (go_simp; done) | (go_simp; rfl)); intro gb410002 hg w15 hbox hb; have n0_ := Aside0.mk (below_step (by repeat (first | (with_reducible first | exact HB.out | apply below_alloc | apply pw_below_drewN | apply below_drew1) | exact HB.out)) hb); have n1_ := Aside0.mk (hbox); have n2_ := Aside0.mk ((by rw [hg]; exact (below_size (by repeat (first | (with_reducible first | exact HB.out | apply below_alloc | apply pw_below_drewN | apply below_drew1) | exact HB.out))) : w.heap.size ≤ gb410002)); have n3_ := Aside0.mk ((by rw [hg]; exact (below_size (by repeat (first | (with_reducible first | exact HB.out | apply below_alloc | apply pw_below_drewN | apply below_drew1) | exact HB.out))) : w.heap.size ≤ gb410002)); clear HB; have HB := n0_; have BK410002 := n1_; have GW410002 := n2_; have GE410002 := n3_; clear n0_ n1_ n2_ n3_; clear hb hbox hg; have hcz16_0 : w15.cell? ⟨gb410002, 0, none⟩ = some (.string (⟨#[]⟩ : ByteArray)) := (blk_cell BK410002.out 0).trans rfl; have hcz16_1 : w15.cell? ⟨gb410002, 1, none⟩ = some (.string (⟨#[]⟩ : ByteArray)) := (blk_cell BK410002.out 1).trans rfl; have hfz16_0 := blk_frozen BK410002.out 0; have hfz16_1 := blk_frozen BK410002.out 1) | (go_at_call 85; (with_reducible refine (impl_pairFits.calls ((rd_T65 l0 x10_1).f0) ((rd_T65 l0 x10_1).f1) true _ A6.out).mono ?_); rintro e w' ⟨rfl, ⟨nd, rfl⟩⟩; (try first | exact ⟨rfl, _, World.drewN_drewN _ _ _⟩ | exact ⟨rfl, _, Eq.trans (World.drewN_drewN _ _ _) (congrArg (World.drewN _) (Nat.add_assoc _ _ _))⟩); have p410004 : 0 ≤ ((ji9) : Int) := of_decide_eq_true (by first | (with_reducible assumption) | assumption); have q410004 : (ji9) < (l0.length : Int) := of_decide_eq_true (by first | (with_reducible assumption) | assumption); obtain ⟨ad410004, e410004, hx410004_0, hx410004_1⟩ := at_T65 HR0.out (ji9) p410004 q410004; obtain rfl : ad410001 = ad410004 := (by injection e410004); have hn410004_0 : ad410001.block ≠ gb410002 := Nat.ne_of_lt (Nat.lt_of_lt_of_le (by have := World.block_lt_of_cell? _ _ hx410004_0; first | rwa [add_block] at this | exact this) GW410002.out); have hn410004_1 : ad410001.block ≠ gb410002 := Nat.ne_of_lt (Nat.lt_of_lt_of_le (by have := World.block_lt_of_cell? _ _ hx410004_0; first | rwa [add_block] at this | exact this) GW410002.out); replace hx410004_0 := (HB.out.cell (World.block_lt_of_cell? w _ hx410004_0)).trans hx410004_0; replace hx410004_1 := (HB.out.cell (World.block_lt_of_cell? w _ hx410004_1)).trans hx410004_1; replace hx410004_0 := (cell_far (p := ⟨gb410002, 0, none⟩) (by first | (rw [add_block]; exact hn410004_0) | (show (Addr.add _ _).block ≠ _; rw [add_block]; exact hn410004_0) | exact hn410004_0) (.string ((rd_T65 l0 x10_1).f0))).trans hx410004_0; replace hx410004_1 := (cell_far (p := ⟨gb410002, 0, none⟩) (by first | (rw [add_block]; exact hn410004_0) | (show (Addr.add _ _).block ≠ _; rw [add_block]; exact hn410004_0) | exact hn410004_0) (.string ((rd_T65 l0 x10_1).f0))).trans hx410004_1; replace hx410004_0 := (cell_far (p := ⟨gb410002, 1, none⟩) (by first | (rw [add_block]; exact hn410004_1) | (show (Addr.add _ _).block ≠ _; rw [add_block]; exact hn410004_1) | exact hn410004_1) (.string ((rd_T65 l0 x10_1).f1))).trans hx410004_0; replace hx410004_1 := (cell_far (p := ⟨gb410002, 1, none⟩) (by first | (rw [add_block]; exact hn410004_1) | (show (Addr.add _ _).block ≠ _; rw [add_block]; exact hn410004_1) | exact hn410004_1) (.string ((rd_T65 l0 x10_1).f1))).trans hx410004_1; (try have hy410004_0 := fun (n_ : Nat) => (show ((((w15.drewN n_).setCell ⟨gb410002, 0, none⟩ (.string ((rd_T65 l0 x10_1).f0))).setCell ⟨gb410002, 1, none⟩ (.string ((rd_T65 l0 x10_1).f1)))).cell? _ = some _ from hx410004_0)); (try have hy410004_1 := fun (n_ : Nat) => (show ((((w15.drewN n_).setCell ⟨gb410002, 0, none⟩ (.string ((rd_T65 l0 x10_1).f0))).setCell ⟨gb410002, 1, none⟩ (.string ((rd_T65 l0 x10_1).f1)))).cell? _ = some _ from hx410004_1)); clear hn410004_0; clear hn410004_1; replace p410004 := eq_true p410004; replace q410004 := eq_true q410004))
                        repeat (go_quiet (first | ((with_reducible refine gate_dst (N := 4) rfl ?_); refine box_event ?hg (N := 4) ?hd (cs := #[.string (⟨#[]⟩ : ByteArray), .string (⟨#[]⟩ : ByteArray)]) (t := 65) ?hr ?_; (case hd => rfl); (case hg => rfl); (case hr => first | (go_simp; done) | (go_simp; rfl)); intro gb410002 hg w15 hbox hb; have n0_ := Aside0.mk (below_step (by repeat (first | (with_reducible first | exact HB.out | apply below_alloc | apply pw_below_drewN | apply below_drew1) | exact HB.out)) hb); have n1_ := Aside0.mk (hbox); have n2_ := Aside0.mk ((by rw [hg]; exact (below_size (by repeat (first | (with_reducible first | exact HB.out | apply below_alloc | apply pw_below_drewN | apply below_drew1) | exact HB.out))) : w.heap.size ≤ gb410002)); have n3_ := Aside0.mk ((by rw [hg]; exact (below_size (by repeat (first | (with_reducible first | exact HB.out | apply below_alloc | apply pw_below_drewN | apply below_drew1) | exact HB.out))) : w.heap.size ≤ gb410002)); clear HB; have HB := n0_; have BK410002 := n1_; have GW410002 := n2_; have GE410002 := n3_; clear n0_ n1_ n2_ n3_; clear hb hbox hg; have hcz16_0 : w15.cell? ⟨gb410002, 0, none⟩ = some (.string (⟨#[]⟩ : ByteArray)) := (blk_cell BK410002.out 0).trans rfl; have hcz16_1 : w15.cell? ⟨gb410002, 1, none⟩ = some (.string (⟨#[]⟩ : ByteArray)) := (blk_cell BK410002.out 1).trans rfl; have hfz16_0 := blk_frozen BK410002.out 0; have hfz16_1 := blk_frozen BK410002.out 1) | (go_at_call 85; (with_reducible refine (impl_pairFits.calls ((rd_T65 l0 x10_1).f0) ((rd_T65 l0 x10_1).f1) true _ A6.out).mono ?_); rintro e w' ⟨rfl, ⟨nd, rfl⟩⟩; (try first | exact ⟨rfl, _, World.drewN_drewN _ _ _⟩ | exact ⟨rfl, _, Eq.trans (World.drewN_drewN _ _ _) (congrArg (World.drewN _) (Nat.add_assoc _ _ _))⟩); have p410004 : 0 ≤ ((ji9) : Int) := of_decide_eq_true (by first | (with_reducible assumption) | assumption); have q410004 : (ji9) < (l0.length : Int) := of_decide_eq_true (by first | (with_reducible assumption) | assumption); obtain ⟨ad410004, e410004, hx410004_0, hx410004_1⟩ := at_T65 HR0.out (ji9) p410004 q410004; obtain rfl : ad410001 = ad410004 := (by injection e410004); have hn410004_0 : ad410001.block ≠ gb410002 := Nat.ne_of_lt (Nat.lt_of_lt_of_le (by have := World.block_lt_of_cell? _ _ hx410004_0; first | rwa [add_block] at this | exact this) GW410002.out); have hn410004_1 : ad410001.block ≠ gb410002 := Nat.ne_of_lt (Nat.lt_of_lt_of_le (by have := World.block_lt_of_cell? _ _ hx410004_0; first | rwa [add_block] at this | exact this) GW410002.out); replace hx410004_0 := (HB.out.cell (World.block_lt_of_cell? w _ hx410004_0)).trans hx410004_0; replace hx410004_1 := (HB.out.cell (World.block_lt_of_cell? w _ hx410004_1)).trans hx410004_1; replace hx410004_0 := (cell_far (p := ⟨gb410002, 0, none⟩) (by first | (rw [add_block]; exact hn410004_0) | (show (Addr.add _ _).block ≠ _; rw [add_block]; exact hn410004_0) | exact hn410004_0) (.string ((rd_T65 l0 x10_1).f0))).trans hx410004_0; replace hx410004_1 := (cell_far (p := ⟨gb410002, 0, none⟩) (by first | (rw [add_block]; exact hn410004_0) | (show (Addr.add _ _).block ≠ _; rw [add_block]; exact hn410004_0) | exact hn410004_0) (.string ((rd_T65 l0 x10_1).f0))).trans hx410004_1; replace hx410004_0 := (cell_far (p := ⟨gb410002, 1, none⟩) (by first | (rw [add_block]; exact hn410004_1) | (show (Addr.add _ _).block ≠ _; rw [add_block]; exact hn410004_1) | exact hn410004_1) (.string ((rd_T65 l0 x10_1).f1))).trans hx410004_0; replace hx410004_1 := (cell_far (p := ⟨gb410002, 1, none⟩) (by first | (rw [add_block]; exact hn410004_1) | (show (Addr.add _ _).block ≠ _; rw [add_block]; exact hn410004_1) | exact hn410004_1) (.string ((rd_T65 l0 x10_1).f1))).trans hx410004_1; (try have hy410004_0 := fun (n_ : Nat) => (show ((((w15.drewN n_).setCell ⟨gb410002, 0, none⟩ (.string ((rd_T65 l0 x10_1).f0))).setCell ⟨gb410002, 1, none⟩ (.string ((rd_T65 l0 x10_1).f1)))).cell? _ = some _ from hx410004_0)); (try have hy410004_1 := fun (n_ : Nat) => (show ((((w15.drewN n_).setCell ⟨gb410002, 0, none⟩ (.string ((rd_T65 l0 x10_1).f0))).setCell ⟨gb410002, 1, none⟩ (.string ((rd_T65 l0 x10_1).f1)))).cell? _ = some _ from hx410004_1)); clear hn410004_0; clear hn410004_1; replace p410004 := eq_true p410004; replace q410004 := eq_true q410004)); try go_wp2_with (first | ((with_reducible refine gate_dst (N := 4) rfl ?_); refine box_event ?hg (N := 4) ?hd (cs := #[.string (⟨#[]⟩ : ByteArray), .string (⟨#[]⟩ : ByteArray)]) (t := 65) ?hr ?_; (case hd => rfl); (case hg => rfl); (case hr => first | (go_simp; done) | (go_simp; rfl)); intro gb410002 hg w15 hbox hb; have n0_ := Aside0.mk (below_step (by repeat (first | (with_reducible first | exact HB.out | apply below_alloc | apply pw_below_drewN | apply below_drew1) | exact HB.out)) hb); have n1_ := Aside0.mk (hbox); have n2_ := Aside0.mk ((by rw [hg]; exact (below_size (by repeat (first | (with_reducible first | exact HB.out | apply below_alloc | apply pw_below_drewN | apply below_drew1) | exact HB.out))) : w.heap.size ≤ gb410002)); have n3_ := Aside0.mk ((by rw [hg]; exact (below_size (by repeat (first | (with_reducible first | exact HB.out | apply below_alloc | apply pw_below_drewN | apply below_drew1) | exact HB.out))) : w.heap.size ≤ gb410002)); clear HB; have HB := n0_; have BK410002 := n1_; have GW410002 := n2_; have GE410002 := n3_; clear n0_ n1_ n2_ n3_; clear hb hbox hg; have hcz16_0 : w15.cell? ⟨gb410002, 0, none⟩ = some (.string (⟨#[]⟩ : ByteArray)) := (blk_cell BK410002.out 0).trans rfl; have hcz16_1 : w15.cell? ⟨gb410002, 1, none⟩ = some (.string (⟨#[]⟩ : ByteArray)) := (blk_cell BK410002.out 1).trans rfl; have hfz16_0 := blk_frozen BK410002.out 0; have hfz16_1 := blk_frozen BK410002.out 1) | (go_at_call 85; (with_reducible refine (impl_pairFits.calls ((rd_T65 l0 x10_1).f0) ((rd_T65 l0 x10_1).f1) true _ A6.out).mono ?_); rintro e w' ⟨rfl, ⟨nd, rfl⟩⟩; (try first | exact ⟨rfl, _, World.drewN_drewN _ _ _⟩ | exact ⟨rfl, _, Eq.trans (World.drewN_drewN _ _ _) (congrArg (World.drewN _) (Nat.add_assoc _ _ _))⟩); have p410004 : 0 ≤ ((ji9) : Int) := of_decide_eq_true (by first | (with_reducible assumption) | assumption); have q410004 : (ji9) < (l0.length : Int) := of_decide_eq_true (by first | (with_reducible assumption) | assumption); obtain ⟨ad410004, e410004, hx410004_0, hx410004_1⟩ := at_T65 HR0.out (ji9) p410004 q410004; obtain rfl : ad410001 = ad410004 := (by injection e410004); have hn410004_0 : ad410001.block ≠ gb410002 := Nat.ne_of_lt (Nat.lt_of_lt_of_le (by have := World.block_lt_of_cell? _ _ hx410004_0; first | rwa [add_block] at this | exact this) GW410002.out); have hn410004_1 : ad410001.block ≠ gb410002 := Nat.ne_of_lt (Nat.lt_of_lt_of_le (by have := World.block_lt_of_cell? _ _ hx410004_0; first | rwa [add_block] at this | exact this) GW410002.out); replace hx410004_0 := (HB.out.cell (World.block_lt_of_cell? w _ hx410004_0)).trans hx410004_0; replace hx410004_1 := (HB.out.cell (World.block_lt_of_cell? w _ hx410004_1)).trans hx410004_1; replace hx410004_0 := (cell_far (p := ⟨gb410002, 0, none⟩) (by first | (rw [add_block]; exact hn410004_0) | (show (Addr.add _ _).block ≠ _; rw [add_block]; exact hn410004_0) | exact hn410004_0) (.string ((rd_T65 l0 x10_1).f0))).trans hx410004_0; replace hx410004_1 := (cell_far (p := ⟨gb410002, 0, none⟩) (by first | (rw [add_block]; exact hn410004_0) | (show (Addr.add _ _).block ≠ _; rw [add_block]; exact hn410004_0) | exact hn410004_0) (.string ((rd_T65 l0 x10_1).f0))).trans hx410004_1; replace hx410004_0 := (cell_far (p := ⟨gb410002, 1, none⟩) (by first | (rw [add_block]; exact hn410004_1) | (show (Addr.add _ _).block ≠ _; rw [add_block]; exact hn410004_1) | exact hn410004_1) (.string ((rd_T65 l0 x10_1).f1))).trans hx410004_0; replace hx410004_1 := (cell_far (p := ⟨gb410002, 1, none⟩) (by first | (rw [add_block]; exact hn410004_1) | (show (Addr.add _ _).block ≠ _; rw [add_block]; exact hn410004_1) | exact hn410004_1) (.string ((rd_T65 l0 x10_1).f1))).trans hx410004_1; (try have hy410004_0 := fun (n_ : Nat) => (show ((((w15.drewN n_).setCell ⟨gb410002, 0, none⟩ (.string ((rd_T65 l0 x10_1).f0))).setCell ⟨gb410002, 1, none⟩ (.string ((rd_T65 l0 x10_1).f1)))).cell? _ = some _ from hx410004_0)); (try have hy410004_1 := fun (n_ : Nat) => (show ((((w15.drewN n_).setCell ⟨gb410002, 0, none⟩ (.string ((rd_T65 l0 x10_1).f0))).setCell ⟨gb410002, 1, none⟩ (.string ((rd_T65 l0 x10_1).f1)))).cell? _ = some _ from hx410004_1)); clear hn410004_0; clear hn410004_1; replace p410004 := eq_true p410004; replace q410004 := eq_true q410004)))
                        go_ret
                        exact ⟨by first | rfl | (simp [errW_none, errW_some] <;> rfl) | (simp only [← hji9]; first | rfl | (simp [errW_none, errW_some] <;> rfl)) | (simp [*, errW_none, errW_some] <;> rfl), by repeat (first | (with_reducible first | exact HB.out | apply below_alloc | apply pw_below_drewN | apply below_drew1 | refine below_set ?_ GE410002.out) | exact HB.out)⟩
                    · rw [if_neg c11] at H
                      exact absurd H (by simp)
                  · rw [if_neg c10] at H
                    exact absurd H (by simp)
                · rw [if_neg c8] at H
                  have c8b0 : decide (0 < x10_1) = false := decide_eq_false c8
                  clear c8
                  have H' := Aside0.mk H
                  clear H
                  have p410001 : 0 ≤ (x10_1 : Int) := of_decide_eq_true (by first | (with_reducible assumption) | assumption)
                  have q410001 : x10_1 < (l0.length : Int) := of_decide_eq_true (by first | (with_reducible assumption) | assumption)
                  obtain ⟨ad410001, e410001, hx410001_0, hx410001_1⟩ := at_T65 HR0.out x10_1 p410001 q410001
                  cases e410001
                  replace hx410001_0 := (HB.out.cell (World.block_lt_of_cell? w _ hx410001_0)).trans hx410001_0
                  replace hx410001_1 := (HB.out.cell (World.block_lt_of_cell? w _ hx410001_1)).trans hx410001_1
                  replace p410001 := eq_true p410001
                  replace q410001 := eq_true q410001
                  go_wp2_with (first | ((with_reducible refine gate_dst (N := 4) rfl ?_); refine box_event ?hg (N := 4) ?hd (cs := #[.string (⟨#[]⟩ : ByteArray), .string (⟨#[]⟩ : ByteArray)]) (t := 65) ?hr ?_; (case hd => rfl); (case hg => rfl); (case hr => first | (go_simp; done) | (go_simp; rfl)); intro gb410002 hg w17 hbox hb; have n0_ := Aside0.mk (below_step (by repeat (first | (with_reducible first | exact HB.out | apply below_alloc | apply pw_below_drewN | apply below_drew1) | exact HB.out)) hb); have n1_ := Aside0.mk (hbox); have n2_ := Aside0.mk ((by rw [hg]; exact (below_size (by repeat (first | (with_reducible first | exact HB.out | apply below_alloc | apply pw_below_drewN | apply below_drew1) | exact HB.out))) : w.heap.size ≤ gb410002)); have n3_ := Aside0.mk ((by rw [hg]; exact (below_size (by repeat (first | (with_reducible first | exact HB.out | apply below_alloc | apply pw_below_drewN | apply below_drew1) | exact HB.out))) : w.heap.size ≤ gb410002)); clear HB; have HB := n0_; have BK410002 := n1_; have GW410002 := n2_; have GE410002 := n3_; clear n0_ n1_ n2_ n3_; clear hb hbox hg; have hcz18_0 : w17.cell? ⟨gb410002, 0, none⟩ = some (.string (⟨#[]⟩ : ByteArray)) := (blk_cell BK410002.out 0).trans rfl; have hcz18_1 : w17.cell? ⟨gb410002, 1, none⟩ = some (.string (⟨#[]⟩ : ByteArray)) := (blk_cell BK410002.out 1).trans rfl; have hfz18_0 := blk_frozen BK410002.out 0; have hfz18_1 := blk_frozen BK410002.out 1) | (go_at_call 85; (with_reducible refine (impl_pairFits.calls ((rd_T65 l0 x10_1).f0) ((rd_T65 l0 x10_1).f1) true _ A6.out).mono ?_); rintro e w' ⟨rfl, ⟨nd, rfl⟩⟩; (try first | exact ⟨rfl, _, World.drewN_drewN _ _ _⟩ | exact ⟨rfl, _, Eq.trans (World.drewN_drewN _ _ _) (congrArg (World.drewN _) (Nat.add_assoc _ _ _))⟩)))
                  repeat (go_quiet (first | ((with_reducible refine gate_dst (N := 4) rfl ?_); refine box_event ?hg (N := 4) ?hd (cs := #[.string (⟨#[]⟩ : ByteArray), .string (⟨#[]⟩ : ByteArray)]) (t := 65) ?hr ?_; (case hd => rfl); (case hg => rfl); (case hr => first | (go_simp; done) | (go_simp; rfl)); intro gb410002 hg w17 hbox hb; have n0_ := Aside0.mk (below_step (by repeat (first | (with_reducible first | exact HB.out | apply below_alloc | apply pw_below_drewN | apply below_drew1) | exact HB.out)) hb); have n1_ := Aside0.mk (hbox); have n2_ := Aside0.mk ((by rw [hg]; exact (below_size (by repeat (first | (with_reducible first | exact HB.out | apply below_alloc | apply pw_below_drewN | apply below_drew1) | exact HB.out))) : w.heap.size ≤ gb410002)); have n3_ := Aside0.mk ((by rw [hg]; exact (below_size (by repeat (first | (with_reducible first | exact HB.out | apply below_alloc | apply pw_below_drewN | apply below_drew1) | exact HB.out))) : w.heap.size ≤ gb410002)); clear HB; have HB := n0_; have BK410002 := n1_; have GW410002 := n2_; have GE410002 := n3_; clear n0_ n1_ n2_ n3_; clear hb hbox hg; have hcz18_0 : w17.cell? ⟨gb410002, 0, none⟩ = some (.string (⟨#[]⟩ : ByteArray)) := (blk_cell BK410002.out 0).trans rfl; have hcz18_1 : w17.cell? ⟨gb410002, 1, none⟩ = some (.string (⟨#[]⟩ : ByteArray)) := (blk_cell BK410002.out 1).trans rfl; have hfz18_0 := blk_frozen BK410002.out 0; have hfz18_1 := blk_frozen BK410002.out 1) | (go_at_call 85; (with_reducible refine (impl_pairFits.calls ((rd_T65 l0 x10_1).f0) ((rd_T65 l0 x10_1).f1) true _ A6.out).mono ?_); rintro e w' ⟨rfl, ⟨nd, rfl⟩⟩; (try first | exact ⟨rfl, _, World.drewN_drewN _ _ _⟩ | exact ⟨rfl, _, Eq.trans (World.drewN_drewN _ _ _) (congrArg (World.drewN _) (Nat.add_assoc _ _ _))⟩))); try go_wp2_with (first | ((with_reducible refine gate_dst (N := 4) rfl ?_); refine box_event ?hg (N := 4) ?hd (cs := #[.string (⟨#[]⟩ : ByteArray), .string (⟨#[]⟩ : ByteArray)]) (t := 65) ?hr ?_; (case hd => rfl); (case hg => rfl); (case hr => first | (go_simp; done) | (go_simp; rfl)); intro gb410002 hg w17 hbox hb; have n0_ := Aside0.mk (below_step (by repeat (first | (with_reducible first | exact HB.out | apply below_alloc | apply pw_below_drewN | apply below_drew1) | exact HB.out)) hb); have n1_ := Aside0.mk (hbox); have n2_ := Aside0.mk ((by rw [hg]; exact (below_size (by repeat (first | (with_reducible first | exact HB.out | apply below_alloc | apply pw_below_drewN | apply below_drew1) | exact HB.out))) : w.heap.size ≤ gb410002)); have n3_ := Aside0.mk ((by rw [hg]; exact (below_size (by repeat (first | (with_reducible first | exact HB.out | apply below_alloc | apply pw_below_drewN | apply below_drew1) | exact HB.out))) : w.heap.size ≤ gb410002)); clear HB; have HB := n0_; have BK410002 := n1_; have GW410002 := n2_; have GE410002 := n3_; clear n0_ n1_ n2_ n3_; clear hb hbox hg; have hcz18_0 : w17.cell? ⟨gb410002, 0, none⟩ = some (.string (⟨#[]⟩ : ByteArray)) := (blk_cell BK410002.out 0).trans rfl; have hcz18_1 : w17.cell? ⟨gb410002, 1, none⟩ = some (.string (⟨#[]⟩ : ByteArray)) := (blk_cell BK410002.out 1).trans rfl; have hfz18_0 := blk_frozen BK410002.out 0; have hfz18_1 := blk_frozen BK410002.out 1) | (go_at_call 85; (with_reducible refine (impl_pairFits.calls ((rd_T65 l0 x10_1).f0) ((rd_T65 l0 x10_1).f1) true _ A6.out).mono ?_); rintro e w' ⟨rfl, ⟨nd, rfl⟩⟩; (try first | exact ⟨rfl, _, World.drewN_drewN _ _ _⟩ | exact ⟨rfl, _, Eq.trans (World.drewN_drewN _ _ _) (congrArg (World.drewN _) (Nat.add_assoc _ _ _))⟩))))
                  go_roundg k1
                  case measure => have := HK1.out; omega
                  case rel => exact ⟨(wrap64 (x10_1 + 1)), (by first | rfl | (simp; done) | (simp [*]; done)), H', ⟨by have := HK1.out; omega⟩, ⟨by repeat (first | (with_reducible first | exact HB.out | apply below_alloc | apply pw_below_drewN | apply below_drew1 | refine below_set ?_ GE410002.out) | exact HB.out)⟩⟩
              · replace c7 := Bool.eq_false_iff.mpr c7
                subst c7
                have H1 : (some false) = some r := by rw [if_neg (show ¬ (false = true) by decide)] at H; exact H
                clear H
                have H := H1
                clear H1
                obtain rfl := Option.some.inj H
                have p410001 : 0 ≤ (x10_1 : Int) := of_decide_eq_true (by first | (with_reducible assumption) | assumption)
                have q410001 : x10_1 < (l0.length : Int) := of_decide_eq_true (by first | (with_reducible assumption) | assumption)
                obtain ⟨ad410001, e410001, hx410001_0, hx410001_1⟩ := at_T65 HR0.out x10_1 p410001 q410001
                cases e410001
                replace hx410001_0 := (HB.out.cell (World.block_lt_of_cell? w _ hx410001_0)).trans hx410001_0
                replace hx410001_1 := (HB.out.cell (World.block_lt_of_cell? w _ hx410001_1)).trans hx410001_1
                replace p410001 := eq_true p410001
                replace q410001 := eq_true q410001
                go_wp2_with (first | ((with_reducible refine gate_dst (N := 4) rfl ?_); refine box_event ?hg (N := 4) ?hd (cs := #[.string (⟨#[]⟩ : ByteArray), .string (⟨#[]⟩ : ByteArray)]) (t := 65) ?hr ?_; (case hd => rfl); (case hg => rfl); (case hr => first | (go_simp; done) | (go_simp; rfl)); intro gb410002 hg w19 hbox hb; have n0_ := Aside0.mk (below_step (by repeat (first | (with_reducible first | exact HB.out | apply below_alloc | apply pw_below_drewN | apply below_drew1) | exact HB.out)) hb); have n1_ := Aside0.mk (hbox); have n2_ := Aside0.mk ((by rw [hg]; exact (below_size (by repeat (first | (with_reducible first | exact HB.out | apply below_alloc | apply pw_below_drewN | apply below_drew1) | exact HB.out))) : w.heap.size ≤ gb410002)); have n3_ := Aside0.mk ((by rw [hg]; exact (below_size (by repeat (first | (with_reducible first | exact HB.out | apply below_alloc | apply pw_below_drewN | apply below_drew1) | exact HB.out))) : w.heap.size ≤ gb410002)); clear HB; have HB := n0_; have BK410002 := n1_; have GW410002 := n2_; have GE410002 := n3_; clear n0_ n1_ n2_ n3_; clear hb hbox hg; have hcz20_0 : w19.cell? ⟨gb410002, 0, none⟩ = some (.string (⟨#[]⟩ : ByteArray)) := (blk_cell BK410002.out 0).trans rfl; have hcz20_1 : w19.cell? ⟨gb410002, 1, none⟩ = some (.string (⟨#[]⟩ : ByteArray)) := (blk_cell BK410002.out 1).trans rfl; have hfz20_0 := blk_frozen BK410002.out 0; have hfz20_1 := blk_frozen BK410002.out 1) | (go_at_call 85; (with_reducible refine (impl_pairFits.calls ((rd_T65 l0 x10_1).f0) ((rd_T65 l0 x10_1).f1) false _ A6.out).mono ?_); rintro e w' ⟨rfl, ⟨nd, rfl⟩⟩; (try first | exact ⟨rfl, _, World.drewN_drewN _ _ _⟩ | exact ⟨rfl, _, Eq.trans (World.drewN_drewN _ _ _) (congrArg (World.drewN _) (Nat.add_assoc _ _ _))⟩)))
                repeat (go_quiet (first | ((with_reducible refine gate_dst (N := 4) rfl ?_); refine box_event ?hg (N := 4) ?hd (cs := #[.string (⟨#[]⟩ : ByteArray), .string (⟨#[]⟩ : ByteArray)]) (t := 65) ?hr ?_; (case hd => rfl); (case hg => rfl); (case hr => first | (go_simp; done) | (go_simp; rfl)); intro gb410002 hg w19 hbox hb; have n0_ := Aside0.mk (below_step (by repeat (first | (with_reducible first | exact HB.out | apply below_alloc | apply pw_below_drewN | apply below_drew1) | exact HB.out)) hb); have n1_ := Aside0.mk (hbox); have n2_ := Aside0.mk ((by rw [hg]; exact (below_size (by repeat (first | (with_reducible first | exact HB.out | apply below_alloc | apply pw_below_drewN | apply below_drew1) | exact HB.out))) : w.heap.size ≤ gb410002)); have n3_ := Aside0.mk ((by rw [hg]; exact (below_size (by repeat (first | (with_reducible first | exact HB.out | apply below_alloc | apply pw_below_drewN | apply below_drew1) | exact HB.out))) : w.heap.size ≤ gb410002)); clear HB; have HB := n0_; have BK410002 := n1_; have GW410002 := n2_; have GE410002 := n3_; clear n0_ n1_ n2_ n3_; clear hb hbox hg; have hcz20_0 : w19.cell? ⟨gb410002, 0, none⟩ = some (.string (⟨#[]⟩ : ByteArray)) := (blk_cell BK410002.out 0).trans rfl; have hcz20_1 : w19.cell? ⟨gb410002, 1, none⟩ = some (.string (⟨#[]⟩ : ByteArray)) := (blk_cell BK410002.out 1).trans rfl; have hfz20_0 := blk_frozen BK410002.out 0; have hfz20_1 := blk_frozen BK410002.out 1) | (go_at_call 85; (with_reducible refine (impl_pairFits.calls ((rd_T65 l0 x10_1).f0) ((rd_T65 l0 x10_1).f1) false _ A6.out).mono ?_); rintro e w' ⟨rfl, ⟨nd, rfl⟩⟩; (try first | exact ⟨rfl, _, World.drewN_drewN _ _ _⟩ | exact ⟨rfl, _, Eq.trans (World.drewN_drewN _ _ _) (congrArg (World.drewN _) (Nat.add_assoc _ _ _))⟩))); try go_wp2_with (first | ((with_reducible refine gate_dst (N := 4) rfl ?_); refine box_event ?hg (N := 4) ?hd (cs := #[.string (⟨#[]⟩ : ByteArray), .string (⟨#[]⟩ : ByteArray)]) (t := 65) ?hr ?_; (case hd => rfl); (case hg => rfl); (case hr => first | (go_simp; done) | (go_simp; rfl)); intro gb410002 hg w19 hbox hb; have n0_ := Aside0.mk (below_step (by repeat (first | (with_reducible first | exact HB.out | apply below_alloc | apply pw_below_drewN | apply below_drew1) | exact HB.out)) hb); have n1_ := Aside0.mk (hbox); have n2_ := Aside0.mk ((by rw [hg]; exact (below_size (by repeat (first | (with_reducible first | exact HB.out | apply below_alloc | apply pw_below_drewN | apply below_drew1) | exact HB.out))) : w.heap.size ≤ gb410002)); have n3_ := Aside0.mk ((by rw [hg]; exact (below_size (by repeat (first | (with_reducible first | exact HB.out | apply below_alloc | apply pw_below_drewN | apply below_drew1) | exact HB.out))) : w.heap.size ≤ gb410002)); clear HB; have HB := n0_; have BK410002 := n1_; have GW410002 := n2_; have GE410002 := n3_; clear n0_ n1_ n2_ n3_; clear hb hbox hg; have hcz20_0 : w19.cell? ⟨gb410002, 0, none⟩ = some (.string (⟨#[]⟩ : ByteArray)) := (blk_cell BK410002.out 0).trans rfl; have hcz20_1 : w19.cell? ⟨gb410002, 1, none⟩ = some (.string (⟨#[]⟩ : ByteArray)) := (blk_cell BK410002.out 1).trans rfl; have hfz20_0 := blk_frozen BK410002.out 0; have hfz20_1 := blk_frozen BK410002.out 1) | (go_at_call 85; (with_reducible refine (impl_pairFits.calls ((rd_T65 l0 x10_1).f0) ((rd_T65 l0 x10_1).f1) false _ A6.out).mono ?_); rintro e w' ⟨rfl, ⟨nd, rfl⟩⟩; (try first | exact ⟨rfl, _, World.drewN_drewN _ _ _⟩ | exact ⟨rfl, _, Eq.trans (World.drewN_drewN _ _ _) (congrArg (World.drewN _) (Nat.add_assoc _ _ _))⟩))))
                go_ret
                exact ⟨by first | rfl | (simp [errW_none, errW_some] <;> rfl) | (simp [*, errW_none, errW_some] <;> rfl), by repeat (first | (with_reducible first | exact HB.out | apply below_alloc | apply pw_below_drewN | apply below_drew1 | refine below_set ?_ GE410002.out) | exact HB.out)⟩
            · rw [if_neg c5] at H
              exact absurd H (by simp)
          · rw [if_neg c4] at H
            exact absurd H (by simp)
        · rw [if_neg c3] at H
          have c3b0 : decide (x10_1 < (l0.length : Int)) = false := decide_eq_false c3
          clear c3
          obtain rfl := Option.some.inj H
          go_wp2
          repeat (go_quiet (fail); try go_wp2)
          go_ret
          exact ⟨by first | rfl | (simp [errW_none, errW_some] <;> rfl) | (simp [*, errW_none, errW_some] <;> rfl), by repeat (first | (with_reducible first | exact HB.out | apply below_alloc | apply pw_below_drewN | apply below_drew1) | exact HB.out)⟩
end Go.Proofs.YthnnphinfiobmaaDoor.Z
end
section
namespace Go.Proofs.YthnnphinfiobmaaDoor.Z
open Go.RowKit Go.Proofs.YthnnphinfiobmaaDoor Go.Proofs.YthnnphinfiobmaaDoorW.PrintWords Go.Proofs.YthnnphinfiobmaaDoorW.PrintLast
set_option linter.unusedVariables false
set_option linter.unusedSimpArgs false
set_option maxRecDepth 100000
def pairOk (k v : ByteArray) : Bool := decide (1 ≤ k.size) && (decide (k.size ≤ 256) && decide (v.size ≤ 2000))
def zP : S65 := ⟨⟨#[]⟩, ⟨#[]⟩⟩
def okAt (l : List S65) (i : Nat) : Bool := pairOk (l.getD i zP).f0 (l.getD i zP).f1 && (decide (i = 0) || Op.bytesLess (l.getD (i - 1) zP).f0.toList (l.getD i zP).f0.toList)
def okD (l : List S65) : Nat → Nat → Bool
  | _, 0 => true
  | i, d + 1 => okAt l i && okD l (i + 1) d
def mapOk (l : List S65) : Bool := decide (l.length ≤ 500) && okD l 0 l.length
theorem okD_all (l : List S65) : ∀ (d i : Nat), okD l i d = true → ∀ j, i ≤ j → j < i + d → okAt l j = true
  | 0, i, _, j, h1, h2 => by omega
  | d + 1, i, h, j, h1, h2 => by
    rw [okD, Bool.and_eq_true] at h
    rcases Nat.eq_or_lt_of_le h1 with e | e
    · subst e; exact h.1
    · exact okD_all l d (i + 1) h.2 j e (by omega)
theorem mapOk_pair {l : List S65} (h : mapOk l = true) : l.length ≤ 500 ∧ ∀ p ∈ l, 1 ≤ p.f0.size ∧ p.f0.size ≤ 256 ∧ p.f1.size ≤ 2000 := by
  unfold mapOk at h
  rw [Bool.and_eq_true, decide_eq_true_eq] at h
  refine ⟨h.1, fun p hp => ?_⟩
  obtain ⟨i, hi, rfl⟩ := List.getElem_of_mem hp
  have := okD_all l l.length 0 h.2 i (by omega) (by omega)
  unfold okAt pairOk at this
  rw [List.getD_eq_getElem?_getD, List.getElem?_eq_getElem hi, Option.getD_some] at this
  simp only [Bool.and_eq_true, decide_eq_true_eq] at this
  omega
theorem pairFits_f (k v : ByteArray) : impl_pairFits.f k v = some (pairOk k v) := by
  unfold impl_pairFits.f pairOk
  by_cases h1 : 1 ≤ k.size
  · rw [if_pos (by omega), decide_eq_true h1]
    by_cases h2 : k.size ≤ 256
    · rw [if_pos (by omega), decide_eq_true h2]
      refine congrArg some ?_
      rw [Bool.true_and, Bool.true_and, decide_eq_decide]; omega
    · rw [if_neg (by omega), decide_eq_false h2]; rfl
  · rw [if_neg (by omega), decide_eq_false h1]; rfl
theorem rdP (l : List S65) (i : Nat) (h : i < l.length) : rd_T65 l (i : Int) = l.getD i zP := by
  rw [rd_pair l i h, List.getD_eq_getElem?_getD, List.getElem?_eq_getElem h]; rfl
theorem isMap_loop (l : List S65) (hl : l.length ≤ 500) : ∀ (d i k : Nat), l.length = i + d → d < k → impl_isMap.l0 k l l (l.length : Int) (i : Int) = some (okD l i d) := by
  intro d
  induction d with
  | zero =>
    intro i k h hk
    obtain ⟨k, rfl⟩ : ∃ j, k = j + 1 := ⟨k - 1, by omega⟩
    simp only [impl_isMap.l0]
    rw [if_neg (by omega)]; rfl
  | succ d ih =>
    intro i k h hk
    obtain ⟨k, rfl⟩ : ∃ j, k = j + 1 := ⟨k - 1, by omega⟩
    simp only [impl_isMap.l0]
    rw [if_pos (by omega), if_pos (by omega), if_pos (by omega), rdP l i (by omega), pairFits_f, Option.bind_some]
    rw [okD, okAt]
    cases hp : pairOk (l.getD i zP).f0 (l.getD i zP).f1
    · rw [if_neg (by decide)]; rfl
    rw [if_pos rfl, show wrap64 ((i : Int) + 1) = ((i + 1 : Nat) : Int) from wN (by omega) (by omega), ih (i + 1) k (by omega) (by omega)]
    by_cases h0 : i = 0
    · rw [if_neg (by omega), decide_eq_true h0]; rfl
    · rw [if_pos (by omega), show wrap64 ((i : Int) - 1) = ((i - 1 : Nat) : Int) from wN (by omega) (by omega), if_pos (by omega), if_pos (by omega), rdP l (i - 1) (by omega), decide_eq_false h0]
      cases Op.bytesLess (l.getD (i - 1) zP).f0.toList (l.getD i zP).f0.toList <;> rfl
theorem isMap_f (l : List S65) (k : Nat) (hk : 500 < k) : impl_isMap.f k l = some (mapOk l) := by
  unfold impl_isMap.f mapOk
  by_cases h : l.length ≤ 500
  · rw [if_neg (by omega), decide_eq_true h]
    exact isMap_loop l h l.length 0 k (by omega) (by omega)
  · rw [if_pos (by omega), decide_eq_false h]; rfl
def hashSh (W : Int) : Sh S65 → ByteArray
  | .nil => ⟨#[]⟩
  | .node p l r => (shaV (nText (encNode p.f0 p.f1 (hashSh W l) (hashSh W r) W))).extract 0 W.toNat
theorem seal_hash (W : Int) : ∀ t : Sh Nd, rootT (sealT W t) = hashSh W (mapS er t)
  | .nil => rfl
  | .node x l r => by
    rw [sealT, rootT, mapS, hashSh, ← seal_hash W l, ← seal_hash W r]; rfl
theorem widB_isW (x : Int) : widB x = isW x := by unfold widB isW; rw [Bool.eq_iff_iff]; simp
def rootR (l : List S65) (W : Int) : ByteArray := if mapOk l = true ∧ isW W = true then hashSh W (cart abP l) else ⟨#[]⟩
def impl_Root.f (l0 : List S65) (a1 : Int) : Option ByteArray := some (rootR l0 a1)
set_option maxHeartbeats 1000000 in
theorem impl_Root.calls (A0 : Option Addr) (c0 : Nat) (l0 : List S65) (a1 : Int) (r : ByteArray) (w : World) (hr0 : Kd.C k65 w A0 l0.length l0) (hc0 : l0.length ≤ c0) (h : impl_Root.f l0 a1 = some r) (hTab : Tab w := by exact Tab.below (by assumption) (by repeat (first | (with_reducible first | exact HB.out | apply below_alloc | apply pw_below_drewN | apply below_drew1 | refine below_set ?_ (Aside0.out (by assumption))) | exact HB.out))) :
    Calls Tryd.prog 12 #[.slice A0 l0.length c0, .int .i64 a1] w fun e w' => e = .returned (.string r) ∧ Below w.heap.size w w' := by
  obtain rfl := Option.some.inj h
  clear h
  have HT := Lib.hid hTab; clear hTab
  have HR := Lib.hid hr0; clear hr0
  have HM := Lib.hid (isMap_f l0 1000 (by decide))
  cases hm : mapOk l0
  · have HX : Hid (rootR l0 a1 = ⟨#[]⟩) := Lib.hid (by unfold rootR; rw [if_neg (fun g => by rw [hm] at g; exact absurd g.1 (by decide))])
    rw [hm] at HM
    clear hm
    go_enter Tryd.func12, Tryd.ntmps12
    go_wp2_with (go_at_call 41; refine (impl_isMap.calls 1000 A0 c0 l0 _ _ HR.out hc0 HM.out).mono ?_; rintro e w1 ⟨rfl, hb1⟩; have HB1 := Lib.hid hb1; clear hb1)
    go_ret
    exact ⟨by rw [HX.out]; rfl, HB1.out⟩
  cases hw : isW a1
  · have HX : Hid (rootR l0 a1 = ⟨#[]⟩) := Lib.hid (by unfold rootR; rw [if_neg (fun g => by rw [hw] at g; exact absurd g.2 (by decide))])
    rw [hm] at HM
    have HW := Lib.hid ((widB_isW a1).trans hw)
    clear hm hw
    go_enter Tryd.func12, Tryd.ntmps12
    go_wp2_with (first | (go_at_call 41; refine (impl_isMap.calls 1000 A0 c0 l0 _ _ HR.out hc0 HM.out).mono ?_; rintro e w1 ⟨rfl, hb1⟩; have HB1 := Lib.hid hb1; clear hb1) | (go_at_call 42; go_loud (refine (isWidth_any _ _).mono ?_; rintro e w2 ⟨rfl, rfl⟩; rw [HW.out])))
    go_ret
    exact ⟨by rw [HX.out]; rfl, HB1.out⟩
  have HX : Hid (rootR l0 a1 = hashSh a1 (cart abP l0)) := Lib.hid (by unfold rootR; rw [if_pos ⟨hm, hw⟩])
  have hpr := mapOk_pair hm
  have hr : 1 ≤ a1 ∧ a1 ≤ 32 := by unfold isW at hw; simp only [Bool.and_eq_true, decide_eq_true_eq] at hw; exact hw
  obtain ⟨W, hWn⟩ : ∃ W : Nat, a1 = (W : Int) := ⟨a1.toNat, by omega⟩
  subst hWn
  rw [hm] at HM
  have HW := Lib.hid ((widB_isW _).trans hw)
  have HPR := Lib.hid hpr.2
  have hlen := hpr.1
  clear hm hw hpr
  go_enter Tryd.func12, Tryd.ntmps12
  go_wp2_with (first | (go_at_call 41; refine (impl_isMap.calls 1000 A0 c0 l0 _ _ HR.out hc0 HM.out).mono ?_; rintro e w1 ⟨rfl, hb1⟩; have HB1 := Lib.hid hb1; clear hb1) | (go_at_call 42; go_loud (refine (isWidth_any _ _).mono ?_; rintro e w2 ⟨rfl, rfl⟩; rw [HW.out])) | (go_at_call 43; refine (grow_any A0 c0 l0 W (by omega) (by omega) w1 (Kd.C_below HR.out HB1.out) hc0 (by omega) (fun p hp => by have := HPR.out p hp; omega) (HT.out.below HB1.out)).mono ?_; rintro e w3 ⟨t, rfl, hi, hn, hg, hs, hb⟩; have HI := Lib.hid hi; have HS := Lib.hid hs; have HB := Lib.hid hb; clear hi hn hg hs hb) | (go_at_call 44; refine (treeHash_any _ _ _ (RootIs.of HI.out)).mono ?_; rintro e w4 ⟨rfl, rfl⟩))
  go_ret
  exact ⟨by rw [HX.out, ← HS.out, ← seal_hash]; rfl, HB1.out.trans (HB.out.mono HB1.out.size)⟩
end Go.Proofs.YthnnphinfiobmaaDoor.Z
end
section
namespace Go.Proofs.YthnnphinfiobmaaDoor.Z
open Go.RowKit Go.Proofs.YthnnphinfiobmaaDoorW.PrintWords Go.Proofs.YthnnphinfiobmaaDoorW.PrintLast Go.Proofs.YthnnphinfiobmaaDoorW.PrintMore
attribute [local go_sem] max2_int min2_int max_two min_two max_three min_three max_four min_four   -- for this text's walks alone
set_option linter.unusedVariables false
set_option linter.unusedSimpArgs false
def laws_eqPair.f (a0_0 : ByteArray) (a0_1 : ByteArray) (a1_0 : ByteArray) (a1_1 : ByteArray) : Option (Bool) := if a0_0.toList = a1_0.toList then (if a0_1.toList = a1_1.toList then (some true) else (some false)) else (some false)
set_option maxHeartbeats 8000000 in
set_option maxRecDepth 100000 in
theorem laws_eqPair.calls (a0_0 : ByteArray) (a0_1 : ByteArray) (a1_0 : ByteArray) (a1_1 : ByteArray) (r : Bool) (w : World) (h : laws_eqPair.f a0_0 a0_1 a1_0 a1_1 = some r) :
    Calls Tryd.prog 45 #[.agg #[.string a0_0, .string a0_1], .agg #[.string a1_0, .string a1_1]] w fun e w' => e = .returned (.bool r) ∧ Below w.heap.size w w' := by
  have hu65 := Tryd.underlying65
  have HB := Aside0.mk (Below.refl w.heap.size w)
  have H : (if a0_0.toList = a1_0.toList then (if a0_1.toList = a1_1.toList then (some true) else (some false)) else (some false)) = some r := h
  clear h
  by_cases c3 : a0_0.toList = a1_0.toList
  · rw [if_pos c3] at H
    have c3b0 : (a0_0.toList == a1_0.toList) = true := beq_iff_eq.mpr c3
    have c3b1 : (a0_0.toList != a1_0.toList) = false := bne_eq_false_iff_eq.mpr c3
    clear c3
    by_cases c4 : a0_1.toList = a1_1.toList
    · rw [if_pos c4] at H
      have c4b0 : (a0_1.toList == a1_1.toList) = true := beq_iff_eq.mpr c4
      have c4b1 : (a0_1.toList != a1_1.toList) = false := bne_eq_false_iff_eq.mpr c4
      clear c4
      obtain rfl := Option.some.inj H
      go_enter Tryd.func45, Tryd.ntmps45
      go_wp2_with (first | ((with_reducible refine gate_dst (N := 2) rfl ?_); refine box_event ?hg (N := 2) ?hd (cs := #[.string a0_0, .string a0_1]) (t := 65) ?hr ?_; (case hd => rfl); (case hg => rfl); (case hr => first | (go_simp; done) | (go_simp; rfl)); intro gb450001 hg w5 hbox hb; have n0_ := Aside0.mk (below_step (by repeat (first | (with_reducible first | exact HB.out | apply below_alloc | apply pw_below_drewN | apply below_drew1) | exact HB.out)) hb); have n1_ := Aside0.mk (hbox); have n2_ := Aside0.mk ((by rw [hg]; exact (below_size (by repeat (first | (with_reducible first | exact HB.out | apply below_alloc | apply pw_below_drewN | apply below_drew1) | exact HB.out))) : w.heap.size ≤ gb450001)); have n3_ := Aside0.mk ((by rw [hg]; exact (below_size (by repeat (first | (with_reducible first | exact HB.out | apply below_alloc | apply pw_below_drewN | apply below_drew1) | exact HB.out))) : w.heap.size ≤ gb450001)); clear HB; have HB := n0_; have BK450001 := n1_; have GW450001 := n2_; have GE450001 := n3_; clear n0_ n1_ n2_ n3_; clear hb hbox hg) | ((with_reducible refine gate_dst (N := 3) rfl ?_); refine box_event ?hg (N := 3) ?hd (cs := #[.string a1_0, .string a1_1]) (t := 65) ?hr ?_; (case hd => rfl); (case hg => rfl); (case hr => first | (go_simp; done) | (go_simp; rfl)); intro gb450002 hg w6 hbox hb; have n0_ := Aside0.mk (blk_below (g := gb450001) (o := .cells #[.string a0_0, .string a0_1] 65 (0, 0)) (by (with_reducible repeat (first | refine blk_drewN ?_ _ | refine blk_drew ?_ | refine blk_alloc ?_ _)); exact BK450001.out) hb); have n1_ := Aside0.mk (below_step (by repeat (first | (with_reducible first | exact HB.out | apply below_alloc | apply pw_below_drewN | apply below_drew1 | refine below_set ?_ GE450001.out) | exact HB.out)) hb); have n2_ := Aside0.mk (hbox); have n3_ := Aside0.mk ((by rw [hg]; exact (below_size (by repeat (first | (with_reducible first | exact HB.out | apply below_alloc | apply pw_below_drewN | apply below_drew1 | refine below_set ?_ GE450001.out) | exact HB.out))) : w.heap.size ≤ gb450002)); have n4_ := Aside0.mk ((by rw [hg]; exact (below_size (by repeat (first | (with_reducible first | exact HB.out | apply below_alloc | apply pw_below_drewN | apply below_drew1 | refine below_set ?_ GE450001.out) | exact HB.out))) : w.heap.size ≤ gb450002)); have n5_ := Aside0.mk ((by rw [hg]; exact Nat.ne_of_lt (blk_lt (g := gb450001) (o := .cells #[.string a0_0, .string a0_1] 65 (0, 0)) (by (with_reducible repeat (first | refine blk_drewN ?_ _ | refine blk_drew ?_ | refine blk_alloc ?_ _)); exact BK450001.out)) : gb450001 ≠ gb450002)); have n6_ := Aside0.mk ((by rw [hg]; exact Nat.ne_of_gt (blk_lt (g := gb450001) (o := .cells #[.string a0_0, .string a0_1] 65 (0, 0)) (by (with_reducible repeat (first | refine blk_drewN ?_ _ | refine blk_drew ?_ | refine blk_alloc ?_ _)); exact BK450001.out)) : gb450002 ≠ gb450001)); clear BK450001; clear HB; have BK450001 := n0_; have HB := n1_; have BK450002 := n2_; have GW450002 := n3_; have GE450002 := n4_; have NB450001_450002 := n5_; have NB450002_450001 := n6_; clear n0_ n1_ n2_ n3_ n4_ n5_ n6_; clear hb hbox hg; have hnb7 := NB450001_450002.out; have hnc7 := NB450002_450001.out; have hcz8_0 : w6.cell? ⟨gb450001, 0, none⟩ = some (.string a0_0) := (blk_cell BK450001.out 0).trans rfl; have hcz8_1 : w6.cell? ⟨gb450001, 1, none⟩ = some (.string a0_1) := (blk_cell BK450001.out 1).trans rfl; have hfz8_0 := blk_frozen BK450001.out 0; have hfz8_1 := blk_frozen BK450001.out 1; have hcz9_0 : w6.cell? ⟨gb450002, 0, none⟩ = some (.string a1_0) := (blk_cell BK450002.out 0).trans rfl; have hcz9_1 : w6.cell? ⟨gb450002, 1, none⟩ = some (.string a1_1) := (blk_cell BK450002.out 1).trans rfl; have hfz9_0 := blk_frozen BK450002.out 0; have hfz9_1 := blk_frozen BK450002.out 1))
      go_ret
      exact ⟨by first | rfl | (simp [errW_none, errW_some] <;> rfl) | (simp [*, errW_none, errW_some] <;> rfl), by repeat (first | (with_reducible first | exact HB.out | apply below_alloc | apply pw_below_drewN | apply below_drew1 | refine below_set ?_ GE450001.out | refine below_set ?_ GE450002.out) | exact HB.out)⟩
    · rw [if_neg c4] at H
      have c4b0 : (a0_1.toList == a1_1.toList) = false := beq_eq_false_iff_ne.mpr c4
      have c4b1 : (a0_1.toList != a1_1.toList) = true := bne_iff_ne.mpr c4
      obtain rfl := Option.some.inj H
      go_enter Tryd.func45, Tryd.ntmps45
      go_wp2_with (first | ((with_reducible refine gate_dst (N := 2) rfl ?_); refine box_event ?hg (N := 2) ?hd (cs := #[.string a0_0, .string a0_1]) (t := 65) ?hr ?_; (case hd => rfl); (case hg => rfl); (case hr => first | (go_simp; done) | (go_simp; rfl)); intro gb450001 hg w10 hbox hb; have n0_ := Aside0.mk (below_step (by repeat (first | (with_reducible first | exact HB.out | apply below_alloc | apply pw_below_drewN | apply below_drew1) | exact HB.out)) hb); have n1_ := Aside0.mk (hbox); have n2_ := Aside0.mk ((by rw [hg]; exact (below_size (by repeat (first | (with_reducible first | exact HB.out | apply below_alloc | apply pw_below_drewN | apply below_drew1) | exact HB.out))) : w.heap.size ≤ gb450001)); have n3_ := Aside0.mk ((by rw [hg]; exact (below_size (by repeat (first | (with_reducible first | exact HB.out | apply below_alloc | apply pw_below_drewN | apply below_drew1) | exact HB.out))) : w.heap.size ≤ gb450001)); clear HB; have HB := n0_; have BK450001 := n1_; have GW450001 := n2_; have GE450001 := n3_; clear n0_ n1_ n2_ n3_; clear hb hbox hg) | ((with_reducible refine gate_dst (N := 3) rfl ?_); refine box_event ?hg (N := 3) ?hd (cs := #[.string a1_0, .string a1_1]) (t := 65) ?hr ?_; (case hd => rfl); (case hg => rfl); (case hr => first | (go_simp; done) | (go_simp; rfl)); intro gb450002 hg w11 hbox hb; have n0_ := Aside0.mk (blk_below (g := gb450001) (o := .cells #[.string a0_0, .string a0_1] 65 (0, 0)) (by (with_reducible repeat (first | refine blk_drewN ?_ _ | refine blk_drew ?_ | refine blk_alloc ?_ _)); exact BK450001.out) hb); have n1_ := Aside0.mk (below_step (by repeat (first | (with_reducible first | exact HB.out | apply below_alloc | apply pw_below_drewN | apply below_drew1 | refine below_set ?_ GE450001.out) | exact HB.out)) hb); have n2_ := Aside0.mk (hbox); have n3_ := Aside0.mk ((by rw [hg]; exact (below_size (by repeat (first | (with_reducible first | exact HB.out | apply below_alloc | apply pw_below_drewN | apply below_drew1 | refine below_set ?_ GE450001.out) | exact HB.out))) : w.heap.size ≤ gb450002)); have n4_ := Aside0.mk ((by rw [hg]; exact (below_size (by repeat (first | (with_reducible first | exact HB.out | apply below_alloc | apply pw_below_drewN | apply below_drew1 | refine below_set ?_ GE450001.out) | exact HB.out))) : w.heap.size ≤ gb450002)); have n5_ := Aside0.mk ((by rw [hg]; exact Nat.ne_of_lt (blk_lt (g := gb450001) (o := .cells #[.string a0_0, .string a0_1] 65 (0, 0)) (by (with_reducible repeat (first | refine blk_drewN ?_ _ | refine blk_drew ?_ | refine blk_alloc ?_ _)); exact BK450001.out)) : gb450001 ≠ gb450002)); have n6_ := Aside0.mk ((by rw [hg]; exact Nat.ne_of_gt (blk_lt (g := gb450001) (o := .cells #[.string a0_0, .string a0_1] 65 (0, 0)) (by (with_reducible repeat (first | refine blk_drewN ?_ _ | refine blk_drew ?_ | refine blk_alloc ?_ _)); exact BK450001.out)) : gb450002 ≠ gb450001)); clear BK450001; clear HB; have BK450001 := n0_; have HB := n1_; have BK450002 := n2_; have GW450002 := n3_; have GE450002 := n4_; have NB450001_450002 := n5_; have NB450002_450001 := n6_; clear n0_ n1_ n2_ n3_ n4_ n5_ n6_; clear hb hbox hg; have hnb12 := NB450001_450002.out; have hnc12 := NB450002_450001.out; have hcz13_0 : w11.cell? ⟨gb450001, 0, none⟩ = some (.string a0_0) := (blk_cell BK450001.out 0).trans rfl; have hcz13_1 : w11.cell? ⟨gb450001, 1, none⟩ = some (.string a0_1) := (blk_cell BK450001.out 1).trans rfl; have hfz13_0 := blk_frozen BK450001.out 0; have hfz13_1 := blk_frozen BK450001.out 1; have hcz14_0 : w11.cell? ⟨gb450002, 0, none⟩ = some (.string a1_0) := (blk_cell BK450002.out 0).trans rfl; have hcz14_1 : w11.cell? ⟨gb450002, 1, none⟩ = some (.string a1_1) := (blk_cell BK450002.out 1).trans rfl; have hfz14_0 := blk_frozen BK450002.out 0; have hfz14_1 := blk_frozen BK450002.out 1))
      go_ret
      exact ⟨by first | rfl | (simp [errW_none, errW_some] <;> rfl) | (simp [*, errW_none, errW_some] <;> rfl), by repeat (first | (with_reducible first | exact HB.out | apply below_alloc | apply pw_below_drewN | apply below_drew1 | refine below_set ?_ GE450001.out | refine below_set ?_ GE450002.out) | exact HB.out)⟩
  · rw [if_neg c3] at H
    have c3b0 : (a0_0.toList == a1_0.toList) = false := beq_eq_false_iff_ne.mpr c3
    have c3b1 : (a0_0.toList != a1_0.toList) = true := bne_iff_ne.mpr c3
    obtain rfl := Option.some.inj H
    go_enter Tryd.func45, Tryd.ntmps45
    go_wp2_with (first | ((with_reducible refine gate_dst (N := 2) rfl ?_); refine box_event ?hg (N := 2) ?hd (cs := #[.string a0_0, .string a0_1]) (t := 65) ?hr ?_; (case hd => rfl); (case hg => rfl); (case hr => first | (go_simp; done) | (go_simp; rfl)); intro gb450001 hg w15 hbox hb; have n0_ := Aside0.mk (below_step (by repeat (first | (with_reducible first | exact HB.out | apply below_alloc | apply pw_below_drewN | apply below_drew1) | exact HB.out)) hb); have n1_ := Aside0.mk (hbox); have n2_ := Aside0.mk ((by rw [hg]; exact (below_size (by repeat (first | (with_reducible first | exact HB.out | apply below_alloc | apply pw_below_drewN | apply below_drew1) | exact HB.out))) : w.heap.size ≤ gb450001)); have n3_ := Aside0.mk ((by rw [hg]; exact (below_size (by repeat (first | (with_reducible first | exact HB.out | apply below_alloc | apply pw_below_drewN | apply below_drew1) | exact HB.out))) : w.heap.size ≤ gb450001)); clear HB; have HB := n0_; have BK450001 := n1_; have GW450001 := n2_; have GE450001 := n3_; clear n0_ n1_ n2_ n3_; clear hb hbox hg) | ((with_reducible refine gate_dst (N := 3) rfl ?_); refine box_event ?hg (N := 3) ?hd (cs := #[.string a1_0, .string a1_1]) (t := 65) ?hr ?_; (case hd => rfl); (case hg => rfl); (case hr => first | (go_simp; done) | (go_simp; rfl)); intro gb450002 hg w16 hbox hb; have n0_ := Aside0.mk (blk_below (g := gb450001) (o := .cells #[.string a0_0, .string a0_1] 65 (0, 0)) (by (with_reducible repeat (first | refine blk_drewN ?_ _ | refine blk_drew ?_ | refine blk_alloc ?_ _)); exact BK450001.out) hb); have n1_ := Aside0.mk (below_step (by repeat (first | (with_reducible first | exact HB.out | apply below_alloc | apply pw_below_drewN | apply below_drew1 | refine below_set ?_ GE450001.out) | exact HB.out)) hb); have n2_ := Aside0.mk (hbox); have n3_ := Aside0.mk ((by rw [hg]; exact (below_size (by repeat (first | (with_reducible first | exact HB.out | apply below_alloc | apply pw_below_drewN | apply below_drew1 | refine below_set ?_ GE450001.out) | exact HB.out))) : w.heap.size ≤ gb450002)); have n4_ := Aside0.mk ((by rw [hg]; exact (below_size (by repeat (first | (with_reducible first | exact HB.out | apply below_alloc | apply pw_below_drewN | apply below_drew1 | refine below_set ?_ GE450001.out) | exact HB.out))) : w.heap.size ≤ gb450002)); have n5_ := Aside0.mk ((by rw [hg]; exact Nat.ne_of_lt (blk_lt (g := gb450001) (o := .cells #[.string a0_0, .string a0_1] 65 (0, 0)) (by (with_reducible repeat (first | refine blk_drewN ?_ _ | refine blk_drew ?_ | refine blk_alloc ?_ _)); exact BK450001.out)) : gb450001 ≠ gb450002)); have n6_ := Aside0.mk ((by rw [hg]; exact Nat.ne_of_gt (blk_lt (g := gb450001) (o := .cells #[.string a0_0, .string a0_1] 65 (0, 0)) (by (with_reducible repeat (first | refine blk_drewN ?_ _ | refine blk_drew ?_ | refine blk_alloc ?_ _)); exact BK450001.out)) : gb450002 ≠ gb450001)); clear BK450001; clear HB; have BK450001 := n0_; have HB := n1_; have BK450002 := n2_; have GW450002 := n3_; have GE450002 := n4_; have NB450001_450002 := n5_; have NB450002_450001 := n6_; clear n0_ n1_ n2_ n3_ n4_ n5_ n6_; clear hb hbox hg; have hnb17 := NB450001_450002.out; have hnc17 := NB450002_450001.out; have hcz18_0 : w16.cell? ⟨gb450001, 0, none⟩ = some (.string a0_0) := (blk_cell BK450001.out 0).trans rfl; have hcz18_1 : w16.cell? ⟨gb450001, 1, none⟩ = some (.string a0_1) := (blk_cell BK450001.out 1).trans rfl; have hfz18_0 := blk_frozen BK450001.out 0; have hfz18_1 := blk_frozen BK450001.out 1; have hcz19_0 : w16.cell? ⟨gb450002, 0, none⟩ = some (.string a1_0) := (blk_cell BK450002.out 0).trans rfl; have hcz19_1 : w16.cell? ⟨gb450002, 1, none⟩ = some (.string a1_1) := (blk_cell BK450002.out 1).trans rfl; have hfz19_0 := blk_frozen BK450002.out 0; have hfz19_1 := blk_frozen BK450002.out 1))
    go_ret
    exact ⟨by first | rfl | (simp [errW_none, errW_some] <;> rfl) | (simp [*, errW_none, errW_some] <;> rfl), by repeat (first | (with_reducible first | exact HB.out | apply below_alloc | apply pw_below_drewN | apply below_drew1 | refine below_set ?_ GE450001.out | refine below_set ?_ GE450002.out) | exact HB.out)⟩
end Go.Proofs.YthnnphinfiobmaaDoor.Z
end
section
namespace Go.Proofs.YthnnphinfiobmaaDoor.Z
open Go.RowKit Go.Proofs.YthnnphinfiobmaaDoorW.PrintWords Go.Proofs.YthnnphinfiobmaaDoorW.PrintLast Go.Proofs.YthnnphinfiobmaaDoorW.PrintMore
attribute [local go_sem] max2_int min2_int max_two min_two max_three min_three max_four min_four   -- for this text's walks alone
set_option linter.unusedVariables false
set_option linter.unusedSimpArgs false
def laws_eqPairS.l0 : Nat → List (S65) → List (S65) → Int → Option (Bool)
  | 0, _, _, _ => none
  | k + 1, x0, x1, x5 => if x5 < (x0.length : Int) then (if 0 ≤ x5 then (if x5 < (x1.length : Int) then ((laws_eqPair.f ((rd_T65 x0 x5).f0) ((rd_T65 x0 x5).f1) ((rd_T65 x1 x5).f0) ((rd_T65 x1 x5).f1)).bind fun t130003 => (if t130003 = true then (laws_eqPairS.l0 k x0 x1 (wrap64 (x5 + 1))) else (some false))) else (none)) else (none)) else (some true)
def laws_eqPairS.f (k : Nat) (l0 : List (S65)) (l1 : List (S65)) : Option (Bool) := if (l0.length : Int) = (l1.length : Int) then (laws_eqPairS.l0 k l0 l1 0) else (some false)
theorem laws_eqPairS.mono_l : ∀ k, (∀ y0 y1 y2, LeO (laws_eqPairS.l0 k y0 y1 y2) (laws_eqPairS.l0 (k + 1) y0 y1 y2))
  | 0 => fun _ _ _ r h => by simp [laws_eqPairS.l0] at h
  | k + 1 => by
    have ih0 := laws_eqPairS.mono_l k
    · intro y0 y1 y2
      unfold laws_eqPairS.l0
      repeat' first
      | (with_reducible exact ih0 _ _ _)
      | (with_reducible exact LeO.refl _)
      | (with_reducible exact LeO.none _)
      | (with_reducible refine LeO.ite ?_ ?_)
      | (with_reducible refine LeO.bind ?_ (fun _ => ?_))
      | exact ih0 _ _ _
      | exact LeO.none _
      | refine LeO.ite ?_ ?_
      | refine LeO.bind ?_ (fun _ => ?_)
theorem laws_eqPairS.mono : ∀ a0 a1 k, LeO (laws_eqPairS.f k a0 a1) (laws_eqPairS.f (k + 1) a0 a1) := by
  intro a0 a1 k
  have ih0 := laws_eqPairS.mono_l k
  unfold laws_eqPairS.f
  repeat' first
      | (with_reducible exact ih0 _ _ _)
      | (with_reducible exact LeO.refl _)
      | (with_reducible exact LeO.none _)
      | (with_reducible refine LeO.ite ?_ ?_)
      | (with_reducible refine LeO.bind ?_ (fun _ => ?_))
      | exact ih0 _ _ _
      | exact LeO.none _
      | refine LeO.ite ?_ ?_
      | refine LeO.bind ?_ (fun _ => ?_)
def laws_eqPairS.T6 : Bool × List (List Nat × List Nat) := (true, [([], []), ([], []), ([0, 1], [0, 1]), ([2], [2]), ([], []), ([], []), ([4, 5], [4, 5]), ([6], [6]), ([3, 7], [3, 7]), ([8], [8])])
def laws_eqPairS.B6 : List Nat := [0, 0, 3, 7, 0, 0, 48, 112, 255, 511]
theorem laws_eqPairS.tab6 : rtab .any (opsOf Tryd.f13 6) = laws_eqPairS.T6 := by kernel_rfl
theorem laws_eqPairS.bits6 : waitsOk laws_eqPairS.T6.2 laws_eqPairS.B6 = true := by kernel_rfl
set_option maxHeartbeats 8000000 in
set_option maxRecDepth 100000 in
theorem laws_eqPairS.calls (k : Nat) (A0 : Option Addr) (c0 : Nat) (l0 : List (S65)) (A1 : Option Addr) (c1 : Nat) (l1 : List (S65)) (r : Bool) (w : World) (hr0 : Kd.C k65 w A0 l0.length l0) (hc0 : l0.length ≤ c0) (hr1 : Kd.C k65 w A1 l1.length l1) (hc1 : l1.length ≤ c1) (h : laws_eqPairS.f k l0 l1 = some r) :
    Calls Tryd.prog 13 #[.slice A0 l0.length c0, .slice A1 l1.length c1] w fun e w' => e = .returned (.bool r) ∧ Below w.heap.size w w' := by
  have hu65 := Tryd.underlying65
  have HR0 := Aside0.mk hr0
  have HC0 := Aside0.mk hc0
  clear hr0 hc0
  have HR1 := Aside0.mk hr1
  have HC1 := Aside0.mk hc1
  clear hr1 hc1
  have HB := Aside0.mk (Below.refl w.heap.size w)
  have H : (if (l0.length : Int) = (l1.length : Int) then (laws_eqPairS.l0 k l0 l1 0) else (some false)) = some r := h
  clear h
  by_cases c3 : (l0.length : Int) = (l1.length : Int)
  · rw [if_pos c3] at H
    have c3b0 : ((l0.length : Int) == (l1.length : Int)) = true := beq_iff_eq.mpr c3
    have c3b1 : ((l0.length : Int) != (l1.length : Int)) = false := bne_eq_false_iff_eq.mpr c3
    have c3b2 : (l0.length == l1.length) = true := by first | simpa using c3 | (simp at c3 ⊢; omega)
    clear c3
    have H' := Aside0.mk H
    clear H
    go_enter Tryd.func13, Tryd.ntmps13
    go_wp2
    go_loopg [5] k (fun kq v5 w' => ∃ (x5_1 : Int), v5 = .int .i64 x5_1 ∧ Aside0 (laws_eqPairS.l0 kq l0 l1 x5_1 = some r) ∧ Aside0 (kq ≤ k) ∧ Aside0 (Below w.heap.size w w'))
    case atStart => exact ⟨(0), (by first | rfl | (simp; done) | (simp [*]; done)), H', ⟨Nat.le_refl _⟩, ⟨by repeat (first | (with_reducible first | exact HB.out | apply below_alloc | apply pw_below_drewN | apply below_drew1) | exact HB.out)⟩⟩
    case round =>
      clear H'
      try clear c1
      try clear p2
      try clear c3
      try clear c3b0
      try clear c3b1
      try clear c3b2
      obtain ⟨x5_1, rfl, HA, HK1, HB⟩ := hrel
      cases gk with
      | zero => exact absurd HA.out (by simp [laws_eqPairS.l0])
      | succ k1 =>
        have H := HA.out
        clear HA
        simp only [laws_eqPairS.l0] at H
        by_cases c4 : x5_1 < (l0.length : Int)
        · rw [if_pos c4] at H
          have c4b0 : decide (x5_1 < (l0.length : Int)) = true := decide_eq_true c4
          clear c4
          by_cases c5 : 0 ≤ x5_1
          · rw [if_pos c5] at H
            have c5b0 : decide (0 ≤ x5_1) = true := decide_eq_true c5
            clear c5
            by_cases c6 : x5_1 < (l1.length : Int)
            · rw [if_pos c6] at H
              have c6b0 : decide (x5_1 < (l1.length : Int)) = true := decide_eq_true c6
              clear c6
              replace H := Option.bind_eq_some_iff.mp H
              obtain ⟨t130003, A70, H⟩ := H
              replace H : (if t130003 = true then (laws_eqPairS.l0 k1 l0 l1 (wrap64 (x5_1 + 1))) else (some false)) = some r := H
              have A7 := Aside0.mk A70
              clear A70
              by_cases c8 : t130003 = true
              · subst c8
                have H1 : (laws_eqPairS.l0 k1 l0 l1 (wrap64 (x5_1 + 1))) = some r := by rw [if_pos rfl] at H; exact H
                clear H
                have H := H1
                clear H1
                have H' := Aside0.mk H
                clear H
                try go_wp2
                have n0_ := Aside0.mk (below_drew1 HB.out)
                clear HB
                have HB := n0_
                clear n0_
                have p130001 : 0 ≤ (x5_1 : Int) := of_decide_eq_true (by first | (with_reducible assumption) | assumption)
                have q130001 : x5_1 < (l0.length : Int) := of_decide_eq_true (by first | (with_reducible assumption) | assumption)
                obtain ⟨ad130001, e130001, hx130001_0, hx130001_1⟩ := at_T65 HR0.out x5_1 p130001 q130001
                have hw130001_1 := hx130001_1
                have hw130001_0 := hx130001_0
                cases e130001
                replace hx130001_0 := (HB.out.cell (World.block_lt_of_cell? w _ hx130001_0)).trans hx130001_0
                replace hx130001_1 := (HB.out.cell (World.block_lt_of_cell? w _ hx130001_1)).trans hx130001_1
                replace p130001 := eq_true p130001
                replace q130001 := eq_true q130001
                have p130002 : 0 ≤ (x5_1 : Int) := of_decide_eq_true (by first | (with_reducible assumption) | assumption)
                have q130002 : x5_1 < (l1.length : Int) := of_decide_eq_true (by first | (with_reducible assumption) | assumption)
                obtain ⟨ad130002, e130002, hx130002_0, hx130002_1⟩ := at_T65 HR1.out x5_1 p130002 q130002
                have hw130002_1 := hx130002_1
                have hw130002_0 := hx130002_0
                cases e130002
                replace hx130002_0 := (HB.out.cell (World.block_lt_of_cell? w _ hx130002_0)).trans hx130002_0
                replace hx130002_1 := (HB.out.cell (World.block_lt_of_cell? w _ hx130002_1)).trans hx130002_1
                replace p130002 := eq_true p130002
                replace q130002 := eq_true q130002
                refine start_ (n := 10) (S := fun w' => w'.cell? (ad130001.add ((x5_1).toNat * 2)) = some (.string ((rd_T65 l0 x5_1).f0)) ∧ w'.cell? ⟨(ad130001.add ((x5_1).toNat * 2)).block, (ad130001.add ((x5_1).toNat * 2)).off + 1, none⟩ = some (.string ((rd_T65 l0 x5_1).f1)) ∧ w'.cell? (ad130002.add ((x5_1).toNat * 2)) = some (.string ((rd_T65 l1 x5_1).f0)) ∧ w'.cell? ⟨(ad130002.add ((x5_1).toNat * 2)).block, (ad130002.add ((x5_1).toNat * 2)).off + 1, none⟩ = some (.string ((rd_T65 l1 x5_1).f1))) (ds := []) #[false, false, false, false, false, false, false, false, false, false] (by kernel_rfl) rfl rfl ⟨((HB.out.cell (World.block_lt_of_cell? w _ hw130001_0)).trans hw130001_0), ((HB.out.cell (World.block_lt_of_cell? w _ hw130001_1)).trans hw130001_1), ((HB.out.cell (World.block_lt_of_cell? w _ hw130002_0)).trans hw130002_0), ((HB.out.cell (World.block_lt_of_cell? w _ hw130002_1)).trans hw130002_1)⟩ (fun hHeld => ?_); refine with_tabW laws_eqPairS.tab6 laws_eqPairS.bits6 (fun HT_ HW_ => ?_)
                generalize wr.drew = w9 at HB hx130001_0 hx130001_1 hx130002_0 hx130002_1 hHeld ⊢
                refine pure_ (i := 0) (N := some 17) (v := ?_) (a' := ?_) #[true, false, false, false, false, false, false, false, false, false] rfl rfl (any_of HT_.out (by kernel_rfl)) (fun _ _ _ h => h) (Or.inl ⟨by rfl, ?_⟩) ?_ ?_
                rotate_left
                · intro w'
                  go_simp
                  with_reducible rfl
                rotate_left
                · simp only [Act.put, List.setIfInBounds_toArray, List.set_cons_zero, List.set_cons_succ, i64_w, i32_w]
                  rfl
                refine pure_ (i := 1) (N := some 18) (v := ?_) (a' := ?_) #[true, true, false, false, false, false, false, false, false, false] rfl rfl (any_of HT_.out (by kernel_rfl)) (fun _ _ _ h => h) (Or.inl ⟨by rfl, ?_⟩) ?_ ?_
                rotate_left
                · intro w'
                  go_simp
                  with_reducible rfl
                rotate_left
                · simp only [Act.put, List.setIfInBounds_toArray, List.set_cons_zero, List.set_cons_succ, i64_w, i32_w]
                  rfl
                refine pure_ (i := 2) (N := some 19) (v := ?_) (a' := ?_) #[true, true, true, false, false, false, false, false, false, false] rfl rfl (any_of HT_.out (by kernel_rfl)) (fun _ _ _ h => h) (Or.inl ⟨by rfl, ?_⟩) ?_ ?_
                rotate_left
                · intro w'
                  go_simp
                  with_reducible rfl
                rotate_left
                · simp only [Act.put, List.setIfInBounds_toArray, List.set_cons_zero, List.set_cons_succ, i64_w, i32_w]
                  rfl
                refine pure_ (i := 4) (N := some 21) (v := ?_) (a' := ?_) #[true, true, true, false, true, false, false, false, false, false] rfl rfl (any_of HT_.out (by kernel_rfl)) (fun _ _ _ h => h) (Or.inl ⟨by rfl, ?_⟩) ?_ ?_
                rotate_left
                · intro w'
                  go_simp
                  with_reducible rfl
                rotate_left
                · simp only [Act.put, List.setIfInBounds_toArray, List.set_cons_zero, List.set_cons_succ, i64_w, i32_w]
                  rfl
                refine pure_ (i := 5) (N := some 22) (v := ?_) (a' := ?_) #[true, true, true, false, true, true, false, false, false, false] rfl rfl (any_of HT_.out (by kernel_rfl)) (fun _ _ _ h => h) (Or.inl ⟨by rfl, ?_⟩) ?_ ?_
                rotate_left
                · intro w'
                  go_simp
                  with_reducible rfl
                rotate_left
                · simp only [Act.put, List.setIfInBounds_toArray, List.set_cons_zero, List.set_cons_succ, i64_w, i32_w]
                  rfl
                refine pure_ (i := 6) (N := some 23) (v := ?_) (a' := ?_) #[true, true, true, false, true, true, true, false, false, false] rfl rfl (any_of HT_.out (by kernel_rfl)) (fun _ _ _ h => h) (Or.inl ⟨by rfl, ?_⟩) ?_ ?_
                rotate_left
                · intro w'
                  go_simp
                  with_reducible rfl
                rotate_left
                · simp only [Act.put, List.setIfInBounds_toArray, List.set_cons_zero, List.set_cons_succ, i64_w, i32_w]
                  rfl
                refine take_ (i := 3) (N := some 20) (v := ?_) (a' := ?_) #[true, true, true, true, true, true, true, false, false, false] rfl rfl (take_ofW HT_.out HW_.out (by kernel_rfl)) (fun _ _ _ h => h) (Or.inl ⟨by rfl, ?_⟩) hHeld ?_ ?_
                rotate_left
                · rintro w' ⟨s0, s1, s2, s3⟩
                  go_simp
                  with_reducible rfl
                rotate_left
                · simp only [Act.put, List.setIfInBounds_toArray, List.set_cons_zero, List.set_cons_succ, i64_w, i32_w]
                  rfl
                refine take_ (i := 7) (N := some 24) (v := ?_) (a' := ?_) #[true, true, true, true, true, true, true, true, false, false] rfl rfl (take_ofW HT_.out HW_.out (by kernel_rfl)) (fun _ _ _ h => h) (Or.inl ⟨by rfl, ?_⟩) hHeld ?_ ?_
                rotate_left
                · rintro w' ⟨s0, s1, s2, s3⟩
                  go_simp
                  with_reducible rfl
                rotate_left
                · simp only [Act.put, List.setIfInBounds_toArray, List.set_cons_zero, List.set_cons_succ, i64_w, i32_w]
                  rfl
                refine one_ (i := 8) (N := some 25) #[true, true, true, true, true, true, true, true, true, false] rfl rfl (one_of HT_.out (by kernel_rfl)) (by decide) (fun K hK => ?_)
                refine goes_ Tryd.func45 (by kernel_rfl) rfl #[.agg #[.string ((rd_T65 l0 x5_1).f0), .string ((rd_T65 l0 x5_1).f1)], .agg #[.string ((rd_T65 l1 x5_1).f0), .string ((rd_T65 l1 x5_1).f1)]] (by rfl) rfl rfl (by (try simp only [List.map_toArray, List.map_cons, List.map_nil]); first | done | rfl | (simp only [List.length_drop, List.length_take]; rfl)) ?_
                with_reducible refine (laws_eqPair.calls ((rd_T65 l0 x5_1).f0) ((rd_T65 l0 x5_1).f1) ((rd_T65 l1 x5_1).f0) ((rd_T65 l1 x5_1).f1) true _ A7.out).mono ?_
                rintro e w10 ⟨rfl, hb⟩
                refine ⟨_, rfl, ?_⟩
                have n0_ := Aside0.mk (below_step (by repeat (first | (with_reducible first | exact HB.out | apply below_alloc | apply pw_below_drewN | apply below_drew1) | exact HB.out)) hb)
                clear HB
                have HB := n0_
                clear n0_
                (try clear hb)
                (try clear hb2)
                (try clear hk)
                (try clear hi)
                refine hK.out _ _ ⟨((HB.out.cell (World.block_lt_of_cell? w _ hw130001_0)).trans hw130001_0), ((HB.out.cell (World.block_lt_of_cell? w _ hw130001_1)).trans hw130001_1), ((HB.out.cell (World.block_lt_of_cell? w _ hw130002_0)).trans hw130002_0), ((HB.out.cell (World.block_lt_of_cell? w _ hw130002_1)).trans hw130002_1)⟩ (fun hHeld => ?_)
                clear hK K
                refine norm_ (a' := ?_) ?_ ?_
                rotate_left
                · show Act.put _ (some 25) _ = _
                  simp only [Act.put, List.setIfInBounds_toArray, List.set_cons_zero, List.set_cons_succ, i64_w, i32_w]
                  rfl
                refine pure_ (i := 9) (N := some 26) (v := ?_) (a' := ?_) #[true, true, true, true, true, true, true, true, true, true] rfl rfl (any_of HT_.out (by kernel_rfl)) (fun _ _ _ h => h) (Or.inl ⟨by rfl, ?_⟩) ?_ ?_
                rotate_left
                · intro w'
                  go_simp
                  with_reducible rfl
                rotate_left
                · simp only [Act.put, List.setIfInBounds_toArray, List.set_cons_zero, List.set_cons_succ, i64_w, i32_w]
                  rfl
                refine done_ (done_of HT_.out (by kernel_rfl)) ?_
                try go_wp2
                go_roundg k1
                case measure => have := HK1.out; omega
                case rel => exact ⟨(wrap64 (x5_1 + 1)), (by first | rfl | (simp; done) | (simp [*]; done)), H', ⟨by have := HK1.out; omega⟩, ⟨by repeat (first | (with_reducible first | exact HB.out | apply below_alloc | apply pw_below_drewN | apply below_drew1) | exact HB.out)⟩⟩
              · replace c8 := Bool.eq_false_iff.mpr c8
                subst c8
                have H1 : (some false) = some r := by rw [if_neg (show ¬ (false = true) by decide)] at H; exact H
                clear H
                have H := H1
                clear H1
                obtain rfl := Option.some.inj H
                try go_wp2
                have n0_ := Aside0.mk (below_drew1 HB.out)
                clear HB
                have HB := n0_
                clear n0_
                have p130001 : 0 ≤ (x5_1 : Int) := of_decide_eq_true (by first | (with_reducible assumption) | assumption)
                have q130001 : x5_1 < (l0.length : Int) := of_decide_eq_true (by first | (with_reducible assumption) | assumption)
                obtain ⟨ad130001, e130001, hx130001_0, hx130001_1⟩ := at_T65 HR0.out x5_1 p130001 q130001
                have hw130001_1 := hx130001_1
                have hw130001_0 := hx130001_0
                cases e130001
                replace hx130001_0 := (HB.out.cell (World.block_lt_of_cell? w _ hx130001_0)).trans hx130001_0
                replace hx130001_1 := (HB.out.cell (World.block_lt_of_cell? w _ hx130001_1)).trans hx130001_1
                replace p130001 := eq_true p130001
                replace q130001 := eq_true q130001
                have p130002 : 0 ≤ (x5_1 : Int) := of_decide_eq_true (by first | (with_reducible assumption) | assumption)
                have q130002 : x5_1 < (l1.length : Int) := of_decide_eq_true (by first | (with_reducible assumption) | assumption)
                obtain ⟨ad130002, e130002, hx130002_0, hx130002_1⟩ := at_T65 HR1.out x5_1 p130002 q130002
                have hw130002_1 := hx130002_1
                have hw130002_0 := hx130002_0
                cases e130002
                replace hx130002_0 := (HB.out.cell (World.block_lt_of_cell? w _ hx130002_0)).trans hx130002_0
                replace hx130002_1 := (HB.out.cell (World.block_lt_of_cell? w _ hx130002_1)).trans hx130002_1
                replace p130002 := eq_true p130002
                replace q130002 := eq_true q130002
                refine start_ (n := 10) (S := fun w' => w'.cell? (ad130001.add ((x5_1).toNat * 2)) = some (.string ((rd_T65 l0 x5_1).f0)) ∧ w'.cell? ⟨(ad130001.add ((x5_1).toNat * 2)).block, (ad130001.add ((x5_1).toNat * 2)).off + 1, none⟩ = some (.string ((rd_T65 l0 x5_1).f1)) ∧ w'.cell? (ad130002.add ((x5_1).toNat * 2)) = some (.string ((rd_T65 l1 x5_1).f0)) ∧ w'.cell? ⟨(ad130002.add ((x5_1).toNat * 2)).block, (ad130002.add ((x5_1).toNat * 2)).off + 1, none⟩ = some (.string ((rd_T65 l1 x5_1).f1))) (ds := []) #[false, false, false, false, false, false, false, false, false, false] (by kernel_rfl) rfl rfl ⟨((HB.out.cell (World.block_lt_of_cell? w _ hw130001_0)).trans hw130001_0), ((HB.out.cell (World.block_lt_of_cell? w _ hw130001_1)).trans hw130001_1), ((HB.out.cell (World.block_lt_of_cell? w _ hw130002_0)).trans hw130002_0), ((HB.out.cell (World.block_lt_of_cell? w _ hw130002_1)).trans hw130002_1)⟩ (fun hHeld => ?_); refine with_tabW laws_eqPairS.tab6 laws_eqPairS.bits6 (fun HT_ HW_ => ?_)
                generalize wr.drew = w11 at HB hx130001_0 hx130001_1 hx130002_0 hx130002_1 hHeld ⊢
                refine pure_ (i := 0) (N := some 17) (v := ?_) (a' := ?_) #[true, false, false, false, false, false, false, false, false, false] rfl rfl (any_of HT_.out (by kernel_rfl)) (fun _ _ _ h => h) (Or.inl ⟨by rfl, ?_⟩) ?_ ?_
                rotate_left
                · intro w'
                  go_simp
                  with_reducible rfl
                rotate_left
                · simp only [Act.put, List.setIfInBounds_toArray, List.set_cons_zero, List.set_cons_succ, i64_w, i32_w]
                  rfl
                refine pure_ (i := 1) (N := some 18) (v := ?_) (a' := ?_) #[true, true, false, false, false, false, false, false, false, false] rfl rfl (any_of HT_.out (by kernel_rfl)) (fun _ _ _ h => h) (Or.inl ⟨by rfl, ?_⟩) ?_ ?_
                rotate_left
                · intro w'
                  go_simp
                  with_reducible rfl
                rotate_left
                · simp only [Act.put, List.setIfInBounds_toArray, List.set_cons_zero, List.set_cons_succ, i64_w, i32_w]
                  rfl
                refine pure_ (i := 2) (N := some 19) (v := ?_) (a' := ?_) #[true, true, true, false, false, false, false, false, false, false] rfl rfl (any_of HT_.out (by kernel_rfl)) (fun _ _ _ h => h) (Or.inl ⟨by rfl, ?_⟩) ?_ ?_
                rotate_left
                · intro w'
                  go_simp
                  with_reducible rfl
                rotate_left
                · simp only [Act.put, List.setIfInBounds_toArray, List.set_cons_zero, List.set_cons_succ, i64_w, i32_w]
                  rfl
                refine pure_ (i := 4) (N := some 21) (v := ?_) (a' := ?_) #[true, true, true, false, true, false, false, false, false, false] rfl rfl (any_of HT_.out (by kernel_rfl)) (fun _ _ _ h => h) (Or.inl ⟨by rfl, ?_⟩) ?_ ?_
                rotate_left
                · intro w'
                  go_simp
                  with_reducible rfl
                rotate_left
                · simp only [Act.put, List.setIfInBounds_toArray, List.set_cons_zero, List.set_cons_succ, i64_w, i32_w]
                  rfl
                refine pure_ (i := 5) (N := some 22) (v := ?_) (a' := ?_) #[true, true, true, false, true, true, false, false, false, false] rfl rfl (any_of HT_.out (by kernel_rfl)) (fun _ _ _ h => h) (Or.inl ⟨by rfl, ?_⟩) ?_ ?_
                rotate_left
                · intro w'
                  go_simp
                  with_reducible rfl
                rotate_left
                · simp only [Act.put, List.setIfInBounds_toArray, List.set_cons_zero, List.set_cons_succ, i64_w, i32_w]
                  rfl
                refine pure_ (i := 6) (N := some 23) (v := ?_) (a' := ?_) #[true, true, true, false, true, true, true, false, false, false] rfl rfl (any_of HT_.out (by kernel_rfl)) (fun _ _ _ h => h) (Or.inl ⟨by rfl, ?_⟩) ?_ ?_
                rotate_left
                · intro w'
                  go_simp
                  with_reducible rfl
                rotate_left
                · simp only [Act.put, List.setIfInBounds_toArray, List.set_cons_zero, List.set_cons_succ, i64_w, i32_w]
                  rfl
                refine take_ (i := 3) (N := some 20) (v := ?_) (a' := ?_) #[true, true, true, true, true, true, true, false, false, false] rfl rfl (take_ofW HT_.out HW_.out (by kernel_rfl)) (fun _ _ _ h => h) (Or.inl ⟨by rfl, ?_⟩) hHeld ?_ ?_
                rotate_left
                · rintro w' ⟨s0, s1, s2, s3⟩
                  go_simp
                  with_reducible rfl
                rotate_left
                · simp only [Act.put, List.setIfInBounds_toArray, List.set_cons_zero, List.set_cons_succ, i64_w, i32_w]
                  rfl
                refine take_ (i := 7) (N := some 24) (v := ?_) (a' := ?_) #[true, true, true, true, true, true, true, true, false, false] rfl rfl (take_ofW HT_.out HW_.out (by kernel_rfl)) (fun _ _ _ h => h) (Or.inl ⟨by rfl, ?_⟩) hHeld ?_ ?_
                rotate_left
                · rintro w' ⟨s0, s1, s2, s3⟩
                  go_simp
                  with_reducible rfl
                rotate_left
                · simp only [Act.put, List.setIfInBounds_toArray, List.set_cons_zero, List.set_cons_succ, i64_w, i32_w]
                  rfl
                refine one_ (i := 8) (N := some 25) #[true, true, true, true, true, true, true, true, true, false] rfl rfl (one_of HT_.out (by kernel_rfl)) (by decide) (fun K hK => ?_)
                refine goes_ Tryd.func45 (by kernel_rfl) rfl #[.agg #[.string ((rd_T65 l0 x5_1).f0), .string ((rd_T65 l0 x5_1).f1)], .agg #[.string ((rd_T65 l1 x5_1).f0), .string ((rd_T65 l1 x5_1).f1)]] (by rfl) rfl rfl (by (try simp only [List.map_toArray, List.map_cons, List.map_nil]); first | done | rfl | (simp only [List.length_drop, List.length_take]; rfl)) ?_
                with_reducible refine (laws_eqPair.calls ((rd_T65 l0 x5_1).f0) ((rd_T65 l0 x5_1).f1) ((rd_T65 l1 x5_1).f0) ((rd_T65 l1 x5_1).f1) false _ A7.out).mono ?_
                rintro e w12 ⟨rfl, hb⟩
                refine ⟨_, rfl, ?_⟩
                have n0_ := Aside0.mk (below_step (by repeat (first | (with_reducible first | exact HB.out | apply below_alloc | apply pw_below_drewN | apply below_drew1) | exact HB.out)) hb)
                clear HB
                have HB := n0_
                clear n0_
                (try clear hb)
                (try clear hb2)
                (try clear hk)
                (try clear hi)
                refine hK.out _ _ ⟨((HB.out.cell (World.block_lt_of_cell? w _ hw130001_0)).trans hw130001_0), ((HB.out.cell (World.block_lt_of_cell? w _ hw130001_1)).trans hw130001_1), ((HB.out.cell (World.block_lt_of_cell? w _ hw130002_0)).trans hw130002_0), ((HB.out.cell (World.block_lt_of_cell? w _ hw130002_1)).trans hw130002_1)⟩ (fun hHeld => ?_)
                clear hK K
                refine norm_ (a' := ?_) ?_ ?_
                rotate_left
                · show Act.put _ (some 25) _ = _
                  simp only [Act.put, List.setIfInBounds_toArray, List.set_cons_zero, List.set_cons_succ, i64_w, i32_w]
                  rfl
                refine pure_ (i := 9) (N := some 26) (v := ?_) (a' := ?_) #[true, true, true, true, true, true, true, true, true, true] rfl rfl (any_of HT_.out (by kernel_rfl)) (fun _ _ _ h => h) (Or.inl ⟨by rfl, ?_⟩) ?_ ?_
                rotate_left
                · intro w'
                  go_simp
                  with_reducible rfl
                rotate_left
                · simp only [Act.put, List.setIfInBounds_toArray, List.set_cons_zero, List.set_cons_succ, i64_w, i32_w]
                  rfl
                refine done_ (done_of HT_.out (by kernel_rfl)) ?_
                try go_wp2
                go_ret
                exact ⟨by first | rfl | (simp [errW_none, errW_some] <;> rfl) | (simp [*, errW_none, errW_some] <;> rfl), by repeat (first | (with_reducible first | exact HB.out | apply below_alloc | apply pw_below_drewN | apply below_drew1) | exact HB.out)⟩
            · rw [if_neg c6] at H
              exact absurd H (by simp)
          · rw [if_neg c5] at H
            exact absurd H (by simp)
        · rw [if_neg c4] at H
          have c4b0 : decide (x5_1 < (l0.length : Int)) = false := decide_eq_false c4
          clear c4
          obtain rfl := Option.some.inj H
          go_wp2
          go_ret
          exact ⟨by first | rfl | (simp [errW_none, errW_some] <;> rfl) | (simp [*, errW_none, errW_some] <;> rfl), by repeat (first | (with_reducible first | exact HB.out | apply below_alloc | apply pw_below_drewN | apply below_drew1) | exact HB.out)⟩
  · rw [if_neg c3] at H
    have c3b0 : ((l0.length : Int) == (l1.length : Int)) = false := beq_eq_false_iff_ne.mpr c3
    have c3b1 : ((l0.length : Int) != (l1.length : Int)) = true := bne_iff_ne.mpr c3
    have c3b2 : (l0.length == l1.length) = false := by first | simpa using c3 | (simp at c3 ⊢; omega)
    obtain rfl := Option.some.inj H
    go_enter Tryd.func13, Tryd.ntmps13
    go_wp2
    go_ret
    exact ⟨by first | rfl | (simp [errW_none, errW_some] <;> rfl) | (simp [*, errW_none, errW_some] <;> rfl), by repeat (first | (with_reducible first | exact HB.out | apply below_alloc | apply pw_below_drewN | apply below_drew1) | exact HB.out)⟩
end Go.Proofs.YthnnphinfiobmaaDoor.Z
end
section
namespace Go.Proofs.YthnnphinfiobmaaDoor.Z
open Go.RowKit Go.Proofs.YthnnphinfiobmaaDoorW.PrintWords Go.Proofs.YthnnphinfiobmaaDoorW.PrintLast Go.Proofs.YthnnphinfiobmaaDoorW.PrintMore
attribute [local go_sem] max2_int min2_int max_two min_two max_three min_three max_four min_four   -- for this text's walks alone
set_option linter.unusedVariables false
set_option linter.unusedSimpArgs false
def laws_szPair.f (a0_0 : ByteArray) (a0_1 : ByteArray) (a1 : Int) : Option (Int) := if (wrap64 (a1 - (a0_0.size : Int))) < 0 then (some (-1)) else (if (wrap64 ((wrap64 (a1 - (a0_0.size : Int))) - (a0_1.size : Int))) < 0 then (some (-1)) else (some (wrap64 ((wrap64 (a1 - (a0_0.size : Int))) - (a0_1.size : Int)))))
set_option maxHeartbeats 8000000 in
set_option maxRecDepth 100000 in
theorem laws_szPair.calls (a0_0 : ByteArray) (a0_1 : ByteArray) (a1 : Int) (r : Int) (w : World) (h : laws_szPair.f a0_0 a0_1 a1 = some r) :
    Calls Tryd.prog 36 #[.agg #[.string a0_0, .string a0_1], .int .i64 a1] w fun e w' => e = .returned (.int .i64 r) ∧ Below w.heap.size w w' := by
  have hu60 := Tryd.underlying60
  have HB := Aside0.mk (Below.refl w.heap.size w)
  have H : (if (wrap64 (a1 - (a0_0.size : Int))) < 0 then (some (-1)) else (if (wrap64 ((wrap64 (a1 - (a0_0.size : Int))) - (a0_1.size : Int))) < 0 then (some (-1)) else (some (wrap64 ((wrap64 (a1 - (a0_0.size : Int))) - (a0_1.size : Int)))))) = some r := h
  clear h
  by_cases c3 : (wrap64 (a1 - (a0_0.size : Int))) < 0
  · rw [if_pos c3] at H
    have c3b0 : decide ((wrap64 (a1 - (a0_0.size : Int))) < 0) = true := decide_eq_true c3
    clear c3
    obtain rfl := Option.some.inj H
    go_enter Tryd.func36, Tryd.ntmps36
    go_wp2_with (first | ((with_reducible refine gate_dst (N := 2) rfl ?_); refine box_event ?hg (N := 2) ?hd (cs := #[.string a0_0, .string a0_1]) (t := 60) ?hr ?_; (case hd => rfl); (case hg => rfl); (case hr => first | (go_simp; done) | (go_simp; rfl)); intro gb360001 hg w4 hbox hb; have n0_ := Aside0.mk (below_step (by repeat (first | (with_reducible first | exact HB.out | apply below_alloc | apply pw_below_drewN | apply below_drew1) | exact HB.out)) hb); have n1_ := Aside0.mk (hbox); have n2_ := Aside0.mk ((by rw [hg]; exact (below_size (by repeat (first | (with_reducible first | exact HB.out | apply below_alloc | apply pw_below_drewN | apply below_drew1) | exact HB.out))) : w.heap.size ≤ gb360001)); have n3_ := Aside0.mk ((by rw [hg]; exact (below_size (by repeat (first | (with_reducible first | exact HB.out | apply below_alloc | apply pw_below_drewN | apply below_drew1) | exact HB.out))) : w.heap.size ≤ gb360001)); clear HB; have HB := n0_; have BK360001 := n1_; have GW360001 := n2_; have GE360001 := n3_; clear n0_ n1_ n2_ n3_; clear hb hbox hg; have hcz5_0 : w4.cell? ⟨gb360001, 0, none⟩ = some (.string a0_0) := (blk_cell BK360001.out 0).trans rfl; have hcz5_1 : w4.cell? ⟨gb360001, 1, none⟩ = some (.string a0_1) := (blk_cell BK360001.out 1).trans rfl; have hfz5_0 := blk_frozen BK360001.out 0; have hfz5_1 := blk_frozen BK360001.out 1))
    go_ret
    exact ⟨by first | rfl | (simp [errW_none, errW_some] <;> rfl) | (simp [*, errW_none, errW_some] <;> rfl), by repeat (first | (with_reducible first | exact HB.out | apply below_alloc | apply pw_below_drewN | apply below_drew1 | refine below_set ?_ GE360001.out) | exact HB.out)⟩
  · rw [if_neg c3] at H
    have c3b0 : decide ((wrap64 (a1 - (a0_0.size : Int))) < 0) = false := decide_eq_false c3
    clear c3
    by_cases c6 : (wrap64 ((wrap64 (a1 - (a0_0.size : Int))) - (a0_1.size : Int))) < 0
    · rw [if_pos c6] at H
      have c6b0 : decide ((wrap64 ((wrap64 (a1 - (a0_0.size : Int))) - (a0_1.size : Int))) < 0) = true := decide_eq_true c6
      clear c6
      obtain rfl := Option.some.inj H
      go_enter Tryd.func36, Tryd.ntmps36
      go_wp2_with (first | ((with_reducible refine gate_dst (N := 2) rfl ?_); refine box_event ?hg (N := 2) ?hd (cs := #[.string a0_0, .string a0_1]) (t := 60) ?hr ?_; (case hd => rfl); (case hg => rfl); (case hr => first | (go_simp; done) | (go_simp; rfl)); intro gb360001 hg w7 hbox hb; have n0_ := Aside0.mk (below_step (by repeat (first | (with_reducible first | exact HB.out | apply below_alloc | apply pw_below_drewN | apply below_drew1) | exact HB.out)) hb); have n1_ := Aside0.mk (hbox); have n2_ := Aside0.mk ((by rw [hg]; exact (below_size (by repeat (first | (with_reducible first | exact HB.out | apply below_alloc | apply pw_below_drewN | apply below_drew1) | exact HB.out))) : w.heap.size ≤ gb360001)); have n3_ := Aside0.mk ((by rw [hg]; exact (below_size (by repeat (first | (with_reducible first | exact HB.out | apply below_alloc | apply pw_below_drewN | apply below_drew1) | exact HB.out))) : w.heap.size ≤ gb360001)); clear HB; have HB := n0_; have BK360001 := n1_; have GW360001 := n2_; have GE360001 := n3_; clear n0_ n1_ n2_ n3_; clear hb hbox hg; have hcz8_0 : w7.cell? ⟨gb360001, 0, none⟩ = some (.string a0_0) := (blk_cell BK360001.out 0).trans rfl; have hcz8_1 : w7.cell? ⟨gb360001, 1, none⟩ = some (.string a0_1) := (blk_cell BK360001.out 1).trans rfl; have hfz8_0 := blk_frozen BK360001.out 0; have hfz8_1 := blk_frozen BK360001.out 1))
      go_ret
      exact ⟨by first | rfl | (simp [errW_none, errW_some] <;> rfl) | (simp [*, errW_none, errW_some] <;> rfl), by repeat (first | (with_reducible first | exact HB.out | apply below_alloc | apply pw_below_drewN | apply below_drew1 | refine below_set ?_ GE360001.out) | exact HB.out)⟩
    · rw [if_neg c6] at H
      have c6b0 : decide ((wrap64 ((wrap64 (a1 - (a0_0.size : Int))) - (a0_1.size : Int))) < 0) = false := decide_eq_false c6
      clear c6
      obtain rfl := Option.some.inj H
      go_enter Tryd.func36, Tryd.ntmps36
      go_wp2_with (first | ((with_reducible refine gate_dst (N := 2) rfl ?_); refine box_event ?hg (N := 2) ?hd (cs := #[.string a0_0, .string a0_1]) (t := 60) ?hr ?_; (case hd => rfl); (case hg => rfl); (case hr => first | (go_simp; done) | (go_simp; rfl)); intro gb360001 hg w9 hbox hb; have n0_ := Aside0.mk (below_step (by repeat (first | (with_reducible first | exact HB.out | apply below_alloc | apply pw_below_drewN | apply below_drew1) | exact HB.out)) hb); have n1_ := Aside0.mk (hbox); have n2_ := Aside0.mk ((by rw [hg]; exact (below_size (by repeat (first | (with_reducible first | exact HB.out | apply below_alloc | apply pw_below_drewN | apply below_drew1) | exact HB.out))) : w.heap.size ≤ gb360001)); have n3_ := Aside0.mk ((by rw [hg]; exact (below_size (by repeat (first | (with_reducible first | exact HB.out | apply below_alloc | apply pw_below_drewN | apply below_drew1) | exact HB.out))) : w.heap.size ≤ gb360001)); clear HB; have HB := n0_; have BK360001 := n1_; have GW360001 := n2_; have GE360001 := n3_; clear n0_ n1_ n2_ n3_; clear hb hbox hg; have hcz10_0 : w9.cell? ⟨gb360001, 0, none⟩ = some (.string a0_0) := (blk_cell BK360001.out 0).trans rfl; have hcz10_1 : w9.cell? ⟨gb360001, 1, none⟩ = some (.string a0_1) := (blk_cell BK360001.out 1).trans rfl; have hfz10_0 := blk_frozen BK360001.out 0; have hfz10_1 := blk_frozen BK360001.out 1))
      go_ret
      exact ⟨by first | rfl | (simp [errW_none, errW_some] <;> rfl) | (simp [*, errW_none, errW_some] <;> rfl), by repeat (first | (with_reducible first | exact HB.out | apply below_alloc | apply pw_below_drewN | apply below_drew1 | refine below_set ?_ GE360001.out) | exact HB.out)⟩
end Go.Proofs.YthnnphinfiobmaaDoor.Z
end
section
namespace Go.Proofs.YthnnphinfiobmaaDoor.Z
open Go.RowKit Go.Proofs.YthnnphinfiobmaaDoorW.PrintWords Go.Proofs.YthnnphinfiobmaaDoorW.PrintLast Go.Proofs.YthnnphinfiobmaaDoorW.PrintMore
attribute [local go_sem] max2_int min2_int max_two min_two max_three min_three max_four min_four   -- for this text's walks alone
set_option linter.unusedVariables false
set_option linter.unusedSimpArgs false
def laws_szPairS.l0 : Nat → List (S60) → Int → Int → Option (Int)
  | 0, _, _, _ => none
  | k + 1, x0, x1, x5 => if x5 < (x0.length : Int) then (if 0 ≤ x5 then ((laws_szPair.f ((rd_T60 x0 x5).f0) ((rd_T60 x0 x5).f1) x1).bind fun t90002 => (if t90002 < 0 then (some (-1)) else (laws_szPairS.l0 k x0 t90002 (wrap64 (x5 + 1))))) else (none)) else (some x1)
def laws_szPairS.f (k : Nat) (l0 : List (S60)) (a1 : Int) : Option (Int) := if (wrap64 (a1 - (l0.length : Int))) < 0 then (some (-1)) else (laws_szPairS.l0 k l0 (wrap64 (a1 - (l0.length : Int))) 0)
theorem laws_szPairS.mono_l : ∀ k, (∀ y0 y1 y2, LeO (laws_szPairS.l0 k y0 y1 y2) (laws_szPairS.l0 (k + 1) y0 y1 y2))
  | 0 => fun _ _ _ r h => by simp [laws_szPairS.l0] at h
  | k + 1 => by
    have ih0 := laws_szPairS.mono_l k
    · intro y0 y1 y2
      unfold laws_szPairS.l0
      repeat' first
      | (with_reducible exact ih0 _ _ _)
      | (with_reducible exact LeO.refl _)
      | (with_reducible exact LeO.none _)
      | (with_reducible refine LeO.ite ?_ ?_)
      | (with_reducible refine LeO.bind ?_ (fun _ => ?_))
      | exact ih0 _ _ _
      | exact LeO.none _
      | refine LeO.ite ?_ ?_
      | refine LeO.bind ?_ (fun _ => ?_)
theorem laws_szPairS.mono : ∀ a0 a1 k, LeO (laws_szPairS.f k a0 a1) (laws_szPairS.f (k + 1) a0 a1) := by
  intro a0 a1 k
  have ih0 := laws_szPairS.mono_l k
  unfold laws_szPairS.f
  repeat' first
      | (with_reducible exact ih0 _ _ _)
      | (with_reducible exact LeO.refl _)
      | (with_reducible exact LeO.none _)
      | (with_reducible refine LeO.ite ?_ ?_)
      | (with_reducible refine LeO.bind ?_ (fun _ => ?_))
      | exact ih0 _ _ _
      | exact LeO.none _
      | refine LeO.ite ?_ ?_
      | refine LeO.bind ?_ (fun _ => ?_)
set_option maxHeartbeats 8000000 in
set_option maxRecDepth 100000 in
theorem laws_szPairS.calls (k : Nat) (A0 : Option Addr) (c0 : Nat) (l0 : List (S60)) (a1 : Int) (r : Int) (w : World) (hr0 : Kd.C k60 w A0 l0.length l0) (hc0 : l0.length ≤ c0) (h : laws_szPairS.f k l0 a1 = some r) :
    Calls Tryd.prog 9 #[.slice A0 l0.length c0, .int .i64 a1] w fun e w' => e = .returned (.int .i64 r) ∧ Below w.heap.size w w' := by
  have hu60 := Tryd.underlying60
  have HR0 := Aside0.mk hr0
  have HC0 := Aside0.mk hc0
  clear hr0 hc0
  have HB := Aside0.mk (Below.refl w.heap.size w)
  have H : (if (wrap64 (a1 - (l0.length : Int))) < 0 then (some (-1)) else (laws_szPairS.l0 k l0 (wrap64 (a1 - (l0.length : Int))) 0)) = some r := h
  clear h
  by_cases c3 : (wrap64 (a1 - (l0.length : Int))) < 0
  · rw [if_pos c3] at H
    have c3b0 : decide ((wrap64 (a1 - (l0.length : Int))) < 0) = true := decide_eq_true c3
    clear c3
    obtain rfl := Option.some.inj H
    go_enter Tryd.func9, Tryd.ntmps9
    go_wp2
    go_ret
    exact ⟨by first | rfl | (simp [errW_none, errW_some] <;> rfl) | (simp [*, errW_none, errW_some] <;> rfl), by repeat (first | (with_reducible first | exact HB.out | apply below_alloc | apply pw_below_drewN | apply below_drew1) | exact HB.out)⟩
  · rw [if_neg c3] at H
    have c3b0 : decide ((wrap64 (a1 - (l0.length : Int))) < 0) = false := decide_eq_false c3
    clear c3
    have H' := Aside0.mk H
    clear H
    go_enter Tryd.func9, Tryd.ntmps9
    go_wp2
    go_loopg [1, 5] k (fun kq v1 v5 w' => ∃ (x1_1 : Int) (x5_1 : Int), v1 = .int .i64 x1_1 ∧ v5 = .int .i64 x5_1 ∧ Aside0 (laws_szPairS.l0 kq l0 x1_1 x5_1 = some r) ∧ Aside0 (kq ≤ k) ∧ Aside0 (Below w.heap.size w w'))
    case atStart => exact ⟨(wrap64 (a1 - (l0.length : Int))), (0), (by first | rfl | (simp; done) | (simp [*]; done)), (by first | rfl | (simp; done) | (simp [*]; done)), H', ⟨Nat.le_refl _⟩, ⟨by repeat (first | (with_reducible first | exact HB.out | apply below_alloc | apply pw_below_drewN | apply below_drew1) | exact HB.out)⟩⟩
    case round =>
      clear H'
      try clear p2
      try clear c3
      try clear c3b0
      obtain ⟨x1_1, x5_1, rfl, rfl, HA, HK1, HB⟩ := hrel
      cases gk with
      | zero => exact absurd HA.out (by simp [laws_szPairS.l0])
      | succ k1 =>
        have H := HA.out
        clear HA
        simp only [laws_szPairS.l0] at H
        by_cases c4 : x5_1 < (l0.length : Int)
        · rw [if_pos c4] at H
          have c4b0 : decide (x5_1 < (l0.length : Int)) = true := decide_eq_true c4
          clear c4
          by_cases c5 : 0 ≤ x5_1
          · rw [if_pos c5] at H
            have c5b0 : decide (0 ≤ x5_1) = true := decide_eq_true c5
            clear c5
            replace H := Option.bind_eq_some_iff.mp H
            obtain ⟨t90002, A60, H⟩ := H
            replace H : (if t90002 < 0 then (some (-1)) else (laws_szPairS.l0 k1 l0 t90002 (wrap64 (x5_1 + 1)))) = some r := H
            have A6 := Aside0.mk A60
            clear A60
            by_cases c7 : t90002 < 0
            · rw [if_pos c7] at H
              have c7b0 : decide (t90002 < 0) = true := decide_eq_true c7
              clear c7
              obtain rfl := Option.some.inj H
              have p90001 : 0 ≤ (x5_1 : Int) := of_decide_eq_true (by first | (with_reducible assumption) | assumption)
              have q90001 : x5_1 < (l0.length : Int) := of_decide_eq_true (by first | (with_reducible assumption) | assumption)
              obtain ⟨ad90001, e90001, hx90001_0, hx90001_1⟩ := at_T60 HR0.out x5_1 p90001 q90001
              cases e90001
              replace hx90001_0 := (HB.out.cell (World.block_lt_of_cell? w _ hx90001_0)).trans hx90001_0
              replace hx90001_1 := (HB.out.cell (World.block_lt_of_cell? w _ hx90001_1)).trans hx90001_1
              replace p90001 := eq_true p90001
              replace q90001 := eq_true q90001
              go_wp2_with (first | ((with_reducible refine gate_callee (f := 36) rfl ?_); refine goesL_ (some 23) rfl rfl Tryd.func36 (by kernel_rfl) rfl #[.agg #[.string ((rd_T60 l0 x5_1).f0), .string ((rd_T60 l0 x5_1).f1)], .int .i64 x1_1] rfl (by (try simp only [List.map_toArray, List.map_cons, List.map_nil]); first | done | rfl | (simp only [List.length_drop, List.length_take]; rfl)) ?_; (with_reducible refine (laws_szPair.calls ((rd_T60 l0 x5_1).f0) ((rd_T60 l0 x5_1).f1) x1_1 t90002 _ A6.out).mono ?_); rintro e w8 ⟨rfl, hb⟩; refine ⟨_, rfl, ?_⟩; have n0_ := Aside0.mk (below_step (by repeat (first | (with_reducible first | exact HB.out | apply below_alloc | apply pw_below_drewN | apply below_drew1) | exact HB.out)) hb); clear HB; have HB := n0_; clear n0_; (try clear hb); (try clear hb2); (try clear hk); (try clear hi)))
              go_ret
              exact ⟨by first | rfl | (simp [errW_none, errW_some] <;> rfl) | (simp [*, errW_none, errW_some] <;> rfl), by repeat (first | (with_reducible first | exact HB.out | apply below_alloc | apply pw_below_drewN | apply below_drew1) | exact HB.out)⟩
            · rw [if_neg c7] at H
              have c7b0 : decide (t90002 < 0) = false := decide_eq_false c7
              clear c7
              have H' := Aside0.mk H
              clear H
              have p90001 : 0 ≤ (x5_1 : Int) := of_decide_eq_true (by first | (with_reducible assumption) | assumption)
              have q90001 : x5_1 < (l0.length : Int) := of_decide_eq_true (by first | (with_reducible assumption) | assumption)
              obtain ⟨ad90001, e90001, hx90001_0, hx90001_1⟩ := at_T60 HR0.out x5_1 p90001 q90001
              cases e90001
              replace hx90001_0 := (HB.out.cell (World.block_lt_of_cell? w _ hx90001_0)).trans hx90001_0
              replace hx90001_1 := (HB.out.cell (World.block_lt_of_cell? w _ hx90001_1)).trans hx90001_1
              replace p90001 := eq_true p90001
              replace q90001 := eq_true q90001
              go_wp2_with (first | ((with_reducible refine gate_callee (f := 36) rfl ?_); refine goesL_ (some 23) rfl rfl Tryd.func36 (by kernel_rfl) rfl #[.agg #[.string ((rd_T60 l0 x5_1).f0), .string ((rd_T60 l0 x5_1).f1)], .int .i64 x1_1] rfl (by (try simp only [List.map_toArray, List.map_cons, List.map_nil]); first | done | rfl | (simp only [List.length_drop, List.length_take]; rfl)) ?_; (with_reducible refine (laws_szPair.calls ((rd_T60 l0 x5_1).f0) ((rd_T60 l0 x5_1).f1) x1_1 t90002 _ A6.out).mono ?_); rintro e w9 ⟨rfl, hb⟩; refine ⟨_, rfl, ?_⟩; have n0_ := Aside0.mk (below_step (by repeat (first | (with_reducible first | exact HB.out | apply below_alloc | apply pw_below_drewN | apply below_drew1) | exact HB.out)) hb); clear HB; have HB := n0_; clear n0_; (try clear hb); (try clear hb2); (try clear hk); (try clear hi)))
              go_roundg k1
              case measure => have := HK1.out; omega
              case rel => exact ⟨(t90002), (wrap64 (x5_1 + 1)), (by first | rfl | (simp; done) | (simp [*]; done)), (by first | rfl | (simp; done) | (simp [*]; done)), H', ⟨by have := HK1.out; omega⟩, ⟨by repeat (first | (with_reducible first | exact HB.out | apply below_alloc | apply pw_below_drewN | apply below_drew1) | exact HB.out)⟩⟩
          · rw [if_neg c5] at H
            exact absurd H (by simp)
        · rw [if_neg c4] at H
          have c4b0 : decide (x5_1 < (l0.length : Int)) = false := decide_eq_false c4
          clear c4
          obtain rfl := Option.some.inj H
          go_wp2
          go_ret
          exact ⟨by first | rfl | (simp [errW_none, errW_some] <;> rfl) | (simp [*, errW_none, errW_some] <;> rfl), by repeat (first | (with_reducible first | exact HB.out | apply below_alloc | apply pw_below_drewN | apply below_drew1) | exact HB.out)⟩
end Go.Proofs.YthnnphinfiobmaaDoor.Z
end
