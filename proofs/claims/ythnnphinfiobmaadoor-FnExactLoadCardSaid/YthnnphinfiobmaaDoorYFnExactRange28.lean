/- Own texts and the print's words that they use, joined by a program of this session. -/
import Derived.Test.YthnnphinfiobmaaDoorYFnExactRange31
import Derived.Test.YthnnphinfiobmaaDoorYFnExactRange27
import Derived.Test.YthnnphinfiobmaaDoorYFnExactRange25
import Derived.Test.YthnnphinfiobmaaDoorYFnExactRange21
import Derived.Deep.CutBlock
section
namespace Go.Proofs.YthnnphinfiobmaaDoor.Z
open Go.RowKit Go.Proofs.YthnnphinfiobmaaDoor Go.Proofs.YthnnphinfiobmaaDoorW.PrintWords Go.Proofs.YthnnphinfiobmaaDoorW.PrintLast
set_option linter.unusedVariables false
set_option linter.unusedSimpArgs false
theorem l3PoolOk_f (W : Int) (l : List ByteArray) : spec_l3PoolOk.f W l = some (poolOk W l) := by
 unfold spec_l3PoolOk.f; rw [l1Width_f, Option.bind_some]; unfold poolOk widB
 by_cases h1 : 1 ≤ W ∧ W ≤ 32
 ·rw [decide_eq_true h1, if_pos rfl]; refine congrArg some ?_; rw [decide_eq_decide]; omega
 ·rw [decide_eq_false h1, if_neg (by decide), decide_eq_false (by omega)]
def hashS (W : Int) (l : List ByteArray) : List ByteArray := l.map fun s => digV (nText s) W
theorem l3Hashes_loop (W : Int) (l : List ByteArray) (hl : l.length ≤ 1048576) (hs : ∀ s ∈ l, s.size ≤ 1048576) : ∀ (d i k : Nat), l.length = i + d → d + 1050000 < k → spec_l3Hashes.l0 k (hashS W (l.take i)) (i : Int) W l = some (hashS W l) := by
 intro d
 induction d with
 | zero =>
  intro i k h hk; obtain ⟨k, rfl⟩ : ∃ j, k = j + 1 := ⟨k - 1, by omega⟩
  simp only [spec_l3Hashes.l0]; rw [if_neg (by omega), List.take_of_length_le (by omega)]
 | succ d ih =>
  intro i k h hk; obtain ⟨k, rfl⟩ : ∃ j, k = j + 1 := ⟨k - 1, by omega⟩
  simp only [spec_l3Hashes.l0]; have hsi := hs l[i] (List.getElem_mem _); have hn : (nText l[i]).size = 1 + l[i].size := by unfold nText; rw [ByteArray.size_append]; rfl
  have ht : spec_l2Text.f l[i] = some (nText l[i]) := by unfold spec_l2Text.f; rw [if_pos (by omega)]; rfl
  rw [if_pos (by omega), if_pos (by omega), rd_at _ _ _ (by omega), ht, Option.bind_some, spec_Digest_f _ _ (by omega) _ (by omega), Option.bind_some]; have hlen : (hashS W (l.take i)).length = i := by unfold hashS; rw [List.length_map, List.length_take]; omega
  rw [if_pos (by omega), wN (n := i + 1) (by omega) (by omega)]; have := ih (i + 1) k (by omega) (by omega); rw [List.take_succ_eq_append_getElem (by omega)] at this; unfold hashS at this ⊢; rw [List.map_append] at this; exact this
theorem l3Hashes_f (W : Int) (l : List ByteArray) (hl : small l) (k : Nat) (hk : 2100000 < k) : spec_l3Hashes.f k W l = some (hashS W l) := by
 unfold spec_l3Hashes.f; exact l3Hashes_loop W l hl.1 hl.2 l.length 0 k (by omega) (by have := hl.1; omega)
def firstS : List ByteArray → ByteArray → Option Nat
 | [], _ => none
 | h :: r, s => if h.toList = s.toList then some 0 else (firstS r s).map (· + 1)
def finR : ByteArray × ByteArray × ByteArray × ByteArray × Bool → ByteArray × ByteArray × ByteArray × ByteArray × Int
 | (a, b, c, d, ok) => if ok = true then (a, b, c, d, 0) else (⟨#[]⟩, ⟨#[]⟩, ⟨#[]⟩, ⟨#[]⟩, 3)
def findS (W : Int) (l H : List ByteArray) (s : ByteArray) (i : Nat) : ByteArray × ByteArray × ByteArray × ByteArray × Int :=
 match firstS H s with
 | none => (⟨#[]⟩, ⟨#[]⟩, ⟨#[]⟩, ⟨#[]⟩, 2)
 | some j => finR (decT (decI (l.getD (i + j) ⟨#[]⟩) W))
theorem l3Find_loop (W : Int) (l H : List ByteArray) (s : ByteArray) (hH : H.length = l.length) (hl : l.length ≤ 1048576) (hs : ∀ s ∈ l, s.size ≤ 1048576) : ∀ (d i k : Nat), l.length = i + d → d < k → spec_l3Find.l0 k H s (i : Int) W l = some (findS W l (H.drop i) s i) := by
 intro d
 induction d with
 | zero =>
  intro i k h hk; obtain ⟨k, rfl⟩ : ∃ j, k = j + 1 := ⟨k - 1, by omega⟩
  simp only [spec_l3Find.l0]; rw [if_neg (by omega), List.drop_of_length_le (by omega)]; rfl
 | succ d ih =>
  intro i k h hk; obtain ⟨k, rfl⟩ : ∃ j, k = j + 1 := ⟨k - 1, by omega⟩
  simp only [spec_l3Find.l0]; have hd : H.drop i = H[i] :: H.drop (i + 1) := List.drop_eq_getElem_cons (by omega); rw [if_pos (by omega), if_pos (by omega), rd_at _ H _ (by omega), hd]
  by_cases he : H[i].toList = s.toList
  ·rw [if_pos he, if_pos (by omega), rd_at _ l _ (by omega)]; have hsi := hs l[i] (List.getElem_mem _); unfold spec_DecodeNode.f; rw [if_pos (by omega), Option.bind_some]; unfold findS firstS; rw [if_pos he]; dsimp only; rw [Nat.add_zero, List.getD_eq_getElem?_getD, List.getElem?_eq_getElem (by omega), Option.getD_some]; obtain ⟨a, b, c, d, ok⟩ := decT (decI l[i] W)
   cases ok <;> rfl
  ·rw [if_neg he, wN (n := i + 1) (by omega) (by omega), ih (i + 1) k (by omega) (by omega)]; unfold findS; rw [show firstS (H[i] :: H.drop (i + 1)) s = (firstS (H.drop (i + 1)) s).map (· + 1) by rw [firstS, if_neg he]]
   cases firstS (H.drop (i + 1)) s with
   | none => rfl
   | some j => simp only [Option.map_some]; rw [show i + (j + 1) = i + 1 + j by omega]
theorem strOfNums_ints (l : List Int) (hb : ∀ x ∈ l, 0 ≤ x ∧ x < 256) (t : List UInt8) : (strOfNums l).data.toList = t ↔ l = ints t := by
 rw [strOfNums_data]
 constructor
 ·rintro rfl; unfold ints; rw [List.map_map]; refine (List.map_id' l).symm.trans (List.map_congr_left fun x hx => ?_); have := hb x hx; simp only [Function.comp]; rw [UInt8.toNat_ofNat']; omega
 ·rintro rfl; unfold ints; rw [List.map_map]; refine (List.map_congr_left fun x hx => ?_).trans (List.map_id' t); simp
theorem cut_root (s root : ByteArray) (n : Nat) (hn1 : 1 ≤ n) (hn2 : n ≤ 32) (hr : root.size = n) : cutL s n = rootL root ↔ (digV (nText s) n).toList = root.toList := by
 have hl : root.data.toList.length = n := hr; have hw : widB (n : Int) = true := by unfold widB; rw [decide_eq_true_eq]; omega
 rw [digV_yes hw, Int.toNat_natCast]; unfold shaV; rw [← strOfNums_take, ByteArray.toList_eq, ByteArray.toList_eq]; rw [strOfNums_ints _ (fun x hx => shaL_mem _ x (List.mem_of_mem_take hx))]; unfold cutL rootL; rw [hr]
 constructor
 ·intro e; exact (List.append_inj e (by rw [List.length_take, shaL_length, ints_length, hl]; omega)).1
 ·intro e; rw [e]
theorem first_cuts (n : Nat) (hn1 : 1 ≤ n) (hn2 : n ≤ 32) (root : ByteArray) (hr : root.size = n) : ∀ l : List ByteArray, firstAt (cuts n l) (rootL root) = firstS (hashS n l) root
 | [] => rfl
 | s :: r => by
  have ih := first_cuts n hn1 hn2 root hr r; have e := cut_root s root n hn1 hn2 hr; unfold cuts hashS at ih ⊢; rw [List.map_cons, List.map_cons, firstAt, firstS, ih]
  by_cases h : cutL s n = rootL root
  ·rw [if_pos h, if_pos (e.1 h)]
  ·rw [if_neg h, if_neg (fun h2 => h (e.2 h2))]
theorem findR_S (n : Nat) (hn1 : 1 ≤ n) (hn2 : n ≤ 32) (root : ByteArray) (hr : root.size = n) (l : List ByteArray) : findR n l (cuts n l) root = findS n l (hashS n l) root 0 := by
 unfold findR findS; rw [first_cuts n hn1 hn2 root hr l]
 cases firstS (hashS n l) root with
 | none => rfl
 | some j =>
  dsimp only; rw [Nat.zero_add]
  rcases decI (l.getD j ⟨#[]⟩) n with _ | ⟨a, b, c, d⟩ <;> rfl
theorem l3Find_f (W : Int) (l : List ByteArray) (s : ByteArray) (hl : small l) (k : Nat) (hk : 1048577 < k) : spec_l3Find.f k W l (hashS W l) s = some (findS W l (hashS W l) s 0) := by
 unfold spec_l3Find.f; exact l3Find_loop W l (hashS W l) s (by unfold hashS; rw [List.length_map]) hl.1 hl.2 l.length 0 k (by omega) (by have := hl.1; omega)
end Go.Proofs.YthnnphinfiobmaaDoor.Z
end
section
namespace Go.Proofs.YthnnphinfiobmaaDoor.Z
open Go.RowKit Go.Proofs.YthnnphinfiobmaaDoorW.PrintWords Go.Proofs.YthnnphinfiobmaaDoorW.PrintLast Go.Proofs.YthnnphinfiobmaaDoorW.PrintMore
attribute [local go_sem] max2_int min2_int max_two min_two max_three min_three max_four min_four
set_option linter.unusedVariables false
set_option linter.unusedSimpArgs false
def spec_l4Wants.j0 : Nat → ByteArray → ByteArray → Bool → ByteArray → ByteArray → Option (Bool)
 | 0, _, _, _, _, _ => none
 | k + 1, x1, x2, x15, x910002000, x910002001 => if x15 = true then (some false) else (if (x910002001.size : Int) > 0 then ((spec_l1Less.f k x1 x910002001).bind fun t910003 => (if t910003 = true then (if (x910002000.size : Int) = 0 then (some true) else (if (x2.size : Int) = 0 then (some true) else ((spec_l1Less.f k x910002000 x2).bind fun t910004 => (some t910004)))) else (some false))) else (if (x910002000.size : Int) = 0 then (some true) else (if (x2.size : Int) = 0 then (some true) else ((spec_l1Less.f k x910002000 x2).bind fun t910005 => (some t910005)))))
def spec_l4Wants.f (k : Nat) (a0_0 : ByteArray) (a0_1 : ByteArray) (a1 : ByteArray) (a2 : ByteArray) : Option (Bool) := if (a2.size : Int) > 0 then ((spec_l1Less.f k a1 a2).bind fun t910002 => (spec_l4Wants.j0 k a1 a2 (!t910002) a0_0 a0_1)) else (spec_l4Wants.j0 k a1 a2 false a0_0 a0_1)
set_option maxHeartbeats 8000000 in
set_option maxRecDepth 100000 in
theorem spec_l4Wants.calls (k : Nat) (a0_0 : ByteArray) (a0_1 : ByteArray) (a1 : ByteArray) (a2 : ByteArray) (r : Bool) (w : World) (h : spec_l4Wants.f k a0_0 a0_1 a1 a2 = some r) :
  Calls Tryd.prog 91 #[.agg #[.string a0_0, .string a0_1], .string a1, .string a2] w fun e w' => e = .returned (.bool r) ∧ Below w.heap.size w w' := by
 have hu86 := Tryd.underlying86; have HB := Aside0.mk (Below.refl w.heap.size w); have H : (if (a2.size : Int) > 0 then ((spec_l1Less.f k a1 a2).bind fun t910002 => (spec_l4Wants.j0 k a1 a2 (!t910002) a0_0 a0_1)) else (spec_l4Wants.j0 k a1 a2 false a0_0 a0_1)) = some r := h; clear h; have HC4 := Aside0.mk H; clear H
 go_enter Tryd.func91, Tryd.ntmps91
 go_upto_region 1 with (first | ((with_reducible refine gate_dst (N := 3) rfl ?_); (try (refine gate_guard (by rfl) ?_; dsimp only)); refine box_event ?hg (N := 3) ?hd (cs := #[.string a0_0, .string a0_1]) (t := 86) ?hr ?_; (case hd => rfl); (case hg => rfl); (case hr => first | (go_simp; done) | (go_simp; rfl)); intro gb910001 hg w5 hbox hb; have n0_ := Aside0.mk (below_step zq_0 hb); have n1_ := Aside0.mk (hbox); have n2_ := Aside0.mk ((by rw [hg]; exact (below_size zq_0) : w.heap.size ≤ gb910001)); have n3_ := Aside0.mk ((by rw [hg]; exact (below_size zq_0) : w.heap.size ≤ gb910001)); clear HB; have HB := n0_; have BK910001 := n1_; have GW910001 := n2_; have GE910001 := n3_; clear n0_ n1_ n2_ n3_; clear hb hbox hg))
 (try simp only [Act.put, List.setIfInBounds_toArray, List.set_cons_zero, List.set_cons_succ])
 go_cut [15] (fun v15 wc => ∃ (kq : Nat) (x15_3 : Bool), v15 = .bool x15_3 ∧ Aside0 (spec_l4Wants.j0 kq a1 a2 x15_3 a0_0 a0_1 = some r) ∧ Aside0 (kq ≤ k) ∧ Aside0 (wc.heap[gb910001]? = some (.cells #[.string a0_0, .string a0_1] 86 (0, 0))) ∧ Aside0 (Below w.heap.size w wc))
 case first =>
  have H := HC4.out; clear HC4
  by_cases c6 : (a2.size : Int) > 0
  ·rw [if_pos c6] at H; have c6b0 : decide (0 < (a2.size : Int)) = true := decide_eq_true c6; have c6b1 : decide (0 < a2.size) = true := decide_eq_true (by omega); clear c6; (first | rw [c6b0] | (simp only [i64_w, i32_w]; rw [c6b0]) | skip); replace H := Option.bind_eq_some_iff.mp H; obtain ⟨t910002, A70, H⟩ := H; replace H : (spec_l4Wants.j0 k a1 a2 (!t910002) a0_0 a0_1) = some r := H; have A7 := Aside0.mk A70; clear A70; have H' := Aside0.mk H; clear H
   go_wp2_with (first | (go_at_call 82; (with_reducible refine (spec_l1Less.calls k a1 a2 t910002 _ A7.out).mono ?_); rintro e w' ⟨rfl, ⟨nd, rfl⟩⟩))
   go_meet
   case rel => exact ⟨_, (!t910002), zq_11, H', ⟨by first | omega | exact Nat.le_refl _⟩, ⟨by (with_reducible repeat (first | refine blk_drewN ?_ _ | refine blk_drew ?_ | refine blk_alloc ?_ _)); exact BK910001.out⟩, ⟨by repeat (first | (with_reducible first | exact HB.out | apply below_alloc | apply pw_below_drewN | apply below_drew1 | refine below_set ?_ GE910001.out) | exact HB.out)⟩⟩
  ·rw [if_neg c6] at H; have c6b0 : decide (0 < (a2.size : Int)) = false := decide_eq_false c6; have c6b1 : decide (0 < a2.size) = false := decide_eq_false (by omega); clear c6; (first | rw [c6b0] | (simp only [i64_w, i32_w]; rw [c6b0]) | skip); have H' := Aside0.mk H; clear H
   go_wp2
   go_meet
   case rel => exact ⟨_, (false), zq_11, H', ⟨by first | omega | exact Nat.le_refl _⟩, ⟨by (with_reducible repeat (first | refine blk_drewN ?_ _ | refine blk_drew ?_ | refine blk_alloc ?_ _)); exact BK910001.out⟩, ⟨by repeat (first | (with_reducible first | exact HB.out | apply below_alloc | apply pw_below_drewN | apply below_drew1 | refine below_set ?_ GE910001.out) | exact HB.out)⟩⟩
 case rest =>
  clear HC4
  try clear p2
  try clear c6
  try clear c6b0
  try clear c6b1
  obtain ⟨kq, x15_3, rfl, HA, HJ3, BK910001, HB⟩ := hcut
  cases kq with
  | zero => exact absurd HA.out (by simp [spec_l4Wants.j0])
  | succ kj3 =>
   have H := HA.out; clear HA; simp only [spec_l4Wants.j0] at H
   by_cases c8 : x15_3 = true
   ·subst c8; have H1 : (some false) = some r := by rw [if_pos rfl] at H; exact H
    clear H; have H := H1; clear H1; obtain rfl := Option.some.inj H
    go_wp2
    go_ret
    exact ⟨by first | rfl | (simp [errW_none, errW_some] <;> rfl) | (simp [*, errW_none, errW_some] <;> rfl), by repeat (first | (with_reducible first | exact HB.out | apply below_alloc | apply pw_below_drewN | apply below_drew1 | refine below_set ?_ GE910001.out) | exact HB.out)⟩
   ·replace c8 := Bool.eq_false_iff.mpr c8; subst c8; have H1 : (if (a0_1.size : Int) > 0 then ((spec_l1Less.f kj3 a1 a0_1).bind fun t910003 => (if t910003 = true then (if (a0_0.size : Int) = 0 then (some true) else (if (a2.size : Int) = 0 then (some true) else ((spec_l1Less.f kj3 a0_0 a2).bind fun t910004 => (some t910004)))) else (some false))) else (if (a0_0.size : Int) = 0 then (some true) else (if (a2.size : Int) = 0 then (some true) else ((spec_l1Less.f kj3 a0_0 a2).bind fun t910005 => (some t910005))))) = some r := by rw [if_neg (show ¬ (false = true) by decide)] at H; exact H
    clear H; have H := H1; clear H1
    by_cases c9 : (a0_1.size : Int) > 0
    ·rw [if_pos c9] at H; have c9b0 : decide (0 < (a0_1.size : Int)) = true := decide_eq_true c9; have c9b1 : decide (0 < a0_1.size) = true := decide_eq_true (by omega); clear c9; replace H := Option.bind_eq_some_iff.mp H; obtain ⟨t910003, A100, H⟩ := H; replace H : (if t910003 = true then (if (a0_0.size : Int) = 0 then (some true) else (if (a2.size : Int) = 0 then (some true) else ((spec_l1Less.f kj3 a0_0 a2).bind fun t910004 => (some t910004)))) else (some false)) = some r := H; have A10 := Aside0.mk A100; clear A100
     by_cases c11 : t910003 = true
     ·subst c11; have H1 : (if (a0_0.size : Int) = 0 then (some true) else (if (a2.size : Int) = 0 then (some true) else ((spec_l1Less.f kj3 a0_0 a2).bind fun t910004 => (some t910004)))) = some r := by rw [if_pos rfl] at H; exact H
      clear H; have H := H1; clear H1
      by_cases c12 : (a0_0.size : Int) = 0
      ·rw [if_pos c12] at H; have c12b0 : ((a0_0.size : Int) == 0) = true := beq_iff_eq.mpr c12; have c12b1 : ((a0_0.size : Int) != 0) = false := bne_eq_false_iff_eq.mpr c12; clear c12; obtain rfl := Option.some.inj H; have hcz13_0 : wc.cell? ⟨gb910001, 0, none⟩ = some (.string a0_0) := (blk_cell BK910001.out 0).trans rfl; have hcz13_1 : wc.cell? ⟨gb910001, 1, none⟩ = some (.string a0_1) := (blk_cell BK910001.out 1).trans rfl; have hfz13_0 := blk_frozen BK910001.out 0; have hfz13_1 := blk_frozen BK910001.out 1
       go_wp2_with (first | (go_at_call 82; (with_reducible refine (spec_l1Less.calls kj3 a1 a0_1 true _ A10.out).mono ?_); rintro e w' ⟨rfl, ⟨nd, rfl⟩⟩))
       go_ret
       exact ⟨by first | rfl | (simp [errW_none, errW_some] <;> rfl) | (simp [*, errW_none, errW_some] <;> rfl), by repeat (first | (with_reducible first | exact HB.out | apply below_alloc | apply pw_below_drewN | apply below_drew1 | refine below_set ?_ GE910001.out) | exact HB.out)⟩
      ·rw [if_neg c12] at H; have c12b0 : ((a0_0.size : Int) == 0) = false := beq_eq_false_iff_ne.mpr c12; have c12b1 : ((a0_0.size : Int) != 0) = true := bne_iff_ne.mpr c12
       by_cases c14 : (a2.size : Int) = 0
       ·rw [if_pos c14] at H; have c14b0 : ((a2.size : Int) == 0) = true := beq_iff_eq.mpr c14; have c14b1 : ((a2.size : Int) != 0) = false := bne_eq_false_iff_eq.mpr c14; clear c14; obtain rfl := Option.some.inj H; have hcz15_0 : wc.cell? ⟨gb910001, 0, none⟩ = some (.string a0_0) := (blk_cell BK910001.out 0).trans rfl; have hcz15_1 : wc.cell? ⟨gb910001, 1, none⟩ = some (.string a0_1) := (blk_cell BK910001.out 1).trans rfl; have hfz15_0 := blk_frozen BK910001.out 0; have hfz15_1 := blk_frozen BK910001.out 1
        go_wp2_with (first | (go_at_call 82; (with_reducible refine (spec_l1Less.calls kj3 a1 a0_1 true _ A10.out).mono ?_); rintro e w' ⟨rfl, ⟨nd, rfl⟩⟩))
        go_ret
        exact ⟨by first | rfl | (simp [errW_none, errW_some] <;> rfl) | (simp [*, errW_none, errW_some] <;> rfl), by repeat (first | (with_reducible first | exact HB.out | apply below_alloc | apply pw_below_drewN | apply below_drew1 | refine below_set ?_ GE910001.out) | exact HB.out)⟩
       ·rw [if_neg c14] at H; have c14b0 : ((a2.size : Int) == 0) = false := beq_eq_false_iff_ne.mpr c14; have c14b1 : ((a2.size : Int) != 0) = true := bne_iff_ne.mpr c14; replace H := Option.bind_eq_some_iff.mp H; obtain ⟨t910004, A160, H⟩ := H; replace H : (some t910004) = some r := H; have A16 := Aside0.mk A160; clear A160; obtain rfl := Option.some.inj H; have hcz17_0 : wc.cell? ⟨gb910001, 0, none⟩ = some (.string a0_0) := (blk_cell BK910001.out 0).trans rfl; have hcz17_1 : wc.cell? ⟨gb910001, 1, none⟩ = some (.string a0_1) := (blk_cell BK910001.out 1).trans rfl; have hfz17_0 := blk_frozen BK910001.out 0; have hfz17_1 := blk_frozen BK910001.out 1
        go_wp2_with (first | (go_at_call 82; (with_reducible refine (spec_l1Less.calls kj3 a1 a0_1 true _ A10.out).mono ?_); rintro e w' ⟨rfl, ⟨nd, rfl⟩⟩) | (go_at_call 82; (with_reducible refine (spec_l1Less.calls kj3 a0_0 a2 t910004 _ A16.out).mono ?_); rintro e w' ⟨rfl, ⟨nd, rfl⟩⟩))
        go_ret
        exact ⟨by first | rfl | (simp [errW_none, errW_some] <;> rfl) | (simp [*, errW_none, errW_some] <;> rfl), by repeat (first | (with_reducible first | exact HB.out | apply below_alloc | apply pw_below_drewN | apply below_drew1 | refine below_set ?_ GE910001.out) | exact HB.out)⟩
     ·replace c11 := Bool.eq_false_iff.mpr c11; subst c11; have H1 : (some false) = some r := by rw [if_neg (show ¬ (false = true) by decide)] at H; exact H
      clear H; have H := H1; clear H1; obtain rfl := Option.some.inj H; have hcz18_0 : wc.cell? ⟨gb910001, 0, none⟩ = some (.string a0_0) := (blk_cell BK910001.out 0).trans rfl; have hcz18_1 : wc.cell? ⟨gb910001, 1, none⟩ = some (.string a0_1) := (blk_cell BK910001.out 1).trans rfl; have hfz18_0 := blk_frozen BK910001.out 0; have hfz18_1 := blk_frozen BK910001.out 1
      go_wp2_with (first | (go_at_call 82; (with_reducible refine (spec_l1Less.calls kj3 a1 a0_1 false _ A10.out).mono ?_); rintro e w' ⟨rfl, ⟨nd, rfl⟩⟩))
      go_ret
      exact ⟨by first | rfl | (simp [errW_none, errW_some] <;> rfl) | (simp [*, errW_none, errW_some] <;> rfl), by repeat (first | (with_reducible first | exact HB.out | apply below_alloc | apply pw_below_drewN | apply below_drew1 | refine below_set ?_ GE910001.out) | exact HB.out)⟩
    ·rw [if_neg c9] at H; have c9b0 : decide (0 < (a0_1.size : Int)) = false := decide_eq_false c9; have c9b1 : decide (0 < a0_1.size) = false := decide_eq_false (by omega); clear c9
     by_cases c19 : (a0_0.size : Int) = 0
     ·rw [if_pos c19] at H; have c19b0 : ((a0_0.size : Int) == 0) = true := beq_iff_eq.mpr c19; have c19b1 : ((a0_0.size : Int) != 0) = false := bne_eq_false_iff_eq.mpr c19; clear c19; obtain rfl := Option.some.inj H; have hcz20_0 : wc.cell? ⟨gb910001, 0, none⟩ = some (.string a0_0) := (blk_cell BK910001.out 0).trans rfl; have hcz20_1 : wc.cell? ⟨gb910001, 1, none⟩ = some (.string a0_1) := (blk_cell BK910001.out 1).trans rfl; have hfz20_0 := blk_frozen BK910001.out 0; have hfz20_1 := blk_frozen BK910001.out 1
      go_wp2
      go_ret
      exact ⟨by first | rfl | (simp [errW_none, errW_some] <;> rfl) | (simp [*, errW_none, errW_some] <;> rfl), by repeat (first | (with_reducible first | exact HB.out | apply below_alloc | apply pw_below_drewN | apply below_drew1 | refine below_set ?_ GE910001.out) | exact HB.out)⟩
     ·rw [if_neg c19] at H; have c19b0 : ((a0_0.size : Int) == 0) = false := beq_eq_false_iff_ne.mpr c19; have c19b1 : ((a0_0.size : Int) != 0) = true := bne_iff_ne.mpr c19
      by_cases c21 : (a2.size : Int) = 0
      ·rw [if_pos c21] at H; have c21b0 : ((a2.size : Int) == 0) = true := beq_iff_eq.mpr c21; have c21b1 : ((a2.size : Int) != 0) = false := bne_eq_false_iff_eq.mpr c21; clear c21; obtain rfl := Option.some.inj H; have hcz22_0 : wc.cell? ⟨gb910001, 0, none⟩ = some (.string a0_0) := (blk_cell BK910001.out 0).trans rfl; have hcz22_1 : wc.cell? ⟨gb910001, 1, none⟩ = some (.string a0_1) := (blk_cell BK910001.out 1).trans rfl; have hfz22_0 := blk_frozen BK910001.out 0; have hfz22_1 := blk_frozen BK910001.out 1
       go_wp2
       go_ret
       exact ⟨by first | rfl | (simp [errW_none, errW_some] <;> rfl) | (simp [*, errW_none, errW_some] <;> rfl), by repeat (first | (with_reducible first | exact HB.out | apply below_alloc | apply pw_below_drewN | apply below_drew1 | refine below_set ?_ GE910001.out) | exact HB.out)⟩
      ·rw [if_neg c21] at H; have c21b0 : ((a2.size : Int) == 0) = false := beq_eq_false_iff_ne.mpr c21; have c21b1 : ((a2.size : Int) != 0) = true := bne_iff_ne.mpr c21; replace H := Option.bind_eq_some_iff.mp H; obtain ⟨t910005, A230, H⟩ := H; replace H : (some t910005) = some r := H; have A23 := Aside0.mk A230; clear A230; obtain rfl := Option.some.inj H; have hcz24_0 : wc.cell? ⟨gb910001, 0, none⟩ = some (.string a0_0) := (blk_cell BK910001.out 0).trans rfl; have hcz24_1 : wc.cell? ⟨gb910001, 1, none⟩ = some (.string a0_1) := (blk_cell BK910001.out 1).trans rfl; have hfz24_0 := blk_frozen BK910001.out 0; have hfz24_1 := blk_frozen BK910001.out 1
       go_wp2_with (first | (go_at_call 82; (with_reducible refine (spec_l1Less.calls kj3 a0_0 a2 t910005 _ A23.out).mono ?_); rintro e w' ⟨rfl, ⟨nd, rfl⟩⟩))
       go_ret
       exact ⟨by first | rfl | (simp [errW_none, errW_some] <;> rfl) | (simp [*, errW_none, errW_some] <;> rfl), by repeat (first | (with_reducible first | exact HB.out | apply below_alloc | apply pw_below_drewN | apply below_drew1 | refine below_set ?_ GE910001.out) | exact HB.out)⟩
end Go.Proofs.YthnnphinfiobmaaDoor.Z
end
section
namespace Go.Proofs.YthnnphinfiobmaaDoor.Z
open Go.RowKit Go.Proofs.YthnnphinfiobmaaDoorW.PrintWords Go.Proofs.YthnnphinfiobmaaDoorW.PrintLast Go.Proofs.YthnnphinfiobmaaDoorW.PrintMore
attribute [local go_sem] max2_int min2_int max_two min_two max_three min_three max_four min_four
set_option linter.unusedVariables false
set_option linter.unusedSimpArgs false
def spec_l4Inside.f (k : Nat) (a0 : ByteArray) (a1_0 : ByteArray) (a1_1 : ByteArray) : Option (Bool) := if (a1_0.size : Int) = 0 then (if (a1_1.size : Int) = 0 then (some true) else ((spec_l1Less.f k a0 a1_1).bind fun t930002 => (some t930002))) else ((spec_l1Less.f k a1_0 a0).bind fun t930003 => (if t930003 = true then (if (a1_1.size : Int) = 0 then (some true) else ((spec_l1Less.f k a0 a1_1).bind fun t930004 => (some t930004))) else (some false)))
set_option maxHeartbeats 8000000 in
set_option maxRecDepth 100000 in
theorem spec_l4Inside.calls (k : Nat) (a0 : ByteArray) (a1_0 : ByteArray) (a1_1 : ByteArray) (r : Bool) (w : World) (h : spec_l4Inside.f k a0 a1_0 a1_1 = some r) :
  Calls Tryd.prog 93 #[.string a0, .agg #[.string a1_0, .string a1_1]] w fun e w' => e = .returned (.bool r) ∧ Below w.heap.size w w' := by
 have hu86 := Tryd.underlying86; have HB := Aside0.mk (Below.refl w.heap.size w); have H : (if (a1_0.size : Int) = 0 then (if (a1_1.size : Int) = 0 then (some true) else ((spec_l1Less.f k a0 a1_1).bind fun t930002 => (some t930002))) else ((spec_l1Less.f k a1_0 a0).bind fun t930003 => (if t930003 = true then (if (a1_1.size : Int) = 0 then (some true) else ((spec_l1Less.f k a0 a1_1).bind fun t930004 => (some t930004))) else (some false)))) = some r := h; clear h
 by_cases c3 : (a1_0.size : Int) = 0
 ·rw [if_pos c3] at H; have c3b0 : ((a1_0.size : Int) == 0) = true := beq_iff_eq.mpr c3; have c3b1 : ((a1_0.size : Int) != 0) = false := bne_eq_false_iff_eq.mpr c3; clear c3
  by_cases c4 : (a1_1.size : Int) = 0
  ·rw [if_pos c4] at H; have c4b0 : ((a1_1.size : Int) == 0) = true := beq_iff_eq.mpr c4; have c4b1 : ((a1_1.size : Int) != 0) = false := bne_eq_false_iff_eq.mpr c4; clear c4; obtain rfl := Option.some.inj H
   go_enter Tryd.func93, Tryd.ntmps93
   go_wp2_with (first | ((with_reducible refine gate_dst (N := 3) rfl ?_); (try (refine gate_guard (by rfl) ?_; dsimp only)); refine box_event ?hg (N := 3) ?hd (cs := #[.string a1_0, .string a1_1]) (t := 86) ?hr ?_; (case hd => rfl); (case hg => rfl); (case hr => first | (go_simp; done) | (go_simp; rfl)); intro gb930001 hg w5 hbox hb; have n0_ := Aside0.mk (below_step zq_0 hb); have n1_ := Aside0.mk (hbox); have n2_ := Aside0.mk ((by rw [hg]; exact (below_size zq_0) : w.heap.size ≤ gb930001)); have n3_ := Aside0.mk ((by rw [hg]; exact (below_size zq_0) : w.heap.size ≤ gb930001)); clear HB; have HB := n0_; have BK930001 := n1_; have GW930001 := n2_; have GE930001 := n3_; clear n0_ n1_ n2_ n3_; clear hb hbox hg; have hcz6_0 : w5.cell? ⟨gb930001, 0, none⟩ = some (.string a1_0) := (blk_cell BK930001.out 0).trans rfl; have hcz6_1 : w5.cell? ⟨gb930001, 1, none⟩ = some (.string a1_1) := (blk_cell BK930001.out 1).trans rfl; have hfz6_0 := blk_frozen BK930001.out 0; have hfz6_1 := blk_frozen BK930001.out 1))
   go_ret
   exact ⟨by first | rfl | (simp [errW_none, errW_some] <;> rfl) | (simp [*, errW_none, errW_some] <;> rfl), by repeat (first | (with_reducible first | exact HB.out | apply below_alloc | apply pw_below_drewN | apply below_drew1 | refine below_set ?_ GE930001.out) | exact HB.out)⟩
  ·rw [if_neg c4] at H; have c4b0 : ((a1_1.size : Int) == 0) = false := beq_eq_false_iff_ne.mpr c4; have c4b1 : ((a1_1.size : Int) != 0) = true := bne_iff_ne.mpr c4; replace H := Option.bind_eq_some_iff.mp H; obtain ⟨t930002, A70, H⟩ := H; replace H : (some t930002) = some r := H; have A7 := Aside0.mk A70; clear A70; obtain rfl := Option.some.inj H
   go_enter Tryd.func93, Tryd.ntmps93
   go_wp2_with (first | ((with_reducible refine gate_dst (N := 3) rfl ?_); (try (refine gate_guard (by rfl) ?_; dsimp only)); refine box_event ?hg (N := 3) ?hd (cs := #[.string a1_0, .string a1_1]) (t := 86) ?hr ?_; (case hd => rfl); (case hg => rfl); (case hr => first | (go_simp; done) | (go_simp; rfl)); intro gb930001 hg w8 hbox hb; have n0_ := Aside0.mk (below_step zq_0 hb); have n1_ := Aside0.mk (hbox); have n2_ := Aside0.mk ((by rw [hg]; exact (below_size zq_0) : w.heap.size ≤ gb930001)); have n3_ := Aside0.mk ((by rw [hg]; exact (below_size zq_0) : w.heap.size ≤ gb930001)); clear HB; have HB := n0_; have BK930001 := n1_; have GW930001 := n2_; have GE930001 := n3_; clear n0_ n1_ n2_ n3_; clear hb hbox hg; have hcz9_0 : w8.cell? ⟨gb930001, 0, none⟩ = some (.string a1_0) := (blk_cell BK930001.out 0).trans rfl; have hcz9_1 : w8.cell? ⟨gb930001, 1, none⟩ = some (.string a1_1) := (blk_cell BK930001.out 1).trans rfl; have hfz9_0 := blk_frozen BK930001.out 0; have hfz9_1 := blk_frozen BK930001.out 1) | (go_at_call 82; (with_reducible refine (spec_l1Less.calls k a0 a1_1 t930002 _ A7.out).mono ?_); rintro e w' ⟨rfl, ⟨nd, rfl⟩⟩))
   go_ret
   exact ⟨by first | rfl | (simp [errW_none, errW_some] <;> rfl) | (simp [*, errW_none, errW_some] <;> rfl), by repeat (first | (with_reducible first | exact HB.out | apply below_alloc | apply pw_below_drewN | apply below_drew1 | refine below_set ?_ GE930001.out) | exact HB.out)⟩
 ·rw [if_neg c3] at H; have c3b0 : ((a1_0.size : Int) == 0) = false := beq_eq_false_iff_ne.mpr c3; have c3b1 : ((a1_0.size : Int) != 0) = true := bne_iff_ne.mpr c3; replace H := Option.bind_eq_some_iff.mp H; obtain ⟨t930003, A100, H⟩ := H; replace H : (if t930003 = true then (if (a1_1.size : Int) = 0 then (some true) else ((spec_l1Less.f k a0 a1_1).bind fun t930004 => (some t930004))) else (some false)) = some r := H; have A10 := Aside0.mk A100; clear A100
  by_cases c11 : t930003 = true
  ·subst c11; have H1 : (if (a1_1.size : Int) = 0 then (some true) else ((spec_l1Less.f k a0 a1_1).bind fun t930004 => (some t930004))) = some r := by rw [if_pos rfl] at H; exact H
   clear H; have H := H1; clear H1
   by_cases c12 : (a1_1.size : Int) = 0
   ·rw [if_pos c12] at H; have c12b0 : ((a1_1.size : Int) == 0) = true := beq_iff_eq.mpr c12; have c12b1 : ((a1_1.size : Int) != 0) = false := bne_eq_false_iff_eq.mpr c12; clear c12; obtain rfl := Option.some.inj H
    go_enter Tryd.func93, Tryd.ntmps93
    go_wp2_with (first | ((with_reducible refine gate_dst (N := 3) rfl ?_); (try (refine gate_guard (by rfl) ?_; dsimp only)); refine box_event ?hg (N := 3) ?hd (cs := #[.string a1_0, .string a1_1]) (t := 86) ?hr ?_; (case hd => rfl); (case hg => rfl); (case hr => first | (go_simp; done) | (go_simp; rfl)); intro gb930001 hg w13 hbox hb; have n0_ := Aside0.mk (below_step zq_0 hb); have n1_ := Aside0.mk (hbox); have n2_ := Aside0.mk ((by rw [hg]; exact (below_size zq_0) : w.heap.size ≤ gb930001)); have n3_ := Aside0.mk ((by rw [hg]; exact (below_size zq_0) : w.heap.size ≤ gb930001)); clear HB; have HB := n0_; have BK930001 := n1_; have GW930001 := n2_; have GE930001 := n3_; clear n0_ n1_ n2_ n3_; clear hb hbox hg; have hcz14_0 : w13.cell? ⟨gb930001, 0, none⟩ = some (.string a1_0) := (blk_cell BK930001.out 0).trans rfl; have hcz14_1 : w13.cell? ⟨gb930001, 1, none⟩ = some (.string a1_1) := (blk_cell BK930001.out 1).trans rfl; have hfz14_0 := blk_frozen BK930001.out 0; have hfz14_1 := blk_frozen BK930001.out 1) | (go_at_call 82; (with_reducible refine (spec_l1Less.calls k a1_0 a0 true _ A10.out).mono ?_); rintro e w' ⟨rfl, ⟨nd, rfl⟩⟩))
    go_ret
    exact ⟨by first | rfl | (simp [errW_none, errW_some] <;> rfl) | (simp [*, errW_none, errW_some] <;> rfl), by repeat (first | (with_reducible first | exact HB.out | apply below_alloc | apply pw_below_drewN | apply below_drew1 | refine below_set ?_ GE930001.out) | exact HB.out)⟩
   ·rw [if_neg c12] at H; have c12b0 : ((a1_1.size : Int) == 0) = false := beq_eq_false_iff_ne.mpr c12; have c12b1 : ((a1_1.size : Int) != 0) = true := bne_iff_ne.mpr c12; replace H := Option.bind_eq_some_iff.mp H; obtain ⟨t930004, A150, H⟩ := H; replace H : (some t930004) = some r := H; have A15 := Aside0.mk A150; clear A150; obtain rfl := Option.some.inj H
    go_enter Tryd.func93, Tryd.ntmps93
    go_wp2_with (first | ((with_reducible refine gate_dst (N := 3) rfl ?_); (try (refine gate_guard (by rfl) ?_; dsimp only)); refine box_event ?hg (N := 3) ?hd (cs := #[.string a1_0, .string a1_1]) (t := 86) ?hr ?_; (case hd => rfl); (case hg => rfl); (case hr => first | (go_simp; done) | (go_simp; rfl)); intro gb930001 hg w16 hbox hb; have n0_ := Aside0.mk (below_step zq_0 hb); have n1_ := Aside0.mk (hbox); have n2_ := Aside0.mk ((by rw [hg]; exact (below_size zq_0) : w.heap.size ≤ gb930001)); have n3_ := Aside0.mk ((by rw [hg]; exact (below_size zq_0) : w.heap.size ≤ gb930001)); clear HB; have HB := n0_; have BK930001 := n1_; have GW930001 := n2_; have GE930001 := n3_; clear n0_ n1_ n2_ n3_; clear hb hbox hg; have hcz17_0 : w16.cell? ⟨gb930001, 0, none⟩ = some (.string a1_0) := (blk_cell BK930001.out 0).trans rfl; have hcz17_1 : w16.cell? ⟨gb930001, 1, none⟩ = some (.string a1_1) := (blk_cell BK930001.out 1).trans rfl; have hfz17_0 := blk_frozen BK930001.out 0; have hfz17_1 := blk_frozen BK930001.out 1) | (go_at_call 82; (with_reducible refine (spec_l1Less.calls k a1_0 a0 true _ A10.out).mono ?_); rintro e w' ⟨rfl, ⟨nd, rfl⟩⟩) | (go_at_call 82; (with_reducible refine (spec_l1Less.calls k a0 a1_1 t930004 _ A15.out).mono ?_); rintro e w' ⟨rfl, ⟨nd, rfl⟩⟩))
    go_ret
    exact ⟨by first | rfl | (simp [errW_none, errW_some] <;> rfl) | (simp [*, errW_none, errW_some] <;> rfl), by repeat (first | (with_reducible first | exact HB.out | apply below_alloc | apply pw_below_drewN | apply below_drew1 | refine below_set ?_ GE930001.out) | exact HB.out)⟩
  ·replace c11 := Bool.eq_false_iff.mpr c11; subst c11; have H1 : (some false) = some r := by rw [if_neg (show ¬ (false = true) by decide)] at H; exact H
   clear H; have H := H1; clear H1; obtain rfl := Option.some.inj H
   go_enter Tryd.func93, Tryd.ntmps93
   go_wp2_with (first | ((with_reducible refine gate_dst (N := 3) rfl ?_); (try (refine gate_guard (by rfl) ?_; dsimp only)); refine box_event ?hg (N := 3) ?hd (cs := #[.string a1_0, .string a1_1]) (t := 86) ?hr ?_; (case hd => rfl); (case hg => rfl); (case hr => first | (go_simp; done) | (go_simp; rfl)); intro gb930001 hg w18 hbox hb; have n0_ := Aside0.mk (below_step zq_0 hb); have n1_ := Aside0.mk (hbox); have n2_ := Aside0.mk ((by rw [hg]; exact (below_size zq_0) : w.heap.size ≤ gb930001)); have n3_ := Aside0.mk ((by rw [hg]; exact (below_size zq_0) : w.heap.size ≤ gb930001)); clear HB; have HB := n0_; have BK930001 := n1_; have GW930001 := n2_; have GE930001 := n3_; clear n0_ n1_ n2_ n3_; clear hb hbox hg; have hcz19_0 : w18.cell? ⟨gb930001, 0, none⟩ = some (.string a1_0) := (blk_cell BK930001.out 0).trans rfl; have hcz19_1 : w18.cell? ⟨gb930001, 1, none⟩ = some (.string a1_1) := (blk_cell BK930001.out 1).trans rfl; have hfz19_0 := blk_frozen BK930001.out 0; have hfz19_1 := blk_frozen BK930001.out 1) | (go_at_call 82; (with_reducible refine (spec_l1Less.calls k a1_0 a0 false _ A10.out).mono ?_); rintro e w' ⟨rfl, ⟨nd, rfl⟩⟩))
   go_ret
   exact ⟨by first | rfl | (simp [errW_none, errW_some] <;> rfl) | (simp [*, errW_none, errW_some] <;> rfl), by repeat (first | (with_reducible first | exact HB.out | apply below_alloc | apply pw_below_drewN | apply below_drew1 | refine below_set ?_ GE930001.out) | exact HB.out)⟩
end Go.Proofs.YthnnphinfiobmaaDoor.Z
end
section
namespace Go.Proofs.YthnnphinfiobmaaDoor.Z
open Go.RowKit Go.Proofs.YthnnphinfiobmaaDoor Go.Proofs.YthnnphinfiobmaaDoorW.PrintWords Go.Proofs.YthnnphinfiobmaaDoorW.PrintLast
set_option linter.unusedVariables false
set_option linter.unusedSimpArgs false
theorem less_irrefl : ∀ x : List UInt8, Op.bytesLess x x = false
 | [] => rfl
 | a :: r => by simp [Op.bytesLess, less_irrefl r]
theorem leS_eq (a b : ByteArray) : leS a b = !ltS b a := by
 unfold leS ltS
 by_cases h : a.toList = b.toList
 ·rw [h, less_irrefl]; simp
 ·rw [bytesLess_swap _ _ h]; rw [show (a.toList == b.toList) = false from beq_eq_false_iff_ne.2 h]; simp
theorem emp_size (s : ByteArray) : emp s = decide ((s.size : Int) = 0) := by
 have h3 : s.toList = s.data.toList := ByteArray.toList_eq s; have h4 : s.data.toList.length = s.size := rfl; unfold emp; rw [h3]
 cases h : s.data.toList with
 | nil => rw [h] at h4; simp at h4; rw [← h4]; rfl
 | cons a r => rw [h] at h4; simp at h4; rw [show decide ((s.size : Int) = 0) = false by rw [decide_eq_false_iff_not]; omega]; rfl
theorem wants_prop (A B C : Prop) [Decidable A] [Decidable B] [Decidable C] (x p q : Bool) : (if x = true then some false else (if ¬ A then (if p = true then (if B then some true else (if C then some true else some q)) else some false) else (if B then some true else (if C then some true else some q)))) = some (!x && !(!decide A && !p) && (decide C || decide B || q)) := by
 by_cases a : A <;> by_cases b : B <;> by_cases c : C <;> cases x <;> cases p <;> cases q <;> simp [a, b, c]
theorem inside_prop (A B : Prop) [Decidable A] [Decidable B] (p q : Bool) : (if A then (if B then some true else some q) else (if p = true then (if B then some true else some q) else some false)) = some ((decide A || !!p) && (decide B || q)) := by
 by_cases a : A <;> by_cases b : B <;> cases p <;> cases q <;> simp [a, b]
theorem l4Wants_f (blo bhi lo hi : ByteArray) (h1 : blo.size ≤ 1048576) (h2 : bhi.size ≤ 1048576) (h3 : lo.size ≤ 1048576) (h4 : hi.size ≤ 1048576) (k : Nat) (hk : 2100000 < k) : spec_l4Wants.f k blo bhi lo hi = some (meetsB lo hi blo bhi) := by
 have key : ∀ (j : Nat) (x : Bool), 2099999 < j → spec_l4Wants.j0 (j + 1) lo hi x blo bhi = some (!x && !(!emp bhi && !ltS lo bhi) && (emp hi || emp blo || ltS blo hi)) := by
  intro j x hj; simp only [spec_l4Wants.j0]; rw [spec_l1Less_f lo bhi (by omega) j (by omega), spec_l1Less_f blo hi (by omega) j (by omega)]; simp only [Option.bind_some]; rw [emp_size, emp_size, emp_size]; unfold ltS; have g : ((bhi.size : Int) > 0) = ¬ ((bhi.size : Int) = 0) := propext (by omega); simp only [g]; exact wants_prop _ _ _ _ _ _
 unfold spec_l4Wants.f meetsB; rw [leS_eq, leS_eq]; obtain ⟨k, rfl⟩ : ∃ j, k = j + 1 := ⟨k - 1, by omega⟩
 rw [spec_l1Less_f lo hi (by omega) _ (by omega), Option.bind_some]; rw [key k _ (by omega), key k _ (by omega)]; rw [emp_size hi]; unfold ltS
 by_cases e3 : (hi.size : Int) = 0
 ·rw [if_neg (by omega), decide_eq_true e3]; generalize emp bhi = a; generalize emp blo = b; generalize Op.bytesLess lo.toList bhi.toList = c; generalize Op.bytesLess blo.toList hi.toList = d; generalize Op.bytesLess lo.toList hi.toList = e
  cases a <;> cases b <;> cases c <;> cases d <;> cases e <;> rfl
 ·rw [if_pos (by omega), decide_eq_false e3]; generalize emp bhi = a; generalize emp blo = b; generalize Op.bytesLess lo.toList bhi.toList = c; generalize Op.bytesLess blo.toList hi.toList = d; generalize Op.bytesLess lo.toList hi.toList = e
  cases a <;> cases b <;> cases c <;> cases d <;> cases e <;> rfl
theorem l4Inside_f (key blo bhi : ByteArray) (h1 : blo.size ≤ 1048576) (h2 : bhi.size ≤ 1048576) (h3 : key.size ≤ 1048576) (k : Nat) (hk : 2100000 < k) : spec_l4Inside.f k key blo bhi = some (holdsB blo bhi key) := by
 unfold spec_l4Inside.f holdsB; rw [leS_eq, emp_size, emp_size]; rw [spec_l1Less_f key bhi (by omega) k (by omega), spec_l1Less_f blo key (by omega) k (by omega)]; simp only [Option.bind_some]; unfold ltS; exact inside_prop _ _ _ _
end Go.Proofs.YthnnphinfiobmaaDoor.Z
end
section
namespace Go.Proofs.YthnnphinfiobmaaDoor.Z
open Go.RowKit Go.Proofs.YthnnphinfiobmaaDoor Go.Proofs.YthnnphinfiobmaaDoorW.PrintWords Go.Proofs.YthnnphinfiobmaaDoorW.PrintLast
set_option linter.unusedVariables false
set_option linter.unusedSimpArgs false
set_option maxRecDepth 100000
def specR : List S65 × Int × Int → List S65 × Int × Int
 | (ps, s, c) => if c = 0 then (ps, s, 0) else ([], 0, c)
theorem specR_bad {ps : List S65} {s c : Int} (h : c ≠ 0) : specR (ps, s, c) = ([], 0, c) := by
 show (if c = 0 then (ps, s, 0) else ([], 0, c)) = _; rw [if_neg h]
theorem decI_hash {s : ByteArray} {n : Nat} {a b c d : ByteArray} (h : decI s n = some (a, b, c, d)) : (c.size = n ∨ c.size = 0) ∧ (d.size = n ∨ d.size = 0) := by
 unfold decI at h; dsimp only at h
 split at h
 ·rename_i hc
  obtain ⟨_, _, _, _, h5⟩ := hc; simp only [Option.some.injEq, Prod.mk.injEq] at h; obtain ⟨rfl, rfl, rfl, rfl⟩ := h; unfold nodeOk hOk at h5; simp only [Bool.and_eq_true, Bool.or_eq_true, decide_eq_true_eq] at h5; omega
 ·cases h
theorem findR_hash {n : Nat} {encs : List ByteArray} {C : List (List Int)} {root : ByteArray} (h : (findR n encs C root).2.2.2.2 = 0) : ((findR n encs C root).2.2.1.size = n ∨ (findR n encs C root).2.2.1.size = 0) ∧ ((findR n encs C root).2.2.2.1.size = n ∨ (findR n encs C root).2.2.2.1.size = 0) := by
 unfold findR at h ⊢
 split at h
 ·simp at h
 ·rename_i i hi
  rcases hz : decI (encs.getD i ⟨#[]⟩) n with _ | ⟨a, b, c, d⟩
  ·rw [hz] at h; simp at h
  ·exact decI_hash hz
structure GoRows (g : Nat) (W : Int) (A0 : Option Addr) (m c0 : Nat) (blo bhi : ByteArray) (w : World) : Prop where
 r0 : w.heap[g]? = some (.cells #[.int .i64 W, .slice A0 m c0] 38 (0, 0))
 r1 : w.heap[g + 1]? = some (.cells #[.string blo, .string bhi] 86 (0, 0))
 r2 : w.heap[g + 1 + 1]? = some (.cells #[.slice none 0 0, .int .i64 0, .int .i64 0] 82 (0, 0))
theorem GoRows.below {g : Nat} {W : Int} {A0 : Option Addr} {m c0 : Nat} {blo bhi : ByteArray} {w w1 : World} (h : GoRows g W A0 m c0 blo bhi w) (hb : Below w.heap.size w w1) : GoRows g W A0 m c0 blo bhi w1 :=
 ⟨(hb.block _ (lt_of_block h.r0)).trans h.r0, (hb.block _ (lt_of_block h.r1)).trans h.r1, (hb.block _ (lt_of_block h.r2)).trans h.r2⟩
theorem GoRows.start (W : Int) (A0 : Option Addr) (m c0 : Nat) (blo bhi : ByteArray) (w : World) : GoRows w.heap.size W A0 m c0 blo bhi (((w.alloc (.cells #[.int .i64 W, .slice A0 m c0] 38)).alloc (.cells #[.string blo, .string bhi] 86)).alloc (.cells #[.slice none 0 0, .int .i64 0, .int .i64 0] 82)) := by
 refine ⟨?_, ?_, ?_⟩
 ·rw [heap_alloc_old _ _ (by simp; omega), heap_alloc2_old]
 ·rw [heap_alloc_old _ _ (by simp), heap_alloc2_new]
 ·have := heap_alloc_new ((w.alloc (.cells #[.int .i64 W, .slice A0 m c0] 38)).alloc (.cells #[.string blo, .string bhi] 86)) (.cells #[.slice none 0 0, .int .i64 0, .int .i64 0] 82)
  simpa using this
theorem set3 (w : World) (B : Nat) (a b c : Value) : w.grownBy (((w.setCell ⟨B, 0, none⟩ a).setCell ⟨B, 1, none⟩ b).setCell ⟨B, 2, none⟩ c) (some B) :=
 grown_two (grown_two (grownBy_set w B 0 a) (grownBy_set _ B 1 b) (.inl rfl)) (grownBy_set _ B 2 c) (.inl rfl)
theorem goRes {g : Nat} {W : Int} {A0 : Option Addr} {m c0 base : Nat} {blo bhi : ByteArray} {w0 wx : World} {v : Value} {ps : List S65} (s c : Int) (hg : GoRows g W A0 m c0 blo bhi wx) (hw : w0.heap.size = g) (hB : Below w0.heap.size w0 wx) (hR : Kd.R k65 65 wx base (fun _ => True) v ps) (hb : g + 3 ≤ base) :
  (((wx.setCell ⟨g + 1 + 1, 0, none⟩ v).setCell ⟨g + 1 + 1, 1, none⟩ (.int .i64 s)).setCell ⟨g + 1 + 1, 2, none⟩ (.int .i64 c)).heap[g + 1 + 1]? = some (.cells #[v, .int .i64 s, .int .i64 c] 82 (0, 0)) ∧
  Kd.R k65 65 (((wx.setCell ⟨g + 1 + 1, 0, none⟩ v).setCell ⟨g + 1 + 1, 1, none⟩ (.int .i64 s)).setCell ⟨g + 1 + 1, 2, none⟩ (.int .i64 c)) w0.heap.size (fun _ => True) v ps ∧
  Below w0.heap.size w0 (((wx.setCell ⟨g + 1 + 1, 0, none⟩ v).setCell ⟨g + 1 + 1, 1, none⟩ (.int .i64 s)).setCell ⟨g + 1 + 1, 2, none⟩ (.int .i64 c)) := by
 refine ⟨blk_put (blk_put (blk_put hg.r2 0 _ rfl) 1 _ rfl) 2 _ rfl, Kd.R_lower (R_past hR (set3 wx (g + 1 + 1) v _ _) (by omega)) (by omega), hB.grown (set3 wx (g + 1 + 1) v _ _) hB.size (fun k hk => ?_)⟩; have := Option.some.inj hk; omega
structure OutIs (g : Nat) (W : Int) (A0 : Option Addr) (m c0 : Nat) (blo bhi : ByteArray) (rb : Nat) (u : Value) (s : Int) (rq : List S65) (w0 : World) (out : List S65) (v : Value) (w : World) : Prop where
 r : Kd.R k65 65 w w0.heap.size (fun _ => True) v out
 q : Kd.R k65 65 w w0.heap.size (fun _ => True) u rq
 ap : ∀ k, v.ownBlock = some k → some k ≠ u.ownBlock
 far : ∀ k, v.ownBlock = some k → g + 3 ≤ k ∧ k ≠ rb
 rows : GoRows g W A0 m c0 blo bhi w
 row : w.heap[rb]? = some (.cells #[u, .int .i64 s, .int .i64 0] 82 (0, 0))
 below : Below w0.heap.size w0 w
 hg : w0.heap.size = g
theorem OutIs.app {g : Nat} {W : Int} {A0 : Option Addr} {m c0 : Nat} {blo bhi : ByteArray} {rb : Nat} {u : Value} {s : Int} {rq : List S65} {w0 : World} {out out1 : List S65} {v v1 : Value} {w w1 : World} (h : OutIs g W A0 m c0 blo bhi rb u s rq w0 out v w)
  (hr : Kd.R k65 65 w1 w0.heap.size (fun _ => True) v1 out1) (hb : Below w0.heap.size w0 w1) (hg : w.grownBy w1 v.ownBlock) (hv : v1.ownBlock = v.ownBlock ∨ ∃ b, v1.ownBlock = some b ∧ w.heap.size ≤ b) : OutIs g W A0 m c0 blo bhi rb u s rq w0 out1 v1 w1 := by
 have hu := Kd.R_lt h.q; have hrl := lt_of_block h.row; have h0 := lt_of_block h.rows.r2; have keep : ∀ k, k < w.heap.size → (k < g + 3 ∨ k = rb) → w1.heap[k]? = w.heap[k]? := fun k hk hk2 => hg.block k hk (fun e => by have := h.far k e.symm; omega)
 refine ⟨hr, Kd.R_grown2 h.q rfl hg (fun k hk => h.ap k hk), fun k hk => ?_, fun k hk => ?_, ⟨?_, ?_, ?_⟩, (keep rb hrl (.inr rfl)).trans h.row, hb, h.hg⟩
 ·rcases hv with e | ⟨b, e, hb2⟩
  ·exact h.ap k (e ▸ hk)
  ·rw [e] at hk; cases hk; intro e2; have := hu k e2.symm; omega
 ·rcases hv with e | ⟨b, e, hb2⟩
  ·exact h.far k (e ▸ hk)
  ·rw [e] at hk; cases hk; omega
 ·exact (keep g (by omega) (.inl (by omega))).trans h.rows.r0
 ·exact (keep (g + 1) (by omega) (.inl (by omega))).trans h.rows.r1
 ·exact (keep (g + 1 + 1) (by omega) (.inl (by omega))).trans h.rows.r2
def GoSays (n : Nat) (l H : List ByteArray) (lo hi : ByteArray) (kk : Nat) : Prop :=
 ∀ (seen : Int) (root above blo bhi : ByteArray) (r : List S65 × Int × Int) (w : World) (A0 : Option Addr) (c0 : Nat) (A1 : Option Addr) (c1 : Nat), Kd.C Kd.string w A0 l.length l → l.length ≤ c0 → Kd.C Kd.string w A1 H.length H → H.length ≤ c1 →
  (root.size = n ∨ root.size = 0) → above.size ≤ 256 → blo.size ≤ 256 → bhi.size ≤ 256 → 0 ≤ seen → seen ≤ 500 → walkI n l (cuts n l) lo hi kk seen root above blo bhi = some r →
  Calls Tryd.prog 56 #[.agg #[.int .i64 n, .slice A0 l.length c0], .slice A1 H.length c1, .string root, .string above, .agg #[.string blo, .string bhi], .string lo, .string hi, .int .i64 seen] w
   fun e w' => ∃ v0_ : Value, e = .returned (.agg #[v0_, .int .i64 (specR r).2.1, .int .i64 (specR r).2.2]) ∧ Kd.R k65 65 w' w.heap.size (fun _ => True) v0_ (specR r).1 ∧ Below w.heap.size w w'
set_option maxHeartbeats 4000000 in
theorem specGo_any (n : Nat) (hn1 : 1 ≤ n) (hn2 : n ≤ 32) (l : List ByteArray) (hsm : small l) (lo hi : ByteArray) (hlo : lo.size ≤ 1048576) (hhi : hi.size ≤ 1048576) : ∀ kk, GoSays n l (hashS n l) lo hi kk := by
 intro kk
 induction kk with
 | zero => intro seen root above blo bhi r w A0 c0 A1 c1 _ _ _ _ _ _ _ _ _ _ h; cases h
 | succ kk ih =>
 intro seen root above blo bhi r w A0 c0 A1 c1 hA0 hc0 hA1 hc1 hroot habove hblo hbhi h0 h5 h; obtain ⟨H, hH⟩ : ∃ H, hashS n l = H := ⟨_, rfl⟩
 rw [hH] at hA1 hc1 ih ⊢; obtain ⟨W1, hWE⟩ : ∃ W1, W1 = ((w.alloc (.cells #[.int .i64 (n : Int), .slice A0 l.length c0] 38)).alloc (.cells #[.string blo, .string bhi] 86)).alloc (.cells #[.slice none 0 0, .int .i64 0, .int .i64 0] 82) := ⟨_, rfl⟩
 have hg1 : GoRows w.heap.size n A0 l.length c0 blo bhi W1 := by rw [hWE]; exact GoRows.start _ _ _ _ _ _ _
 have hz1 : W1.heap.size = w.heap.size + 3 := by rw [hWE]; simp
 have hB1 : Below w.heap.size w W1 := by rw [hWE]; exact ((((Below.refl _ _).alloc (Nat.le_refl _) _).alloc (by simp) _).alloc (by simp; omega) _)
 have HA0 := Lib.hid hA0; have HA1 := Lib.hid hA1; have HI := Lib.hid ih; have HH := Lib.hid h; have HHS := Lib.hid hH; have HSM := Lib.hid hsm; have HWE := Lib.hid hWE; have HG1 := Lib.hid hg1; have HB1 := Lib.hid hB1; have HRT := Lib.hid hroot; clear hA0 hA1 ih h hH hsm hWE hg1 hB1 hroot
 go_enter Tryd.func56, Tryd.ntmps56
 go_upto_region 1 with fail
 rw [← HWE.out]
 go_upto_region 2 with ((with_reducible refine gate_dst (N := 24) rfl ?_); refine Kd.R_lit k65 _ 65 ?hg (N := 24) ?hd (xs := ([] : List S65)) (inner := []) (ok := fun _ => True) (okp := fun _ => True) ?hr ?hp (fun _ hk => hk) trivial (Below.refl _ _) (Nat.le_refl _) (by simp) ?_; (case hd => rfl); (case hg => rfl); (case hr => first | (go_simp; done) | (go_simp; rfl)); (case hp => exact (Reps.none _ _)); intro v3 w2 ho8 hb2 hg_ hnew_; obtain ⟨A3, c3, rfl⟩ := Kd.R_slice ho8; have HO3 := Lib.hid ho8; have HB2 := Lib.hid hb2; clear hg_ hnew_ ho8 hb2)
 have hz2 := HB2.out.size; obtain ⟨W3, hW3⟩ : ∃ W3, W3 = w2.alloc (.cells #[.slice A3 0 c3, .int .i64 seen, .int .i64 0] 82) := ⟨_, rfl⟩
 rw [← hW3]; obtain ⟨g4, hg4⟩ : ∃ g4, w2.heap.size = g4 := ⟨_, rfl⟩
 have hb3 : Below W1.heap.size W1 W3 := by rw [hW3]; exact HB2.out.alloc hz2 _
 have hr3 : W3.heap[g4]? = some (.cells #[.slice A3 0 c3, .int .i64 seen, .int .i64 0] 82 (0, 0)) := by rw [hW3, ← hg4]; exact heap_alloc_new _ _
 have ho3 : Kd.R k65 65 W3 W1.heap.size (fun _ => True) (.slice A3 0 c3) [] := by rw [hW3]; exact Kd.R_below HO3.out ((Below.refl _ _).alloc (Nat.le_refl _) _)
 rw [hg4]; have HG3 := Lib.hid (HG1.out.below hb3); have HB3 := Lib.hid (HB1.out.trans (hb3.mono (by omega))); have HR3 := Lib.hid hr3; have HO3' := Lib.hid ho3; clear hW3 hg4 hb3 hr3 ho3 HO3 HB2 hz2 HG1 HB1 HWE
 by_cases he : root.size = 0
 ·have HX : Hid (specR r = ([], seen, 0)) := Lib.hid (by
   have h := HH.out; unfold walkI at h; rw [if_pos (.inl (by rw [emp_size]; exact decide_eq_true (by omega)))] at h
   cases h; rfl)
  have h1 : ((root.size : Int) == 0) = true := beq_iff_eq.2 (by omega)
  (have p0 : W3.cell? ⟨w.heap.size, 0, none⟩ = some (.int .i64 (n : Int)) := (cell_of_row _ _ _ _ _ _ HG3.out.r0).trans rfl); (have p1 : W3.cell? ⟨w.heap.size, 1, none⟩ = some (.slice A0 l.length c0) := (cell_of_row _ _ _ _ _ _ HG3.out.r0).trans rfl); (have b0 : W3.cell? ⟨w.heap.size + 1, 0, none⟩ = some (.string blo) := (cell_of_row _ _ _ _ _ _ HG3.out.r1).trans rfl); (have b1 : W3.cell? ⟨w.heap.size + 1, 1, none⟩ = some (.string bhi) := (cell_of_row _ _ _ _ _ _ HG3.out.r1).trans rfl); (have r0 : W3.cell? ⟨w.heap.size + 1 + 1, 0, none⟩ = some (.slice none 0 0) := (cell_of_row _ _ _ _ _ _ HG3.out.r2).trans rfl); (have r1 : W3.cell? ⟨w.heap.size + 1 + 1, 1, none⟩ = some (.int .i64 0) := (cell_of_row _ _ _ _ _ _ HG3.out.r2).trans rfl); (have r2 : W3.cell? ⟨w.heap.size + 1 + 1, 2, none⟩ = some (.int .i64 0) := (cell_of_row _ _ _ _ _ _ HG3.out.r2).trans rfl); (have f0 := frozen_of_row _ _ 0 _ _ HG3.out.r2); (have f1 := frozen_of_row _ _ 1 _ _ HG3.out.r2); (have f2 := frozen_of_row _ _ 2 _ _ HG3.out.r2)
  have z0 : W3.cell? ⟨g4, 0, none⟩ = some (.slice A3 0 c3) := (cell_of_row _ _ _ _ _ _ HR3.out).trans rfl; have z1 : W3.cell? ⟨g4, 1, none⟩ = some (.int .i64 seen) := (cell_of_row _ _ _ _ _ _ HR3.out).trans rfl; have z2 : W3.cell? ⟨g4, 2, none⟩ = some (.int .i64 0) := (cell_of_row _ _ _ _ _ _ HR3.out).trans rfl; clear he
  go_wp2_with fail
  (have hres := goRes seen 0 HG3.out rfl HB3.out (HO3'.out) (by omega)); refine bodyPost_ret (results_cell_row Tryd.results56 _ _ (w.heap.size + 1 + 1) 82 #[.slice A3 0 c3, .int .i64 seen, .int .i64 0] (0, 0) _ rfl (by exact hres.1) Tryd.underlying82 rfl (by kernel_rfl)) rfl ⟨.slice A3 0 c3, by rw [HX.out], by rw [HX.out]; exact hres.2.1, hres.2.2⟩
 have he2 : ((root.size : Int) == 0) = false := beq_eq_false_iff_ne.2 (by omega); have HW := Lib.hid (l4Wants_f blo bhi lo hi (by omega) (by omega) hlo hhi 3000000 (by decide))
 cases hm : meetsB lo hi blo bhi
 ·have HX : Hid (specR r = ([], seen, 0)) := Lib.hid (by
   have h := HH.out; unfold walkI at h; rw [if_pos (.inr hm)] at h
   cases h; rfl)
  rw [hm] at HW; clear hm he
  (have p0 : W3.cell? ⟨w.heap.size, 0, none⟩ = some (.int .i64 (n : Int)) := (cell_of_row _ _ _ _ _ _ HG3.out.r0).trans rfl); (have p1 : W3.cell? ⟨w.heap.size, 1, none⟩ = some (.slice A0 l.length c0) := (cell_of_row _ _ _ _ _ _ HG3.out.r0).trans rfl); (have b0 : W3.cell? ⟨w.heap.size + 1, 0, none⟩ = some (.string blo) := (cell_of_row _ _ _ _ _ _ HG3.out.r1).trans rfl); (have b1 : W3.cell? ⟨w.heap.size + 1, 1, none⟩ = some (.string bhi) := (cell_of_row _ _ _ _ _ _ HG3.out.r1).trans rfl); (have r0 : W3.cell? ⟨w.heap.size + 1 + 1, 0, none⟩ = some (.slice none 0 0) := (cell_of_row _ _ _ _ _ _ HG3.out.r2).trans rfl); (have r1 : W3.cell? ⟨w.heap.size + 1 + 1, 1, none⟩ = some (.int .i64 0) := (cell_of_row _ _ _ _ _ _ HG3.out.r2).trans rfl); (have r2 : W3.cell? ⟨w.heap.size + 1 + 1, 2, none⟩ = some (.int .i64 0) := (cell_of_row _ _ _ _ _ _ HG3.out.r2).trans rfl); (have f0 := frozen_of_row _ _ 0 _ _ HG3.out.r2); (have f1 := frozen_of_row _ _ 1 _ _ HG3.out.r2); (have f2 := frozen_of_row _ _ 2 _ _ HG3.out.r2)
  go_wp2_with (go_at_call 91; refine (spec_l4Wants.calls 3000000 blo bhi lo hi _ _ HW.out).mono ?_; rintro e w4 ⟨rfl, hb4⟩; have HG4 := Lib.hid (HG3.out.below hb4); have HB4 := Lib.hid (HB3.out.trans (hb4.mono HB3.out.size)); have hr4 := (hb4.block g4 (lt_of_block HR3.out)).trans HR3.out; have HO4 := Lib.hid (Kd.R_below HO3'.out hb4); clear p0 p1 b0 b1 r0 r1 r2 f0 f1 f2 hb4; (have p0 : w4.cell? ⟨w.heap.size, 0, none⟩ = some (.int .i64 (n : Int)) := (cell_of_row _ _ _ _ _ _ HG4.out.r0).trans rfl); (have p1 : w4.cell? ⟨w.heap.size, 1, none⟩ = some (.slice A0 l.length c0) := (cell_of_row _ _ _ _ _ _ HG4.out.r0).trans rfl); (have b0 : w4.cell? ⟨w.heap.size + 1, 0, none⟩ = some (.string blo) := (cell_of_row _ _ _ _ _ _ HG4.out.r1).trans rfl); (have b1 : w4.cell? ⟨w.heap.size + 1, 1, none⟩ = some (.string bhi) := (cell_of_row _ _ _ _ _ _ HG4.out.r1).trans rfl); (have r0 : w4.cell? ⟨w.heap.size + 1 + 1, 0, none⟩ = some (.slice none 0 0) := (cell_of_row _ _ _ _ _ _ HG4.out.r2).trans rfl); (have r1 : w4.cell? ⟨w.heap.size + 1 + 1, 1, none⟩ = some (.int .i64 0) := (cell_of_row _ _ _ _ _ _ HG4.out.r2).trans rfl); (have r2 : w4.cell? ⟨w.heap.size + 1 + 1, 2, none⟩ = some (.int .i64 0) := (cell_of_row _ _ _ _ _ _ HG4.out.r2).trans rfl); (have f0 := frozen_of_row _ _ 0 _ _ HG4.out.r2); (have f1 := frozen_of_row _ _ 1 _ _ HG4.out.r2); (have f2 := frozen_of_row _ _ 2 _ _ HG4.out.r2); have z0 : w4.cell? ⟨g4, 0, none⟩ = some (.slice A3 0 c3) := (cell_of_row _ _ _ _ _ _ hr4).trans rfl; have z1 : w4.cell? ⟨g4, 1, none⟩ = some (.int .i64 seen) := (cell_of_row _ _ _ _ _ _ hr4).trans rfl; have z2 : w4.cell? ⟨g4, 2, none⟩ = some (.int .i64 0) := (cell_of_row _ _ _ _ _ _ hr4).trans rfl; clear hr4)
  (have hres := goRes seen 0 HG4.out rfl HB4.out (HO4.out) (by omega)); refine bodyPost_ret (results_cell_row Tryd.results56 _ _ (w.heap.size + 1 + 1) 82 #[.slice A3 0 c3, .int .i64 seen, .int .i64 0] (0, 0) _ rfl (by exact hres.1) Tryd.underlying82 rfl (by kernel_rfl)) rfl ⟨.slice A3 0 c3, by rw [HX.out], by rw [HX.out]; exact hres.2.1, hres.2.2⟩
 rw [hm] at HW
 -- a node is sought
 have h := HH.out; unfold walkI at h; rw [if_neg (fun g => by rcases g with g | g; (rw [emp_size, decide_eq_true_eq] at g; omega); (rw [hm] at g; cases g))] at h; have hrn : root.size = n := by rcases HRT.out with g | g; exact g; omega
 have hfnd := l3Find_f (n : Int) l root HSM.out 3000000 (by decide); rw [← findR_S n hn1 hn2 root hrn l, HHS.out] at hfnd; have hsz := @findR_sizes n l (cuts n l) root hn2; have hhs := @findR_hash n l (cuts n l) root; have hcd := findR_code n l (cuts n l) root; have hlenI := walkI_len n l (cuts n l) lo hi; obtain ⟨⟨k0, k1, k2, k3, cd⟩, hR⟩ : ∃ R, findR n l (cuts n l) root = R := ⟨_, rfl⟩
 rw [hR] at h hsz hhs hcd hfnd; dsimp only at h hsz hhs hcd; have HF := Lib.hid hfnd; have HSZ := Lib.hid hsz; have HHA := Lib.hid hhs; have HCD := Lib.hid hcd; have HLN := Lib.hid hlenI; have HH2 := Lib.hid h; clear h hsz hhs hcd hlenI hfnd hR HH hm he hrn
 (have p0 : W3.cell? ⟨w.heap.size, 0, none⟩ = some (.int .i64 (n : Int)) := (cell_of_row _ _ _ _ _ _ HG3.out.r0).trans rfl); (have p1 : W3.cell? ⟨w.heap.size, 1, none⟩ = some (.slice A0 l.length c0) := (cell_of_row _ _ _ _ _ _ HG3.out.r0).trans rfl); (have b0 : W3.cell? ⟨w.heap.size + 1, 0, none⟩ = some (.string blo) := (cell_of_row _ _ _ _ _ _ HG3.out.r1).trans rfl); (have b1 : W3.cell? ⟨w.heap.size + 1, 1, none⟩ = some (.string bhi) := (cell_of_row _ _ _ _ _ _ HG3.out.r1).trans rfl); (have r0 : W3.cell? ⟨w.heap.size + 1 + 1, 0, none⟩ = some (.slice none 0 0) := (cell_of_row _ _ _ _ _ _ HG3.out.r2).trans rfl); (have r1 : W3.cell? ⟨w.heap.size + 1 + 1, 1, none⟩ = some (.int .i64 0) := (cell_of_row _ _ _ _ _ _ HG3.out.r2).trans rfl); (have r2 : W3.cell? ⟨w.heap.size + 1 + 1, 2, none⟩ = some (.int .i64 0) := (cell_of_row _ _ _ _ _ _ HG3.out.r2).trans rfl); (have f0 := frozen_of_row _ _ 0 _ _ HG3.out.r2); (have f1 := frozen_of_row _ _ 1 _ _ HG3.out.r2); (have f2 := frozen_of_row _ _ 2 _ _ HG3.out.r2)
 go_upto_region 4 with (go_at_call 91; refine (spec_l4Wants.calls 3000000 blo bhi lo hi _ _ HW.out).mono ?_; rintro e w4 ⟨rfl, hb4⟩; have HG4 := Lib.hid (HG3.out.below hb4); have HB4 := Lib.hid (HB3.out.trans (hb4.mono HB3.out.size)); clear p0 p1 b0 b1 r0 r1 r2 f0 f1 f2 hb4)
 clear HG3 HB3 HR3 HO3' HW
 (have p0 : w4.cell? ⟨w.heap.size, 0, none⟩ = some (.int .i64 (n : Int)) := (cell_of_row _ _ _ _ _ _ HG4.out.r0).trans rfl); (have p1 : w4.cell? ⟨w.heap.size, 1, none⟩ = some (.slice A0 l.length c0) := (cell_of_row _ _ _ _ _ _ HG4.out.r0).trans rfl); (have b0 : w4.cell? ⟨w.heap.size + 1, 0, none⟩ = some (.string blo) := (cell_of_row _ _ _ _ _ _ HG4.out.r1).trans rfl); (have b1 : w4.cell? ⟨w.heap.size + 1, 1, none⟩ = some (.string bhi) := (cell_of_row _ _ _ _ _ _ HG4.out.r1).trans rfl); (have r0 : w4.cell? ⟨w.heap.size + 1 + 1, 0, none⟩ = some (.slice none 0 0) := (cell_of_row _ _ _ _ _ _ HG4.out.r2).trans rfl); (have r1 : w4.cell? ⟨w.heap.size + 1 + 1, 1, none⟩ = some (.int .i64 0) := (cell_of_row _ _ _ _ _ _ HG4.out.r2).trans rfl); (have r2 : w4.cell? ⟨w.heap.size + 1 + 1, 2, none⟩ = some (.int .i64 0) := (cell_of_row _ _ _ _ _ _ HG4.out.r2).trans rfl); (have f0 := frozen_of_row _ _ 0 _ _ HG4.out.r2); (have f1 := frozen_of_row _ _ 1 _ _ HG4.out.r2); (have f2 := frozen_of_row _ _ 2 _ _ HG4.out.r2)
 have HC0 := Lib.hid (Kd.C_below HA0.out HB4.out); have HC1 := Lib.hid (Kd.C_below HA1.out HB4.out)
 go_upto_region 5 with (go_at_call 92; refine (spec_l3Find.calls 3000000 n A0 c0 l A1 c1 H root k0 k1 k2 k3 cd _ HC0.out hc0 HC1.out hc1 HF.out).mono ?_; rintro e w5 ⟨rfl, hb5⟩; have HG5 := Lib.hid (HG4.out.below hb5); have HB5 := Lib.hid (HB4.out.trans (hb5.mono HB4.out.size)); clear p0 p1 b0 b1 r0 r1 r2 f0 f1 f2 hb5)
 obtain ⟨W6, hW6⟩ : ∃ W6, W6 = w5.alloc (.cells #[.string k0, .string k1, .string k2, .string k3] 99) := ⟨_, rfl⟩
 rw [← hW6]; obtain ⟨nb, hnb⟩ : ∃ nb, w5.heap.size = nb := ⟨_, rfl⟩
 have hz6 : W6.heap.size = nb + 1 := by rw [hW6, ← hnb]; simp
 have hb6 : Below w5.heap.size w5 W6 := by rw [hW6]; exact (Below.refl _ _).alloc (Nat.le_refl _) _
 have hn6 : W6.heap[nb]? = some (.cells #[.string k0, .string k1, .string k2, .string k3] 99 (0, 0)) := by rw [hW6, ← hnb]; exact heap_alloc_new _ _
 rw [hnb]; have HG6 := Lib.hid (HG5.out.below hb6); have HB6 := Lib.hid (HB5.out.trans (hb6.mono HB5.out.size)); have HN6 := Lib.hid hn6; have hnw : w.heap.size + 3 ≤ nb := by have := lt_of_block HG5.out.r2; omega
 clear hW6 hnb hb6 hn6 HG5 HB5 HC0 HC1 HG4 HB4 HF
 by_cases h2 : cd = 2
 ·have HX : Hid (specR r = ([], 0, 2)) := Lib.hid (by
   have h := HH2.out; rw [if_pos h2] at h
   cases h; rfl)
  subst h2
  (have p0 : W6.cell? ⟨w.heap.size, 0, none⟩ = some (.int .i64 (n : Int)) := (cell_of_row _ _ _ _ _ _ HG6.out.r0).trans rfl); (have p1 : W6.cell? ⟨w.heap.size, 1, none⟩ = some (.slice A0 l.length c0) := (cell_of_row _ _ _ _ _ _ HG6.out.r0).trans rfl); (have b0 : W6.cell? ⟨w.heap.size + 1, 0, none⟩ = some (.string blo) := (cell_of_row _ _ _ _ _ _ HG6.out.r1).trans rfl); (have b1 : W6.cell? ⟨w.heap.size + 1, 1, none⟩ = some (.string bhi) := (cell_of_row _ _ _ _ _ _ HG6.out.r1).trans rfl); (have r0 : W6.cell? ⟨w.heap.size + 1 + 1, 0, none⟩ = some (.slice none 0 0) := (cell_of_row _ _ _ _ _ _ HG6.out.r2).trans rfl); (have r1 : W6.cell? ⟨w.heap.size + 1 + 1, 1, none⟩ = some (.int .i64 0) := (cell_of_row _ _ _ _ _ _ HG6.out.r2).trans rfl); (have r2 : W6.cell? ⟨w.heap.size + 1 + 1, 2, none⟩ = some (.int .i64 0) := (cell_of_row _ _ _ _ _ _ HG6.out.r2).trans rfl); (have f0 := frozen_of_row _ _ 0 _ _ HG6.out.r2); (have f1 := frozen_of_row _ _ 1 _ _ HG6.out.r2); (have f2 := frozen_of_row _ _ 2 _ _ HG6.out.r2)
  go_wp2_with fail
  (have hres := goRes 0 2 HG6.out rfl HB6.out (Kd.R_nil _ _ _ _ _) (Nat.le_refl _)); refine bodyPost_ret (results_cell_row Tryd.results56 _ _ (w.heap.size + 1 + 1) 82 #[.slice none 0 0, .int .i64 0, .int .i64 2] (0, 0) _ rfl (by exact hres.1) Tryd.underlying82 rfl (by kernel_rfl)) rfl ⟨.slice none 0 0, by rw [HX.out], by rw [HX.out]; exact hres.2.1, hres.2.2⟩
 have h := HH2.out; rw [if_neg h2] at h; have e2 : (cd == 2) = false := beq_eq_false_iff_ne.2 h2; obtain ⟨bad, hbad⟩ : ∃ bad, (decide (cd ≠ 0) || !holdsB blo bhi k0 || (!emp above && !highB above k0)) = bad := ⟨_, rfl⟩
 have HBAD := Lib.hid hbad; have HIN := Lib.hid (fun hk : k0.size ≤ 256 => l4Inside_f k0 blo bhi (by omega) (by omega) (by omega) 3000000 (by decide)); have HHI := Lib.hid (fun hk : k0.size ≤ 256 => spec_Higher_f above k0 (by omega) (by omega) 3000000 (by omega)); have HH3 := Lib.hid h; clear h hbad HH2
 go_upto_region 7 with fail
 go_cut [68] (fun v68 wc => v68 = .bool bad ∧ Below W6.heap.size W6 wc)
 case first =>
  have n0 : W6.cell? ⟨nb, 0, none⟩ = some (.string k0) := (cell_of_row _ _ _ _ _ _ HN6.out).trans rfl
  (have p0 : W6.cell? ⟨w.heap.size, 0, none⟩ = some (.int .i64 (n : Int)) := (cell_of_row _ _ _ _ _ _ HG6.out.r0).trans rfl); (have p1 : W6.cell? ⟨w.heap.size, 1, none⟩ = some (.slice A0 l.length c0) := (cell_of_row _ _ _ _ _ _ HG6.out.r0).trans rfl); (have b0 : W6.cell? ⟨w.heap.size + 1, 0, none⟩ = some (.string blo) := (cell_of_row _ _ _ _ _ _ HG6.out.r1).trans rfl); (have b1 : W6.cell? ⟨w.heap.size + 1, 1, none⟩ = some (.string bhi) := (cell_of_row _ _ _ _ _ _ HG6.out.r1).trans rfl); (have r0 : W6.cell? ⟨w.heap.size + 1 + 1, 0, none⟩ = some (.slice none 0 0) := (cell_of_row _ _ _ _ _ _ HG6.out.r2).trans rfl); (have r1 : W6.cell? ⟨w.heap.size + 1 + 1, 1, none⟩ = some (.int .i64 0) := (cell_of_row _ _ _ _ _ _ HG6.out.r2).trans rfl); (have r2 : W6.cell? ⟨w.heap.size + 1 + 1, 2, none⟩ = some (.int .i64 0) := (cell_of_row _ _ _ _ _ _ HG6.out.r2).trans rfl); (have f0 := frozen_of_row _ _ 0 _ _ HG6.out.r2); (have f1 := frozen_of_row _ _ 1 _ _ HG6.out.r2); (have f2 := frozen_of_row _ _ 2 _ _ HG6.out.r2)
  by_cases h3 : cd = 0
  ·subst h3; have hks := (HSZ.out rfl).1; have HIN2 := Lib.hid (HIN.out hks); have HHI2 := Lib.hid (HHI.out hks)
   cases hin : holdsB blo bhi k0
   ·have hb : bad = true := by rw [← HBAD.out, hin]; rfl
    rw [hin] at HIN2; have HBT := Lib.hid hb; clear hin hb e2
    go_wp2_with (go_at_call 93; refine (spec_l4Inside.calls 3000000 k0 blo bhi _ _ HIN2.out).mono ?_; rintro e w7 ⟨rfl, hb7⟩; have HB7 := Lib.hid hb7; clear hb7)
    go_meet
    exact ⟨by rw [HBT.out], HB7.out⟩
   ·rw [hin] at HIN2
    by_cases ha : above.size = 0
    ·have hb : bad = false := by rw [← HBAD.out, hin, emp_size, decide_eq_true (show ((above.size : Int) = 0) by omega)]; rfl
     have HBT := Lib.hid hb; have a1 : decide (0 < (above.size : Int)) = false := decide_eq_false (by omega); have a2 : decide (0 < above.size) = false := decide_eq_false (by omega); clear hin hb ha e2
     go_wp2_with (go_at_call 93; refine (spec_l4Inside.calls 3000000 k0 blo bhi _ _ HIN2.out).mono ?_; rintro e w7 ⟨rfl, hb7⟩; have HB7 := Lib.hid hb7; clear hb7)
     go_meet
     exact ⟨by rw [HBT.out], HB7.out⟩
    ·have a1 : decide (0 < (above.size : Int)) = true := decide_eq_true (by omega); have a2 : decide (0 < above.size) = true := decide_eq_true (by omega); have hb : bad = !highB above k0 := by rw [← HBAD.out, hin, emp_size, decide_eq_false (show ¬ ((above.size : Int) = 0) by omega)]; rfl
     have HBT := Lib.hid hb; clear hin hb ha e2
     go_wp2_with (first | (go_at_call 93; refine (spec_l4Inside.calls 3000000 k0 blo bhi _ _ HIN2.out).mono ?_; rintro e w7 ⟨rfl, hb7⟩; have HB7 := Lib.hid hb7; have m0 := cellB hb7 n0; clear hb7) | (go_at_call 94; refine (spec_Higher.calls 3000000 above k0 _ _ HHI2.out).mono ?_; rintro e w8 ⟨rfl, hb8⟩; have HB8 := Lib.hid (HB7.out.trans (hb8.mono HB7.out.size)); clear hb8))
     go_meet
     exact ⟨by rw [HBT.out], HB8.out⟩
  ·have h4 : cd = 3 := by rcases HCD.out with g | g | g <;> omega
   have hb : bad = true := by rw [← HBAD.out, decide_eq_true h3]; rfl
   have HBT := Lib.hid hb; subst h4; clear hb e2
   go_wp2_with fail
   go_meet
   exact ⟨by rw [HBT.out], Below.refl _ _⟩
 case rest =>
  obtain ⟨rfl, hbc⟩ := hcut; have HGc := Lib.hid (HG6.out.below hbc); have HBc := Lib.hid (HB6.out.trans (hbc.mono HB6.out.size)); have HNc := Lib.hid ((hbc.block nb (by omega)).trans HN6.out); have hzc := hbc.size; clear hbc HG6 HB6 HN6
  cases bad with
  | true =>
   have HX : Hid (specR r = ([], 0, 3)) := Lib.hid (by
    have h := HH3.out; have hb := HBAD.out; rw [if_pos (by
     rw [Bool.or_eq_true, Bool.or_eq_true, decide_eq_true_eq, Bool.and_eq_true] at hb
     rcases hb with (g | g) | ⟨g, g2⟩
     ·exact .inl g
     ·exact .inr (.inl (by simpa using g))
     ·exact .inr (.inr ⟨by simpa using g, by simpa using g2⟩))] at h
    cases h; rfl)
   (have p0 : wc.cell? ⟨w.heap.size, 0, none⟩ = some (.int .i64 (n : Int)) := (cell_of_row _ _ _ _ _ _ HGc.out.r0).trans rfl); (have p1 : wc.cell? ⟨w.heap.size, 1, none⟩ = some (.slice A0 l.length c0) := (cell_of_row _ _ _ _ _ _ HGc.out.r0).trans rfl); (have b0 : wc.cell? ⟨w.heap.size + 1, 0, none⟩ = some (.string blo) := (cell_of_row _ _ _ _ _ _ HGc.out.r1).trans rfl); (have b1 : wc.cell? ⟨w.heap.size + 1, 1, none⟩ = some (.string bhi) := (cell_of_row _ _ _ _ _ _ HGc.out.r1).trans rfl); (have r0 : wc.cell? ⟨w.heap.size + 1 + 1, 0, none⟩ = some (.slice none 0 0) := (cell_of_row _ _ _ _ _ _ HGc.out.r2).trans rfl); (have r1 : wc.cell? ⟨w.heap.size + 1 + 1, 1, none⟩ = some (.int .i64 0) := (cell_of_row _ _ _ _ _ _ HGc.out.r2).trans rfl); (have r2 : wc.cell? ⟨w.heap.size + 1 + 1, 2, none⟩ = some (.int .i64 0) := (cell_of_row _ _ _ _ _ _ HGc.out.r2).trans rfl); (have f0 := frozen_of_row _ _ 0 _ _ HGc.out.r2); (have f1 := frozen_of_row _ _ 1 _ _ HGc.out.r2); (have f2 := frozen_of_row _ _ 2 _ _ HGc.out.r2)
   go_wp2_with fail
   (have hres := goRes 0 3 HGc.out rfl HBc.out (Kd.R_nil _ _ _ _ _) (Nat.le_refl _)); refine bodyPost_ret (results_cell_row Tryd.results56 _ _ (w.heap.size + 1 + 1) 82 #[.slice none 0 0, .int .i64 0, .int .i64 3] (0, 0) _ rfl (by exact hres.1) Tryd.underlying82 rfl (by kernel_rfl)) rfl ⟨.slice none 0 0, by rw [HX.out], by rw [HX.out]; exact hres.2.1, hres.2.2⟩
  | false =>
   have hb := HBAD.out; rw [Bool.or_eq_false_iff, Bool.or_eq_false_iff, decide_eq_false_iff_not] at hb; have hcd0 : cd = 0 := by have := hb.1.1; omega
   have h := HH3.out; rw [if_neg (by
    rintro (g | g | ⟨g, g2⟩)
    ·exact g hcd0
    ·rw [g] at hb; exact absurd hb.1.2 (by decide)
    ·rw [g, g2] at hb; exact absurd hb.2 (by decide))] at h
   have hsz := HSZ.out hcd0; have hhs := HHA.out hcd0
   by_cases h6 : seen = 500
   ·have HX : Hid (specR r = ([], 0, 6)) := Lib.hid (by
     rw [if_pos h6] at h
     cases h; rfl)
    subst h6; clear h hb
    (have p0 : wc.cell? ⟨w.heap.size, 0, none⟩ = some (.int .i64 (n : Int)) := (cell_of_row _ _ _ _ _ _ HGc.out.r0).trans rfl); (have p1 : wc.cell? ⟨w.heap.size, 1, none⟩ = some (.slice A0 l.length c0) := (cell_of_row _ _ _ _ _ _ HGc.out.r0).trans rfl); (have b0 : wc.cell? ⟨w.heap.size + 1, 0, none⟩ = some (.string blo) := (cell_of_row _ _ _ _ _ _ HGc.out.r1).trans rfl); (have b1 : wc.cell? ⟨w.heap.size + 1, 1, none⟩ = some (.string bhi) := (cell_of_row _ _ _ _ _ _ HGc.out.r1).trans rfl); (have r0 : wc.cell? ⟨w.heap.size + 1 + 1, 0, none⟩ = some (.slice none 0 0) := (cell_of_row _ _ _ _ _ _ HGc.out.r2).trans rfl); (have r1 : wc.cell? ⟨w.heap.size + 1 + 1, 1, none⟩ = some (.int .i64 0) := (cell_of_row _ _ _ _ _ _ HGc.out.r2).trans rfl); (have r2 : wc.cell? ⟨w.heap.size + 1 + 1, 2, none⟩ = some (.int .i64 0) := (cell_of_row _ _ _ _ _ _ HGc.out.r2).trans rfl); (have f0 := frozen_of_row _ _ 0 _ _ HGc.out.r2); (have f1 := frozen_of_row _ _ 1 _ _ HGc.out.r2); (have f2 := frozen_of_row _ _ 2 _ _ HGc.out.r2)
    go_wp2_with fail
    (have hres := goRes 0 6 HGc.out rfl HBc.out (Kd.R_nil _ _ _ _ _) (Nat.le_refl _)); refine bodyPost_ret (results_cell_row Tryd.results56 _ _ (w.heap.size + 1 + 1) 82 #[.slice none 0 0, .int .i64 0, .int .i64 6] (0, 0) _ rfl (by exact hres.1) Tryd.underlying82 rfl (by kernel_rfl)) rfl ⟨.slice none 0 0, by rw [HX.out], by rw [HX.out]; exact hres.2.1, hres.2.2⟩
   rw [if_neg h6] at h; obtain ⟨⟨lp, s1, x1⟩, hL, h⟩ := Option.bind_eq_some_iff.mp h; dsimp only at h hL; have iL := HLN.out _ _ _ _ _ _ _ _ _ hL (by omega) (by omega); have hcl := HI.out (seen + 1) k2 k0 blo k0 _ wc A0 c0 A1 c1 (Kd.C_below HA0.out HBc.out) hc0 (Kd.C_below HA1.out HBc.out) hc1 hhs.1 hsz.1 hblo hsz.1 (by omega) (by omega) hL; have hwr : IntKind.i64.wrap (seen + 1) = seen + 1 := wrap_small _ (by omega) (by omega); have hs5 : ¬ 500 < seen + 1 := by omega
   by_cases hx1 : x1 = 0
   rotate_left
   ·have hsp : specR (lp, s1, x1) = ([], 0, x1) := specR_bad hx1; have HX : Hid (specR r = ([], 0, x1)) := Lib.hid (by
     rw [if_pos hx1] at h
     cases h
     exact specR_bad hx1)
    rw [hsp] at hcl; have HCL := Lib.hid hcl; have hxb : (x1 != 0) = true := bne_iff_ne.2 hx1; clear hcl hsp hL h hx1 hb
    (have p0 : wc.cell? ⟨w.heap.size, 0, none⟩ = some (.int .i64 (n : Int)) := (cell_of_row _ _ _ _ _ _ HGc.out.r0).trans rfl); (have p1 : wc.cell? ⟨w.heap.size, 1, none⟩ = some (.slice A0 l.length c0) := (cell_of_row _ _ _ _ _ _ HGc.out.r0).trans rfl); (have b0 : wc.cell? ⟨w.heap.size + 1, 0, none⟩ = some (.string blo) := (cell_of_row _ _ _ _ _ _ HGc.out.r1).trans rfl); (have b1 : wc.cell? ⟨w.heap.size + 1, 1, none⟩ = some (.string bhi) := (cell_of_row _ _ _ _ _ _ HGc.out.r1).trans rfl); (have r0 : wc.cell? ⟨w.heap.size + 1 + 1, 0, none⟩ = some (.slice none 0 0) := (cell_of_row _ _ _ _ _ _ HGc.out.r2).trans rfl); (have r1 : wc.cell? ⟨w.heap.size + 1 + 1, 1, none⟩ = some (.int .i64 0) := (cell_of_row _ _ _ _ _ _ HGc.out.r2).trans rfl); (have r2 : wc.cell? ⟨w.heap.size + 1 + 1, 2, none⟩ = some (.int .i64 0) := (cell_of_row _ _ _ _ _ _ HGc.out.r2).trans rfl); (have f0 := frozen_of_row _ _ 0 _ _ HGc.out.r2); (have f1 := frozen_of_row _ _ 1 _ _ HGc.out.r2); (have f2 := frozen_of_row _ _ 2 _ _ HGc.out.r2)
    have n0 : wc.cell? ⟨nb, 0, none⟩ = some (.string k0) := (cell_of_row _ _ _ _ _ _ HNc.out).trans rfl; have n2 : wc.cell? ⟨nb, 2, none⟩ = some (.string k2) := (cell_of_row _ _ _ _ _ _ HNc.out).trans rfl
    go_upto_region 12 with (go_at_call 56; refine HCL.out.mono ?_; rintro e w8 ⟨u1, rfl, hR8, hb8⟩; obtain ⟨B1, d1, rfl⟩ := Kd.R_slice hR8; have HR8 := Lib.hid hR8; have HB8 := Lib.hid hb8; clear p0 p1 b0 b1 r0 r1 r2 f0 f1 f2 n0 n2 hb8 hR8)
    obtain ⟨W9, hW9⟩ : ∃ W9, W9 = w8.alloc (.cells #[.slice B1 0 d1, .int .i64 0, .int .i64 x1] 82) := ⟨_, rfl⟩
    rw [← hW9]; have hb9 : Below wc.heap.size wc W9 := by rw [hW9]; exact HB8.out.alloc HB8.out.size _
    have hl9 : W9.heap[w8.heap.size]? = some (.cells #[.slice B1 0 d1, .int .i64 0, .int .i64 x1] 82 (0, 0)) := by rw [hW9]; exact heap_alloc_new _ _
    have HG9 := Lib.hid (HGc.out.below hb9); have HB9 := Lib.hid (HBc.out.trans (hb9.mono HBc.out.size)); have HR9 : Hid (Kd.R k65 65 W9 wc.heap.size (fun _ => True) (.slice B1 0 d1) []) := Lib.hid (by rw [hW9]; exact Kd.R_below HR8.out ((Below.refl _ _).alloc (Nat.le_refl _) _)); have l0 : W9.cell? ⟨w8.heap.size, 0, none⟩ = some (.slice B1 0 d1) := (cell_of_row _ _ _ _ _ _ hl9).trans rfl; have l1 : W9.cell? ⟨w8.heap.size, 1, none⟩ = some (.int .i64 0) := (cell_of_row _ _ _ _ _ _ hl9).trans rfl; have l2 : W9.cell? ⟨w8.heap.size, 2, none⟩ = some (.int .i64 x1) := (cell_of_row _ _ _ _ _ _ hl9).trans rfl
    (have p0 : W9.cell? ⟨w.heap.size, 0, none⟩ = some (.int .i64 (n : Int)) := (cell_of_row _ _ _ _ _ _ HG9.out.r0).trans rfl); (have p1 : W9.cell? ⟨w.heap.size, 1, none⟩ = some (.slice A0 l.length c0) := (cell_of_row _ _ _ _ _ _ HG9.out.r0).trans rfl); (have b0 : W9.cell? ⟨w.heap.size + 1, 0, none⟩ = some (.string blo) := (cell_of_row _ _ _ _ _ _ HG9.out.r1).trans rfl); (have b1 : W9.cell? ⟨w.heap.size + 1, 1, none⟩ = some (.string bhi) := (cell_of_row _ _ _ _ _ _ HG9.out.r1).trans rfl); (have r0 : W9.cell? ⟨w.heap.size + 1 + 1, 0, none⟩ = some (.slice none 0 0) := (cell_of_row _ _ _ _ _ _ HG9.out.r2).trans rfl); (have r1 : W9.cell? ⟨w.heap.size + 1 + 1, 1, none⟩ = some (.int .i64 0) := (cell_of_row _ _ _ _ _ _ HG9.out.r2).trans rfl); (have r2 : W9.cell? ⟨w.heap.size + 1 + 1, 2, none⟩ = some (.int .i64 0) := (cell_of_row _ _ _ _ _ _ HG9.out.r2).trans rfl); (have f0 := frozen_of_row _ _ 0 _ _ HG9.out.r2); (have f1 := frozen_of_row _ _ 1 _ _ HG9.out.r2); (have f2 := frozen_of_row _ _ 2 _ _ HG9.out.r2)
    clear hW9 hb9 hl9
    go_wp2_with fail
    (have hres := goRes 0 x1 HG9.out rfl HB9.out (HR9.out) (by omega)); refine bodyPost_ret (results_cell_row Tryd.results56 _ _ (w.heap.size + 1 + 1) 82 #[.slice B1 0 d1, .int .i64 0, .int .i64 x1] (0, 0) _ rfl (by exact hres.1) Tryd.underlying82 rfl (by kernel_rfl)) rfl ⟨.slice B1 0 d1, by rw [HX.out], by rw [HX.out]; exact hres.2.1, hres.2.2⟩
   subst hx1; rw [if_neg (by decide)] at h; obtain ⟨⟨rp, s2, x2⟩, hR, h⟩ := Option.bind_eq_some_iff.mp h; dsimp only at h hR; have hsp : specR (lp, s1, 0) = (lp, s1, 0) := rfl; rw [hsp] at hcl; have HCL := Lib.hid hcl; have HRR := Lib.hid hR; have HH4 := Lib.hid h; have HHS3 := Lib.hid hhs.2; have hk0s := hsz.1; clear hcl hsp hL h hR hhs hsz hb
   (have p0 : wc.cell? ⟨w.heap.size, 0, none⟩ = some (.int .i64 (n : Int)) := (cell_of_row _ _ _ _ _ _ HGc.out.r0).trans rfl); (have p1 : wc.cell? ⟨w.heap.size, 1, none⟩ = some (.slice A0 l.length c0) := (cell_of_row _ _ _ _ _ _ HGc.out.r0).trans rfl); (have b0 : wc.cell? ⟨w.heap.size + 1, 0, none⟩ = some (.string blo) := (cell_of_row _ _ _ _ _ _ HGc.out.r1).trans rfl); (have b1 : wc.cell? ⟨w.heap.size + 1, 1, none⟩ = some (.string bhi) := (cell_of_row _ _ _ _ _ _ HGc.out.r1).trans rfl); (have r0 : wc.cell? ⟨w.heap.size + 1 + 1, 0, none⟩ = some (.slice none 0 0) := (cell_of_row _ _ _ _ _ _ HGc.out.r2).trans rfl); (have r1 : wc.cell? ⟨w.heap.size + 1 + 1, 1, none⟩ = some (.int .i64 0) := (cell_of_row _ _ _ _ _ _ HGc.out.r2).trans rfl); (have r2 : wc.cell? ⟨w.heap.size + 1 + 1, 2, none⟩ = some (.int .i64 0) := (cell_of_row _ _ _ _ _ _ HGc.out.r2).trans rfl); (have f0 := frozen_of_row _ _ 0 _ _ HGc.out.r2); (have f1 := frozen_of_row _ _ 1 _ _ HGc.out.r2); (have f2 := frozen_of_row _ _ 2 _ _ HGc.out.r2)
   have n0 : wc.cell? ⟨nb, 0, none⟩ = some (.string k0) := (cell_of_row _ _ _ _ _ _ HNc.out).trans rfl; have n2 : wc.cell? ⟨nb, 2, none⟩ = some (.string k2) := (cell_of_row _ _ _ _ _ _ HNc.out).trans rfl
   go_upto_region 12 with (go_at_call 56; refine HCL.out.mono ?_; rintro e w8 ⟨u1, rfl, hR8, hb8⟩; obtain ⟨B1, d1, rfl⟩ := Kd.R_slice hR8; have HR8 := Lib.hid hR8; have HB8 := Lib.hid hb8; clear p0 p1 b0 b1 r0 r1 r2 f0 f1 f2 n0 n2 hb8 hR8)
   obtain ⟨W9, hW9⟩ : ∃ W9, W9 = w8.alloc (.cells #[.slice B1 lp.length d1, .int .i64 s1, .int .i64 0] 82) := ⟨_, rfl⟩
   rw [← hW9]; obtain ⟨lb, hlb⟩ : ∃ lb, w8.heap.size = lb := ⟨_, rfl⟩
   have hz9 : W9.heap.size = lb + 1 := by rw [hW9, ← hlb]; simp
   have hb9 : Below wc.heap.size wc W9 := by rw [hW9]; exact HB8.out.alloc HB8.out.size _
   have hl9 : W9.heap[lb]? = some (.cells #[.slice B1 lp.length d1, .int .i64 s1, .int .i64 0] 82 (0, 0)) := by rw [hW9, ← hlb]; exact heap_alloc_new _ _
   have HG9 := Lib.hid (HGc.out.below hb9); have HB9 := Lib.hid (HBc.out.trans (hb9.mono HBc.out.size)); have HN9 := Lib.hid ((hb9.block nb (by omega)).trans HNc.out); have HL9 := Lib.hid hl9; have HR9 : Hid (Kd.R k65 65 W9 wc.heap.size (fun _ => True) (.slice B1 lp.length d1) lp) := Lib.hid (by rw [hW9]; exact Kd.R_below HR8.out ((Below.refl _ _).alloc (Nat.le_refl _) _)); have hzl : wc.heap.size ≤ lb := by rw [← hlb]; exact HB8.out.size
   rw [hlb]; clear hW9 hlb hb9 hl9 HR8 HB8 HCL HGc HBc HNc; have hcr := HI.out s1 k3 k0 k0 bhi _ W9 A0 c0 A1 c1 (Kd.C_below HA0.out HB9.out) hc0 (Kd.C_below HA1.out HB9.out) hc1 HHS3.out hk0s hk0s hbhi (by omega) (by omega) HRR.out; have iR := HLN.out _ _ _ _ _ _ _ _ _ HRR.out (by omega) (by omega); have HCR := Lib.hid hcr; clear hcr; have l1 : W9.cell? ⟨lb, 1, none⟩ = some (.int .i64 s1) := (cell_of_row _ _ _ _ _ _ HL9.out).trans rfl; have l2 : W9.cell? ⟨lb, 2, none⟩ = some (.int .i64 0) := (cell_of_row _ _ _ _ _ _ HL9.out).trans rfl; have n0 : W9.cell? ⟨nb, 0, none⟩ = some (.string k0) := (cell_of_row _ _ _ _ _ _ HN9.out).trans rfl; have n3 : W9.cell? ⟨nb, 3, none⟩ = some (.string k3) := (cell_of_row _ _ _ _ _ _ HN9.out).trans rfl
   (have p0 : W9.cell? ⟨w.heap.size, 0, none⟩ = some (.int .i64 (n : Int)) := (cell_of_row _ _ _ _ _ _ HG9.out.r0).trans rfl); (have p1 : W9.cell? ⟨w.heap.size, 1, none⟩ = some (.slice A0 l.length c0) := (cell_of_row _ _ _ _ _ _ HG9.out.r0).trans rfl); (have b0 : W9.cell? ⟨w.heap.size + 1, 0, none⟩ = some (.string blo) := (cell_of_row _ _ _ _ _ _ HG9.out.r1).trans rfl); (have b1 : W9.cell? ⟨w.heap.size + 1, 1, none⟩ = some (.string bhi) := (cell_of_row _ _ _ _ _ _ HG9.out.r1).trans rfl); (have r0 : W9.cell? ⟨w.heap.size + 1 + 1, 0, none⟩ = some (.slice none 0 0) := (cell_of_row _ _ _ _ _ _ HG9.out.r2).trans rfl); (have r1 : W9.cell? ⟨w.heap.size + 1 + 1, 1, none⟩ = some (.int .i64 0) := (cell_of_row _ _ _ _ _ _ HG9.out.r2).trans rfl); (have r2 : W9.cell? ⟨w.heap.size + 1 + 1, 2, none⟩ = some (.int .i64 0) := (cell_of_row _ _ _ _ _ _ HG9.out.r2).trans rfl); (have f0 := frozen_of_row _ _ 0 _ _ HG9.out.r2); (have f1 := frozen_of_row _ _ 1 _ _ HG9.out.r2); (have f2 := frozen_of_row _ _ 2 _ _ HG9.out.r2)
   go_upto_region 15 with (go_at_call 56; refine HCR.out.mono ?_; rintro e w10 ⟨u2, rfl, hR10, hb10⟩; obtain ⟨B2, d2, rfl⟩ := Kd.R_slice hR10; have HR10 := Lib.hid hR10; have HB10 := Lib.hid hb10; clear p0 p1 b0 b1 r0 r1 r2 f0 f1 f2 n0 n3 l1 l2 hb10 hR10)
   obtain ⟨⟨rq, s3, x3⟩, hq⟩ : ∃ q, specR (rp, s2, x2) = q := ⟨_, rfl⟩
   rw [hq] at HR10 ⊢; dsimp only at HR10 ⊢; obtain ⟨W11, hW11⟩ : ∃ W11, W11 = w10.alloc (.cells #[.slice B2 rq.length d2, .int .i64 s3, .int .i64 x3] 82) := ⟨_, rfl⟩
   rw [← hW11]; obtain ⟨rb, hrb⟩ : ∃ rb, w10.heap.size = rb := ⟨_, rfl⟩
   have hz11 : W11.heap.size = rb + 1 := by rw [hW11, ← hrb]; simp
   have hb11 : Below W9.heap.size W9 W11 := by rw [hW11]; exact HB10.out.alloc HB10.out.size _
   have hr11 : W11.heap[rb]? = some (.cells #[.slice B2 rq.length d2, .int .i64 s3, .int .i64 x3] 82 (0, 0)) := by rw [hW11, ← hrb]; exact heap_alloc_new _ _
   have HG11 := Lib.hid (HG9.out.below hb11); have HB11 := Lib.hid (HB9.out.trans (hb11.mono HB9.out.size)); have HN11 := Lib.hid ((hb11.block nb (by omega)).trans HN9.out); have HL11 := Lib.hid ((hb11.block lb (by omega)).trans HL9.out); have HR11 := Lib.hid hr11; have HP1 := Lib.hid (Kd.R_below HR9.out hb11); have HP2 : Hid (Kd.R k65 65 W11 W9.heap.size (fun _ => True) (.slice B2 rq.length d2) rq) := Lib.hid (by rw [hW11]; exact Kd.R_below HR10.out ((Below.refl _ _).alloc (Nat.le_refl _) _)); have hzr : lb < rb := by have := HB10.out.size; omega
   have HU1 := Lib.hid (Kd.R_lt HR9.out); rw [hrb]; clear hW11 hrb hb11 hr11 HR10 HB10 HCR HG9 HB9 HN9 HL9 HR9; have q2 : W11.cell? ⟨rb, 2, none⟩ = some (.int .i64 x3) := (cell_of_row _ _ _ _ _ _ HR11.out).trans rfl; have HQ := Lib.hid hq; clear hq
   by_cases hx2 : x2 = 0
   rotate_left
   ·have hq2 : specR (rp, s2, x2) = ([], 0, x2) := specR_bad hx2; have hq3 := HQ.out; rw [hq2] at hq3
    cases hq3
    have HX : Hid (specR r = ([], 0, x2)) := Lib.hid (by
     have h := HH4.out; rw [if_pos hx2] at h
     cases h
     exact specR_bad hx2)
    have hxb : (x2 != 0) = true := bne_iff_ne.2 hx2; have q0 : W11.cell? ⟨rb, 0, none⟩ = some (.slice B2 0 d2) := (cell_of_row _ _ _ _ _ _ HR11.out).trans rfl; have q1 : W11.cell? ⟨rb, 1, none⟩ = some (.int .i64 0) := (cell_of_row _ _ _ _ _ _ HR11.out).trans rfl; clear hq2 hx2
    (have p0 : W11.cell? ⟨w.heap.size, 0, none⟩ = some (.int .i64 (n : Int)) := (cell_of_row _ _ _ _ _ _ HG11.out.r0).trans rfl); (have p1 : W11.cell? ⟨w.heap.size, 1, none⟩ = some (.slice A0 l.length c0) := (cell_of_row _ _ _ _ _ _ HG11.out.r0).trans rfl); (have b0 : W11.cell? ⟨w.heap.size + 1, 0, none⟩ = some (.string blo) := (cell_of_row _ _ _ _ _ _ HG11.out.r1).trans rfl); (have b1 : W11.cell? ⟨w.heap.size + 1, 1, none⟩ = some (.string bhi) := (cell_of_row _ _ _ _ _ _ HG11.out.r1).trans rfl); (have r0 : W11.cell? ⟨w.heap.size + 1 + 1, 0, none⟩ = some (.slice none 0 0) := (cell_of_row _ _ _ _ _ _ HG11.out.r2).trans rfl); (have r1 : W11.cell? ⟨w.heap.size + 1 + 1, 1, none⟩ = some (.int .i64 0) := (cell_of_row _ _ _ _ _ _ HG11.out.r2).trans rfl); (have r2 : W11.cell? ⟨w.heap.size + 1 + 1, 2, none⟩ = some (.int .i64 0) := (cell_of_row _ _ _ _ _ _ HG11.out.r2).trans rfl); (have f0 := frozen_of_row _ _ 0 _ _ HG11.out.r2); (have f1 := frozen_of_row _ _ 1 _ _ HG11.out.r2); (have f2 := frozen_of_row _ _ 2 _ _ HG11.out.r2)
    go_wp2_with fail
    (have hres := goRes 0 x2 HG11.out rfl HB11.out (HP2.out) (by omega)); refine bodyPost_ret (results_cell_row Tryd.results56 _ _ (w.heap.size + 1 + 1) 82 #[.slice B2 0 d2, .int .i64 0, .int .i64 x2] (0, 0) _ rfl (by exact hres.1) Tryd.underlying82 rfl (by kernel_rfl)) rfl ⟨.slice B2 0 d2, by rw [HX.out], by rw [HX.out]; exact hres.2.1, hres.2.2⟩
   subst hx2; have hq3 := HQ.out; rw [show specR (rp, s2, 0) = (rp, s2, 0) from rfl] at hq3
   cases hq3
   clear HQ; have l0 : W11.cell? ⟨lb, 0, none⟩ = some (.slice B1 lp.length d1) := (cell_of_row _ _ _ _ _ _ HL11.out).trans rfl
   go_upto_region 18 with fail
   go_cut [131] (fun v131 wd => v131 = .bool (holdsW lo hi k0) ∧ Below W11.heap.size W11 wd)
   case first =>
    clear l0 q2; have n0 : W11.cell? ⟨nb, 0, none⟩ = some (.string k0) := (cell_of_row _ _ _ _ _ _ HN11.out).trans rfl; have HX1 := Lib.hid (spec_l1Less_f k0 lo (by omega) 3000000 (by omega)); have HX2 := Lib.hid (spec_l1Less_f k0 hi (by omega) 3000000 (by omega)); have HHW := Lib.hid (show holdsW lo hi k0 = (!ltS k0 lo && (emp hi || ltS k0 hi)) from rfl)
    cases h1 : Op.bytesLess k0.toList lo.toList
    ·rw [h1] at HX1
     by_cases h2 : hi.size = 0
     ·have e1 : ((hi.size : Int) == 0) = true := beq_iff_eq.2 (by omega); have HBT : Hid (holdsW lo hi k0 = true) := Lib.hid (by rw [HHW.out, emp_size, decide_eq_true (show ((hi.size : Int) = 0) by omega)]; unfold ltS; rw [h1]; rfl); clear h1 h2
      go_wp2_with (go_at_call 82; refine (spec_l1Less.calls 3000000 k0 lo _ _ HX1.out).mono ?_; rintro e w12 ⟨rfl, hd⟩; have HB12 := Lib.hid hd.below; clear hd)
      go_meet
      exact ⟨by rw [HBT.out], HB12.out⟩
     ·have e1 : ((hi.size : Int) == 0) = false := beq_eq_false_iff_ne.2 (by omega); have HBT : Hid (holdsW lo hi k0 = Op.bytesLess k0.toList hi.toList) := Lib.hid (by rw [HHW.out, emp_size, decide_eq_false (show ¬ ((hi.size : Int) = 0) by omega)]; unfold ltS; rw [h1]; rfl); clear h1 h2
      go_wp2_with (first | (go_at_call 82; (with_reducible refine (spec_l1Less.calls 3000000 k0 lo _ _ HX1.out).mono ?_); rintro e w12 ⟨rfl, hd⟩; have HB12 := Lib.hid hd.below; have m0 := cellB hd.below n0; clear hd) | (go_at_call 82; (with_reducible refine (spec_l1Less.calls 3000000 k0 hi _ _ HX2.out).mono ?_); rintro e w13 ⟨rfl, hd⟩; have HB13 := Lib.hid (HB12.out.trans (hd.below.mono HB12.out.size)); clear hd))
      go_meet
      exact ⟨by rw [HBT.out], HB13.out⟩
    ·rw [h1] at HX1; have HBT : Hid (holdsW lo hi k0 = false) := Lib.hid (by rw [HHW.out]; unfold ltS; rw [h1]; rfl); clear h1
     go_wp2_with (go_at_call 82; refine (spec_l1Less.calls 3000000 k0 lo _ _ HX1.out).mono ?_; rintro e w12 ⟨rfl, hd⟩; have HB12 := Lib.hid hd.below; clear hd)
     go_meet
     exact ⟨by rw [HBT.out], HB12.out⟩
   case rest =>
    obtain ⟨rfl, hbd⟩ := hcut; have ho : OutIs w.heap.size n A0 l.length c0 blo bhi rb (.slice B2 rp.length d2) s2 rp w lp (.slice B1 lp.length d1) wc :=
     ⟨Kd.R_lower (Kd.R_below HP1.out hbd) (by omega), Kd.R_lower (Kd.R_below HP2.out hbd) (by omega), fun q hq e => by have h1 := HU1.out q hq; have h2 := Kd.R_base HP2.out q e.symm; omega, fun q hq => ⟨by have := Kd.R_base HP1.out q hq; omega, by have h1 := HU1.out q hq; omega⟩, HG11.out.below hbd, (hbd.block rb (by omega)).trans HR11.out, HB11.out.trans (hbd.mono HB11.out.size), rfl⟩
    have HO := Lib.hid ho; have HNd := Lib.hid ((hbd.block nb (by omega)).trans HN11.out); clear ho hbd HG11 HB11 HN11 HL11 HR11 HP1 HP2 l0 q2; obtain ⟨out0, hout⟩ : ∃ out0, (if holdsW lo hi k0 = true then lp ++ [(⟨k0, k1⟩ : S65)] else lp) = out0 := ⟨_, rfl⟩
    have HX : Hid (specR r = (out0 ++ rp, s2, 0)) := Lib.hid (by
     have h := HH4.out; rw [if_neg (by decide), hout] at h
     cases h; rfl)
    have HOUT := Lib.hid hout; have hol : out0.length ≤ lp.length + 1 := by
     rw [← hout]; split
     ·rw [List.length_append, List.length_singleton]; omega
     ·omega
    clear hout HH4
    go_upto_if 131 with (fail)
    go_cut [22] (fun v22 we => OutIs w.heap.size n A0 l.length c0 blo bhi rb (.slice B2 rp.length d2) s2 rp w out0 v22 we)
    case first =>
     have n0 : wc.cell? ⟨nb, 0, none⟩ = some (.string k0) := (cell_of_row _ _ _ _ _ _ HNd.out).trans rfl; have n1 : wc.cell? ⟨nb, 1, none⟩ = some (.string k1) := (cell_of_row _ _ _ _ _ _ HNd.out).trans rfl
     cases hh : holdsW lo hi k0
     ·have HE : Hid (out0 = lp) := Lib.hid (by rw [← HOUT.out, hh]; rfl); clear hh
      go_wp2_with fail
      go_meet
      rw [HE.out]; exact HO.out
     ·have HE : Hid (out0 = lp ++ [⟨k0, k1⟩]) := Lib.hid (by rw [← HOUT.out, hh]; rfl); clear hh
      go_wp2_with ((with_reducible refine gate_builtin (b := .append) (xs := #[.tmp 132, .tmp 138]) rfl ?_); at_builtin; refine Kd.R_append k65 (w0 := w) w.heap.size rfl (.tmp 132) (.tmp 138) 25 65 (.agg #[(.string ⟨#[]⟩), (.string ⟨#[]⟩)]) 32 rfl Tryd.underlying25 info65 rfl (by decide) (by omega) _ _ (⟨k0, k1⟩ : S65) [.string k0, .string k1] (fun _ => True) (fun _ => False) rfl rfl (k65_mkM _ _ _ (⟨k0, k1⟩ : S65)) (fun _ h => h.elim) (fun _ _ => trivial) HO.out.r HO.out.below (by have := HO.out.below.size; omega) (by omega) ?_; intro v4 w14 ho4 hb4 hg4 ha4; have HO4 := Lib.hid (HO.out.app ho4 hb4 hg4 ha4); clear ho4 hb4 hg4 ha4)
      go_meet
      rw [HE.out]; exact HO4.out
    case rest =>
     have HO5 := Lib.hid hcut; clear hcut HO HNd
     go_upto_block 0 with fail
     go_cut [22] (fun v22 we => OutIs w.heap.size n A0 l.length c0 blo bhi rb (.slice B2 rp.length d2) s2 rp w (out0 ++ rp) v22 we)
     case first =>
      go_wp2_with fail
      go_loopw [22, 23] (fun v i wr => ∃ j : Nat, j ≤ rp.length ∧ i = .int .i64 j ∧ OutIs w.heap.size n A0 l.length c0 blo bhi rb (.slice B2 rp.length d2) s2 rp w (out0 ++ rp.take j) v wr) (fun _ i _ => rp.length - (intOf i).toNat)
      case atStart => exact ⟨0, by omega, rfl, by rw [List.take_zero, List.append_nil]; exact HO5.out⟩
      case round =>
       obtain ⟨j, hj, rfl, hO⟩ := hrel; obtain ⟨A7, d7, hv⟩ := Kd.R_slice hO.r; subst hv; have HO6 := Lib.hid hO; clear hO; have q0 : wr.cell? ⟨rb, 0, none⟩ = some (.slice B2 rp.length d2) := (cell_of_row _ _ _ _ _ _ HO6.out.row).trans rfl; have q1 : wr.cell? ⟨rb, 1, none⟩ = some (.int .i64 s2) := (cell_of_row _ _ _ _ _ _ HO6.out.row).trans rfl
       by_cases hl : j < rp.length
       ·obtain ⟨_, hcd, hC⟩ := Kd.R_reads' HO6.out.q; obtain ⟨ad, ea, hx0, hx1⟩ := at_T65 hC (j : Int) (by omega) (by omega); subst ea; have hrd : rd_T65 rp (j : Int) = rp[j] := by
         unfold rd_T65; rw [Int.toNat_natCast, List.getD_eq_getElem?_getD, List.getElem?_eq_getElem hl]; rfl
        rw [hrd, Int.toNat_natCast] at hx0 hx1; obtain ⟨⟨pk, pv⟩, hp⟩ : ∃ p, rp[j] = p := ⟨_, rfl⟩
        rw [hp] at hx0 hx1; have HP := Lib.hid hp; dsimp only at hx0 hx1; have hlen : (out0 ++ rp.take j).length ≤ 2000 := by rw [List.length_append, List.length_take]; omega
        have j0 : (0 : Int) ≤ (j : Int) := by omega
        clear hp hrd hC
        go_wp2_with ((with_reducible refine gate_builtin (b := .append) (xs := #[.tmp 147, .tmp 153]) rfl ?_); at_builtin; refine Kd.R_append k65 (w0 := w) w.heap.size rfl (.tmp 147) (.tmp 153) 25 65 (.agg #[(.string ⟨#[]⟩), (.string ⟨#[]⟩)]) 32 rfl Tryd.underlying25 info65 rfl (by decide) (by omega) _ _ (⟨pk, pv⟩ : S65) [.string pk, .string pv] (fun _ => True) (fun _ => False) rfl rfl (k65_mkM _ _ _ (⟨pk, pv⟩ : S65)) (fun _ h => h.elim) (fun _ _ => trivial) HO6.out.r HO6.out.below (by have := HO6.out.below.size; omega) (by omega) ?_; intro v4 w14 ho4 hb4 hg4 ha4; have HO4 := Lib.hid (HO6.out.app ho4 hb4 hg4 ha4); clear ho4 hb4 hg4 ha4)
        go_roundw
        case rel =>
         refine ⟨j + 1, by omega, by go_num, ?_⟩; rw [List.take_succ_eq_append_getElem hl, HP.out, ← List.append_assoc]; exact HO4.out
        case measure => simp [intOf]; omega
       ·obtain rfl : j = rp.length := by omega
        rw [List.take_length] at HO6 ⊢
        go_wp2_with fail
        go_meet
        exact HO6.out
     case rest =>
      obtain ⟨A7, d7, hv⟩ := Kd.R_slice hcut.r; subst hv; have HO6 := Lib.hid hcut; clear hcut; have q1 : wc.cell? ⟨rb, 1, none⟩ = some (.int .i64 s2) := (cell_of_row _ _ _ _ _ _ HO6.out.row).trans rfl; obtain ⟨N, hN⟩ : ∃ N, (out0 ++ rp).length = N := ⟨_, rfl⟩
      rw [hN] at HO6 ⊢; have HI7 : Hid ((Tryd.prog.info? 82).map (·.size) = some (#[Value.slice A7 N d7, .int .i64 s2, .int .i64 0].size)) := Lib.hid (by kernel_rfl); have H17 : Hid ((#[Value.slice A7 N d7, .int .i64 s2, .int .i64 0] : Array Value).all (·.oneCell') = true) := Lib.hid (by simp [Value.oneCell']); clear hN; have HROW := Lib.hid (setRow_heap wc (w.heap.size + 1 + 1) _ #[.slice A7 N d7, .int .i64 s2, .int .i64 0] _ _ HO6.out.rows.r2); have hgr : wc.grownBy (wc.setRow (w.heap.size + 1 + 1) #[.slice A7 N d7, .int .i64 s2, .int .i64 0]) (some (w.heap.size + 1 + 1)) :=
       ⟨rfl, rfl, rfl, by rw [setRow_size]; exact Nat.le_refl _, fun k _ hne => setRow_other _ _ _ _ (fun e => hne (by rw [e]))⟩
      go_wp2_with (refine wpList_store_row rfl 82 _ _ rfl (w.heap.size + 1 + 1) _ rfl rfl _ _ HO6.out.rows.r2 HI7.out rfl H17.out ?_; rename_i K hK; refine (show K _ _ → _ from fun h => h) (hK _ _ ?_); refine wp_ret ?_; refine bodyPost_ret (results_cell_row Tryd.results56 _ _ (w.heap.size + 1 + 1) 82 #[.slice A7 N d7, .int .i64 s2, .int .i64 0] (0, 0) _ rfl HROW.out Tryd.underlying82 rfl HI7.out) rfl ⟨.slice A7 N d7, by rw [HX.out], by rw [HX.out]; exact Kd.R_grown2 HO6.out.r rfl hgr (fun k hk e => by have h1 := HO6.out.far k e.symm; have h2 : w.heap.size + 1 + 1 = k := Option.some.inj hk; omega), HO6.out.below.grown hgr HO6.out.below.size (fun k hk => by have h2 : w.heap.size + 1 + 1 = k := Option.some.inj hk; omega)⟩)
def goOk (W : Int) (l H : List ByteArray) (root above blo bhi lo hi : ByteArray) (seen : Int) : Prop :=
 small l ∧ 1 ≤ W ∧ W ≤ 32 ∧ H = hashS W l ∧ ((root.size : Int) = W ∨ (root.size : Int) = 0) ∧ above.size ≤ 256 ∧ blo.size ≤ 256 ∧ bhi.size ≤ 256 ∧ lo.size ≤ 1048576 ∧ hi.size ≤ 1048576 ∧ 0 ≤ seen ∧ seen ≤ 500
instance (W : Int) (l H : List ByteArray) (root above blo bhi lo hi : ByteArray) (seen : Int) : Decidable (goOk W l H root above blo bhi lo hi seen) :=
 inferInstanceAs (Decidable (small l ∧ 1 ≤ W ∧ W ≤ 32 ∧ H = hashS W l ∧ ((root.size : Int) = W ∨ (root.size : Int) = 0) ∧ above.size ≤ 256 ∧ blo.size ≤ 256 ∧ bhi.size ≤ 256 ∧ lo.size ≤ 1048576 ∧ hi.size ≤ 1048576 ∧ 0 ≤ seen ∧ seen ≤ 500))
def spec_l4Go.f (a0_0 : Int) (l0_1 l1 : List ByteArray) (a2 a3 a4_0 a4_1 a5 a6 : ByteArray) (a7 : Int) : Option (List S65 × Int × Int) :=
 if goOk a0_0 l0_1 l1 a2 a3 a4_0 a4_1 a5 a6 a7 then (walkI a0_0.toNat l0_1 (cuts a0_0.toNat l0_1) a5 a6 502 a7 a2 a3 a4_0 a4_1).map specR else none
theorem spec_l4Go.calls (a0_0 : Int) (A0_1 : Option Addr) (c0_1 : Nat) (l0_1 : List ByteArray) (A1 : Option Addr) (c1 : Nat) (l1 : List ByteArray) (a2 a3 a4_0 a4_1 a5 a6 : ByteArray) (a7 : Int) (r1 : List S65) (r2 r3 : Int) (w : World) (hr0_1 : Kd.C Kd.string w A0_1 l0_1.length l0_1) (hc0_1 : l0_1.length ≤ c0_1) (hr1 : Kd.C Kd.string w A1 l1.length l1) (hc1 : l1.length ≤ c1) (h : spec_l4Go.f a0_0 l0_1 l1 a2 a3 a4_0 a4_1 a5 a6 a7 = some (r1, r2, r3)) :
  Calls Tryd.prog 56 #[.agg #[.int .i64 a0_0, .slice A0_1 l0_1.length c0_1], .slice A1 l1.length c1, .string a2, .string a3, .agg #[.string a4_0, .string a4_1], .string a5, .string a6, .int .i64 a7] w
   fun e w' => ∃ v0_ : Value, e = .returned (.agg #[v0_, .int .i64 r2, .int .i64 r3]) ∧ Kd.R k65 65 w' w.heap.size (fun _ => True) v0_ r1 ∧ Below w.heap.size w w' := by
 unfold spec_l4Go.f at h
 split at h
 ·rename_i hk
  obtain ⟨h1, h2, h3, h4, h5, h6, h7, h8, h9, h10, h11, h12⟩ := hk; obtain ⟨n, rfl⟩ : ∃ n : Nat, a0_0 = (n : Int) := ⟨a0_0.toNat, by omega⟩
  rw [Int.toNat_natCast] at h; obtain ⟨r, hr, he⟩ := Option.map_eq_some_iff.1 h; have hs := specGo_any n (by omega) (by omega) l0_1 h1 a5 a6 h9 h10 502 a7 a2 a3 a4_0 a4_1 r w A0_1 c0_1 A1 c1 hr0_1 hc0_1; rw [← h4, he] at hs; exact hs hr1 hc1 (by omega) h6 h7 h8 h11 h12 hr
 ·cases h
end Go.Proofs.YthnnphinfiobmaaDoor.Z
end
section
namespace Go.Proofs.YthnnphinfiobmaaDoor.Z
open Go.RowKit Go.Proofs.YthnnphinfiobmaaDoorW.PrintWords Go.Proofs.YthnnphinfiobmaaDoorW.PrintLast Go.Proofs.YthnnphinfiobmaaDoorW.PrintMore
attribute [local go_sem] max2_int min2_int max_two min_two max_three min_three max_four min_four
set_option linter.unusedVariables false
set_option linter.unusedSimpArgs false
def spec_l2HashOk.f (a0 : ByteArray) (a1 : Int) : Option (Bool) := if (a0.size : Int) = 0 then (some true) else (some ((a0.size : Int) == a1))
set_option maxHeartbeats 8000000 in
set_option maxRecDepth 100000 in
theorem spec_l2HashOk.calls (a0 : ByteArray) (a1 : Int) (r : Bool) (w : World) (h : spec_l2HashOk.f a0 a1 = some r) :
  Calls Tryd.prog 55 #[.string a0, .int .i64 a1] w fun e w' => e = .returned (.bool r) ∧ Drawn0 w w' := by
 have H : (if (a0.size : Int) = 0 then (some true) else (some ((a0.size : Int) == a1))) = some r := h; clear h
 by_cases c3 : (a0.size : Int) = 0
 ·rw [if_pos c3] at H; have c3b0 : ((a0.size : Int) == 0) = true := beq_iff_eq.mpr c3; have c3b1 : ((a0.size : Int) != 0) = false := bne_eq_false_iff_eq.mpr c3; clear c3; obtain rfl := Option.some.inj H
  go_enter Tryd.func55, Tryd.ntmps55
  go_wp2
  go_ret
  exact ⟨by first | rfl | (simp; done) | (simp [*]; done), by repeat (first | exact Drawn0.refl _ | apply Drawn0.step)⟩
 ·rw [if_neg c3] at H; have c3b0 : ((a0.size : Int) == 0) = false := beq_eq_false_iff_ne.mpr c3; have c3b1 : ((a0.size : Int) != 0) = true := bne_iff_ne.mpr c3; obtain rfl := Option.some.inj H
  go_enter Tryd.func55, Tryd.ntmps55
  go_wp2
  go_ret
  exact ⟨by first | rfl | (simp; done) | (simp [*]; done), by repeat (first | exact Drawn0.refl _ | apply Drawn0.step)⟩
end Go.Proofs.YthnnphinfiobmaaDoor.Z
end
