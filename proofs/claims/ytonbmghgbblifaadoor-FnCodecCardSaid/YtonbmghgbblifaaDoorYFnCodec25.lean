/- Own texts, joined. -/
import Derived.Test.YtonbmghgbblifaaDoorYFnCodec21
import Derived.Test.YtonbmghgbblifaaDoorYFnCodec23
import Derived.Test.YtonbmghgbblifaaDoorYFnCodec24
import Derived.Test.YtonbmghgbblifaaDoorYFnCodec22
section
namespace Go.Proofs.YtonbmghgbblifaaDoor.Z
open Go.RowKit Go.Proofs.YtonbmghgbblifaaDoorW.PrintWords Go.Proofs.YtonbmghgbblifaaDoorW.PrintLast Go.Proofs.YtonbmghgbblifaaDoorW.PrintMore
attribute [local go_sem] max2_int min2_int max_two min_two max_three min_three max_four min_four
set_option linter.unusedVariables false
set_option linter.unusedSimpArgs false
mutual
def laws_FnCodec.j0 : Nat → List Int → List Int → Bool → Option (Bool)
 | 0, _, _, _ => none
 | k + 1, x0, x1, x26 => if x26 = true then (some true) else ((spec_DrawEncodeNode.f k x0).bind fun bt70001 => ((spec_DrawCommitRecord.f k x1).bind fun bt70007 => ((impl_EncodeNode.f bt70001.1 bt70001.2.1 bt70001.2.2.1 bt70001.2.2.2.1 bt70001.2.2.2.2).bind fun t70009 => ((spec_EncodeNode.f bt70001.1 bt70001.2.1 bt70001.2.2.1 bt70001.2.2.2.1 bt70001.2.2.2.2).bind fun t70010 => (if (t70010.size : Int) = 0 then (if (t70009.size : Int) = 0 then ((impl_NodeHash.f bt70001.1 bt70001.2.1 bt70001.2.2.1 bt70001.2.2.2.1 bt70001.2.2.2.2).bind fun t70011 => (some ((t70011.size : Int) == 0))) else (none)) else ((impl_DecodeNode.f t70009 bt70001.2.2.2.2).bind fun bt70012 => (if bt70012.2.2.2.2 = true then (if bt70012.1.toList = bt70001.1.toList then (if bt70012.2.1.toList = bt70001.2.1.toList then (if bt70012.2.2.1.toList = bt70001.2.2.1.toList then (laws_FnCodec.j1 k x1 bt70001.2.2.2.2 bt70007.1 bt70007.2 t70009 (bt70012.2.2.2.1.toList != bt70001.2.2.2.1.toList) bt70001.1 bt70001.2.1 bt70001.2.2.1 bt70001.2.2.2.1) else (none)) else (none)) else (none)) else (none))))))))
def laws_FnCodec.j1 : Nat → List Int → Int → Int → ByteArray → ByteArray → Bool → ByteArray → ByteArray → ByteArray → ByteArray → Option (Bool)
 | 0, _, _, _, _, _, _, _, _, _, _ => none
 | k + 1, x1, x6, x7, x8, x9, x90, x70007000, x70007001, x70007002, x70007003 => if x90 = true then (none) else ((impl_NodeHash.f x70007000 x70007001 x70007002 x70007003 x6).bind fun t70018 => (if 1 + x9.size ≤ 9223372036854775807 then ((spec_Digest.f k ((⟨#[78]⟩ : ByteArray) ++ x9) x6).bind fun t70019 => (if t70018.toList = t70019.toList then ((impl_CommitRecord.f x7 x8).bind fun t70020 => ((spec_CommitRecord.f k x7 x8).bind fun t70021 => (if (t70021.size : Int) = 0 then (some ((t70020.size : Int) == 0)) else ((impl_NodeRecord.f x9).bind fun t70022 => (if (t70022.size : Int) < 64 then (none) else (laws_FnCodec.j2 k x1 x7 x8 x9 t70020 t70022 (((t70022.size : Int) % 64) != 0))))))) else (none))) else (none)))
def laws_FnCodec.j2 : Nat → List Int → Int → ByteArray → ByteArray → ByteArray → ByteArray → Bool → Option (Bool)
 | 0, _, _, _, _, _, _, _ => none
 | k + 1, x1, x7, x8, x9, x12, x13, x120 => if x120 = true then (none) else (if x12.size + x13.size ≤ 9223372036854775807 then (if (x12 ++ x13).size + x8.size ≤ 9223372036854775807 then (if ((x12 ++ x13) ++ x8).size + 1 ≤ 9223372036854775807 then ((impl_ReadRecord.f (((x12 ++ x13) ++ x8) ++ (⟨#[83]⟩ : ByteArray)) 0).bind fun bt70023 => ((impl_ReadRecord.f (((x12 ++ x13) ++ x8) ++ (⟨#[83]⟩ : ByteArray)) 1).bind fun bt70029 => (if bt70023.1 = 2 then (if bt70023.2.2.1 = x7 then (if bt70023.2.2.2.1.toList = x8.toList then (laws_FnCodec.j3 k x1 x9 x12 x13 (((x12 ++ x13) ++ x8) ++ (⟨#[83]⟩ : ByteArray)) (bt70023.2.2.2.2 != 1) bt70029.1 bt70029.2.1 bt70029.2.2.1 bt70029.2.2.2.1 bt70029.2.2.2.2) else (laws_FnCodec.j3 k x1 x9 x12 x13 (((x12 ++ x13) ++ x8) ++ (⟨#[83]⟩ : ByteArray)) true bt70029.1 bt70029.2.1 bt70029.2.2.1 bt70029.2.2.2.1 bt70029.2.2.2.2)) else (laws_FnCodec.j3 k x1 x9 x12 x13 (((x12 ++ x13) ++ x8) ++ (⟨#[83]⟩ : ByteArray)) true bt70029.1 bt70029.2.1 bt70029.2.2.1 bt70029.2.2.2.1 bt70029.2.2.2.2)) else (laws_FnCodec.j3 k x1 x9 x12 x13 (((x12 ++ x13) ++ x8) ++ (⟨#[83]⟩ : ByteArray)) true bt70029.1 bt70029.2.1 bt70029.2.2.1 bt70029.2.2.2.1 bt70029.2.2.2.2)))) else (none)) else (none)) else (none))
def laws_FnCodec.j3 : Nat → List Int → ByteArray → ByteArray → ByteArray → ByteArray → Bool → Int → ByteArray → Int → ByteArray → Int → Option (Bool)
 | 0, _, _, _, _, _, _, _, _, _, _, _ => none
 | k + 1, x1, x9, x12, x13, x14, x150, x70035000, x70035001, x70035002, x70035003, x70035004 => if x150 = true then (none) else (if x70035000 = 1 then (if x70035001.toList = x9.toList then (if (wrap64 (x70035004 * 64)) = (wrap64 ((x12.size : Int) + (x13.size : Int))) then (laws_FnCodec.j4 k x1 x13 x14 ((x12.size : Int) != 64)) else (none)) else (none)) else (none))
def laws_FnCodec.j4 : Nat → List Int → ByteArray → ByteArray → Bool → Option (Bool)
 | 0, _, _, _, _ => none
 | k + 1, x1, x13, x14, x175 => if x175 = true then (none) else ((laws_wPick.f x1 3).bind fun t70035 => (if (wrap64 ((x13.size : Int) / 64)) = 0 then (none) else (if 0 ≤ (wrap64 ((wrap64 (64 + (wrap64 ((Int.tmod t70035 (wrap64 ((x13.size : Int) / 64))) * 64)))) + 63)) then (if (wrap64 ((wrap64 (64 + (wrap64 ((Int.tmod t70035 (wrap64 ((x13.size : Int) / 64))) * 64)))) + 63)) ≤ (x14.size : Int) then (if (x14.extract 0 ((wrap64 ((wrap64 (64 + (wrap64 ((Int.tmod t70035 (wrap64 ((x13.size : Int) / 64))) * 64)))) + 63)) : Int).toNat).size + 1 ≤ 9223372036854775807 then (if 0 ≤ (wrap64 ((wrap64 ((wrap64 (64 + (wrap64 ((Int.tmod t70035 (wrap64 ((x13.size : Int) / 64))) * 64)))) + 63)) + 1)) then (if (wrap64 ((wrap64 ((wrap64 (64 + (wrap64 ((Int.tmod t70035 (wrap64 ((x13.size : Int) / 64))) * 64)))) + 63)) + 1)) ≤ (x14.size : Int) then (if ((x14.extract 0 ((wrap64 ((wrap64 (64 + (wrap64 ((Int.tmod t70035 (wrap64 ((x13.size : Int) / 64))) * 64)))) + 63)) : Int).toNat) ++ (⟨#[0]⟩ : ByteArray)).size + (x14.extract ((wrap64 ((wrap64 ((wrap64 (64 + (wrap64 ((Int.tmod t70035 (wrap64 ((x13.size : Int) / 64))) * 64)))) + 63)) + 1)) : Int).toNat x14.size).size ≤ 9223372036854775807 then ((impl_ReadRecord.f (((x14.extract 0 ((wrap64 ((wrap64 (64 + (wrap64 ((Int.tmod t70035 (wrap64 ((x13.size : Int) / 64))) * 64)))) + 63)) : Int).toNat) ++ (⟨#[0]⟩ : ByteArray)) ++ (x14.extract ((wrap64 ((wrap64 ((wrap64 (64 + (wrap64 ((Int.tmod t70035 (wrap64 ((x13.size : Int) / 64))) * 64)))) + 63)) + 1)) : Int).toNat x14.size)) 1).bind fun bt70036 => (some (bt70036.1 == 0))) else (none)) else (none)) else (none)) else (none)) else (none)) else (none))))
end
def laws_FnCodec.f (k : Nat) (l0 : List Int) (l1 : List Int) : Option (Bool) := if (l0.length : Int) > 1048576 then (laws_FnCodec.j0 k l0 l1 true) else (laws_FnCodec.j0 k l0 l1 (decide ((l1.length : Int) > 1048576)))
def laws_FnCodec.T27 : Bool × List (List Nat × List Nat) := (true, [([], []), ([], []), ([0, 1], [0, 1]), ([2], [2]), ([], []), ([], []), ([5], [5]), ([4, 6], [4, 6]), ([3, 7], [3, 7]), ([8], [8]), ([], []), ([10, 9, 9, 0, 1, 2, 3, 4, 5, 6, 7, 8, 9, 10], [9, 10])])
def laws_FnCodec.B27 : List Nat := [0, 0, 3, 7, 0, 0, 32, 112, 255, 511, 0, 2047]
theorem laws_FnCodec.tab27 : rtab .any (opsOf Tryd.f7 27) = laws_FnCodec.T27 := by kernel_rfl
theorem laws_FnCodec.bits27 : waitsOk laws_FnCodec.T27.2 laws_FnCodec.B27 = true := by kernel_rfl
set_option maxHeartbeats 8000000 in
set_option maxRecDepth 100000 in
theorem laws_FnCodec.calls (k : Nat) (A0 : Option Addr) (c0 : Nat) (l0 : List Int) (A1 : Option Addr) (c1 : Nat) (l1 : List Int) (r : Bool) (w : World) (hTab : Tab w) (hr0 : Kd.C (Kd.int .u8) w A0 l0.length l0) (hc0 : l0.length ≤ c0) (hr1 : Kd.C (Kd.int .u8) w A1 l1.length l1) (hc1 : l1.length ≤ c1) (h : laws_FnCodec.f k l0 l1 = some r) :
  Calls Tryd.prog 7 #[.slice A0 l0.length c0, .slice A1 l1.length c1] w fun e w' => e = .returned (.bool r) ∧ Below w.heap.size w w' := by
 have hu49 := Tryd.underlying49; have hu61 := Tryd.underlying61; have HR0 := Aside0.mk hr0; have HC0 := Aside0.mk hc0; clear hr0 hc0; have HR1 := Aside0.mk hr1; have HC1 := Aside0.mk hc1; clear hr1 hc1; have HB := Aside0.mk (Below.refl w.heap.size w); have H : (if (l0.length : Int) > 1048576 then (laws_FnCodec.j0 k l0 l1 true) else (laws_FnCodec.j0 k l0 l1 (decide ((l1.length : Int) > 1048576)))) = some r := h; clear h; have HC3 := Aside0.mk H; clear H
 go_enter Tryd.func7, Tryd.ntmps7
 go_upto_region 1 with (fail)
 go_cut [26] (fun v26 wc => ∃ (kq : Nat) (x26_2 : Bool), v26 = .bool x26_2 ∧ Aside0 (laws_FnCodec.j0 kq l0 l1 x26_2 = some r) ∧ Aside0 (kq ≤ k) ∧ Aside0 (Below w.heap.size w wc))
 case first =>
  have H := HC3.out; clear HC3
  by_cases c4 : (l0.length : Int) > 1048576
  ·rw [if_pos c4] at H; have c4b0 : decide (1048576 < (l0.length : Int)) = true := decide_eq_true c4; have c4b1 : decide (1048576 < l0.length) = true := decide_eq_true (by omega); clear c4; (first | rw [c4b0] | (simp only [i64_w, i32_w]; rw [c4b0]) | skip); have H' := Aside0.mk H; clear H
   go_wp2
   go_meet
   case rel => exact ⟨_, (true), (by first | rfl | (simp; done) | (simp [*]; done)), H', ⟨by first | omega | exact Nat.le_refl _⟩, ⟨by repeat (first | (with_reducible first | exact HB.out | apply below_alloc | apply pw_below_drewN | apply below_drew1) | exact HB.out)⟩⟩
  ·rw [if_neg c4] at H; have c4b0 : decide (1048576 < (l0.length : Int)) = false := decide_eq_false c4; have c4b1 : decide (1048576 < l0.length) = false := decide_eq_false (by omega); clear c4; (first | rw [c4b0] | (simp only [i64_w, i32_w]; rw [c4b0]) | skip); have H' := Aside0.mk H; clear H
   go_wp2
   go_meet
   case rel => exact ⟨_, (decide ((l1.length : Int) > 1048576)), (by first | rfl | (simp; done) | (simp [*]; done)), H', ⟨by first | omega | exact Nat.le_refl _⟩, ⟨by repeat (first | (with_reducible first | exact HB.out | apply below_alloc | apply pw_below_drewN | apply below_drew1) | exact HB.out)⟩⟩
 case rest =>
  clear HC3
  try clear c1
  try clear p2
  try clear c4
  try clear c4b0
  try clear c4b1
  obtain ⟨kq, x26_2, rfl, HA, HJ2, HB⟩ := hcut
  cases kq with
  | zero => exact absurd HA.out (by simp [laws_FnCodec.j0])
  | succ kj2 =>
   have H := HA.out; clear HA; simp only [laws_FnCodec.j0] at H
   by_cases c5 : x26_2 = true
   ·subst c5; have H1 : (some true) = some r := by rw [if_pos rfl] at H; exact H
    clear H; have H := H1; clear H1; obtain rfl := Option.some.inj H
    go_wp2
    go_ret
    exact ⟨by first | rfl | (simp [errW_none, errW_some] <;> rfl) | (simp [*, errW_none, errW_some] <;> rfl), by repeat (first | (with_reducible first | exact HB.out | apply below_alloc | apply pw_below_drewN | apply below_drew1) | exact HB.out)⟩
   ·replace c5 := Bool.eq_false_iff.mpr c5; subst c5; have H1 : ((spec_DrawEncodeNode.f kj2 l0).bind fun bt70001 => ((spec_DrawCommitRecord.f kj2 l1).bind fun bt70007 => ((impl_EncodeNode.f bt70001.1 bt70001.2.1 bt70001.2.2.1 bt70001.2.2.2.1 bt70001.2.2.2.2).bind fun t70009 => ((spec_EncodeNode.f bt70001.1 bt70001.2.1 bt70001.2.2.1 bt70001.2.2.2.1 bt70001.2.2.2.2).bind fun t70010 => (if (t70010.size : Int) = 0 then (if (t70009.size : Int) = 0 then ((impl_NodeHash.f bt70001.1 bt70001.2.1 bt70001.2.2.1 bt70001.2.2.2.1 bt70001.2.2.2.2).bind fun t70011 => (some ((t70011.size : Int) == 0))) else (none)) else ((impl_DecodeNode.f t70009 bt70001.2.2.2.2).bind fun bt70012 => (if bt70012.2.2.2.2 = true then (if bt70012.1.toList = bt70001.1.toList then (if bt70012.2.1.toList = bt70001.2.1.toList then (if bt70012.2.2.1.toList = bt70001.2.2.1.toList then (laws_FnCodec.j1 kj2 l1 bt70001.2.2.2.2 bt70007.1 bt70007.2 t70009 (bt70012.2.2.2.1.toList != bt70001.2.2.2.1.toList) bt70001.1 bt70001.2.1 bt70001.2.2.1 bt70001.2.2.2.1) else (none)) else (none)) else (none)) else (none)))))))) = some r := by rw [if_neg (show ¬ (false = true) by decide)] at H; exact H
    clear H; have H := H1; clear H1; replace H := Option.bind_eq_some_iff.mp H; obtain ⟨⟨t70001, t70002, t70003, t70004, t70005⟩, A60, H⟩ := H; replace H : ((spec_DrawCommitRecord.f kj2 l1).bind fun bt70007 => ((impl_EncodeNode.f t70001 t70002 t70003 t70004 t70005).bind fun t70009 => ((spec_EncodeNode.f t70001 t70002 t70003 t70004 t70005).bind fun t70010 => (if (t70010.size : Int) = 0 then (if (t70009.size : Int) = 0 then ((impl_NodeHash.f t70001 t70002 t70003 t70004 t70005).bind fun t70011 => (some ((t70011.size : Int) == 0))) else (none)) else ((impl_DecodeNode.f t70009 t70005).bind fun bt70012 => (if bt70012.2.2.2.2 = true then (if bt70012.1.toList = t70001.toList then (if bt70012.2.1.toList = t70002.toList then (if bt70012.2.2.1.toList = t70003.toList then (laws_FnCodec.j1 kj2 l1 t70005 bt70007.1 bt70007.2 t70009 (bt70012.2.2.2.1.toList != t70004.toList) t70001 t70002 t70003 t70004) else (none)) else (none)) else (none)) else (none))))))) = some r := H; have A6 := Aside0.mk A60; clear A60; replace H := Option.bind_eq_some_iff.mp H; obtain ⟨⟨t70007, t70008⟩, A70, H⟩ := H; replace H : ((impl_EncodeNode.f t70001 t70002 t70003 t70004 t70005).bind fun t70009 => ((spec_EncodeNode.f t70001 t70002 t70003 t70004 t70005).bind fun t70010 => (if (t70010.size : Int) = 0 then (if (t70009.size : Int) = 0 then ((impl_NodeHash.f t70001 t70002 t70003 t70004 t70005).bind fun t70011 => (some ((t70011.size : Int) == 0))) else (none)) else ((impl_DecodeNode.f t70009 t70005).bind fun bt70012 => (if bt70012.2.2.2.2 = true then (if bt70012.1.toList = t70001.toList then (if bt70012.2.1.toList = t70002.toList then (if bt70012.2.2.1.toList = t70003.toList then (laws_FnCodec.j1 kj2 l1 t70005 t70007 t70008 t70009 (bt70012.2.2.2.1.toList != t70004.toList) t70001 t70002 t70003 t70004) else (none)) else (none)) else (none)) else (none)))))) = some r := H; have A7 := Aside0.mk A70; clear A70; replace H := Option.bind_eq_some_iff.mp H; obtain ⟨t70009, A80, H⟩ := H
    replace H : ((spec_EncodeNode.f t70001 t70002 t70003 t70004 t70005).bind fun t70010 => (if (t70010.size : Int) = 0 then (if (t70009.size : Int) = 0 then ((impl_NodeHash.f t70001 t70002 t70003 t70004 t70005).bind fun t70011 => (some ((t70011.size : Int) == 0))) else (none)) else ((impl_DecodeNode.f t70009 t70005).bind fun bt70012 => (if bt70012.2.2.2.2 = true then (if bt70012.1.toList = t70001.toList then (if bt70012.2.1.toList = t70002.toList then (if bt70012.2.2.1.toList = t70003.toList then (laws_FnCodec.j1 kj2 l1 t70005 t70007 t70008 t70009 (bt70012.2.2.2.1.toList != t70004.toList) t70001 t70002 t70003 t70004) else (none)) else (none)) else (none)) else (none))))) = some r := H; have A8 := Aside0.mk A80; clear A80; replace H := Option.bind_eq_some_iff.mp H; obtain ⟨t70010, A90, H⟩ := H; replace H : (if (t70010.size : Int) = 0 then (if (t70009.size : Int) = 0 then ((impl_NodeHash.f t70001 t70002 t70003 t70004 t70005).bind fun t70011 => (some ((t70011.size : Int) == 0))) else (none)) else ((impl_DecodeNode.f t70009 t70005).bind fun bt70012 => (if bt70012.2.2.2.2 = true then (if bt70012.1.toList = t70001.toList then (if bt70012.2.1.toList = t70002.toList then (if bt70012.2.2.1.toList = t70003.toList then (laws_FnCodec.j1 kj2 l1 t70005 t70007 t70008 t70009 (bt70012.2.2.2.1.toList != t70004.toList) t70001 t70002 t70003 t70004) else (none)) else (none)) else (none)) else (none)))) = some r := H; have A9 := Aside0.mk A90; clear A90
    by_cases c10 : (t70010.size : Int) = 0
    ·rw [if_pos c10] at H; have c10b0 : ((t70010.size : Int) == 0) = true := beq_iff_eq.mpr c10; have c10b1 : ((t70010.size : Int) != 0) = false := bne_eq_false_iff_eq.mpr c10; clear c10
     by_cases c11 : (t70009.size : Int) = 0
     ·rw [if_pos c11] at H; have c11b0 : ((t70009.size : Int) == 0) = true := beq_iff_eq.mpr c11; have c11b1 : ((t70009.size : Int) != 0) = false := bne_eq_false_iff_eq.mpr c11; clear c11; replace H := Option.bind_eq_some_iff.mp H; obtain ⟨t70011, A120, H⟩ := H; replace H : (some ((t70011.size : Int) == 0)) = some r := H; have A12 := Aside0.mk A120; clear A120; obtain rfl := Option.some.inj H
      go_wp2_with (first | ((with_reducible refine gate_callee (f := 25) rfl ?_); refine goesL_ (some 29) rfl rfl Tryd.func25 (by kernel_rfl) rfl #[.slice A0 l0.length c0] rfl (by (try simp only [List.map_toArray, List.map_cons, List.map_nil]); first | done | rfl | (simp only [List.length_drop, List.length_take]; rfl)) ?_; (with_reducible refine (spec_DrawEncodeNode.calls kj2 _ _ l0 t70001 t70002 t70003 t70004 t70005 _ ?side1 ?side2 A6.out).mono ?_); (case side1 => repeat (first | exact (Kd.C_below HR0.out HB.out) | (with_reducible refine Kd.C_alloc ?_ _) | (with_reducible refine Kd.C_drewN ?_ _) | (with_reducible refine Kd.C_drew ?_))); (case side2 => exact HC0.out); rintro e w13 ⟨rfl, hb⟩; refine ⟨_, rfl, ?_⟩; have n0_ := Aside0.mk (below_step (by repeat (first | (with_reducible first | exact HB.out | apply below_alloc | apply pw_below_drewN | apply below_drew1) | exact HB.out)) hb); clear HB; have HB := n0_; clear n0_; (try clear hb); (try clear hb2); (try clear hk); (try clear hi)) | ((with_reducible refine gate_dst (N := 5) rfl ?_); (try (refine gate_guard (by rfl) ?_; dsimp only)); refine box_event ?hg (N := 5) ?hd (cs := #[.string (⟨#[]⟩ : ByteArray), .string (⟨#[]⟩ : ByteArray), .string (⟨#[]⟩ : ByteArray), .string (⟨#[]⟩ : ByteArray)]) (t := 49) ?hr ?_; (case hd => rfl); (case hg => rfl); (case hr => first | (go_simp; done) | (go_simp; rfl)); intro gb70006 hg w14 hbox hb; have n0_ := Aside0.mk (below_step (by repeat (first | (with_reducible first | exact HB.out | apply below_alloc | apply pw_below_drewN | apply below_drew1) | exact HB.out)) hb); have n1_ := Aside0.mk (hbox); have n2_ := Aside0.mk ((by rw [hg]; exact (below_size (by repeat (first | (with_reducible first | exact HB.out | apply below_alloc | apply pw_below_drewN | apply below_drew1) | exact HB.out))) : w.heap.size ≤ gb70006)); have n3_ := Aside0.mk ((by rw [hg]; exact (below_size (by repeat (first | (with_reducible first | exact HB.out | apply below_alloc | apply pw_below_drewN | apply below_drew1) | exact HB.out))) : w.heap.size ≤ gb70006)); clear HB; have HB := n0_; have BK70006 := n1_; have GW70006 := n2_; have GE70006 := n3_; clear n0_ n1_ n2_ n3_; clear hb hbox hg; have hcz15_0 : w14.cell? ⟨gb70006, 0, none⟩ = some (.string (⟨#[]⟩ : ByteArray)) := (blk_cell BK70006.out 0).trans rfl; have hcz15_1 : w14.cell? ⟨gb70006, 1, none⟩ = some (.string (⟨#[]⟩ : ByteArray)) := (blk_cell BK70006.out 1).trans rfl; have hcz15_2 : w14.cell? ⟨gb70006, 2, none⟩ = some (.string (⟨#[]⟩ : ByteArray)) := (blk_cell BK70006.out 2).trans rfl; have hcz15_3 : w14.cell? ⟨gb70006, 3, none⟩ = some (.string (⟨#[]⟩ : ByteArray)) := (blk_cell BK70006.out 3).trans rfl; have hfz15_0 := blk_frozen BK70006.out 0; have hfz15_1 := blk_frozen BK70006.out 1; have hfz15_2 := blk_frozen BK70006.out 2; have hfz15_3 := blk_frozen BK70006.out 3) | ((with_reducible refine gate_callee (f := 26) rfl ?_); refine goesL_ (some 34) rfl rfl Tryd.func26 (by kernel_rfl) rfl #[.slice A1 l1.length c1] rfl (by (try simp only [List.map_toArray, List.map_cons, List.map_nil]); first | done | rfl | (simp only [List.length_drop, List.length_take]; rfl)) ?_; (with_reducible refine (spec_DrawCommitRecord.calls kj2 _ _ l1 t70007 t70008 _ ?side1 ?side2 A7.out).mono ?_); (case side1 => exact Kd.C_below HR1.out (by repeat (first | (with_reducible first | exact HB.out | apply below_alloc | apply pw_below_drewN | apply below_drew1 | refine below_set ?_ GE70006.out) | exact HB.out))); (case side2 => exact HC1.out); rintro e w16 ⟨rfl, hb⟩; refine ⟨_, rfl, ?_⟩; have n0_ := Aside0.mk (blk_below (g := gb70006) (o := .cells #[.string t70001, .string t70002, .string t70003, .string t70004] 49 (0, 0)) (by (with_reducible repeat (first | refine blk_drewN ?_ _ | refine blk_drew ?_ | refine blk_alloc ?_ _)); refine blk_put (cs := #[.string t70001, .string t70002, .string t70003, .string (⟨#[]⟩ : ByteArray)]) ?_ 3 _ rfl; (with_reducible repeat (first | refine blk_drewN ?_ _ | refine blk_drew ?_ | refine blk_alloc ?_ _)); refine blk_put (cs := #[.string t70001, .string t70002, .string (⟨#[]⟩ : ByteArray), .string (⟨#[]⟩ : ByteArray)]) ?_ 2 _ rfl; (with_reducible repeat (first | refine blk_drewN ?_ _ | refine blk_drew ?_ | refine blk_alloc ?_ _)); refine blk_put (cs := #[.string t70001, .string (⟨#[]⟩ : ByteArray), .string (⟨#[]⟩ : ByteArray), .string (⟨#[]⟩ : ByteArray)]) ?_ 1 _ rfl; (with_reducible repeat (first | refine blk_drewN ?_ _ | refine blk_drew ?_ | refine blk_alloc ?_ _)); refine blk_put (cs := #[.string (⟨#[]⟩ : ByteArray), .string (⟨#[]⟩ : ByteArray), .string (⟨#[]⟩ : ByteArray), .string (⟨#[]⟩ : ByteArray)]) ?_ 0 _ rfl; (with_reducible repeat (first | refine blk_drewN ?_ _ | refine blk_drew ?_ | refine blk_alloc ?_ _)); exact BK70006.out) hb); have n1_ := Aside0.mk (below_step (by repeat (first | (with_reducible first | exact HB.out | apply below_alloc | apply pw_below_drewN | apply below_drew1 | refine below_set ?_ GE70006.out) | exact HB.out)) hb); clear BK70006; clear HB; have BK70006 := n0_; have HB := n1_; clear n0_ n1_; (try clear hb); (try clear hb2); (try clear hk); (try clear hi); have hcz17_0 : w16.cell? ⟨gb70006, 0, none⟩ = some (.string t70001) := (blk_cell BK70006.out 0).trans rfl; have hcz17_1 : w16.cell? ⟨gb70006, 1, none⟩ = some (.string t70002) := (blk_cell BK70006.out 1).trans rfl; have hcz17_2 : w16.cell? ⟨gb70006, 2, none⟩ = some (.string t70003) := (blk_cell BK70006.out 2).trans rfl; have hcz17_3 : w16.cell? ⟨gb70006, 3, none⟩ = some (.string t70004) := (blk_cell BK70006.out 3).trans rfl; have hfz17_0 := blk_frozen BK70006.out 0; have hfz17_1 := blk_frozen BK70006.out 1; have hfz17_2 := blk_frozen BK70006.out 2; have hfz17_3 := blk_frozen BK70006.out 3) | ((with_reducible refine gate_callee (f := 27) rfl ?_); refine goesL_ (some 39) rfl rfl Tryd.func27 (by kernel_rfl) rfl #[.agg #[.string t70001, .string t70002, .string t70003, .string t70004], .int .i64 t70005] rfl (by (try simp only [List.map_toArray, List.map_cons, List.map_nil]); first | done | rfl | (simp only [List.length_drop, List.length_take]; rfl)) ?_; (with_reducible refine (impl_EncodeNode.calls t70001 t70002 t70003 t70004 t70005 t70009 _ A8.out).mono ?_); rintro e w18 ⟨rfl, hb⟩; refine ⟨_, rfl, ?_⟩; have n0_ := Aside0.mk (blk_below (g := gb70006) (o := .cells #[.string t70001, .string t70002, .string t70003, .string t70004] 49 (0, 0)) (by (with_reducible repeat (first | refine blk_drewN ?_ _ | refine blk_drew ?_ | refine blk_alloc ?_ _)); exact BK70006.out) hb); have n1_ := Aside0.mk (below_step (by repeat (first | (with_reducible first | exact HB.out | apply below_alloc | apply pw_below_drewN | apply below_drew1 | refine below_set ?_ GE70006.out) | exact HB.out)) hb); clear BK70006; clear HB; have BK70006 := n0_; have HB := n1_; clear n0_ n1_; (try clear hb); (try clear hb2); (try clear hk); (try clear hi); have hcz19_0 : w18.cell? ⟨gb70006, 0, none⟩ = some (.string t70001) := (blk_cell BK70006.out 0).trans rfl; have hcz19_1 : w18.cell? ⟨gb70006, 1, none⟩ = some (.string t70002) := (blk_cell BK70006.out 1).trans rfl; have hcz19_2 : w18.cell? ⟨gb70006, 2, none⟩ = some (.string t70003) := (blk_cell BK70006.out 2).trans rfl; have hcz19_3 : w18.cell? ⟨gb70006, 3, none⟩ = some (.string t70004) := (blk_cell BK70006.out 3).trans rfl; have hfz19_0 := blk_frozen BK70006.out 0; have hfz19_1 := blk_frozen BK70006.out 1; have hfz19_2 := blk_frozen BK70006.out 2; have hfz19_3 := blk_frozen BK70006.out 3) | ((with_reducible refine gate_callee (f := 28) rfl ?_); refine goesL_ (some 42) rfl rfl Tryd.func28 (by kernel_rfl) rfl #[.agg #[.string t70001, .string t70002, .string t70003, .string t70004], .int .i64 t70005] rfl (by (try simp only [List.map_toArray, List.map_cons, List.map_nil]); first | done | rfl | (simp only [List.length_drop, List.length_take]; rfl)) ?_; (with_reducible refine (spec_EncodeNode.calls t70001 t70002 t70003 t70004 t70005 t70010 _ A9.out).mono ?_); rintro e w20 ⟨rfl, hb⟩; refine ⟨_, rfl, ?_⟩; have n0_ := Aside0.mk (blk_below (g := gb70006) (o := .cells #[.string t70001, .string t70002, .string t70003, .string t70004] 49 (0, 0)) (by (with_reducible repeat (first | refine blk_drewN ?_ _ | refine blk_drew ?_ | refine blk_alloc ?_ _)); exact BK70006.out) hb); have n1_ := Aside0.mk (below_step (by repeat (first | (with_reducible first | exact HB.out | apply below_alloc | apply pw_below_drewN | apply below_drew1 | refine below_set ?_ GE70006.out) | exact HB.out)) hb); clear BK70006; clear HB; have BK70006 := n0_; have HB := n1_; clear n0_ n1_; (try clear hb); (try clear hb2); (try clear hk); (try clear hi); have hcz21_0 : w20.cell? ⟨gb70006, 0, none⟩ = some (.string t70001) := (blk_cell BK70006.out 0).trans rfl; have hcz21_1 : w20.cell? ⟨gb70006, 1, none⟩ = some (.string t70002) := (blk_cell BK70006.out 1).trans rfl; have hcz21_2 : w20.cell? ⟨gb70006, 2, none⟩ = some (.string t70003) := (blk_cell BK70006.out 2).trans rfl; have hcz21_3 : w20.cell? ⟨gb70006, 3, none⟩ = some (.string t70004) := (blk_cell BK70006.out 3).trans rfl; have hfz21_0 := blk_frozen BK70006.out 0; have hfz21_1 := blk_frozen BK70006.out 1; have hfz21_2 := blk_frozen BK70006.out 2; have hfz21_3 := blk_frozen BK70006.out 3) | (go_at_call 29; (with_reducible refine (impl_NodeHash.calls t70001 t70002 t70003 t70004 t70005 t70011 _ A12.out).mono ?_); rintro e w22 ⟨rfl, hb⟩; have n0_ := Aside0.mk (blk_below (g := gb70006) (o := .cells #[.string t70001, .string t70002, .string t70003, .string t70004] 49 (0, 0)) (by (with_reducible repeat (first | refine blk_drewN ?_ _ | refine blk_drew ?_ | refine blk_alloc ?_ _)); exact BK70006.out) hb); have n1_ := Aside0.mk (below_step (by repeat (first | (with_reducible first | exact HB.out | apply below_alloc | apply pw_below_drewN | apply below_drew1 | refine below_set ?_ GE70006.out) | exact HB.out)) hb); clear BK70006; clear HB; have BK70006 := n0_; have HB := n1_; clear n0_ n1_; (try clear hb); (try clear hb2); (try clear hk); (try clear hi)))
      go_ret
      exact ⟨by first | rfl | (simp [errW_none, errW_some] <;> rfl) | (simp [*, errW_none, errW_some] <;> rfl), by repeat (first | (with_reducible first | exact HB.out | apply below_alloc | apply pw_below_drewN | apply below_drew1 | refine below_set ?_ GE70006.out) | exact HB.out)⟩
     ·rw [if_neg c11] at H; exact absurd H (by simp)
    ·rw [if_neg c10] at H; have c10b0 : ((t70010.size : Int) == 0) = false := beq_eq_false_iff_ne.mpr c10; have c10b1 : ((t70010.size : Int) != 0) = true := bne_iff_ne.mpr c10; replace H := Option.bind_eq_some_iff.mp H; obtain ⟨⟨t70012, t70013, t70014, t70015, t70016⟩, A310, H⟩ := H; replace H : (if t70016 = true then (if t70012.toList = t70001.toList then (if t70013.toList = t70002.toList then (if t70014.toList = t70003.toList then (laws_FnCodec.j1 kj2 l1 t70005 t70007 t70008 t70009 (t70015.toList != t70004.toList) t70001 t70002 t70003 t70004) else (none)) else (none)) else (none)) else (none)) = some r := H; have A31 := Aside0.mk A310; clear A310; have HC32 := Aside0.mk H; clear H
     go_upto_region 9 with (first | ((with_reducible refine gate_callee (f := 25) rfl ?_); refine goesL_ (some 29) rfl rfl Tryd.func25 (by kernel_rfl) rfl #[.slice A0 l0.length c0] rfl (by (try simp only [List.map_toArray, List.map_cons, List.map_nil]); first | done | rfl | (simp only [List.length_drop, List.length_take]; rfl)) ?_; (with_reducible refine (spec_DrawEncodeNode.calls kj2 _ _ l0 t70001 t70002 t70003 t70004 t70005 _ ?side1 ?side2 A6.out).mono ?_); (case side1 => repeat (first | exact (Kd.C_below HR0.out HB.out) | (with_reducible refine Kd.C_alloc ?_ _) | (with_reducible refine Kd.C_drewN ?_ _) | (with_reducible refine Kd.C_drew ?_))); (case side2 => exact HC0.out); rintro e w33 ⟨rfl, hb⟩; refine ⟨_, rfl, ?_⟩; have n0_ := Aside0.mk (below_step (by repeat (first | (with_reducible first | exact HB.out | apply below_alloc | apply pw_below_drewN | apply below_drew1) | exact HB.out)) hb); clear HB; have HB := n0_; clear n0_; (try clear hb); (try clear hb2); (try clear hk); (try clear hi)) | ((with_reducible refine gate_dst (N := 5) rfl ?_); (try (refine gate_guard (by rfl) ?_; dsimp only)); refine box_event ?hg (N := 5) ?hd (cs := #[.string (⟨#[]⟩ : ByteArray), .string (⟨#[]⟩ : ByteArray), .string (⟨#[]⟩ : ByteArray), .string (⟨#[]⟩ : ByteArray)]) (t := 49) ?hr ?_; (case hd => rfl); (case hg => rfl); (case hr => first | (go_simp; done) | (go_simp; rfl)); intro gb70006 hg w34 hbox hb; have n0_ := Aside0.mk (below_step (by repeat (first | (with_reducible first | exact HB.out | apply below_alloc | apply pw_below_drewN | apply below_drew1) | exact HB.out)) hb); have n1_ := Aside0.mk (hbox); have n2_ := Aside0.mk ((by rw [hg]; exact (below_size (by repeat (first | (with_reducible first | exact HB.out | apply below_alloc | apply pw_below_drewN | apply below_drew1) | exact HB.out))) : w.heap.size ≤ gb70006)); have n3_ := Aside0.mk ((by rw [hg]; exact (below_size (by repeat (first | (with_reducible first | exact HB.out | apply below_alloc | apply pw_below_drewN | apply below_drew1) | exact HB.out))) : w.heap.size ≤ gb70006)); clear HB; have HB := n0_; have BK70006 := n1_; have GW70006 := n2_; have GE70006 := n3_; clear n0_ n1_ n2_ n3_; clear hb hbox hg; have hcz35_0 : w34.cell? ⟨gb70006, 0, none⟩ = some (.string (⟨#[]⟩ : ByteArray)) := (blk_cell BK70006.out 0).trans rfl; have hcz35_1 : w34.cell? ⟨gb70006, 1, none⟩ = some (.string (⟨#[]⟩ : ByteArray)) := (blk_cell BK70006.out 1).trans rfl; have hcz35_2 : w34.cell? ⟨gb70006, 2, none⟩ = some (.string (⟨#[]⟩ : ByteArray)) := (blk_cell BK70006.out 2).trans rfl; have hcz35_3 : w34.cell? ⟨gb70006, 3, none⟩ = some (.string (⟨#[]⟩ : ByteArray)) := (blk_cell BK70006.out 3).trans rfl; have hfz35_0 := blk_frozen BK70006.out 0; have hfz35_1 := blk_frozen BK70006.out 1; have hfz35_2 := blk_frozen BK70006.out 2; have hfz35_3 := blk_frozen BK70006.out 3) | ((with_reducible refine gate_callee (f := 26) rfl ?_); refine goesL_ (some 34) rfl rfl Tryd.func26 (by kernel_rfl) rfl #[.slice A1 l1.length c1] rfl (by (try simp only [List.map_toArray, List.map_cons, List.map_nil]); first | done | rfl | (simp only [List.length_drop, List.length_take]; rfl)) ?_; (with_reducible refine (spec_DrawCommitRecord.calls kj2 _ _ l1 t70007 t70008 _ ?side1 ?side2 A7.out).mono ?_); (case side1 => exact Kd.C_below HR1.out (by repeat (first | (with_reducible first | exact HB.out | apply below_alloc | apply pw_below_drewN | apply below_drew1 | refine below_set ?_ GE70006.out) | exact HB.out))); (case side2 => exact HC1.out); rintro e w36 ⟨rfl, hb⟩; refine ⟨_, rfl, ?_⟩; have n0_ := Aside0.mk (blk_below (g := gb70006) (o := .cells #[.string t70001, .string t70002, .string t70003, .string t70004] 49 (0, 0)) (by (with_reducible repeat (first | refine blk_drewN ?_ _ | refine blk_drew ?_ | refine blk_alloc ?_ _)); refine blk_put (cs := #[.string t70001, .string t70002, .string t70003, .string (⟨#[]⟩ : ByteArray)]) ?_ 3 _ rfl; (with_reducible repeat (first | refine blk_drewN ?_ _ | refine blk_drew ?_ | refine blk_alloc ?_ _)); refine blk_put (cs := #[.string t70001, .string t70002, .string (⟨#[]⟩ : ByteArray), .string (⟨#[]⟩ : ByteArray)]) ?_ 2 _ rfl; (with_reducible repeat (first | refine blk_drewN ?_ _ | refine blk_drew ?_ | refine blk_alloc ?_ _)); refine blk_put (cs := #[.string t70001, .string (⟨#[]⟩ : ByteArray), .string (⟨#[]⟩ : ByteArray), .string (⟨#[]⟩ : ByteArray)]) ?_ 1 _ rfl; (with_reducible repeat (first | refine blk_drewN ?_ _ | refine blk_drew ?_ | refine blk_alloc ?_ _)); refine blk_put (cs := #[.string (⟨#[]⟩ : ByteArray), .string (⟨#[]⟩ : ByteArray), .string (⟨#[]⟩ : ByteArray), .string (⟨#[]⟩ : ByteArray)]) ?_ 0 _ rfl; (with_reducible repeat (first | refine blk_drewN ?_ _ | refine blk_drew ?_ | refine blk_alloc ?_ _)); exact BK70006.out) hb); have n1_ := Aside0.mk (below_step (by repeat (first | (with_reducible first | exact HB.out | apply below_alloc | apply pw_below_drewN | apply below_drew1 | refine below_set ?_ GE70006.out) | exact HB.out)) hb); clear BK70006; clear HB; have BK70006 := n0_; have HB := n1_; clear n0_ n1_; (try clear hb); (try clear hb2); (try clear hk); (try clear hi); have hcz37_0 : w36.cell? ⟨gb70006, 0, none⟩ = some (.string t70001) := (blk_cell BK70006.out 0).trans rfl; have hcz37_1 : w36.cell? ⟨gb70006, 1, none⟩ = some (.string t70002) := (blk_cell BK70006.out 1).trans rfl; have hcz37_2 : w36.cell? ⟨gb70006, 2, none⟩ = some (.string t70003) := (blk_cell BK70006.out 2).trans rfl; have hcz37_3 : w36.cell? ⟨gb70006, 3, none⟩ = some (.string t70004) := (blk_cell BK70006.out 3).trans rfl; have hfz37_0 := blk_frozen BK70006.out 0; have hfz37_1 := blk_frozen BK70006.out 1; have hfz37_2 := blk_frozen BK70006.out 2; have hfz37_3 := blk_frozen BK70006.out 3) | ((with_reducible refine gate_callee (f := 27) rfl ?_); refine goesL_ (some 39) rfl rfl Tryd.func27 (by kernel_rfl) rfl #[.agg #[.string t70001, .string t70002, .string t70003, .string t70004], .int .i64 t70005] rfl (by (try simp only [List.map_toArray, List.map_cons, List.map_nil]); first | done | rfl | (simp only [List.length_drop, List.length_take]; rfl)) ?_; (with_reducible refine (impl_EncodeNode.calls t70001 t70002 t70003 t70004 t70005 t70009 _ A8.out).mono ?_); rintro e w38 ⟨rfl, hb⟩; refine ⟨_, rfl, ?_⟩; have n0_ := Aside0.mk (blk_below (g := gb70006) (o := .cells #[.string t70001, .string t70002, .string t70003, .string t70004] 49 (0, 0)) (by (with_reducible repeat (first | refine blk_drewN ?_ _ | refine blk_drew ?_ | refine blk_alloc ?_ _)); exact BK70006.out) hb); have n1_ := Aside0.mk (below_step (by repeat (first | (with_reducible first | exact HB.out | apply below_alloc | apply pw_below_drewN | apply below_drew1 | refine below_set ?_ GE70006.out) | exact HB.out)) hb); clear BK70006; clear HB; have BK70006 := n0_; have HB := n1_; clear n0_ n1_; (try clear hb); (try clear hb2); (try clear hk); (try clear hi); have hcz39_0 : w38.cell? ⟨gb70006, 0, none⟩ = some (.string t70001) := (blk_cell BK70006.out 0).trans rfl; have hcz39_1 : w38.cell? ⟨gb70006, 1, none⟩ = some (.string t70002) := (blk_cell BK70006.out 1).trans rfl; have hcz39_2 : w38.cell? ⟨gb70006, 2, none⟩ = some (.string t70003) := (blk_cell BK70006.out 2).trans rfl; have hcz39_3 : w38.cell? ⟨gb70006, 3, none⟩ = some (.string t70004) := (blk_cell BK70006.out 3).trans rfl; have hfz39_0 := blk_frozen BK70006.out 0; have hfz39_1 := blk_frozen BK70006.out 1; have hfz39_2 := blk_frozen BK70006.out 2; have hfz39_3 := blk_frozen BK70006.out 3) | ((with_reducible refine gate_callee (f := 28) rfl ?_); refine goesL_ (some 42) rfl rfl Tryd.func28 (by kernel_rfl) rfl #[.agg #[.string t70001, .string t70002, .string t70003, .string t70004], .int .i64 t70005] rfl (by (try simp only [List.map_toArray, List.map_cons, List.map_nil]); first | done | rfl | (simp only [List.length_drop, List.length_take]; rfl)) ?_; (with_reducible refine (spec_EncodeNode.calls t70001 t70002 t70003 t70004 t70005 t70010 _ A9.out).mono ?_); rintro e w40 ⟨rfl, hb⟩; refine ⟨_, rfl, ?_⟩; have n0_ := Aside0.mk (blk_below (g := gb70006) (o := .cells #[.string t70001, .string t70002, .string t70003, .string t70004] 49 (0, 0)) (by (with_reducible repeat (first | refine blk_drewN ?_ _ | refine blk_drew ?_ | refine blk_alloc ?_ _)); exact BK70006.out) hb); have n1_ := Aside0.mk (below_step (by repeat (first | (with_reducible first | exact HB.out | apply below_alloc | apply pw_below_drewN | apply below_drew1 | refine below_set ?_ GE70006.out) | exact HB.out)) hb); clear BK70006; clear HB; have BK70006 := n0_; have HB := n1_; clear n0_ n1_; (try clear hb); (try clear hb2); (try clear hk); (try clear hi)) | ((with_reducible refine gate_callee (f := 30) rfl ?_); refine goesL_ (some 58) rfl rfl Tryd.func30 (by kernel_rfl) rfl #[.string t70009, .int .i64 t70005] rfl (by (try simp only [List.map_toArray, List.map_cons, List.map_nil]); first | done | rfl | (simp only [List.length_drop, List.length_take]; rfl)) ?_; (with_reducible refine (impl_DecodeNode.calls t70009 t70005 t70012 t70013 t70014 t70015 t70016 _ A31.out).mono ?_); rintro e w41 ⟨rfl, hb⟩; refine ⟨_, rfl, ?_⟩; have n0_ := Aside0.mk (blk_below (g := gb70006) (o := .cells #[.string t70001, .string t70002, .string t70003, .string t70004] 49 (0, 0)) (by (with_reducible repeat (first | refine blk_drewN ?_ _ | refine blk_drew ?_ | refine blk_alloc ?_ _)); exact BK70006.out) hb); have n1_ := Aside0.mk (below_step (by repeat (first | (with_reducible first | exact HB.out | apply below_alloc | apply pw_below_drewN | apply below_drew1 | refine below_set ?_ GE70006.out) | exact HB.out)) hb); clear BK70006; clear HB; have BK70006 := n0_; have HB := n1_; clear n0_ n1_; (try clear hb); (try clear hb2); (try clear hk); (try clear hi)) | ((with_reducible refine gate_dst (N := 10) rfl ?_); (try (refine gate_guard (by rfl) ?_; dsimp only)); refine box_event ?hg (N := 10) ?hd (cs := #[.string (⟨#[]⟩ : ByteArray), .string (⟨#[]⟩ : ByteArray), .string (⟨#[]⟩ : ByteArray), .string (⟨#[]⟩ : ByteArray)]) (t := 49) ?hr ?_; (case hd => rfl); (case hg => rfl); (case hr => first | (go_simp; done) | (go_simp; rfl)); intro gb70017 hg w42 hbox hb; have n0_ := Aside0.mk (blk_below (g := gb70006) (o := .cells #[.string t70001, .string t70002, .string t70003, .string t70004] 49 (0, 0)) (by (with_reducible repeat (first | refine blk_drewN ?_ _ | refine blk_drew ?_ | refine blk_alloc ?_ _)); exact BK70006.out) hb); have n1_ := Aside0.mk (below_step (by repeat (first | (with_reducible first | exact HB.out | apply below_alloc | apply pw_below_drewN | apply below_drew1 | refine below_set ?_ GE70006.out) | exact HB.out)) hb); have n2_ := Aside0.mk (hbox); have n3_ := Aside0.mk ((by rw [hg]; exact (below_size (by repeat (first | (with_reducible first | exact HB.out | apply below_alloc | apply pw_below_drewN | apply below_drew1 | refine below_set ?_ GE70006.out) | exact HB.out))) : w.heap.size ≤ gb70017)); have n4_ := Aside0.mk ((by rw [hg]; exact (below_size (by repeat (first | (with_reducible first | exact HB.out | apply below_alloc | apply pw_below_drewN | apply below_drew1 | refine below_set ?_ GE70006.out) | exact HB.out))) : w.heap.size ≤ gb70017)); have n5_ := Aside0.mk ((by rw [hg]; exact Nat.ne_of_lt (blk_lt (g := gb70006) (o := .cells #[.string t70001, .string t70002, .string t70003, .string t70004] 49 (0, 0)) (by (with_reducible repeat (first | refine blk_drewN ?_ _ | refine blk_drew ?_ | refine blk_alloc ?_ _)); exact BK70006.out)) : gb70006 ≠ gb70017)); have n6_ := Aside0.mk ((by rw [hg]; exact Nat.ne_of_gt (blk_lt (g := gb70006) (o := .cells #[.string t70001, .string t70002, .string t70003, .string t70004] 49 (0, 0)) (by (with_reducible repeat (first | refine blk_drewN ?_ _ | refine blk_drew ?_ | refine blk_alloc ?_ _)); exact BK70006.out)) : gb70017 ≠ gb70006)); clear BK70006; clear HB; have BK70006 := n0_; have HB := n1_; have BK70017 := n2_; have GW70017 := n3_; have GE70017 := n4_; have NB70006_70017 := n5_; have NB70017_70006 := n6_; clear n0_ n1_ n2_ n3_ n4_ n5_ n6_; clear hb hbox hg; have hnb43 := NB70017_70006.out; have hnc43 := NB70006_70017.out; have hcz44_0 : w42.cell? ⟨gb70017, 0, none⟩ = some (.string (⟨#[]⟩ : ByteArray)) := (blk_cell BK70017.out 0).trans rfl; have hcz44_1 : w42.cell? ⟨gb70017, 1, none⟩ = some (.string (⟨#[]⟩ : ByteArray)) := (blk_cell BK70017.out 1).trans rfl; have hcz44_2 : w42.cell? ⟨gb70017, 2, none⟩ = some (.string (⟨#[]⟩ : ByteArray)) := (blk_cell BK70017.out 2).trans rfl; have hcz44_3 : w42.cell? ⟨gb70017, 3, none⟩ = some (.string (⟨#[]⟩ : ByteArray)) := (blk_cell BK70017.out 3).trans rfl; have hfz44_0 := blk_frozen BK70017.out 0; have hfz44_1 := blk_frozen BK70017.out 1; have hfz44_2 := blk_frozen BK70017.out 2; have hfz44_3 := blk_frozen BK70017.out 3))
     (try simp only [Act.put, List.setIfInBounds_toArray, List.set_cons_zero, List.set_cons_succ])
     go_cut [90] (fun v90 wc => ∃ (kq : Nat) (x90_31 : Bool), v90 = .bool x90_31 ∧ Aside0 (laws_FnCodec.j1 kq l1 t70005 t70007 t70008 t70009 x90_31 t70001 t70002 t70003 t70004 = some r) ∧ Aside0 (kq ≤ kj2) ∧ Aside0 (wc.heap[gb70006]? = some (.cells #[.string t70001, .string t70002, .string t70003, .string t70004] 49 (0, 0))) ∧ Aside0 (wc.heap[gb70017]? = some (.cells #[.string t70012, .string t70013, .string t70014, .string t70015] 49 (0, 0))) ∧ Aside0 (Below w.heap.size w wc))
     case first =>
      have H := HC32.out; clear HC32
      by_cases c45 : t70016 = true
      ·subst c45; have H1 : (if t70012.toList = t70001.toList then (if t70013.toList = t70002.toList then (if t70014.toList = t70003.toList then (laws_FnCodec.j1 kj2 l1 t70005 t70007 t70008 t70009 (t70015.toList != t70004.toList) t70001 t70002 t70003 t70004) else (none)) else (none)) else (none)) = some r := by rw [if_pos rfl] at H; exact H
       clear H; have H := H1; clear H1
       by_cases c46 : t70012.toList = t70001.toList
       ·rw [if_pos c46] at H; have c46b0 : (t70012.toList == t70001.toList) = true := beq_iff_eq.mpr c46; have c46b1 : (t70012.toList != t70001.toList) = false := bne_eq_false_iff_eq.mpr c46; clear c46; (first | rw [c46b0] | (simp only [i64_w, i32_w]; rw [c46b0]) | skip)
        by_cases c47 : t70013.toList = t70002.toList
        ·rw [if_pos c47] at H; have c47b0 : (t70013.toList == t70002.toList) = true := beq_iff_eq.mpr c47; have c47b1 : (t70013.toList != t70002.toList) = false := bne_eq_false_iff_eq.mpr c47; clear c47
         by_cases c48 : t70014.toList = t70003.toList
         ·rw [if_pos c48] at H; have c48b0 : (t70014.toList == t70003.toList) = true := beq_iff_eq.mpr c48; have c48b1 : (t70014.toList != t70003.toList) = false := bne_eq_false_iff_eq.mpr c48; clear c48; have H' := Aside0.mk H; clear H; have hnb49 := NB70017_70006.out; have hnc49 := NB70006_70017.out; have hcz50_0 : w42.cell? ⟨gb70017, 0, none⟩ = some (.string (⟨#[]⟩ : ByteArray)) := (blk_cell BK70017.out 0).trans rfl; have hcz50_1 : w42.cell? ⟨gb70017, 1, none⟩ = some (.string (⟨#[]⟩ : ByteArray)) := (blk_cell BK70017.out 1).trans rfl; have hcz50_2 : w42.cell? ⟨gb70017, 2, none⟩ = some (.string (⟨#[]⟩ : ByteArray)) := (blk_cell BK70017.out 2).trans rfl; have hcz50_3 : w42.cell? ⟨gb70017, 3, none⟩ = some (.string (⟨#[]⟩ : ByteArray)) := (blk_cell BK70017.out 3).trans rfl; have hfz50_0 := blk_frozen BK70017.out 0; have hfz50_1 := blk_frozen BK70017.out 1; have hfz50_2 := blk_frozen BK70017.out 2; have hfz50_3 := blk_frozen BK70017.out 3; have hcz51_0 : w42.cell? ⟨gb70006, 0, none⟩ = some (.string t70001) := (blk_cell BK70006.out 0).trans rfl; have hcz51_1 : w42.cell? ⟨gb70006, 1, none⟩ = some (.string t70002) := (blk_cell BK70006.out 1).trans rfl; have hcz51_2 : w42.cell? ⟨gb70006, 2, none⟩ = some (.string t70003) := (blk_cell BK70006.out 2).trans rfl; have hcz51_3 : w42.cell? ⟨gb70006, 3, none⟩ = some (.string t70004) := (blk_cell BK70006.out 3).trans rfl; have hfz51_0 := blk_frozen BK70006.out 0; have hfz51_1 := blk_frozen BK70006.out 1; have hfz51_2 := blk_frozen BK70006.out 2; have hfz51_3 := blk_frozen BK70006.out 3
          go_wp2
          go_meet
          case rel => exact ⟨_, ((t70015.toList != t70004.toList)), (by first | rfl | (simp; done) | (simp [*]; done)), H', ⟨by have := HJ2.out; first | omega | exact Nat.le_refl _⟩, ⟨by (with_reducible repeat (first | refine blk_drewN ?_ _ | refine blk_drew ?_ | refine blk_alloc ?_ _)); refine blk_far ?_ NB70006_70017.out _; (with_reducible repeat (first | refine blk_drewN ?_ _ | refine blk_drew ?_ | refine blk_alloc ?_ _)); refine blk_far ?_ NB70006_70017.out _; (with_reducible repeat (first | refine blk_drewN ?_ _ | refine blk_drew ?_ | refine blk_alloc ?_ _)); refine blk_far ?_ NB70006_70017.out _; (with_reducible repeat (first | refine blk_drewN ?_ _ | refine blk_drew ?_ | refine blk_alloc ?_ _)); refine blk_far ?_ NB70006_70017.out _; (with_reducible repeat (first | refine blk_drewN ?_ _ | refine blk_drew ?_ | refine blk_alloc ?_ _)); exact BK70006.out⟩, ⟨by (with_reducible repeat (first | refine blk_drewN ?_ _ | refine blk_drew ?_ | refine blk_alloc ?_ _)); refine blk_put (cs := #[.string t70012, .string t70013, .string t70014, .string (⟨#[]⟩ : ByteArray)]) ?_ 3 _ rfl; (with_reducible repeat (first | refine blk_drewN ?_ _ | refine blk_drew ?_ | refine blk_alloc ?_ _)); refine blk_put (cs := #[.string t70012, .string t70013, .string (⟨#[]⟩ : ByteArray), .string (⟨#[]⟩ : ByteArray)]) ?_ 2 _ rfl; (with_reducible repeat (first | refine blk_drewN ?_ _ | refine blk_drew ?_ | refine blk_alloc ?_ _)); refine blk_put (cs := #[.string t70012, .string (⟨#[]⟩ : ByteArray), .string (⟨#[]⟩ : ByteArray), .string (⟨#[]⟩ : ByteArray)]) ?_ 1 _ rfl; (with_reducible repeat (first | refine blk_drewN ?_ _ | refine blk_drew ?_ | refine blk_alloc ?_ _)); refine blk_put (cs := #[.string (⟨#[]⟩ : ByteArray), .string (⟨#[]⟩ : ByteArray), .string (⟨#[]⟩ : ByteArray), .string (⟨#[]⟩ : ByteArray)]) ?_ 0 _ rfl; (with_reducible repeat (first | refine blk_drewN ?_ _ | refine blk_drew ?_ | refine blk_alloc ?_ _)); exact BK70017.out⟩, ⟨by repeat (first | (with_reducible first | exact HB.out | apply below_alloc | apply pw_below_drewN | apply below_drew1 | refine below_set ?_ GE70006.out | refine below_set ?_ GE70017.out) | exact HB.out)⟩⟩
         ·rw [if_neg c48] at H; exact absurd H (by simp)
        ·rw [if_neg c47] at H; exact absurd H (by simp)
       ·rw [if_neg c46] at H; exact absurd H (by simp)
      ·replace c45 := Bool.eq_false_iff.mpr c45; subst c45; have H1 : (none) = some r := by rw [if_neg (show ¬ (false = true) by decide)] at H; exact H
       exact absurd H1 (by simp)
     case rest =>
      clear HC32
      try clear c1
      try clear c2
      try clear p2
      try clear c3
      try clear c4
      try clear c4b0
      try clear c4b1
      try clear c5
      try clear c7
      try clear c10
      try clear c10b0
      try clear c10b1
      try clear c11
      try clear c11b0
      try clear c11b1
      try clear c25
      try clear c26
      try clear c27
      try clear c28
      try clear c30
      try clear c43
      try clear c45
      try clear c46
      try clear c46b0
      try clear c46b1
      try clear c47
      try clear c47b0
      try clear c47b1
      try clear c48
      try clear c48b0
      try clear c48b1
      try clear c49
      try clear c52
      try clear c55
      try clear c58
      try clear hcz15_0
      try clear hcz15_1
      try clear hcz15_2
      try clear hcz15_3
      try clear hcz17_0
      try clear hcz17_1
      try clear hcz17_2
      try clear hcz17_3
      try clear hcz19_0
      try clear hcz19_1
      try clear hcz19_2
      try clear hcz19_3
      try clear hcz21_0
      try clear hcz21_1
      try clear hcz21_2
      try clear hcz21_3
      try clear hcz25_0
      try clear hcz25_1
      try clear hcz25_2
      try clear hcz25_3
      try clear hcz27_0
      try clear hcz27_1
      try clear hcz27_2
      try clear hcz27_3
      try clear hcz29_0
      try clear hcz29_1
      try clear hcz29_2
      try clear hcz29_3
      try clear hcz35_0
      try clear hcz35_1
      try clear hcz35_2
      try clear hcz35_3
      try clear hcz37_0
      try clear hcz37_1
      try clear hcz37_2
      try clear hcz37_3
      try clear hcz39_0
      try clear hcz39_1
      try clear hcz39_2
      try clear hcz39_3
      try clear hcz44_0
      try clear hcz44_1
      try clear hcz44_2
      try clear hcz44_3
      try clear hcz50_0
      try clear hcz50_1
      try clear hcz50_2
      try clear hcz50_3
      try clear hcz51_0
      try clear hcz51_1
      try clear hcz51_2
      try clear hcz51_3
      try clear hcz53_0
      try clear hcz53_1
      try clear hcz53_2
      try clear hcz53_3
      try clear hcz54_0
      try clear hcz54_1
      try clear hcz54_2
      try clear hcz54_3
      try clear hcz56_0
      try clear hcz56_1
      try clear hcz56_2
      try clear hcz56_3
      try clear hcz57_0
      try clear hcz57_1
      try clear hcz57_2
      try clear hcz57_3
      try clear hcz59_0
      try clear hcz59_1
      try clear hcz59_2
      try clear hcz59_3
      try clear hcz60_0
      try clear hcz60_1
      try clear hcz60_2
      try clear hcz60_3
      try clear hfz15_0
      try clear hfz15_1
      try clear hfz15_2
      try clear hfz15_3
      try clear hfz17_0
      try clear hfz17_1
      try clear hfz17_2
      try clear hfz17_3
      try clear hfz19_0
      try clear hfz19_1
      try clear hfz19_2
      try clear hfz19_3
      try clear hfz21_0
      try clear hfz21_1
      try clear hfz21_2
      try clear hfz21_3
      try clear hfz25_0
      try clear hfz25_1
      try clear hfz25_2
      try clear hfz25_3
      try clear hfz27_0
      try clear hfz27_1
      try clear hfz27_2
      try clear hfz27_3
      try clear hfz29_0
      try clear hfz29_1
      try clear hfz29_2
      try clear hfz29_3
      try clear hfz35_0
      try clear hfz35_1
      try clear hfz35_2
      try clear hfz35_3
      try clear hfz37_0
      try clear hfz37_1
      try clear hfz37_2
      try clear hfz37_3
      try clear hfz39_0
      try clear hfz39_1
      try clear hfz39_2
      try clear hfz39_3
      try clear hfz44_0
      try clear hfz44_1
      try clear hfz44_2
      try clear hfz44_3
      try clear hfz50_0
      try clear hfz50_1
      try clear hfz50_2
      try clear hfz50_3
      try clear hfz51_0
      try clear hfz51_1
      try clear hfz51_2
      try clear hfz51_3
      try clear hfz53_0
      try clear hfz53_1
      try clear hfz53_2
      try clear hfz53_3
      try clear hfz54_0
      try clear hfz54_1
      try clear hfz54_2
      try clear hfz54_3
      try clear hfz56_0
      try clear hfz56_1
      try clear hfz56_2
      try clear hfz56_3
      try clear hfz57_0
      try clear hfz57_1
      try clear hfz57_2
      try clear hfz57_3
      try clear hfz59_0
      try clear hfz59_1
      try clear hfz59_2
      try clear hfz59_3
      try clear hfz60_0
      try clear hfz60_1
      try clear hfz60_2
      try clear hfz60_3
      try clear p2
      obtain ⟨kq, x90_31, rfl, HA, HJ31, BK70006, BK70017, HB⟩ := hcut
      cases kq with
      | zero => exact absurd HA.out (by simp [laws_FnCodec.j1])
      | succ kj31 =>
       have H := HA.out; clear HA; simp only [laws_FnCodec.j1] at H
       by_cases c61 : x90_31 = true
       ·subst c61; have H1 : (none) = some r := by rw [if_pos rfl] at H; exact H
        exact absurd H1 (by simp)
       ·replace c61 := Bool.eq_false_iff.mpr c61; subst c61; have H1 : ((impl_NodeHash.f t70001 t70002 t70003 t70004 t70005).bind fun t70018 => (if 1 + t70009.size ≤ 9223372036854775807 then ((spec_Digest.f kj31 ((⟨#[78]⟩ : ByteArray) ++ t70009) t70005).bind fun t70019 => (if t70018.toList = t70019.toList then ((impl_CommitRecord.f t70007 t70008).bind fun t70020 => ((spec_CommitRecord.f kj31 t70007 t70008).bind fun t70021 => (if (t70021.size : Int) = 0 then (some ((t70020.size : Int) == 0)) else ((impl_NodeRecord.f t70009).bind fun t70022 => (if (t70022.size : Int) < 64 then (none) else (laws_FnCodec.j2 kj31 l1 t70007 t70008 t70009 t70020 t70022 (((t70022.size : Int) % 64) != 0))))))) else (none))) else (none))) = some r := by rw [if_neg (show ¬ (false = true) by decide)] at H; exact H
        clear H; have H := H1; clear H1; replace H := Option.bind_eq_some_iff.mp H; obtain ⟨t70018, A620, H⟩ := H; replace H : (if 1 + t70009.size ≤ 9223372036854775807 then ((spec_Digest.f kj31 ((⟨#[78]⟩ : ByteArray) ++ t70009) t70005).bind fun t70019 => (if t70018.toList = t70019.toList then ((impl_CommitRecord.f t70007 t70008).bind fun t70020 => ((spec_CommitRecord.f kj31 t70007 t70008).bind fun t70021 => (if (t70021.size : Int) = 0 then (some ((t70020.size : Int) == 0)) else ((impl_NodeRecord.f t70009).bind fun t70022 => (if (t70022.size : Int) < 64 then (none) else (laws_FnCodec.j2 kj31 l1 t70007 t70008 t70009 t70020 t70022 (((t70022.size : Int) % 64) != 0))))))) else (none))) else (none)) = some r := H; have A62 := Aside0.mk A620; clear A620
        by_cases c63 : 1 + t70009.size ≤ 9223372036854775807
        ·rw [if_pos c63] at H; have c63b0 := eq_true c63; have c63b1 : decide (1 + t70009.size ≤ 9223372036854775807) = true := decide_eq_true c63
         try have c63b2 : (9223372036854775807 < 1 + t70009.size) = False := eq_false (Nat.not_lt.2 c63)
         replace H := Option.bind_eq_some_iff.mp H; obtain ⟨t70019, A640, H⟩ := H; replace H : (if t70018.toList = t70019.toList then ((impl_CommitRecord.f t70007 t70008).bind fun t70020 => ((spec_CommitRecord.f kj31 t70007 t70008).bind fun t70021 => (if (t70021.size : Int) = 0 then (some ((t70020.size : Int) == 0)) else ((impl_NodeRecord.f t70009).bind fun t70022 => (if (t70022.size : Int) < 64 then (none) else (laws_FnCodec.j2 kj31 l1 t70007 t70008 t70009 t70020 t70022 (((t70022.size : Int) % 64) != 0))))))) else (none)) = some r := H; have A64 := Aside0.mk A640; clear A640
         by_cases c65 : t70018.toList = t70019.toList
         ·rw [if_pos c65] at H; have c65b0 : (t70018.toList == t70019.toList) = true := beq_iff_eq.mpr c65; have c65b1 : (t70018.toList != t70019.toList) = false := bne_eq_false_iff_eq.mpr c65; clear c65; replace H := Option.bind_eq_some_iff.mp H; obtain ⟨t70020, A660, H⟩ := H; replace H : ((spec_CommitRecord.f kj31 t70007 t70008).bind fun t70021 => (if (t70021.size : Int) = 0 then (some ((t70020.size : Int) == 0)) else ((impl_NodeRecord.f t70009).bind fun t70022 => (if (t70022.size : Int) < 64 then (none) else (laws_FnCodec.j2 kj31 l1 t70007 t70008 t70009 t70020 t70022 (((t70022.size : Int) % 64) != 0)))))) = some r := H; have A66 := Aside0.mk A660; clear A660; replace H := Option.bind_eq_some_iff.mp H; obtain ⟨t70021, A670, H⟩ := H; replace H : (if (t70021.size : Int) = 0 then (some ((t70020.size : Int) == 0)) else ((impl_NodeRecord.f t70009).bind fun t70022 => (if (t70022.size : Int) < 64 then (none) else (laws_FnCodec.j2 kj31 l1 t70007 t70008 t70009 t70020 t70022 (((t70022.size : Int) % 64) != 0))))) = some r := H; have A67 := Aside0.mk A670; clear A670
          by_cases c68 : (t70021.size : Int) = 0
          ·rw [if_pos c68] at H; have c68b0 : ((t70021.size : Int) == 0) = true := beq_iff_eq.mpr c68; have c68b1 : ((t70021.size : Int) != 0) = false := bne_eq_false_iff_eq.mpr c68; clear c68; obtain rfl := Option.some.inj H; have hnb69 := NB70006_70017.out; have hnc69 := NB70017_70006.out; have hcz70_0 : wc.cell? ⟨gb70006, 0, none⟩ = some (.string t70001) := (blk_cell BK70006.out 0).trans rfl; have hcz70_1 : wc.cell? ⟨gb70006, 1, none⟩ = some (.string t70002) := (blk_cell BK70006.out 1).trans rfl; have hcz70_2 : wc.cell? ⟨gb70006, 2, none⟩ = some (.string t70003) := (blk_cell BK70006.out 2).trans rfl; have hcz70_3 : wc.cell? ⟨gb70006, 3, none⟩ = some (.string t70004) := (blk_cell BK70006.out 3).trans rfl; have hfz70_0 := blk_frozen BK70006.out 0; have hfz70_1 := blk_frozen BK70006.out 1; have hfz70_2 := blk_frozen BK70006.out 2; have hfz70_3 := blk_frozen BK70006.out 3
           go_wp2_with (first | ((with_reducible refine gate_callee (f := 29) rfl ?_); refine goesL_ (some 93) rfl rfl Tryd.func29 (by kernel_rfl) rfl #[.agg #[.string t70001, .string t70002, .string t70003, .string t70004], .int .i64 t70005] rfl (by (try simp only [List.map_toArray, List.map_cons, List.map_nil]); first | done | rfl | (simp only [List.length_drop, List.length_take]; rfl)) ?_; (with_reducible refine (impl_NodeHash.calls t70001 t70002 t70003 t70004 t70005 t70018 _ A62.out).mono ?_); rintro e w71 ⟨rfl, hb⟩; refine ⟨_, rfl, ?_⟩; have n0_ := Aside0.mk (blk_below (g := gb70006) (o := .cells #[.string t70001, .string t70002, .string t70003, .string t70004] 49 (0, 0)) (by (with_reducible repeat (first | refine blk_drewN ?_ _ | refine blk_drew ?_ | refine blk_alloc ?_ _)); exact BK70006.out) hb); have n1_ := Aside0.mk (blk_below (g := gb70017) (o := .cells #[.string t70012, .string t70013, .string t70014, .string t70015] 49 (0, 0)) (by (with_reducible repeat (first | refine blk_drewN ?_ _ | refine blk_drew ?_ | refine blk_alloc ?_ _)); exact BK70017.out) hb); have n2_ := Aside0.mk (below_step (by repeat (first | (with_reducible first | exact HB.out | apply below_alloc | apply pw_below_drewN | apply below_drew1 | refine below_set ?_ GE70006.out | refine below_set ?_ GE70017.out) | exact HB.out)) hb); clear BK70006; clear BK70017; clear HB; have BK70006 := n0_; have BK70017 := n1_; have HB := n2_; clear n0_ n1_ n2_; (try clear hb); (try clear hb2); (try clear hk); (try clear hi)) | ((with_reducible refine gate_callee (f := 31) rfl ?_); refine goesL_ (some 97) rfl rfl Tryd.func31 (by kernel_rfl) rfl #[.string ((⟨#[78]⟩ : ByteArray) ++ t70009), .int .i64 t70005] rfl (by (try simp only [List.map_toArray, List.map_cons, List.map_nil]); first | done | rfl | (simp only [List.length_drop, List.length_take]; rfl)) ?_; (with_reducible refine (spec_Digest.calls kj31 ((⟨#[78]⟩ : ByteArray) ++ t70009) t70005 t70019 _ A64.out).mono ?_); rintro e w72 ⟨rfl, hb⟩; refine ⟨_, rfl, ?_⟩; have n0_ := Aside0.mk (blk_below (g := gb70006) (o := .cells #[.string t70001, .string t70002, .string t70003, .string t70004] 49 (0, 0)) (by (with_reducible repeat (first | refine blk_drewN ?_ _ | refine blk_drew ?_ | refine blk_alloc ?_ _)); exact BK70006.out) hb); have n1_ := Aside0.mk (blk_below (g := gb70017) (o := .cells #[.string t70012, .string t70013, .string t70014, .string t70015] 49 (0, 0)) (by (with_reducible repeat (first | refine blk_drewN ?_ _ | refine blk_drew ?_ | refine blk_alloc ?_ _)); exact BK70017.out) hb); have n2_ := Aside0.mk (below_step (by repeat (first | (with_reducible first | exact HB.out | apply below_alloc | apply pw_below_drewN | apply below_drew1 | refine below_set ?_ GE70006.out | refine below_set ?_ GE70017.out) | exact HB.out)) hb); clear BK70006; clear BK70017; clear HB; have BK70006 := n0_; have BK70017 := n1_; have HB := n2_; clear n0_ n1_ n2_; (try clear hb); (try clear hb2); (try clear hk); (try clear hi)) | ((with_reducible refine gate_callee (f := 32) rfl ?_); refine goesL_ (some 101) rfl rfl Tryd.func32 (by kernel_rfl) rfl #[.int .i64 t70007, .string t70008] rfl (by (try simp only [List.map_toArray, List.map_cons, List.map_nil]); first | done | rfl | (simp only [List.length_drop, List.length_take]; rfl)) ?_; (with_reducible refine (impl_CommitRecord.calls t70007 t70008 t70020 _ A66.out).mono ?_); rintro e w73 ⟨rfl, hb⟩; refine ⟨_, rfl, ?_⟩; have n0_ := Aside0.mk (blk_below (g := gb70006) (o := .cells #[.string t70001, .string t70002, .string t70003, .string t70004] 49 (0, 0)) (by (with_reducible repeat (first | refine blk_drewN ?_ _ | refine blk_drew ?_ | refine blk_alloc ?_ _)); exact BK70006.out) hb); have n1_ := Aside0.mk (blk_below (g := gb70017) (o := .cells #[.string t70012, .string t70013, .string t70014, .string t70015] 49 (0, 0)) (by (with_reducible repeat (first | refine blk_drewN ?_ _ | refine blk_drew ?_ | refine blk_alloc ?_ _)); exact BK70017.out) hb); have n2_ := Aside0.mk (below_step (by repeat (first | (with_reducible first | exact HB.out | apply below_alloc | apply pw_below_drewN | apply below_drew1 | refine below_set ?_ GE70006.out | refine below_set ?_ GE70017.out) | exact HB.out)) hb); clear BK70006; clear BK70017; clear HB; have BK70006 := n0_; have BK70017 := n1_; have HB := n2_; clear n0_ n1_ n2_; (try clear hb); (try clear hb2); (try clear hk); (try clear hi)) | ((with_reducible refine gate_callee (f := 33) rfl ?_); refine goesL_ (some 104) rfl rfl Tryd.func33 (by kernel_rfl) rfl #[.int .i64 t70007, .string t70008] rfl (by (try simp only [List.map_toArray, List.map_cons, List.map_nil]); first | done | rfl | (simp only [List.length_drop, List.length_take]; rfl)) ?_; (with_reducible refine (spec_CommitRecord.calls kj31 t70007 t70008 t70021 _ A67.out).mono ?_); rintro e w74 ⟨rfl, hb⟩; refine ⟨_, rfl, ?_⟩; have n0_ := Aside0.mk (blk_below (g := gb70006) (o := .cells #[.string t70001, .string t70002, .string t70003, .string t70004] 49 (0, 0)) (by (with_reducible repeat (first | refine blk_drewN ?_ _ | refine blk_drew ?_ | refine blk_alloc ?_ _)); exact BK70006.out) hb); have n1_ := Aside0.mk (blk_below (g := gb70017) (o := .cells #[.string t70012, .string t70013, .string t70014, .string t70015] 49 (0, 0)) (by (with_reducible repeat (first | refine blk_drewN ?_ _ | refine blk_drew ?_ | refine blk_alloc ?_ _)); exact BK70017.out) hb); have n2_ := Aside0.mk (below_step (by repeat (first | (with_reducible first | exact HB.out | apply below_alloc | apply pw_below_drewN | apply below_drew1 | refine below_set ?_ GE70006.out | refine below_set ?_ GE70017.out) | exact HB.out)) hb); clear BK70006; clear BK70017; clear HB; have BK70006 := n0_; have BK70017 := n1_; have HB := n2_; clear n0_ n1_ n2_; (try clear hb); (try clear hb2); (try clear hk); (try clear hi)))
           go_ret
           exact ⟨by first | rfl | (simp [errW_none, errW_some] <;> rfl) | (simp [*, errW_none, errW_some] <;> rfl), by repeat (first | (with_reducible first | exact HB.out | apply below_alloc | apply pw_below_drewN | apply below_drew1 | refine below_set ?_ GE70006.out | refine below_set ?_ GE70017.out) | exact HB.out)⟩
          ·rw [if_neg c68] at H; have c68b0 : ((t70021.size : Int) == 0) = false := beq_eq_false_iff_ne.mpr c68; have c68b1 : ((t70021.size : Int) != 0) = true := bne_iff_ne.mpr c68; replace H := Option.bind_eq_some_iff.mp H; obtain ⟨t70022, A750, H⟩ := H; replace H : (if (t70022.size : Int) < 64 then (none) else (laws_FnCodec.j2 kj31 l1 t70007 t70008 t70009 t70020 t70022 (((t70022.size : Int) % 64) != 0))) = some r := H; have A75 := Aside0.mk A750; clear A750; have HC76 := Aside0.mk H; clear H; have hnb77 := NB70006_70017.out; have hnc77 := NB70017_70006.out; have hcz78_0 : wc.cell? ⟨gb70006, 0, none⟩ = some (.string t70001) := (blk_cell BK70006.out 0).trans rfl; have hcz78_1 : wc.cell? ⟨gb70006, 1, none⟩ = some (.string t70002) := (blk_cell BK70006.out 1).trans rfl; have hcz78_2 : wc.cell? ⟨gb70006, 2, none⟩ = some (.string t70003) := (blk_cell BK70006.out 2).trans rfl; have hcz78_3 : wc.cell? ⟨gb70006, 3, none⟩ = some (.string t70004) := (blk_cell BK70006.out 3).trans rfl; have hfz78_0 := blk_frozen BK70006.out 0; have hfz78_1 := blk_frozen BK70006.out 1; have hfz78_2 := blk_frozen BK70006.out 2; have hfz78_3 := blk_frozen BK70006.out 3
           go_upto_region 17 with (first | ((with_reducible refine gate_callee (f := 29) rfl ?_); refine goesL_ (some 93) rfl rfl Tryd.func29 (by kernel_rfl) rfl #[.agg #[.string t70001, .string t70002, .string t70003, .string t70004], .int .i64 t70005] rfl (by (try simp only [List.map_toArray, List.map_cons, List.map_nil]); first | done | rfl | (simp only [List.length_drop, List.length_take]; rfl)) ?_; (with_reducible refine (impl_NodeHash.calls t70001 t70002 t70003 t70004 t70005 t70018 _ A62.out).mono ?_); rintro e w79 ⟨rfl, hb⟩; refine ⟨_, rfl, ?_⟩; have n0_ := Aside0.mk (blk_below (g := gb70006) (o := .cells #[.string t70001, .string t70002, .string t70003, .string t70004] 49 (0, 0)) (by (with_reducible repeat (first | refine blk_drewN ?_ _ | refine blk_drew ?_ | refine blk_alloc ?_ _)); exact BK70006.out) hb); have n1_ := Aside0.mk (blk_below (g := gb70017) (o := .cells #[.string t70012, .string t70013, .string t70014, .string t70015] 49 (0, 0)) (by (with_reducible repeat (first | refine blk_drewN ?_ _ | refine blk_drew ?_ | refine blk_alloc ?_ _)); exact BK70017.out) hb); have n2_ := Aside0.mk (below_step (by repeat (first | (with_reducible first | exact HB.out | apply below_alloc | apply pw_below_drewN | apply below_drew1 | refine below_set ?_ GE70006.out | refine below_set ?_ GE70017.out) | exact HB.out)) hb); clear BK70006; clear BK70017; clear HB; have BK70006 := n0_; have BK70017 := n1_; have HB := n2_; clear n0_ n1_ n2_; (try clear hb); (try clear hb2); (try clear hk); (try clear hi)) | ((with_reducible refine gate_callee (f := 31) rfl ?_); refine goesL_ (some 97) rfl rfl Tryd.func31 (by kernel_rfl) rfl #[.string ((⟨#[78]⟩ : ByteArray) ++ t70009), .int .i64 t70005] rfl (by (try simp only [List.map_toArray, List.map_cons, List.map_nil]); first | done | rfl | (simp only [List.length_drop, List.length_take]; rfl)) ?_; (with_reducible refine (spec_Digest.calls kj31 ((⟨#[78]⟩ : ByteArray) ++ t70009) t70005 t70019 _ A64.out).mono ?_); rintro e w80 ⟨rfl, hb⟩; refine ⟨_, rfl, ?_⟩; have n0_ := Aside0.mk (blk_below (g := gb70006) (o := .cells #[.string t70001, .string t70002, .string t70003, .string t70004] 49 (0, 0)) (by (with_reducible repeat (first | refine blk_drewN ?_ _ | refine blk_drew ?_ | refine blk_alloc ?_ _)); exact BK70006.out) hb); have n1_ := Aside0.mk (blk_below (g := gb70017) (o := .cells #[.string t70012, .string t70013, .string t70014, .string t70015] 49 (0, 0)) (by (with_reducible repeat (first | refine blk_drewN ?_ _ | refine blk_drew ?_ | refine blk_alloc ?_ _)); exact BK70017.out) hb); have n2_ := Aside0.mk (below_step (by repeat (first | (with_reducible first | exact HB.out | apply below_alloc | apply pw_below_drewN | apply below_drew1 | refine below_set ?_ GE70006.out | refine below_set ?_ GE70017.out) | exact HB.out)) hb); clear BK70006; clear BK70017; clear HB; have BK70006 := n0_; have BK70017 := n1_; have HB := n2_; clear n0_ n1_ n2_; (try clear hb); (try clear hb2); (try clear hk); (try clear hi)) | ((with_reducible refine gate_callee (f := 32) rfl ?_); refine goesL_ (some 101) rfl rfl Tryd.func32 (by kernel_rfl) rfl #[.int .i64 t70007, .string t70008] rfl (by (try simp only [List.map_toArray, List.map_cons, List.map_nil]); first | done | rfl | (simp only [List.length_drop, List.length_take]; rfl)) ?_; (with_reducible refine (impl_CommitRecord.calls t70007 t70008 t70020 _ A66.out).mono ?_); rintro e w81 ⟨rfl, hb⟩; refine ⟨_, rfl, ?_⟩; have n0_ := Aside0.mk (blk_below (g := gb70006) (o := .cells #[.string t70001, .string t70002, .string t70003, .string t70004] 49 (0, 0)) (by (with_reducible repeat (first | refine blk_drewN ?_ _ | refine blk_drew ?_ | refine blk_alloc ?_ _)); exact BK70006.out) hb); have n1_ := Aside0.mk (blk_below (g := gb70017) (o := .cells #[.string t70012, .string t70013, .string t70014, .string t70015] 49 (0, 0)) (by (with_reducible repeat (first | refine blk_drewN ?_ _ | refine blk_drew ?_ | refine blk_alloc ?_ _)); exact BK70017.out) hb); have n2_ := Aside0.mk (below_step (by repeat (first | (with_reducible first | exact HB.out | apply below_alloc | apply pw_below_drewN | apply below_drew1 | refine below_set ?_ GE70006.out | refine below_set ?_ GE70017.out) | exact HB.out)) hb); clear BK70006; clear BK70017; clear HB; have BK70006 := n0_; have BK70017 := n1_; have HB := n2_; clear n0_ n1_ n2_; (try clear hb); (try clear hb2); (try clear hk); (try clear hi)) | ((with_reducible refine gate_callee (f := 33) rfl ?_); refine goesL_ (some 104) rfl rfl Tryd.func33 (by kernel_rfl) rfl #[.int .i64 t70007, .string t70008] rfl (by (try simp only [List.map_toArray, List.map_cons, List.map_nil]); first | done | rfl | (simp only [List.length_drop, List.length_take]; rfl)) ?_; (with_reducible refine (spec_CommitRecord.calls kj31 t70007 t70008 t70021 _ A67.out).mono ?_); rintro e w82 ⟨rfl, hb⟩; refine ⟨_, rfl, ?_⟩; have n0_ := Aside0.mk (blk_below (g := gb70006) (o := .cells #[.string t70001, .string t70002, .string t70003, .string t70004] 49 (0, 0)) (by (with_reducible repeat (first | refine blk_drewN ?_ _ | refine blk_drew ?_ | refine blk_alloc ?_ _)); exact BK70006.out) hb); have n1_ := Aside0.mk (blk_below (g := gb70017) (o := .cells #[.string t70012, .string t70013, .string t70014, .string t70015] 49 (0, 0)) (by (with_reducible repeat (first | refine blk_drewN ?_ _ | refine blk_drew ?_ | refine blk_alloc ?_ _)); exact BK70017.out) hb); have n2_ := Aside0.mk (below_step (by repeat (first | (with_reducible first | exact HB.out | apply below_alloc | apply pw_below_drewN | apply below_drew1 | refine below_set ?_ GE70006.out | refine below_set ?_ GE70017.out) | exact HB.out)) hb); clear BK70006; clear BK70017; clear HB; have BK70006 := n0_; have BK70017 := n1_; have HB := n2_; clear n0_ n1_ n2_; (try clear hb); (try clear hb2); (try clear hk); (try clear hi)) | ((with_reducible refine gate_callee (f := 34) rfl ?_); refine goesL_ (some 111) rfl rfl Tryd.func34 (by kernel_rfl) rfl #[.string t70009] rfl (by (try simp only [List.map_toArray, List.map_cons, List.map_nil]); first | done | rfl | (simp only [List.length_drop, List.length_take]; rfl)) ?_; (with_reducible refine (impl_NodeRecord.calls t70009 t70022 _ A75.out).mono ?_); rintro e w83 ⟨rfl, hb⟩; refine ⟨_, rfl, ?_⟩; have n0_ := Aside0.mk (blk_below (g := gb70006) (o := .cells #[.string t70001, .string t70002, .string t70003, .string t70004] 49 (0, 0)) (by (with_reducible repeat (first | refine blk_drewN ?_ _ | refine blk_drew ?_ | refine blk_alloc ?_ _)); exact BK70006.out) hb); have n1_ := Aside0.mk (blk_below (g := gb70017) (o := .cells #[.string t70012, .string t70013, .string t70014, .string t70015] 49 (0, 0)) (by (with_reducible repeat (first | refine blk_drewN ?_ _ | refine blk_drew ?_ | refine blk_alloc ?_ _)); exact BK70017.out) hb); have n2_ := Aside0.mk (below_step (by repeat (first | (with_reducible first | exact HB.out | apply below_alloc | apply pw_below_drewN | apply below_drew1 | refine below_set ?_ GE70006.out | refine below_set ?_ GE70017.out) | exact HB.out)) hb); clear BK70006; clear BK70017; clear HB; have BK70006 := n0_; have BK70017 := n1_; have HB := n2_; clear n0_ n1_ n2_; (try clear hb); (try clear hb2); (try clear hk); (try clear hi)))
           (try simp only [Act.put, List.setIfInBounds_toArray, List.set_cons_zero, List.set_cons_succ])
           go_cut [120] (fun v120 wc => ∃ (kq : Nat) (x120_75 : Bool), v120 = .bool x120_75 ∧ Aside0 (laws_FnCodec.j2 kq l1 t70007 t70008 t70009 t70020 t70022 x120_75 = some r) ∧ Aside0 (kq ≤ kj31) ∧ Aside0 (wc.heap[gb70006]? = some (.cells #[.string t70001, .string t70002, .string t70003, .string t70004] 49 (0, 0))) ∧ Aside0 (wc.heap[gb70017]? = some (.cells #[.string t70012, .string t70013, .string t70014, .string t70015] 49 (0, 0))) ∧ Aside0 (Below w.heap.size w wc))
           case first =>
            have H := HC76.out; clear HC76
            by_cases c84 : (t70022.size : Int) < 64
            ·rw [if_pos c84] at H; exact absurd H (by simp)
            ·rw [if_neg c84] at H; have c84b0 : decide ((t70022.size : Int) < 64) = false := decide_eq_false c84; have c84b1 : decide (t70022.size < 64) = false := decide_eq_false (by omega); clear c84; (first | rw [c84b0] | (simp only [i64_w, i32_w]; rw [c84b0]) | skip); have H' := Aside0.mk H; clear H
             go_wp2
             go_meet
             case rel => exact ⟨_, ((((t70022.size : Int) % 64) != 0)), (by first | rfl | (simp; done) | (simp [*]; done)), H', ⟨by have := HJ2.out; have := HJ31.out; first | omega | exact Nat.le_refl _⟩, ⟨by (with_reducible repeat (first | refine blk_drewN ?_ _ | refine blk_drew ?_ | refine blk_alloc ?_ _)); exact BK70006.out⟩, ⟨by (with_reducible repeat (first | refine blk_drewN ?_ _ | refine blk_drew ?_ | refine blk_alloc ?_ _)); exact BK70017.out⟩, ⟨by repeat (first | (with_reducible first | exact HB.out | apply below_alloc | apply pw_below_drewN | apply below_drew1 | refine below_set ?_ GE70006.out | refine below_set ?_ GE70017.out) | exact HB.out)⟩⟩
           case rest =>
            clear HC76
            try clear c1
            try clear c2
            try clear p2
            try clear c3
            try clear c4
            try clear c4b0
            try clear c4b1
            try clear c5
            try clear c6
            try clear c7
            try clear c8
            try clear c10
            try clear c10b0
            try clear c10b1
            try clear c11
            try clear c11b0
            try clear c11b1
            try clear c25
            try clear c26
            try clear c27
            try clear c28
            try clear c29
            try clear c30
            try clear c31
            try clear c32
            try clear c33
            try clear c34
            try clear c43
            try clear c45
            try clear c46
            try clear c46b0
            try clear c46b1
            try clear c47
            try clear c47b0
            try clear c47b1
            try clear c48
            try clear c48b0
            try clear c48b1
            try clear c49
            try clear c52
            try clear c55
            try clear c58
            try clear c61
            try clear c63
            try clear c63b0
            try clear c63b1
            try clear c63b2
            try clear c65
            try clear c65b0
            try clear c65b1
            try clear c68
            try clear c68b0
            try clear c68b1
            try clear c69
            try clear c77
            try clear c84
            try clear c84b0
            try clear c84b1
            try clear hcz15_0
            try clear hcz15_1
            try clear hcz15_2
            try clear hcz15_3
            try clear hcz17_0
            try clear hcz17_1
            try clear hcz17_2
            try clear hcz17_3
            try clear hcz19_0
            try clear hcz19_1
            try clear hcz19_2
            try clear hcz19_3
            try clear hcz21_0
            try clear hcz21_1
            try clear hcz21_2
            try clear hcz21_3
            try clear hcz25_0
            try clear hcz25_1
            try clear hcz25_2
            try clear hcz25_3
            try clear hcz27_0
            try clear hcz27_1
            try clear hcz27_2
            try clear hcz27_3
            try clear hcz29_0
            try clear hcz29_1
            try clear hcz29_2
            try clear hcz29_3
            try clear hcz35_0
            try clear hcz35_1
            try clear hcz35_2
            try clear hcz35_3
            try clear hcz37_0
            try clear hcz37_1
            try clear hcz37_2
            try clear hcz37_3
            try clear hcz39_0
            try clear hcz39_1
            try clear hcz39_2
            try clear hcz39_3
            try clear hcz44_0
            try clear hcz44_1
            try clear hcz44_2
            try clear hcz44_3
            try clear hcz50_0
            try clear hcz50_1
            try clear hcz50_2
            try clear hcz50_3
            try clear hcz51_0
            try clear hcz51_1
            try clear hcz51_2
            try clear hcz51_3
            try clear hcz53_0
            try clear hcz53_1
            try clear hcz53_2
            try clear hcz53_3
            try clear hcz54_0
            try clear hcz54_1
            try clear hcz54_2
            try clear hcz54_3
            try clear hcz56_0
            try clear hcz56_1
            try clear hcz56_2
            try clear hcz56_3
            try clear hcz57_0
            try clear hcz57_1
            try clear hcz57_2
            try clear hcz57_3
            try clear hcz59_0
            try clear hcz59_1
            try clear hcz59_2
            try clear hcz59_3
            try clear hcz60_0
            try clear hcz60_1
            try clear hcz60_2
            try clear hcz60_3
            try clear hcz70_0
            try clear hcz70_1
            try clear hcz70_2
            try clear hcz70_3
            try clear hcz78_0
            try clear hcz78_1
            try clear hcz78_2
            try clear hcz78_3
            try clear hfz15_0
            try clear hfz15_1
            try clear hfz15_2
            try clear hfz15_3
            try clear hfz17_0
            try clear hfz17_1
            try clear hfz17_2
            try clear hfz17_3
            try clear hfz19_0
            try clear hfz19_1
            try clear hfz19_2
            try clear hfz19_3
            try clear hfz21_0
            try clear hfz21_1
            try clear hfz21_2
            try clear hfz21_3
            try clear hfz25_0
            try clear hfz25_1
            try clear hfz25_2
            try clear hfz25_3
            try clear hfz27_0
            try clear hfz27_1
            try clear hfz27_2
            try clear hfz27_3
            try clear hfz29_0
            try clear hfz29_1
            try clear hfz29_2
            try clear hfz29_3
            try clear hfz35_0
            try clear hfz35_1
            try clear hfz35_2
            try clear hfz35_3
            try clear hfz37_0
            try clear hfz37_1
            try clear hfz37_2
            try clear hfz37_3
            try clear hfz39_0
            try clear hfz39_1
            try clear hfz39_2
            try clear hfz39_3
            try clear hfz44_0
            try clear hfz44_1
            try clear hfz44_2
            try clear hfz44_3
            try clear hfz50_0
            try clear hfz50_1
            try clear hfz50_2
            try clear hfz50_3
            try clear hfz51_0
            try clear hfz51_1
            try clear hfz51_2
            try clear hfz51_3
            try clear hfz53_0
            try clear hfz53_1
            try clear hfz53_2
            try clear hfz53_3
            try clear hfz54_0
            try clear hfz54_1
            try clear hfz54_2
            try clear hfz54_3
            try clear hfz56_0
            try clear hfz56_1
            try clear hfz56_2
            try clear hfz56_3
            try clear hfz57_0
            try clear hfz57_1
            try clear hfz57_2
            try clear hfz57_3
            try clear hfz59_0
            try clear hfz59_1
            try clear hfz59_2
            try clear hfz59_3
            try clear hfz60_0
            try clear hfz60_1
            try clear hfz60_2
            try clear hfz60_3
            try clear hfz70_0
            try clear hfz70_1
            try clear hfz70_2
            try clear hfz70_3
            try clear hfz78_0
            try clear hfz78_1
            try clear hfz78_2
            try clear hfz78_3
            try clear p2
            obtain ⟨kq, x120_75, rfl, HA, HJ75, BK70006, BK70017, HB⟩ := hcut
            cases kq with
            | zero => exact absurd HA.out (by simp [laws_FnCodec.j2])
            | succ kj75 =>
             have H := HA.out; clear HA; simp only [laws_FnCodec.j2] at H
             by_cases c85 : x120_75 = true
             ·subst c85; have H1 : (none) = some r := by rw [if_pos rfl] at H; exact H
              exact absurd H1 (by simp)
             ·replace c85 := Bool.eq_false_iff.mpr c85; subst c85; have H1 : (if t70020.size + t70022.size ≤ 9223372036854775807 then (if (t70020 ++ t70022).size + t70008.size ≤ 9223372036854775807 then (if ((t70020 ++ t70022) ++ t70008).size + 1 ≤ 9223372036854775807 then ((impl_ReadRecord.f (((t70020 ++ t70022) ++ t70008) ++ (⟨#[83]⟩ : ByteArray)) 0).bind fun bt70023 => ((impl_ReadRecord.f (((t70020 ++ t70022) ++ t70008) ++ (⟨#[83]⟩ : ByteArray)) 1).bind fun bt70029 => (if bt70023.1 = 2 then (if bt70023.2.2.1 = t70007 then (if bt70023.2.2.2.1.toList = t70008.toList then (laws_FnCodec.j3 kj75 l1 t70009 t70020 t70022 (((t70020 ++ t70022) ++ t70008) ++ (⟨#[83]⟩ : ByteArray)) (bt70023.2.2.2.2 != 1) bt70029.1 bt70029.2.1 bt70029.2.2.1 bt70029.2.2.2.1 bt70029.2.2.2.2) else (laws_FnCodec.j3 kj75 l1 t70009 t70020 t70022 (((t70020 ++ t70022) ++ t70008) ++ (⟨#[83]⟩ : ByteArray)) true bt70029.1 bt70029.2.1 bt70029.2.2.1 bt70029.2.2.2.1 bt70029.2.2.2.2)) else (laws_FnCodec.j3 kj75 l1 t70009 t70020 t70022 (((t70020 ++ t70022) ++ t70008) ++ (⟨#[83]⟩ : ByteArray)) true bt70029.1 bt70029.2.1 bt70029.2.2.1 bt70029.2.2.2.1 bt70029.2.2.2.2)) else (laws_FnCodec.j3 kj75 l1 t70009 t70020 t70022 (((t70020 ++ t70022) ++ t70008) ++ (⟨#[83]⟩ : ByteArray)) true bt70029.1 bt70029.2.1 bt70029.2.2.1 bt70029.2.2.2.1 bt70029.2.2.2.2)))) else (none)) else (none)) else (none)) = some r := by rw [if_neg (show ¬ (false = true) by decide)] at H; exact H
              clear H; have H := H1; clear H1
              by_cases c86 : t70020.size + t70022.size ≤ 9223372036854775807
              ·rw [if_pos c86] at H; have c86b0 := eq_true c86; have c86b1 : decide (t70020.size + t70022.size ≤ 9223372036854775807) = true := decide_eq_true c86
               try have c86b2 : (9223372036854775807 < t70020.size + t70022.size) = False := eq_false (Nat.not_lt.2 c86)
               by_cases c87 : (t70020 ++ t70022).size + t70008.size ≤ 9223372036854775807
               ·rw [if_pos c87] at H; have c87b0 := eq_true c87; have c87b1 : decide ((t70020 ++ t70022).size + t70008.size ≤ 9223372036854775807) = true := decide_eq_true c87
                try have c87b2 : (9223372036854775807 < (t70020 ++ t70022).size + t70008.size) = False := eq_false (Nat.not_lt.2 c87)
                try have c87b4 : (9223372036854775807 < t70020.size + t70022.size + t70008.size) = False := eq_false (by have hh := c87; simp only [ByteArray.size_append, ByteArray.size_extract] at hh; omega)
                try (have c87b3 := c87b2; simp only [ByteArray.size_append, ByteArray.size_extract, Nat.min_self] at c87b3)
                by_cases c88 : ((t70020 ++ t70022) ++ t70008).size + 1 ≤ 9223372036854775807
                ·rw [if_pos c88] at H; have c88b0 := eq_true c88; have c88b1 : decide (((t70020 ++ t70022) ++ t70008).size + 1 ≤ 9223372036854775807) = true := decide_eq_true c88
                 try have c88b2 : (9223372036854775807 < ((t70020 ++ t70022) ++ t70008).size + 1) = False := eq_false (Nat.not_lt.2 c88)
                 try have c88b4 : (9223372036854775807 < (t70020.size + t70022.size) + t70008.size + 1) = False := eq_false (by have hh := c88; simp only [ByteArray.size_append, ByteArray.size_extract] at hh; omega)
                 try (have c88b3 := c88b2; simp only [ByteArray.size_append, ByteArray.size_extract, Nat.min_self] at c88b3)
                 replace H := Option.bind_eq_some_iff.mp H; obtain ⟨⟨t70023, t70024, t70025, t70026, t70027⟩, A890, H⟩ := H; replace H : ((impl_ReadRecord.f (((t70020 ++ t70022) ++ t70008) ++ (⟨#[83]⟩ : ByteArray)) 1).bind fun bt70029 => (if t70023 = 2 then (if t70025 = t70007 then (if t70026.toList = t70008.toList then (laws_FnCodec.j3 kj75 l1 t70009 t70020 t70022 (((t70020 ++ t70022) ++ t70008) ++ (⟨#[83]⟩ : ByteArray)) (t70027 != 1) bt70029.1 bt70029.2.1 bt70029.2.2.1 bt70029.2.2.2.1 bt70029.2.2.2.2) else (laws_FnCodec.j3 kj75 l1 t70009 t70020 t70022 (((t70020 ++ t70022) ++ t70008) ++ (⟨#[83]⟩ : ByteArray)) true bt70029.1 bt70029.2.1 bt70029.2.2.1 bt70029.2.2.2.1 bt70029.2.2.2.2)) else (laws_FnCodec.j3 kj75 l1 t70009 t70020 t70022 (((t70020 ++ t70022) ++ t70008) ++ (⟨#[83]⟩ : ByteArray)) true bt70029.1 bt70029.2.1 bt70029.2.2.1 bt70029.2.2.2.1 bt70029.2.2.2.2)) else (laws_FnCodec.j3 kj75 l1 t70009 t70020 t70022 (((t70020 ++ t70022) ++ t70008) ++ (⟨#[83]⟩ : ByteArray)) true bt70029.1 bt70029.2.1 bt70029.2.2.1 bt70029.2.2.2.1 bt70029.2.2.2.2))) = some r := H; have A89 := Aside0.mk A890; clear A890; replace H := Option.bind_eq_some_iff.mp H; obtain ⟨⟨t70029, t70030, t70031, t70032, t70033⟩, A900, H⟩ := H; replace H : (if t70023 = 2 then (if t70025 = t70007 then (if t70026.toList = t70008.toList then (laws_FnCodec.j3 kj75 l1 t70009 t70020 t70022 (((t70020 ++ t70022) ++ t70008) ++ (⟨#[83]⟩ : ByteArray)) (t70027 != 1) t70029 t70030 t70031 t70032 t70033) else (laws_FnCodec.j3 kj75 l1 t70009 t70020 t70022 (((t70020 ++ t70022) ++ t70008) ++ (⟨#[83]⟩ : ByteArray)) true t70029 t70030 t70031 t70032 t70033)) else (laws_FnCodec.j3 kj75 l1 t70009 t70020 t70022 (((t70020 ++ t70022) ++ t70008) ++ (⟨#[83]⟩ : ByteArray)) true t70029 t70030 t70031 t70032 t70033)) else (laws_FnCodec.j3 kj75 l1 t70009 t70020 t70022 (((t70020 ++ t70022) ++ t70008) ++ (⟨#[83]⟩ : ByteArray)) true t70029 t70030 t70031 t70032 t70033)) = some r := H; have A90 := Aside0.mk A900; clear A900; have HC91 := Aside0.mk H; clear H
                 go_upto_region 22 with (first | ((with_reducible refine gate_callee (f := 35) rfl ?_); refine goesL_ (some 128) rfl rfl Tryd.func35 (by kernel_rfl) rfl #[.string (((t70020 ++ t70022) ++ t70008) ++ (⟨#[83]⟩ : ByteArray)), .int .i64 0] rfl (by (try simp only [List.map_toArray, List.map_cons, List.map_nil]); first | done | rfl | (simp only [List.length_drop, List.length_take]; rfl)) ?_; (with_reducible refine (impl_ReadRecord.calls (((t70020 ++ t70022) ++ t70008) ++ (⟨#[83]⟩ : ByteArray)) 0 t70023 t70024 t70025 t70026 t70027 _ A89.out).mono ?_); rintro e w92 ⟨rfl, hb⟩; refine ⟨_, rfl, ?_⟩; have n0_ := Aside0.mk (blk_below (g := gb70006) (o := .cells #[.string t70001, .string t70002, .string t70003, .string t70004] 49 (0, 0)) (by (with_reducible repeat (first | refine blk_drewN ?_ _ | refine blk_drew ?_ | refine blk_alloc ?_ _)); exact BK70006.out) hb); have n1_ := Aside0.mk (blk_below (g := gb70017) (o := .cells #[.string t70012, .string t70013, .string t70014, .string t70015] 49 (0, 0)) (by (with_reducible repeat (first | refine blk_drewN ?_ _ | refine blk_drew ?_ | refine blk_alloc ?_ _)); exact BK70017.out) hb); have n2_ := Aside0.mk (below_step (by repeat (first | (with_reducible first | exact HB.out | apply below_alloc | apply pw_below_drewN | apply below_drew1 | refine below_set ?_ GE70006.out | refine below_set ?_ GE70017.out) | exact HB.out)) hb); clear BK70006; clear BK70017; clear HB; have BK70006 := n0_; have BK70017 := n1_; have HB := n2_; clear n0_ n1_ n2_; (try clear hb); (try clear hb2); (try clear hk); (try clear hi)) | ((with_reducible refine gate_dst (N := 15) rfl ?_); (try (refine gate_guard (by rfl) ?_; dsimp only)); refine box_event ?hg (N := 15) ?hd (cs := #[.int .i64 0, .string (⟨#[]⟩ : ByteArray), .int .i64 0, .string (⟨#[]⟩ : ByteArray), .int .i64 0]) (t := 61) ?hr ?_; (case hd => rfl); (case hg => rfl); (case hr => first | (go_simp; done) | (go_simp; rfl)); intro gb70028 hg w93 hbox hb; have n0_ := Aside0.mk (blk_below (g := gb70006) (o := .cells #[.string t70001, .string t70002, .string t70003, .string t70004] 49 (0, 0)) (by (with_reducible repeat (first | refine blk_drewN ?_ _ | refine blk_drew ?_ | refine blk_alloc ?_ _)); exact BK70006.out) hb); have n1_ := Aside0.mk (blk_below (g := gb70017) (o := .cells #[.string t70012, .string t70013, .string t70014, .string t70015] 49 (0, 0)) (by (with_reducible repeat (first | refine blk_drewN ?_ _ | refine blk_drew ?_ | refine blk_alloc ?_ _)); exact BK70017.out) hb); have n2_ := Aside0.mk (below_step (by repeat (first | (with_reducible first | exact HB.out | apply below_alloc | apply pw_below_drewN | apply below_drew1 | refine below_set ?_ GE70006.out | refine below_set ?_ GE70017.out) | exact HB.out)) hb); have n3_ := Aside0.mk (hbox); have n4_ := Aside0.mk ((by rw [hg]; exact (below_size (by repeat (first | (with_reducible first | exact HB.out | apply below_alloc | apply pw_below_drewN | apply below_drew1 | refine below_set ?_ GE70006.out | refine below_set ?_ GE70017.out) | exact HB.out))) : w.heap.size ≤ gb70028)); have n5_ := Aside0.mk ((by rw [hg]; exact (below_size (by repeat (first | (with_reducible first | exact HB.out | apply below_alloc | apply pw_below_drewN | apply below_drew1 | refine below_set ?_ GE70006.out | refine below_set ?_ GE70017.out) | exact HB.out))) : w.heap.size ≤ gb70028)); have n6_ := Aside0.mk ((by rw [hg]; exact Nat.ne_of_lt (blk_lt (g := gb70006) (o := .cells #[.string t70001, .string t70002, .string t70003, .string t70004] 49 (0, 0)) (by (with_reducible repeat (first | refine blk_drewN ?_ _ | refine blk_drew ?_ | refine blk_alloc ?_ _)); exact BK70006.out)) : gb70006 ≠ gb70028)); have n7_ := Aside0.mk ((by rw [hg]; exact Nat.ne_of_gt (blk_lt (g := gb70006) (o := .cells #[.string t70001, .string t70002, .string t70003, .string t70004] 49 (0, 0)) (by (with_reducible repeat (first | refine blk_drewN ?_ _ | refine blk_drew ?_ | refine blk_alloc ?_ _)); exact BK70006.out)) : gb70028 ≠ gb70006)); have n8_ := Aside0.mk ((by rw [hg]; exact Nat.ne_of_lt (blk_lt (g := gb70017) (o := .cells #[.string t70012, .string t70013, .string t70014, .string t70015] 49 (0, 0)) (by (with_reducible repeat (first | refine blk_drewN ?_ _ | refine blk_drew ?_ | refine blk_alloc ?_ _)); exact BK70017.out)) : gb70017 ≠ gb70028)); have n9_ := Aside0.mk ((by rw [hg]; exact Nat.ne_of_gt (blk_lt (g := gb70017) (o := .cells #[.string t70012, .string t70013, .string t70014, .string t70015] 49 (0, 0)) (by (with_reducible repeat (first | refine blk_drewN ?_ _ | refine blk_drew ?_ | refine blk_alloc ?_ _)); exact BK70017.out)) : gb70028 ≠ gb70017)); clear BK70006; clear BK70017; clear HB; have BK70006 := n0_; have BK70017 := n1_; have HB := n2_; have BK70028 := n3_; have GW70028 := n4_; have GE70028 := n5_; have NB70006_70028 := n6_; have NB70028_70006 := n7_; have NB70017_70028 := n8_; have NB70028_70017 := n9_; clear n0_ n1_ n2_ n3_ n4_ n5_ n6_ n7_ n8_ n9_; clear hb hbox hg; have hnb94 := NB70028_70006.out; have hnc94 := NB70006_70028.out; have hnb95 := NB70028_70017.out; have hnc95 := NB70017_70028.out; have hcz96_0 : w93.cell? ⟨gb70028, 0, none⟩ = some (.int .i64 0) := (blk_cell BK70028.out 0).trans rfl; have hcz96_1 : w93.cell? ⟨gb70028, 1, none⟩ = some (.string (⟨#[]⟩ : ByteArray)) := (blk_cell BK70028.out 1).trans rfl; have hcz96_2 : w93.cell? ⟨gb70028, 2, none⟩ = some (.int .i64 0) := (blk_cell BK70028.out 2).trans rfl; have hcz96_3 : w93.cell? ⟨gb70028, 3, none⟩ = some (.string (⟨#[]⟩ : ByteArray)) := (blk_cell BK70028.out 3).trans rfl; have hcz96_4 : w93.cell? ⟨gb70028, 4, none⟩ = some (.int .i64 0) := (blk_cell BK70028.out 4).trans rfl; have hfz96_0 := blk_frozen BK70028.out 0; have hfz96_1 := blk_frozen BK70028.out 1; have hfz96_2 := blk_frozen BK70028.out 2; have hfz96_3 := blk_frozen BK70028.out 3; have hfz96_4 := blk_frozen BK70028.out 4) | ((with_reducible refine gate_callee (f := 35) rfl ?_); refine goesL_ (some 130) rfl rfl Tryd.func35 (by kernel_rfl) rfl #[.string (((t70020 ++ t70022) ++ t70008) ++ (⟨#[83]⟩ : ByteArray)), .int .i64 1] rfl (by (try simp only [List.map_toArray, List.map_cons, List.map_nil]); first | done | rfl | (simp only [List.length_drop, List.length_take]; rfl)) ?_; (with_reducible refine (impl_ReadRecord.calls (((t70020 ++ t70022) ++ t70008) ++ (⟨#[83]⟩ : ByteArray)) 1 t70029 t70030 t70031 t70032 t70033 _ A90.out).mono ?_); rintro e w97 ⟨rfl, hb⟩; refine ⟨_, rfl, ?_⟩; have n0_ := Aside0.mk (blk_below (g := gb70006) (o := .cells #[.string t70001, .string t70002, .string t70003, .string t70004] 49 (0, 0)) (by (with_reducible repeat (first | refine blk_drewN ?_ _ | refine blk_drew ?_ | refine blk_alloc ?_ _)); refine blk_far ?_ NB70006_70028.out _; (with_reducible repeat (first | refine blk_drewN ?_ _ | refine blk_drew ?_ | refine blk_alloc ?_ _)); refine blk_far ?_ NB70006_70028.out _; (with_reducible repeat (first | refine blk_drewN ?_ _ | refine blk_drew ?_ | refine blk_alloc ?_ _)); refine blk_far ?_ NB70006_70028.out _; (with_reducible repeat (first | refine blk_drewN ?_ _ | refine blk_drew ?_ | refine blk_alloc ?_ _)); refine blk_far ?_ NB70006_70028.out _; (with_reducible repeat (first | refine blk_drewN ?_ _ | refine blk_drew ?_ | refine blk_alloc ?_ _)); refine blk_far ?_ NB70006_70028.out _; (with_reducible repeat (first | refine blk_drewN ?_ _ | refine blk_drew ?_ | refine blk_alloc ?_ _)); exact BK70006.out) hb); have n1_ := Aside0.mk (blk_below (g := gb70017) (o := .cells #[.string t70012, .string t70013, .string t70014, .string t70015] 49 (0, 0)) (by (with_reducible repeat (first | refine blk_drewN ?_ _ | refine blk_drew ?_ | refine blk_alloc ?_ _)); refine blk_far ?_ NB70017_70028.out _; (with_reducible repeat (first | refine blk_drewN ?_ _ | refine blk_drew ?_ | refine blk_alloc ?_ _)); refine blk_far ?_ NB70017_70028.out _; (with_reducible repeat (first | refine blk_drewN ?_ _ | refine blk_drew ?_ | refine blk_alloc ?_ _)); refine blk_far ?_ NB70017_70028.out _; (with_reducible repeat (first | refine blk_drewN ?_ _ | refine blk_drew ?_ | refine blk_alloc ?_ _)); refine blk_far ?_ NB70017_70028.out _; (with_reducible repeat (first | refine blk_drewN ?_ _ | refine blk_drew ?_ | refine blk_alloc ?_ _)); refine blk_far ?_ NB70017_70028.out _; (with_reducible repeat (first | refine blk_drewN ?_ _ | refine blk_drew ?_ | refine blk_alloc ?_ _)); exact BK70017.out) hb); have n2_ := Aside0.mk (blk_below (g := gb70028) (o := .cells #[.int .i64 t70023, .string t70024, .int .i64 t70025, .string t70026, .int .i64 t70027] 61 (0, 0)) (by (with_reducible repeat (first | refine blk_drewN ?_ _ | refine blk_drew ?_ | refine blk_alloc ?_ _)); refine blk_put (cs := #[.int .i64 t70023, .string t70024, .int .i64 t70025, .string t70026, .int .i64 0]) ?_ 4 _ rfl; (with_reducible repeat (first | refine blk_drewN ?_ _ | refine blk_drew ?_ | refine blk_alloc ?_ _)); refine blk_put (cs := #[.int .i64 t70023, .string t70024, .int .i64 t70025, .string (⟨#[]⟩ : ByteArray), .int .i64 0]) ?_ 3 _ rfl; (with_reducible repeat (first | refine blk_drewN ?_ _ | refine blk_drew ?_ | refine blk_alloc ?_ _)); refine blk_put (cs := #[.int .i64 t70023, .string t70024, .int .i64 0, .string (⟨#[]⟩ : ByteArray), .int .i64 0]) ?_ 2 _ rfl; (with_reducible repeat (first | refine blk_drewN ?_ _ | refine blk_drew ?_ | refine blk_alloc ?_ _)); refine blk_put (cs := #[.int .i64 t70023, .string (⟨#[]⟩ : ByteArray), .int .i64 0, .string (⟨#[]⟩ : ByteArray), .int .i64 0]) ?_ 1 _ rfl; (with_reducible repeat (first | refine blk_drewN ?_ _ | refine blk_drew ?_ | refine blk_alloc ?_ _)); refine blk_put (cs := #[.int .i64 0, .string (⟨#[]⟩ : ByteArray), .int .i64 0, .string (⟨#[]⟩ : ByteArray), .int .i64 0]) ?_ 0 _ rfl; (with_reducible repeat (first | refine blk_drewN ?_ _ | refine blk_drew ?_ | refine blk_alloc ?_ _)); exact BK70028.out) hb); have n3_ := Aside0.mk (below_step (by repeat (first | (with_reducible first | exact HB.out | apply below_alloc | apply pw_below_drewN | apply below_drew1 | refine below_set ?_ GE70006.out | refine below_set ?_ GE70017.out | refine below_set ?_ GE70028.out) | exact HB.out)) hb); clear BK70006; clear BK70017; clear BK70028; clear HB; have BK70006 := n0_; have BK70017 := n1_; have BK70028 := n2_; have HB := n3_; clear n0_ n1_ n2_ n3_; (try clear hb); (try clear hb2); (try clear hk); (try clear hi)) | ((with_reducible refine gate_dst (N := 16) rfl ?_); (try (refine gate_guard (by rfl) ?_; dsimp only)); refine box_event ?hg (N := 16) ?hd (cs := #[.int .i64 0, .string (⟨#[]⟩ : ByteArray), .int .i64 0, .string (⟨#[]⟩ : ByteArray), .int .i64 0]) (t := 61) ?hr ?_; (case hd => rfl); (case hg => rfl); (case hr => first | (go_simp; done) | (go_simp; rfl)); intro gb70034 hg w98 hbox hb; have n0_ := Aside0.mk (blk_below (g := gb70006) (o := .cells #[.string t70001, .string t70002, .string t70003, .string t70004] 49 (0, 0)) (by (with_reducible repeat (first | refine blk_drewN ?_ _ | refine blk_drew ?_ | refine blk_alloc ?_ _)); exact BK70006.out) hb); have n1_ := Aside0.mk (blk_below (g := gb70017) (o := .cells #[.string t70012, .string t70013, .string t70014, .string t70015] 49 (0, 0)) (by (with_reducible repeat (first | refine blk_drewN ?_ _ | refine blk_drew ?_ | refine blk_alloc ?_ _)); exact BK70017.out) hb); have n2_ := Aside0.mk (blk_below (g := gb70028) (o := .cells #[.int .i64 t70023, .string t70024, .int .i64 t70025, .string t70026, .int .i64 t70027] 61 (0, 0)) (by (with_reducible repeat (first | refine blk_drewN ?_ _ | refine blk_drew ?_ | refine blk_alloc ?_ _)); exact BK70028.out) hb); have n3_ := Aside0.mk (below_step (by repeat (first | (with_reducible first | exact HB.out | apply below_alloc | apply pw_below_drewN | apply below_drew1 | refine below_set ?_ GE70006.out | refine below_set ?_ GE70017.out | refine below_set ?_ GE70028.out) | exact HB.out)) hb); have n4_ := Aside0.mk (hbox); have n5_ := Aside0.mk ((by rw [hg]; exact (below_size (by repeat (first | (with_reducible first | exact HB.out | apply below_alloc | apply pw_below_drewN | apply below_drew1 | refine below_set ?_ GE70006.out | refine below_set ?_ GE70017.out | refine below_set ?_ GE70028.out) | exact HB.out))) : w.heap.size ≤ gb70034)); have n6_ := Aside0.mk ((by rw [hg]; exact (below_size (by repeat (first | (with_reducible first | exact HB.out | apply below_alloc | apply pw_below_drewN | apply below_drew1 | refine below_set ?_ GE70006.out | refine below_set ?_ GE70017.out | refine below_set ?_ GE70028.out) | exact HB.out))) : w.heap.size ≤ gb70034)); have n7_ := Aside0.mk ((by rw [hg]; exact Nat.ne_of_lt (blk_lt (g := gb70006) (o := .cells #[.string t70001, .string t70002, .string t70003, .string t70004] 49 (0, 0)) (by (with_reducible repeat (first | refine blk_drewN ?_ _ | refine blk_drew ?_ | refine blk_alloc ?_ _)); exact BK70006.out)) : gb70006 ≠ gb70034)); have n8_ := Aside0.mk ((by rw [hg]; exact Nat.ne_of_gt (blk_lt (g := gb70006) (o := .cells #[.string t70001, .string t70002, .string t70003, .string t70004] 49 (0, 0)) (by (with_reducible repeat (first | refine blk_drewN ?_ _ | refine blk_drew ?_ | refine blk_alloc ?_ _)); exact BK70006.out)) : gb70034 ≠ gb70006)); have n9_ := Aside0.mk ((by rw [hg]; exact Nat.ne_of_lt (blk_lt (g := gb70017) (o := .cells #[.string t70012, .string t70013, .string t70014, .string t70015] 49 (0, 0)) (by (with_reducible repeat (first | refine blk_drewN ?_ _ | refine blk_drew ?_ | refine blk_alloc ?_ _)); exact BK70017.out)) : gb70017 ≠ gb70034)); have n10_ := Aside0.mk ((by rw [hg]; exact Nat.ne_of_gt (blk_lt (g := gb70017) (o := .cells #[.string t70012, .string t70013, .string t70014, .string t70015] 49 (0, 0)) (by (with_reducible repeat (first | refine blk_drewN ?_ _ | refine blk_drew ?_ | refine blk_alloc ?_ _)); exact BK70017.out)) : gb70034 ≠ gb70017)); have n11_ := Aside0.mk ((by rw [hg]; exact Nat.ne_of_lt (blk_lt (g := gb70028) (o := .cells #[.int .i64 t70023, .string t70024, .int .i64 t70025, .string t70026, .int .i64 t70027] 61 (0, 0)) (by (with_reducible repeat (first | refine blk_drewN ?_ _ | refine blk_drew ?_ | refine blk_alloc ?_ _)); exact BK70028.out)) : gb70028 ≠ gb70034)); have n12_ := Aside0.mk ((by rw [hg]; exact Nat.ne_of_gt (blk_lt (g := gb70028) (o := .cells #[.int .i64 t70023, .string t70024, .int .i64 t70025, .string t70026, .int .i64 t70027] 61 (0, 0)) (by (with_reducible repeat (first | refine blk_drewN ?_ _ | refine blk_drew ?_ | refine blk_alloc ?_ _)); exact BK70028.out)) : gb70034 ≠ gb70028)); clear BK70006; clear BK70017; clear BK70028; clear HB; have BK70006 := n0_; have BK70017 := n1_; have BK70028 := n2_; have HB := n3_; have BK70034 := n4_; have GW70034 := n5_; have GE70034 := n6_; have NB70006_70034 := n7_; have NB70034_70006 := n8_; have NB70017_70034 := n9_; have NB70034_70017 := n10_; have NB70028_70034 := n11_; have NB70034_70028 := n12_; clear n0_ n1_ n2_ n3_ n4_ n5_ n6_ n7_ n8_ n9_ n10_ n11_ n12_; clear hb hbox hg; have hnb99 := NB70034_70006.out; have hnc99 := NB70006_70034.out; have hnb100 := NB70034_70017.out; have hnc100 := NB70017_70034.out; have hnb101 := NB70034_70028.out; have hnc101 := NB70028_70034.out; have hcz102_0 : w98.cell? ⟨gb70034, 0, none⟩ = some (.int .i64 0) := (blk_cell BK70034.out 0).trans rfl; have hcz102_1 : w98.cell? ⟨gb70034, 1, none⟩ = some (.string (⟨#[]⟩ : ByteArray)) := (blk_cell BK70034.out 1).trans rfl; have hcz102_2 : w98.cell? ⟨gb70034, 2, none⟩ = some (.int .i64 0) := (blk_cell BK70034.out 2).trans rfl; have hcz102_3 : w98.cell? ⟨gb70034, 3, none⟩ = some (.string (⟨#[]⟩ : ByteArray)) := (blk_cell BK70034.out 3).trans rfl; have hcz102_4 : w98.cell? ⟨gb70034, 4, none⟩ = some (.int .i64 0) := (blk_cell BK70034.out 4).trans rfl; have hfz102_0 := blk_frozen BK70034.out 0; have hfz102_1 := blk_frozen BK70034.out 1; have hfz102_2 := blk_frozen BK70034.out 2; have hfz102_3 := blk_frozen BK70034.out 3; have hfz102_4 := blk_frozen BK70034.out 4))
                 (try simp only [Act.put, List.setIfInBounds_toArray, List.set_cons_zero, List.set_cons_succ])
                 go_cut [150] (fun v150 wc => ∃ (kq : Nat) (x150_90 : Bool), v150 = .bool x150_90 ∧ Aside0 (laws_FnCodec.j3 kq l1 t70009 t70020 t70022 (((t70020 ++ t70022) ++ t70008) ++ (⟨#[83]⟩ : ByteArray)) x150_90 t70029 t70030 t70031 t70032 t70033 = some r) ∧ Aside0 (kq ≤ kj75) ∧ Aside0 (wc.heap[gb70006]? = some (.cells #[.string t70001, .string t70002, .string t70003, .string t70004] 49 (0, 0))) ∧ Aside0 (wc.heap[gb70017]? = some (.cells #[.string t70012, .string t70013, .string t70014, .string t70015] 49 (0, 0))) ∧ Aside0 (wc.heap[gb70028]? = some (.cells #[.int .i64 t70023, .string t70024, .int .i64 t70025, .string t70026, .int .i64 t70027] 61 (0, 0))) ∧ Aside0 (wc.heap[gb70034]? = some (.cells #[.int .i64 t70029, .string t70030, .int .i64 t70031, .string t70032, .int .i64 t70033] 61 (0, 0))) ∧ Aside0 (Below w.heap.size w wc))
                 case first =>
                  have H := HC91.out; clear HC91
                  by_cases c103 : t70023 = 2
                  ·rw [if_pos c103] at H; have c103b0 : (t70023 == 2) = true := beq_iff_eq.mpr c103; have c103b1 : (t70023 != 2) = false := bne_eq_false_iff_eq.mpr c103; clear c103; (first | rw [c103b0] | (simp only [i64_w, i32_w]; rw [c103b0]) | skip)
                   by_cases c104 : t70025 = t70007
                   ·rw [if_pos c104] at H; have c104b0 : (t70025 == t70007) = true := beq_iff_eq.mpr c104; have c104b1 : (t70025 != t70007) = false := bne_eq_false_iff_eq.mpr c104; clear c104
                    by_cases c105 : t70026.toList = t70008.toList
                    ·rw [if_pos c105] at H; have c105b0 : (t70026.toList == t70008.toList) = true := beq_iff_eq.mpr c105; have c105b1 : (t70026.toList != t70008.toList) = false := bne_eq_false_iff_eq.mpr c105; clear c105; have H' := Aside0.mk H; clear H; have hnb106 := NB70028_70006.out; have hnc106 := NB70006_70028.out; have hnb107 := NB70028_70017.out; have hnc107 := NB70017_70028.out; have hnb108 := NB70028_70034.out; have hnc108 := NB70034_70028.out; have hcz109_0 : w98.cell? ⟨gb70028, 0, none⟩ = some (.int .i64 t70023) := (blk_cell BK70028.out 0).trans rfl; have hcz109_1 : w98.cell? ⟨gb70028, 1, none⟩ = some (.string t70024) := (blk_cell BK70028.out 1).trans rfl; have hcz109_2 : w98.cell? ⟨gb70028, 2, none⟩ = some (.int .i64 t70025) := (blk_cell BK70028.out 2).trans rfl; have hcz109_3 : w98.cell? ⟨gb70028, 3, none⟩ = some (.string t70026) := (blk_cell BK70028.out 3).trans rfl; have hcz109_4 : w98.cell? ⟨gb70028, 4, none⟩ = some (.int .i64 t70027) := (blk_cell BK70028.out 4).trans rfl; have hfz109_0 := blk_frozen BK70028.out 0; have hfz109_1 := blk_frozen BK70028.out 1; have hfz109_2 := blk_frozen BK70028.out 2; have hfz109_3 := blk_frozen BK70028.out 3; have hfz109_4 := blk_frozen BK70028.out 4
                     go_wp2
                     go_meet
                     case rel => exact ⟨_, ((t70027 != 1)), (by first | rfl | (simp; done) | (simp [*]; done)), H', ⟨by have := HJ2.out; have := HJ31.out; have := HJ75.out; first | omega | exact Nat.le_refl _⟩, ⟨by (with_reducible repeat (first | refine blk_drewN ?_ _ | refine blk_drew ?_ | refine blk_alloc ?_ _)); refine blk_far ?_ NB70006_70034.out _; (with_reducible repeat (first | refine blk_drewN ?_ _ | refine blk_drew ?_ | refine blk_alloc ?_ _)); refine blk_far ?_ NB70006_70034.out _; (with_reducible repeat (first | refine blk_drewN ?_ _ | refine blk_drew ?_ | refine blk_alloc ?_ _)); refine blk_far ?_ NB70006_70034.out _; (with_reducible repeat (first | refine blk_drewN ?_ _ | refine blk_drew ?_ | refine blk_alloc ?_ _)); refine blk_far ?_ NB70006_70034.out _; (with_reducible repeat (first | refine blk_drewN ?_ _ | refine blk_drew ?_ | refine blk_alloc ?_ _)); refine blk_far ?_ NB70006_70034.out _; (with_reducible repeat (first | refine blk_drewN ?_ _ | refine blk_drew ?_ | refine blk_alloc ?_ _)); exact BK70006.out⟩, ⟨by (with_reducible repeat (first | refine blk_drewN ?_ _ | refine blk_drew ?_ | refine blk_alloc ?_ _)); refine blk_far ?_ NB70017_70034.out _; (with_reducible repeat (first | refine blk_drewN ?_ _ | refine blk_drew ?_ | refine blk_alloc ?_ _)); refine blk_far ?_ NB70017_70034.out _; (with_reducible repeat (first | refine blk_drewN ?_ _ | refine blk_drew ?_ | refine blk_alloc ?_ _)); refine blk_far ?_ NB70017_70034.out _; (with_reducible repeat (first | refine blk_drewN ?_ _ | refine blk_drew ?_ | refine blk_alloc ?_ _)); refine blk_far ?_ NB70017_70034.out _; (with_reducible repeat (first | refine blk_drewN ?_ _ | refine blk_drew ?_ | refine blk_alloc ?_ _)); refine blk_far ?_ NB70017_70034.out _; (with_reducible repeat (first | refine blk_drewN ?_ _ | refine blk_drew ?_ | refine blk_alloc ?_ _)); exact BK70017.out⟩, ⟨by (with_reducible repeat (first | refine blk_drewN ?_ _ | refine blk_drew ?_ | refine blk_alloc ?_ _)); refine blk_far ?_ NB70028_70034.out _; (with_reducible repeat (first | refine blk_drewN ?_ _ | refine blk_drew ?_ | refine blk_alloc ?_ _)); refine blk_far ?_ NB70028_70034.out _; (with_reducible repeat (first | refine blk_drewN ?_ _ | refine blk_drew ?_ | refine blk_alloc ?_ _)); refine blk_far ?_ NB70028_70034.out _; (with_reducible repeat (first | refine blk_drewN ?_ _ | refine blk_drew ?_ | refine blk_alloc ?_ _)); refine blk_far ?_ NB70028_70034.out _; (with_reducible repeat (first | refine blk_drewN ?_ _ | refine blk_drew ?_ | refine blk_alloc ?_ _)); refine blk_far ?_ NB70028_70034.out _; (with_reducible repeat (first | refine blk_drewN ?_ _ | refine blk_drew ?_ | refine blk_alloc ?_ _)); exact BK70028.out⟩, ⟨by (with_reducible repeat (first | refine blk_drewN ?_ _ | refine blk_drew ?_ | refine blk_alloc ?_ _)); refine blk_put (cs := #[.int .i64 t70029, .string t70030, .int .i64 t70031, .string t70032, .int .i64 0]) ?_ 4 _ rfl; (with_reducible repeat (first | refine blk_drewN ?_ _ | refine blk_drew ?_ | refine blk_alloc ?_ _)); refine blk_put (cs := #[.int .i64 t70029, .string t70030, .int .i64 t70031, .string (⟨#[]⟩ : ByteArray), .int .i64 0]) ?_ 3 _ rfl; (with_reducible repeat (first | refine blk_drewN ?_ _ | refine blk_drew ?_ | refine blk_alloc ?_ _)); refine blk_put (cs := #[.int .i64 t70029, .string t70030, .int .i64 0, .string (⟨#[]⟩ : ByteArray), .int .i64 0]) ?_ 2 _ rfl; (with_reducible repeat (first | refine blk_drewN ?_ _ | refine blk_drew ?_ | refine blk_alloc ?_ _)); refine blk_put (cs := #[.int .i64 t70029, .string (⟨#[]⟩ : ByteArray), .int .i64 0, .string (⟨#[]⟩ : ByteArray), .int .i64 0]) ?_ 1 _ rfl; (with_reducible repeat (first | refine blk_drewN ?_ _ | refine blk_drew ?_ | refine blk_alloc ?_ _)); refine blk_put (cs := #[.int .i64 0, .string (⟨#[]⟩ : ByteArray), .int .i64 0, .string (⟨#[]⟩ : ByteArray), .int .i64 0]) ?_ 0 _ rfl; (with_reducible repeat (first | refine blk_drewN ?_ _ | refine blk_drew ?_ | refine blk_alloc ?_ _)); exact BK70034.out⟩, ⟨by repeat (first | (with_reducible first | exact HB.out | apply below_alloc | apply pw_below_drewN | apply below_drew1 | refine below_set ?_ GE70006.out | refine below_set ?_ GE70017.out | refine below_set ?_ GE70028.out | refine below_set ?_ GE70034.out) | exact HB.out)⟩⟩
                    ·rw [if_neg c105] at H; have c105b0 : (t70026.toList == t70008.toList) = false := beq_eq_false_iff_ne.mpr c105; have c105b1 : (t70026.toList != t70008.toList) = true := bne_iff_ne.mpr c105; have H' := Aside0.mk H; clear H; have hnb110 := NB70028_70006.out; have hnc110 := NB70006_70028.out; have hnb111 := NB70028_70017.out; have hnc111 := NB70017_70028.out; have hnb112 := NB70028_70034.out; have hnc112 := NB70034_70028.out; have hcz113_0 : w98.cell? ⟨gb70028, 0, none⟩ = some (.int .i64 t70023) := (blk_cell BK70028.out 0).trans rfl; have hcz113_1 : w98.cell? ⟨gb70028, 1, none⟩ = some (.string t70024) := (blk_cell BK70028.out 1).trans rfl; have hcz113_2 : w98.cell? ⟨gb70028, 2, none⟩ = some (.int .i64 t70025) := (blk_cell BK70028.out 2).trans rfl; have hcz113_3 : w98.cell? ⟨gb70028, 3, none⟩ = some (.string t70026) := (blk_cell BK70028.out 3).trans rfl; have hcz113_4 : w98.cell? ⟨gb70028, 4, none⟩ = some (.int .i64 t70027) := (blk_cell BK70028.out 4).trans rfl; have hfz113_0 := blk_frozen BK70028.out 0; have hfz113_1 := blk_frozen BK70028.out 1; have hfz113_2 := blk_frozen BK70028.out 2; have hfz113_3 := blk_frozen BK70028.out 3; have hfz113_4 := blk_frozen BK70028.out 4
                     go_wp2
                     go_meet
                     case rel => exact ⟨_, (true), (by first | rfl | (simp; done) | (simp [*]; done)), H', ⟨by have := HJ2.out; have := HJ31.out; have := HJ75.out; first | omega | exact Nat.le_refl _⟩, ⟨by (with_reducible repeat (first | refine blk_drewN ?_ _ | refine blk_drew ?_ | refine blk_alloc ?_ _)); refine blk_far ?_ NB70006_70034.out _; (with_reducible repeat (first | refine blk_drewN ?_ _ | refine blk_drew ?_ | refine blk_alloc ?_ _)); refine blk_far ?_ NB70006_70034.out _; (with_reducible repeat (first | refine blk_drewN ?_ _ | refine blk_drew ?_ | refine blk_alloc ?_ _)); refine blk_far ?_ NB70006_70034.out _; (with_reducible repeat (first | refine blk_drewN ?_ _ | refine blk_drew ?_ | refine blk_alloc ?_ _)); refine blk_far ?_ NB70006_70034.out _; (with_reducible repeat (first | refine blk_drewN ?_ _ | refine blk_drew ?_ | refine blk_alloc ?_ _)); refine blk_far ?_ NB70006_70034.out _; (with_reducible repeat (first | refine blk_drewN ?_ _ | refine blk_drew ?_ | refine blk_alloc ?_ _)); exact BK70006.out⟩, ⟨by (with_reducible repeat (first | refine blk_drewN ?_ _ | refine blk_drew ?_ | refine blk_alloc ?_ _)); refine blk_far ?_ NB70017_70034.out _; (with_reducible repeat (first | refine blk_drewN ?_ _ | refine blk_drew ?_ | refine blk_alloc ?_ _)); refine blk_far ?_ NB70017_70034.out _; (with_reducible repeat (first | refine blk_drewN ?_ _ | refine blk_drew ?_ | refine blk_alloc ?_ _)); refine blk_far ?_ NB70017_70034.out _; (with_reducible repeat (first | refine blk_drewN ?_ _ | refine blk_drew ?_ | refine blk_alloc ?_ _)); refine blk_far ?_ NB70017_70034.out _; (with_reducible repeat (first | refine blk_drewN ?_ _ | refine blk_drew ?_ | refine blk_alloc ?_ _)); refine blk_far ?_ NB70017_70034.out _; (with_reducible repeat (first | refine blk_drewN ?_ _ | refine blk_drew ?_ | refine blk_alloc ?_ _)); exact BK70017.out⟩, ⟨by (with_reducible repeat (first | refine blk_drewN ?_ _ | refine blk_drew ?_ | refine blk_alloc ?_ _)); refine blk_far ?_ NB70028_70034.out _; (with_reducible repeat (first | refine blk_drewN ?_ _ | refine blk_drew ?_ | refine blk_alloc ?_ _)); refine blk_far ?_ NB70028_70034.out _; (with_reducible repeat (first | refine blk_drewN ?_ _ | refine blk_drew ?_ | refine blk_alloc ?_ _)); refine blk_far ?_ NB70028_70034.out _; (with_reducible repeat (first | refine blk_drewN ?_ _ | refine blk_drew ?_ | refine blk_alloc ?_ _)); refine blk_far ?_ NB70028_70034.out _; (with_reducible repeat (first | refine blk_drewN ?_ _ | refine blk_drew ?_ | refine blk_alloc ?_ _)); refine blk_far ?_ NB70028_70034.out _; (with_reducible repeat (first | refine blk_drewN ?_ _ | refine blk_drew ?_ | refine blk_alloc ?_ _)); exact BK70028.out⟩, ⟨by (with_reducible repeat (first | refine blk_drewN ?_ _ | refine blk_drew ?_ | refine blk_alloc ?_ _)); refine blk_put (cs := #[.int .i64 t70029, .string t70030, .int .i64 t70031, .string t70032, .int .i64 0]) ?_ 4 _ rfl; (with_reducible repeat (first | refine blk_drewN ?_ _ | refine blk_drew ?_ | refine blk_alloc ?_ _)); refine blk_put (cs := #[.int .i64 t70029, .string t70030, .int .i64 t70031, .string (⟨#[]⟩ : ByteArray), .int .i64 0]) ?_ 3 _ rfl; (with_reducible repeat (first | refine blk_drewN ?_ _ | refine blk_drew ?_ | refine blk_alloc ?_ _)); refine blk_put (cs := #[.int .i64 t70029, .string t70030, .int .i64 0, .string (⟨#[]⟩ : ByteArray), .int .i64 0]) ?_ 2 _ rfl; (with_reducible repeat (first | refine blk_drewN ?_ _ | refine blk_drew ?_ | refine blk_alloc ?_ _)); refine blk_put (cs := #[.int .i64 t70029, .string (⟨#[]⟩ : ByteArray), .int .i64 0, .string (⟨#[]⟩ : ByteArray), .int .i64 0]) ?_ 1 _ rfl; (with_reducible repeat (first | refine blk_drewN ?_ _ | refine blk_drew ?_ | refine blk_alloc ?_ _)); refine blk_put (cs := #[.int .i64 0, .string (⟨#[]⟩ : ByteArray), .int .i64 0, .string (⟨#[]⟩ : ByteArray), .int .i64 0]) ?_ 0 _ rfl; (with_reducible repeat (first | refine blk_drewN ?_ _ | refine blk_drew ?_ | refine blk_alloc ?_ _)); exact BK70034.out⟩, ⟨by repeat (first | (with_reducible first | exact HB.out | apply below_alloc | apply pw_below_drewN | apply below_drew1 | refine below_set ?_ GE70006.out | refine below_set ?_ GE70017.out | refine below_set ?_ GE70028.out | refine below_set ?_ GE70034.out) | exact HB.out)⟩⟩
                   ·rw [if_neg c104] at H; have c104b0 : (t70025 == t70007) = false := beq_eq_false_iff_ne.mpr c104; have c104b1 : (t70025 != t70007) = true := bne_iff_ne.mpr c104; have H' := Aside0.mk H; clear H; have hnb114 := NB70028_70006.out; have hnc114 := NB70006_70028.out; have hnb115 := NB70028_70017.out; have hnc115 := NB70017_70028.out; have hnb116 := NB70028_70034.out; have hnc116 := NB70034_70028.out; have hcz117_0 : w98.cell? ⟨gb70028, 0, none⟩ = some (.int .i64 t70023) := (blk_cell BK70028.out 0).trans rfl; have hcz117_1 : w98.cell? ⟨gb70028, 1, none⟩ = some (.string t70024) := (blk_cell BK70028.out 1).trans rfl; have hcz117_2 : w98.cell? ⟨gb70028, 2, none⟩ = some (.int .i64 t70025) := (blk_cell BK70028.out 2).trans rfl; have hcz117_3 : w98.cell? ⟨gb70028, 3, none⟩ = some (.string t70026) := (blk_cell BK70028.out 3).trans rfl; have hcz117_4 : w98.cell? ⟨gb70028, 4, none⟩ = some (.int .i64 t70027) := (blk_cell BK70028.out 4).trans rfl; have hfz117_0 := blk_frozen BK70028.out 0; have hfz117_1 := blk_frozen BK70028.out 1; have hfz117_2 := blk_frozen BK70028.out 2; have hfz117_3 := blk_frozen BK70028.out 3; have hfz117_4 := blk_frozen BK70028.out 4
                    go_wp2
                    go_meet
                    case rel => exact ⟨_, (true), (by first | rfl | (simp; done) | (simp [*]; done)), H', ⟨by have := HJ2.out; have := HJ31.out; have := HJ75.out; first | omega | exact Nat.le_refl _⟩, ⟨by (with_reducible repeat (first | refine blk_drewN ?_ _ | refine blk_drew ?_ | refine blk_alloc ?_ _)); refine blk_far ?_ NB70006_70034.out _; (with_reducible repeat (first | refine blk_drewN ?_ _ | refine blk_drew ?_ | refine blk_alloc ?_ _)); refine blk_far ?_ NB70006_70034.out _; (with_reducible repeat (first | refine blk_drewN ?_ _ | refine blk_drew ?_ | refine blk_alloc ?_ _)); refine blk_far ?_ NB70006_70034.out _; (with_reducible repeat (first | refine blk_drewN ?_ _ | refine blk_drew ?_ | refine blk_alloc ?_ _)); refine blk_far ?_ NB70006_70034.out _; (with_reducible repeat (first | refine blk_drewN ?_ _ | refine blk_drew ?_ | refine blk_alloc ?_ _)); refine blk_far ?_ NB70006_70034.out _; (with_reducible repeat (first | refine blk_drewN ?_ _ | refine blk_drew ?_ | refine blk_alloc ?_ _)); exact BK70006.out⟩, ⟨by (with_reducible repeat (first | refine blk_drewN ?_ _ | refine blk_drew ?_ | refine blk_alloc ?_ _)); refine blk_far ?_ NB70017_70034.out _; (with_reducible repeat (first | refine blk_drewN ?_ _ | refine blk_drew ?_ | refine blk_alloc ?_ _)); refine blk_far ?_ NB70017_70034.out _; (with_reducible repeat (first | refine blk_drewN ?_ _ | refine blk_drew ?_ | refine blk_alloc ?_ _)); refine blk_far ?_ NB70017_70034.out _; (with_reducible repeat (first | refine blk_drewN ?_ _ | refine blk_drew ?_ | refine blk_alloc ?_ _)); refine blk_far ?_ NB70017_70034.out _; (with_reducible repeat (first | refine blk_drewN ?_ _ | refine blk_drew ?_ | refine blk_alloc ?_ _)); refine blk_far ?_ NB70017_70034.out _; (with_reducible repeat (first | refine blk_drewN ?_ _ | refine blk_drew ?_ | refine blk_alloc ?_ _)); exact BK70017.out⟩, ⟨by (with_reducible repeat (first | refine blk_drewN ?_ _ | refine blk_drew ?_ | refine blk_alloc ?_ _)); refine blk_far ?_ NB70028_70034.out _; (with_reducible repeat (first | refine blk_drewN ?_ _ | refine blk_drew ?_ | refine blk_alloc ?_ _)); refine blk_far ?_ NB70028_70034.out _; (with_reducible repeat (first | refine blk_drewN ?_ _ | refine blk_drew ?_ | refine blk_alloc ?_ _)); refine blk_far ?_ NB70028_70034.out _; (with_reducible repeat (first | refine blk_drewN ?_ _ | refine blk_drew ?_ | refine blk_alloc ?_ _)); refine blk_far ?_ NB70028_70034.out _; (with_reducible repeat (first | refine blk_drewN ?_ _ | refine blk_drew ?_ | refine blk_alloc ?_ _)); refine blk_far ?_ NB70028_70034.out _; (with_reducible repeat (first | refine blk_drewN ?_ _ | refine blk_drew ?_ | refine blk_alloc ?_ _)); exact BK70028.out⟩, ⟨by (with_reducible repeat (first | refine blk_drewN ?_ _ | refine blk_drew ?_ | refine blk_alloc ?_ _)); refine blk_put (cs := #[.int .i64 t70029, .string t70030, .int .i64 t70031, .string t70032, .int .i64 0]) ?_ 4 _ rfl; (with_reducible repeat (first | refine blk_drewN ?_ _ | refine blk_drew ?_ | refine blk_alloc ?_ _)); refine blk_put (cs := #[.int .i64 t70029, .string t70030, .int .i64 t70031, .string (⟨#[]⟩ : ByteArray), .int .i64 0]) ?_ 3 _ rfl; (with_reducible repeat (first | refine blk_drewN ?_ _ | refine blk_drew ?_ | refine blk_alloc ?_ _)); refine blk_put (cs := #[.int .i64 t70029, .string t70030, .int .i64 0, .string (⟨#[]⟩ : ByteArray), .int .i64 0]) ?_ 2 _ rfl; (with_reducible repeat (first | refine blk_drewN ?_ _ | refine blk_drew ?_ | refine blk_alloc ?_ _)); refine blk_put (cs := #[.int .i64 t70029, .string (⟨#[]⟩ : ByteArray), .int .i64 0, .string (⟨#[]⟩ : ByteArray), .int .i64 0]) ?_ 1 _ rfl; (with_reducible repeat (first | refine blk_drewN ?_ _ | refine blk_drew ?_ | refine blk_alloc ?_ _)); refine blk_put (cs := #[.int .i64 0, .string (⟨#[]⟩ : ByteArray), .int .i64 0, .string (⟨#[]⟩ : ByteArray), .int .i64 0]) ?_ 0 _ rfl; (with_reducible repeat (first | refine blk_drewN ?_ _ | refine blk_drew ?_ | refine blk_alloc ?_ _)); exact BK70034.out⟩, ⟨by repeat (first | (with_reducible first | exact HB.out | apply below_alloc | apply pw_below_drewN | apply below_drew1 | refine below_set ?_ GE70006.out | refine below_set ?_ GE70017.out | refine below_set ?_ GE70028.out | refine below_set ?_ GE70034.out) | exact HB.out)⟩⟩
                  ·rw [if_neg c103] at H; have c103b0 : (t70023 == 2) = false := beq_eq_false_iff_ne.mpr c103; have c103b1 : (t70023 != 2) = true := bne_iff_ne.mpr c103; (first | rw [c103b0] | (simp only [i64_w, i32_w]; rw [c103b0]) | skip); have H' := Aside0.mk H; clear H; have hnb118 := NB70028_70006.out; have hnc118 := NB70006_70028.out; have hnb119 := NB70028_70017.out; have hnc119 := NB70017_70028.out; have hnb120 := NB70028_70034.out; have hnc120 := NB70034_70028.out; have hcz121_0 : w98.cell? ⟨gb70028, 0, none⟩ = some (.int .i64 t70023) := (blk_cell BK70028.out 0).trans rfl; have hcz121_1 : w98.cell? ⟨gb70028, 1, none⟩ = some (.string t70024) := (blk_cell BK70028.out 1).trans rfl; have hcz121_2 : w98.cell? ⟨gb70028, 2, none⟩ = some (.int .i64 t70025) := (blk_cell BK70028.out 2).trans rfl; have hcz121_3 : w98.cell? ⟨gb70028, 3, none⟩ = some (.string t70026) := (blk_cell BK70028.out 3).trans rfl; have hcz121_4 : w98.cell? ⟨gb70028, 4, none⟩ = some (.int .i64 t70027) := (blk_cell BK70028.out 4).trans rfl; have hfz121_0 := blk_frozen BK70028.out 0; have hfz121_1 := blk_frozen BK70028.out 1; have hfz121_2 := blk_frozen BK70028.out 2; have hfz121_3 := blk_frozen BK70028.out 3; have hfz121_4 := blk_frozen BK70028.out 4
                   go_wp2
                   go_meet
                   case rel => exact ⟨_, (true), (by first | rfl | (simp; done) | (simp [*]; done)), H', ⟨by have := HJ2.out; have := HJ31.out; have := HJ75.out; first | omega | exact Nat.le_refl _⟩, ⟨by (with_reducible repeat (first | refine blk_drewN ?_ _ | refine blk_drew ?_ | refine blk_alloc ?_ _)); refine blk_far ?_ NB70006_70034.out _; (with_reducible repeat (first | refine blk_drewN ?_ _ | refine blk_drew ?_ | refine blk_alloc ?_ _)); refine blk_far ?_ NB70006_70034.out _; (with_reducible repeat (first | refine blk_drewN ?_ _ | refine blk_drew ?_ | refine blk_alloc ?_ _)); refine blk_far ?_ NB70006_70034.out _; (with_reducible repeat (first | refine blk_drewN ?_ _ | refine blk_drew ?_ | refine blk_alloc ?_ _)); refine blk_far ?_ NB70006_70034.out _; (with_reducible repeat (first | refine blk_drewN ?_ _ | refine blk_drew ?_ | refine blk_alloc ?_ _)); refine blk_far ?_ NB70006_70034.out _; (with_reducible repeat (first | refine blk_drewN ?_ _ | refine blk_drew ?_ | refine blk_alloc ?_ _)); exact BK70006.out⟩, ⟨by (with_reducible repeat (first | refine blk_drewN ?_ _ | refine blk_drew ?_ | refine blk_alloc ?_ _)); refine blk_far ?_ NB70017_70034.out _; (with_reducible repeat (first | refine blk_drewN ?_ _ | refine blk_drew ?_ | refine blk_alloc ?_ _)); refine blk_far ?_ NB70017_70034.out _; (with_reducible repeat (first | refine blk_drewN ?_ _ | refine blk_drew ?_ | refine blk_alloc ?_ _)); refine blk_far ?_ NB70017_70034.out _; (with_reducible repeat (first | refine blk_drewN ?_ _ | refine blk_drew ?_ | refine blk_alloc ?_ _)); refine blk_far ?_ NB70017_70034.out _; (with_reducible repeat (first | refine blk_drewN ?_ _ | refine blk_drew ?_ | refine blk_alloc ?_ _)); refine blk_far ?_ NB70017_70034.out _; (with_reducible repeat (first | refine blk_drewN ?_ _ | refine blk_drew ?_ | refine blk_alloc ?_ _)); exact BK70017.out⟩, ⟨by (with_reducible repeat (first | refine blk_drewN ?_ _ | refine blk_drew ?_ | refine blk_alloc ?_ _)); refine blk_far ?_ NB70028_70034.out _; (with_reducible repeat (first | refine blk_drewN ?_ _ | refine blk_drew ?_ | refine blk_alloc ?_ _)); refine blk_far ?_ NB70028_70034.out _; (with_reducible repeat (first | refine blk_drewN ?_ _ | refine blk_drew ?_ | refine blk_alloc ?_ _)); refine blk_far ?_ NB70028_70034.out _; (with_reducible repeat (first | refine blk_drewN ?_ _ | refine blk_drew ?_ | refine blk_alloc ?_ _)); refine blk_far ?_ NB70028_70034.out _; (with_reducible repeat (first | refine blk_drewN ?_ _ | refine blk_drew ?_ | refine blk_alloc ?_ _)); refine blk_far ?_ NB70028_70034.out _; (with_reducible repeat (first | refine blk_drewN ?_ _ | refine blk_drew ?_ | refine blk_alloc ?_ _)); exact BK70028.out⟩, ⟨by (with_reducible repeat (first | refine blk_drewN ?_ _ | refine blk_drew ?_ | refine blk_alloc ?_ _)); refine blk_put (cs := #[.int .i64 t70029, .string t70030, .int .i64 t70031, .string t70032, .int .i64 0]) ?_ 4 _ rfl; (with_reducible repeat (first | refine blk_drewN ?_ _ | refine blk_drew ?_ | refine blk_alloc ?_ _)); refine blk_put (cs := #[.int .i64 t70029, .string t70030, .int .i64 t70031, .string (⟨#[]⟩ : ByteArray), .int .i64 0]) ?_ 3 _ rfl; (with_reducible repeat (first | refine blk_drewN ?_ _ | refine blk_drew ?_ | refine blk_alloc ?_ _)); refine blk_put (cs := #[.int .i64 t70029, .string t70030, .int .i64 0, .string (⟨#[]⟩ : ByteArray), .int .i64 0]) ?_ 2 _ rfl; (with_reducible repeat (first | refine blk_drewN ?_ _ | refine blk_drew ?_ | refine blk_alloc ?_ _)); refine blk_put (cs := #[.int .i64 t70029, .string (⟨#[]⟩ : ByteArray), .int .i64 0, .string (⟨#[]⟩ : ByteArray), .int .i64 0]) ?_ 1 _ rfl; (with_reducible repeat (first | refine blk_drewN ?_ _ | refine blk_drew ?_ | refine blk_alloc ?_ _)); refine blk_put (cs := #[.int .i64 0, .string (⟨#[]⟩ : ByteArray), .int .i64 0, .string (⟨#[]⟩ : ByteArray), .int .i64 0]) ?_ 0 _ rfl; (with_reducible repeat (first | refine blk_drewN ?_ _ | refine blk_drew ?_ | refine blk_alloc ?_ _)); exact BK70034.out⟩, ⟨by repeat (first | (with_reducible first | exact HB.out | apply below_alloc | apply pw_below_drewN | apply below_drew1 | refine below_set ?_ GE70006.out | refine below_set ?_ GE70017.out | refine below_set ?_ GE70028.out | refine below_set ?_ GE70034.out) | exact HB.out)⟩⟩
                 case rest =>
                  clear HC91
                  try clear c1
                  try clear c2
                  try clear p2
                  try clear c3
                  try clear c4
                  try clear c4b0
                  try clear c4b1
                  try clear c5
                  try clear c6
                  try clear c7
                  try clear c8
                  try clear c9
                  try clear c10
                  try clear c10b0
                  try clear c10b1
                  try clear c11
                  try clear c11b0
                  try clear c11b1
                  try clear c12
                  try clear c25
                  try clear c26
                  try clear c27
                  try clear c28
                  try clear c29
                  try clear c30
                  try clear c31
                  try clear c32
                  try clear c33
                  try clear c34
                  try clear c35
                  try clear c43
                  try clear c45
                  try clear c46
                  try clear c46b0
                  try clear c46b1
                  try clear c47
                  try clear c47b0
                  try clear c47b1
                  try clear c48
                  try clear c48b0
                  try clear c48b1
                  try clear c49
                  try clear c52
                  try clear c55
                  try clear c58
                  try clear c61
                  try clear c63
                  try clear c63b0
                  try clear c63b1
                  try clear c63b2
                  try clear c65
                  try clear c65b0
                  try clear c65b1
                  try clear c68
                  try clear c68b0
                  try clear c68b1
                  try clear c69
                  try clear c77
                  try clear c84
                  try clear c84b0
                  try clear c84b1
                  try clear c85
                  try clear c86
                  try clear c86b0
                  try clear c86b1
                  try clear c86b2
                  try clear c87
                  try clear c87b0
                  try clear c87b1
                  try clear c87b2
                  try clear c88
                  try clear c88b0
                  try clear c88b1
                  try clear c88b2
                  try clear c94
                  try clear c95
                  try clear c99
                  try clear c100
                  try clear c101
                  try clear c103
                  try clear c103b0
                  try clear c103b1
                  try clear c104
                  try clear c104b0
                  try clear c104b1
                  try clear c105
                  try clear c105b0
                  try clear c105b1
                  try clear c106
                  try clear c107
                  try clear c108
                  try clear c110
                  try clear c111
                  try clear c112
                  try clear c114
                  try clear c115
                  try clear c116
                  try clear c118
                  try clear c119
                  try clear c120
                  try clear hcz102_0
                  try clear hcz102_1
                  try clear hcz102_2
                  try clear hcz102_3
                  try clear hcz102_4
                  try clear hcz109_0
                  try clear hcz109_1
                  try clear hcz109_2
                  try clear hcz109_3
                  try clear hcz109_4
                  try clear hcz113_0
                  try clear hcz113_1
                  try clear hcz113_2
                  try clear hcz113_3
                  try clear hcz113_4
                  try clear hcz117_0
                  try clear hcz117_1
                  try clear hcz117_2
                  try clear hcz117_3
                  try clear hcz117_4
                  try clear hcz121_0
                  try clear hcz121_1
                  try clear hcz121_2
                  try clear hcz121_3
                  try clear hcz121_4
                  try clear hcz15_0
                  try clear hcz15_1
                  try clear hcz15_2
                  try clear hcz15_3
                  try clear hcz17_0
                  try clear hcz17_1
                  try clear hcz17_2
                  try clear hcz17_3
                  try clear hcz19_0
                  try clear hcz19_1
                  try clear hcz19_2
                  try clear hcz19_3
                  try clear hcz21_0
                  try clear hcz21_1
                  try clear hcz21_2
                  try clear hcz21_3
                  try clear hcz25_0
                  try clear hcz25_1
                  try clear hcz25_2
                  try clear hcz25_3
                  try clear hcz27_0
                  try clear hcz27_1
                  try clear hcz27_2
                  try clear hcz27_3
                  try clear hcz29_0
                  try clear hcz29_1
                  try clear hcz29_2
                  try clear hcz29_3
                  try clear hcz35_0
                  try clear hcz35_1
                  try clear hcz35_2
                  try clear hcz35_3
                  try clear hcz37_0
                  try clear hcz37_1
                  try clear hcz37_2
                  try clear hcz37_3
                  try clear hcz39_0
                  try clear hcz39_1
                  try clear hcz39_2
                  try clear hcz39_3
                  try clear hcz44_0
                  try clear hcz44_1
                  try clear hcz44_2
                  try clear hcz44_3
                  try clear hcz50_0
                  try clear hcz50_1
                  try clear hcz50_2
                  try clear hcz50_3
                  try clear hcz51_0
                  try clear hcz51_1
                  try clear hcz51_2
                  try clear hcz51_3
                  try clear hcz53_0
                  try clear hcz53_1
                  try clear hcz53_2
                  try clear hcz53_3
                  try clear hcz54_0
                  try clear hcz54_1
                  try clear hcz54_2
                  try clear hcz54_3
                  try clear hcz56_0
                  try clear hcz56_1
                  try clear hcz56_2
                  try clear hcz56_3
                  try clear hcz57_0
                  try clear hcz57_1
                  try clear hcz57_2
                  try clear hcz57_3
                  try clear hcz59_0
                  try clear hcz59_1
                  try clear hcz59_2
                  try clear hcz59_3
                  try clear hcz60_0
                  try clear hcz60_1
                  try clear hcz60_2
                  try clear hcz60_3
                  try clear hcz70_0
                  try clear hcz70_1
                  try clear hcz70_2
                  try clear hcz70_3
                  try clear hcz78_0
                  try clear hcz78_1
                  try clear hcz78_2
                  try clear hcz78_3
                  try clear hcz96_0
                  try clear hcz96_1
                  try clear hcz96_2
                  try clear hcz96_3
                  try clear hcz96_4
                  try clear hfz102_0
                  try clear hfz102_1
                  try clear hfz102_2
                  try clear hfz102_3
                  try clear hfz102_4
                  try clear hfz109_0
                  try clear hfz109_1
                  try clear hfz109_2
                  try clear hfz109_3
                  try clear hfz109_4
                  try clear hfz113_0
                  try clear hfz113_1
                  try clear hfz113_2
                  try clear hfz113_3
                  try clear hfz113_4
                  try clear hfz117_0
                  try clear hfz117_1
                  try clear hfz117_2
                  try clear hfz117_3
                  try clear hfz117_4
                  try clear hfz121_0
                  try clear hfz121_1
                  try clear hfz121_2
                  try clear hfz121_3
                  try clear hfz121_4
                  try clear hfz15_0
                  try clear hfz15_1
                  try clear hfz15_2
                  try clear hfz15_3
                  try clear hfz17_0
                  try clear hfz17_1
                  try clear hfz17_2
                  try clear hfz17_3
                  try clear hfz19_0
                  try clear hfz19_1
                  try clear hfz19_2
                  try clear hfz19_3
                  try clear hfz21_0
                  try clear hfz21_1
                  try clear hfz21_2
                  try clear hfz21_3
                  try clear hfz25_0
                  try clear hfz25_1
                  try clear hfz25_2
                  try clear hfz25_3
                  try clear hfz27_0
                  try clear hfz27_1
                  try clear hfz27_2
                  try clear hfz27_3
                  try clear hfz29_0
                  try clear hfz29_1
                  try clear hfz29_2
                  try clear hfz29_3
                  try clear hfz35_0
                  try clear hfz35_1
                  try clear hfz35_2
                  try clear hfz35_3
                  try clear hfz37_0
                  try clear hfz37_1
                  try clear hfz37_2
                  try clear hfz37_3
                  try clear hfz39_0
                  try clear hfz39_1
                  try clear hfz39_2
                  try clear hfz39_3
                  try clear hfz44_0
                  try clear hfz44_1
                  try clear hfz44_2
                  try clear hfz44_3
                  try clear hfz50_0
                  try clear hfz50_1
                  try clear hfz50_2
                  try clear hfz50_3
                  try clear hfz51_0
                  try clear hfz51_1
                  try clear hfz51_2
                  try clear hfz51_3
                  try clear hfz53_0
                  try clear hfz53_1
                  try clear hfz53_2
                  try clear hfz53_3
                  try clear hfz54_0
                  try clear hfz54_1
                  try clear hfz54_2
                  try clear hfz54_3
                  try clear hfz56_0
                  try clear hfz56_1
                  try clear hfz56_2
                  try clear hfz56_3
                  try clear hfz57_0
                  try clear hfz57_1
                  try clear hfz57_2
                  try clear hfz57_3
                  try clear hfz59_0
                  try clear hfz59_1
                  try clear hfz59_2
                  try clear hfz59_3
                  try clear hfz60_0
                  try clear hfz60_1
                  try clear hfz60_2
                  try clear hfz60_3
                  try clear hfz70_0
                  try clear hfz70_1
                  try clear hfz70_2
                  try clear hfz70_3
                  try clear hfz78_0
                  try clear hfz78_1
                  try clear hfz78_2
                  try clear hfz78_3
                  try clear hfz96_0
                  try clear hfz96_1
                  try clear hfz96_2
                  try clear hfz96_3
                  try clear hfz96_4
                  try clear p2
                  obtain ⟨kq, x150_90, rfl, HA, HJ90, BK70006, BK70017, BK70028, BK70034, HB⟩ := hcut
                  cases kq with
                  | zero => exact absurd HA.out (by simp [laws_FnCodec.j3])
                  | succ kj90 =>
                   have H := HA.out; clear HA; simp only [laws_FnCodec.j3] at H
                   by_cases c122 : x150_90 = true
                   ·subst c122; have H1 : (none) = some r := by rw [if_pos rfl] at H; exact H
                    exact absurd H1 (by simp)
                   ·replace c122 := Bool.eq_false_iff.mpr c122; subst c122; have H1 : (if t70029 = 1 then (if t70030.toList = t70009.toList then (if (wrap64 (t70033 * 64)) = (wrap64 ((t70020.size : Int) + (t70022.size : Int))) then (laws_FnCodec.j4 kj90 l1 t70022 (((t70020 ++ t70022) ++ t70008) ++ (⟨#[83]⟩ : ByteArray)) ((t70020.size : Int) != 64)) else (none)) else (none)) else (none)) = some r := by rw [if_neg (show ¬ (false = true) by decide)] at H; exact H
                    clear H; have H := H1; clear H1; have HC123 := Aside0.mk H; clear H
                    go_upto_region 24 with (fail)
                    go_cut [175] (fun v175 wc => ∃ (kq : Nat) (x175_122 : Bool), v175 = .bool x175_122 ∧ Aside0 (laws_FnCodec.j4 kq l1 t70022 (((t70020 ++ t70022) ++ t70008) ++ (⟨#[83]⟩ : ByteArray)) x175_122 = some r) ∧ Aside0 (kq ≤ kj90) ∧ Aside0 (wc.heap[gb70006]? = some (.cells #[.string t70001, .string t70002, .string t70003, .string t70004] 49 (0, 0))) ∧ Aside0 (wc.heap[gb70017]? = some (.cells #[.string t70012, .string t70013, .string t70014, .string t70015] 49 (0, 0))) ∧ Aside0 (wc.heap[gb70028]? = some (.cells #[.int .i64 t70023, .string t70024, .int .i64 t70025, .string t70026, .int .i64 t70027] 61 (0, 0))) ∧ Aside0 (wc.heap[gb70034]? = some (.cells #[.int .i64 t70029, .string t70030, .int .i64 t70031, .string t70032, .int .i64 t70033] 61 (0, 0))) ∧ Aside0 (Below w.heap.size w wc))
                    case first =>
                     have H := HC123.out; clear HC123
                     by_cases c124 : t70029 = 1
                     ·rw [if_pos c124] at H; have c124b0 : (t70029 == 1) = true := beq_iff_eq.mpr c124; have c124b1 : (t70029 != 1) = false := bne_eq_false_iff_eq.mpr c124; clear c124; (first | rw [c124b0] | (simp only [i64_w, i32_w]; rw [c124b0]) | skip)
                      by_cases c125 : t70030.toList = t70009.toList
                      ·rw [if_pos c125] at H; have c125b0 : (t70030.toList == t70009.toList) = true := beq_iff_eq.mpr c125; have c125b1 : (t70030.toList != t70009.toList) = false := bne_eq_false_iff_eq.mpr c125; clear c125
                       by_cases c126 : (wrap64 (t70033 * 64)) = (wrap64 ((t70020.size : Int) + (t70022.size : Int)))
                       ·rw [if_pos c126] at H; have c126b0 : ((wrap64 (t70033 * 64)) == (wrap64 ((t70020.size : Int) + (t70022.size : Int)))) = true := beq_iff_eq.mpr c126; have c126b1 : ((wrap64 (t70033 * 64)) != (wrap64 ((t70020.size : Int) + (t70022.size : Int)))) = false := bne_eq_false_iff_eq.mpr c126; clear c126; have H' := Aside0.mk H; clear H; have hnb127 := NB70034_70006.out; have hnc127 := NB70006_70034.out; have hnb128 := NB70034_70017.out; have hnc128 := NB70017_70034.out; have hnb129 := NB70034_70028.out; have hnc129 := NB70028_70034.out; have hcz130_0 : wc.cell? ⟨gb70034, 0, none⟩ = some (.int .i64 t70029) := (blk_cell BK70034.out 0).trans rfl; have hcz130_1 : wc.cell? ⟨gb70034, 1, none⟩ = some (.string t70030) := (blk_cell BK70034.out 1).trans rfl; have hcz130_2 : wc.cell? ⟨gb70034, 2, none⟩ = some (.int .i64 t70031) := (blk_cell BK70034.out 2).trans rfl; have hcz130_3 : wc.cell? ⟨gb70034, 3, none⟩ = some (.string t70032) := (blk_cell BK70034.out 3).trans rfl; have hcz130_4 : wc.cell? ⟨gb70034, 4, none⟩ = some (.int .i64 t70033) := (blk_cell BK70034.out 4).trans rfl; have hfz130_0 := blk_frozen BK70034.out 0; have hfz130_1 := blk_frozen BK70034.out 1; have hfz130_2 := blk_frozen BK70034.out 2; have hfz130_3 := blk_frozen BK70034.out 3; have hfz130_4 := blk_frozen BK70034.out 4
                        go_wp2
                        go_meet
                        case rel => exact ⟨_, (((t70020.size : Int) != 64)), (by first | rfl | (simp; done) | (simp [*]; done)), H', ⟨by have := HJ2.out; have := HJ31.out; have := HJ75.out; have := HJ90.out; first | omega | exact Nat.le_refl _⟩, ⟨by (with_reducible repeat (first | refine blk_drewN ?_ _ | refine blk_drew ?_ | refine blk_alloc ?_ _)); exact BK70006.out⟩, ⟨by (with_reducible repeat (first | refine blk_drewN ?_ _ | refine blk_drew ?_ | refine blk_alloc ?_ _)); exact BK70017.out⟩, ⟨by (with_reducible repeat (first | refine blk_drewN ?_ _ | refine blk_drew ?_ | refine blk_alloc ?_ _)); exact BK70028.out⟩, ⟨by (with_reducible repeat (first | refine blk_drewN ?_ _ | refine blk_drew ?_ | refine blk_alloc ?_ _)); exact BK70034.out⟩, ⟨by repeat (first | (with_reducible first | exact HB.out | apply below_alloc | apply pw_below_drewN | apply below_drew1 | refine below_set ?_ GE70006.out | refine below_set ?_ GE70017.out | refine below_set ?_ GE70028.out | refine below_set ?_ GE70034.out) | exact HB.out)⟩⟩
                       ·rw [if_neg c126] at H; exact absurd H (by simp)
                      ·rw [if_neg c125] at H; exact absurd H (by simp)
                     ·rw [if_neg c124] at H; exact absurd H (by simp)
                    case rest =>
                     clear HC123
                     try clear c1
                     try clear c2
                     try clear p2
                     try clear c3
                     try clear c4
                     try clear c4b0
                     try clear c4b1
                     try clear c5
                     try clear c6
                     try clear p6
                     try clear c7
                     try clear c8
                     try clear c9
                     try clear c10
                     try clear c10b0
                     try clear c10b1
                     try clear c11
                     try clear c11b0
                     try clear c11b1
                     try clear c12
                     try clear c13
                     try clear c14
                     try clear c25
                     try clear c26
                     try clear c27
                     try clear c28
                     try clear c29
                     try clear c30
                     try clear c31
                     try clear c32
                     try clear c33
                     try clear c34
                     try clear c35
                     try clear c43
                     try clear c45
                     try clear c46
                     try clear c46b0
                     try clear c46b1
                     try clear c47
                     try clear c47b0
                     try clear c47b1
                     try clear c48
                     try clear c48b0
                     try clear c48b1
                     try clear c49
                     try clear c52
                     try clear c55
                     try clear c58
                     try clear c61
                     try clear c63
                     try clear c63b0
                     try clear c63b1
                     try clear c63b2
                     try clear p64
                     try clear c65
                     try clear c65b0
                     try clear c65b1
                     try clear c68
                     try clear c68b0
                     try clear c68b1
                     try clear c69
                     try clear c77
                     try clear c84
                     try clear c84b0
                     try clear c84b1
                     try clear c85
                     try clear c86
                     try clear c86b0
                     try clear c86b1
                     try clear c86b2
                     try clear c87
                     try clear c87b0
                     try clear c87b1
                     try clear c87b2
                     try clear c88
                     try clear c88b0
                     try clear c88b1
                     try clear c88b2
                     try clear c94
                     try clear c95
                     try clear c99
                     try clear c100
                     try clear c101
                     try clear c103
                     try clear c103b0
                     try clear c103b1
                     try clear c104
                     try clear c104b0
                     try clear c104b1
                     try clear c105
                     try clear c105b0
                     try clear c105b1
                     try clear c106
                     try clear c107
                     try clear c108
                     try clear c110
                     try clear c111
                     try clear c112
                     try clear c114
                     try clear c115
                     try clear c116
                     try clear c118
                     try clear c119
                     try clear c120
                     try clear c122
                     try clear c124
                     try clear c124b0
                     try clear c124b1
                     try clear c125
                     try clear c125b0
                     try clear c125b1
                     try clear c126
                     try clear c126b0
                     try clear c126b1
                     try clear c127
                     try clear c128
                     try clear c129
                     try clear c131
                     try clear c132
                     try clear c133
                     try clear c135
                     try clear c136
                     try clear c137
                     try clear c139
                     try clear c140
                     try clear c141
                     try clear hcz102_0
                     try clear hcz102_1
                     try clear hcz102_2
                     try clear hcz102_3
                     try clear hcz102_4
                     try clear hcz109_0
                     try clear hcz109_1
                     try clear hcz109_2
                     try clear hcz109_3
                     try clear hcz109_4
                     try clear hcz113_0
                     try clear hcz113_1
                     try clear hcz113_2
                     try clear hcz113_3
                     try clear hcz113_4
                     try clear hcz117_0
                     try clear hcz117_1
                     try clear hcz117_2
                     try clear hcz117_3
                     try clear hcz117_4
                     try clear hcz121_0
                     try clear hcz121_1
                     try clear hcz121_2
                     try clear hcz121_3
                     try clear hcz121_4
                     try clear hcz130_0
                     try clear hcz130_1
                     try clear hcz130_2
                     try clear hcz130_3
                     try clear hcz130_4
                     try clear hcz134_0
                     try clear hcz134_1
                     try clear hcz134_2
                     try clear hcz134_3
                     try clear hcz134_4
                     try clear hcz138_0
                     try clear hcz138_1
                     try clear hcz138_2
                     try clear hcz138_3
                     try clear hcz138_4
                     try clear hcz142_0
                     try clear hcz142_1
                     try clear hcz142_2
                     try clear hcz142_3
                     try clear hcz142_4
                     try clear hcz15_0
                     try clear hcz15_1
                     try clear hcz15_2
                     try clear hcz15_3
                     try clear hcz17_0
                     try clear hcz17_1
                     try clear hcz17_2
                     try clear hcz17_3
                     try clear hcz19_0
                     try clear hcz19_1
                     try clear hcz19_2
                     try clear hcz19_3
                     try clear hcz21_0
                     try clear hcz21_1
                     try clear hcz21_2
                     try clear hcz21_3
                     try clear hcz25_0
                     try clear hcz25_1
                     try clear hcz25_2
                     try clear hcz25_3
                     try clear hcz27_0
                     try clear hcz27_1
                     try clear hcz27_2
                     try clear hcz27_3
                     try clear hcz29_0
                     try clear hcz29_1
                     try clear hcz29_2
                     try clear hcz29_3
                     try clear hcz35_0
                     try clear hcz35_1
                     try clear hcz35_2
                     try clear hcz35_3
                     try clear hcz37_0
                     try clear hcz37_1
                     try clear hcz37_2
                     try clear hcz37_3
                     try clear hcz39_0
                     try clear hcz39_1
                     try clear hcz39_2
                     try clear hcz39_3
                     try clear hcz44_0
                     try clear hcz44_1
                     try clear hcz44_2
                     try clear hcz44_3
                     try clear hcz50_0
                     try clear hcz50_1
                     try clear hcz50_2
                     try clear hcz50_3
                     try clear hcz51_0
                     try clear hcz51_1
                     try clear hcz51_2
                     try clear hcz51_3
                     try clear hcz53_0
                     try clear hcz53_1
                     try clear hcz53_2
                     try clear hcz53_3
                     try clear hcz54_0
                     try clear hcz54_1
                     try clear hcz54_2
                     try clear hcz54_3
                     try clear hcz56_0
                     try clear hcz56_1
                     try clear hcz56_2
                     try clear hcz56_3
                     try clear hcz57_0
                     try clear hcz57_1
                     try clear hcz57_2
                     try clear hcz57_3
                     try clear hcz59_0
                     try clear hcz59_1
                     try clear hcz59_2
                     try clear hcz59_3
                     try clear hcz60_0
                     try clear hcz60_1
                     try clear hcz60_2
                     try clear hcz60_3
                     try clear hcz70_0
                     try clear hcz70_1
                     try clear hcz70_2
                     try clear hcz70_3
                     try clear hcz78_0
                     try clear hcz78_1
                     try clear hcz78_2
                     try clear hcz78_3
                     try clear hcz96_0
                     try clear hcz96_1
                     try clear hcz96_2
                     try clear hcz96_3
                     try clear hcz96_4
                     try clear hfz102_0
                     try clear hfz102_1
                     try clear hfz102_2
                     try clear hfz102_3
                     try clear hfz102_4
                     try clear hfz109_0
                     try clear hfz109_1
                     try clear hfz109_2
                     try clear hfz109_3
                     try clear hfz109_4
                     try clear hfz113_0
                     try clear hfz113_1
                     try clear hfz113_2
                     try clear hfz113_3
                     try clear hfz113_4
                     try clear hfz117_0
                     try clear hfz117_1
                     try clear hfz117_2
                     try clear hfz117_3
                     try clear hfz117_4
                     try clear hfz121_0
                     try clear hfz121_1
                     try clear hfz121_2
                     try clear hfz121_3
                     try clear hfz121_4
                     try clear hfz130_0
                     try clear hfz130_1
                     try clear hfz130_2
                     try clear hfz130_3
                     try clear hfz130_4
                     try clear hfz134_0
                     try clear hfz134_1
                     try clear hfz134_2
                     try clear hfz134_3
                     try clear hfz134_4
                     try clear hfz138_0
                     try clear hfz138_1
                     try clear hfz138_2
                     try clear hfz138_3
                     try clear hfz138_4
                     try clear hfz142_0
                     try clear hfz142_1
                     try clear hfz142_2
                     try clear hfz142_3
                     try clear hfz142_4
                     try clear hfz15_0
                     try clear hfz15_1
                     try clear hfz15_2
                     try clear hfz15_3
                     try clear hfz17_0
                     try clear hfz17_1
                     try clear hfz17_2
                     try clear hfz17_3
                     try clear hfz19_0
                     try clear hfz19_1
                     try clear hfz19_2
                     try clear hfz19_3
                     try clear hfz21_0
                     try clear hfz21_1
                     try clear hfz21_2
                     try clear hfz21_3
                     try clear hfz25_0
                     try clear hfz25_1
                     try clear hfz25_2
                     try clear hfz25_3
                     try clear hfz27_0
                     try clear hfz27_1
                     try clear hfz27_2
                     try clear hfz27_3
                     try clear hfz29_0
                     try clear hfz29_1
                     try clear hfz29_2
                     try clear hfz29_3
                     try clear hfz35_0
                     try clear hfz35_1
                     try clear hfz35_2
                     try clear hfz35_3
                     try clear hfz37_0
                     try clear hfz37_1
                     try clear hfz37_2
                     try clear hfz37_3
                     try clear hfz39_0
                     try clear hfz39_1
                     try clear hfz39_2
                     try clear hfz39_3
                     try clear hfz44_0
                     try clear hfz44_1
                     try clear hfz44_2
                     try clear hfz44_3
                     try clear hfz50_0
                     try clear hfz50_1
                     try clear hfz50_2
                     try clear hfz50_3
                     try clear hfz51_0
                     try clear hfz51_1
                     try clear hfz51_2
                     try clear hfz51_3
                     try clear hfz53_0
                     try clear hfz53_1
                     try clear hfz53_2
                     try clear hfz53_3
                     try clear hfz54_0
                     try clear hfz54_1
                     try clear hfz54_2
                     try clear hfz54_3
                     try clear hfz56_0
                     try clear hfz56_1
                     try clear hfz56_2
                     try clear hfz56_3
                     try clear hfz57_0
                     try clear hfz57_1
                     try clear hfz57_2
                     try clear hfz57_3
                     try clear hfz59_0
                     try clear hfz59_1
                     try clear hfz59_2
                     try clear hfz59_3
                     try clear hfz60_0
                     try clear hfz60_1
                     try clear hfz60_2
                     try clear hfz60_3
                     try clear hfz70_0
                     try clear hfz70_1
                     try clear hfz70_2
                     try clear hfz70_3
                     try clear hfz78_0
                     try clear hfz78_1
                     try clear hfz78_2
                     try clear hfz78_3
                     try clear hfz96_0
                     try clear hfz96_1
                     try clear hfz96_2
                     try clear hfz96_3
                     try clear hfz96_4
                     try clear p2
                     obtain ⟨kq, x175_122, rfl, HA, HJ122, BK70006, BK70017, BK70028, BK70034, HB⟩ := hcut
                     cases kq with
                     | zero => exact absurd HA.out (by simp [laws_FnCodec.j4])
                     | succ kj122 =>
                      have H := HA.out; clear HA; simp only [laws_FnCodec.j4] at H
                      by_cases c143 : x175_122 = true
                      ·subst c143; have H1 : (none) = some r := by rw [if_pos rfl] at H; exact H
                       exact absurd H1 (by simp)
                      ·replace c143 := Bool.eq_false_iff.mpr c143; subst c143; have H1 : ((laws_wPick.f l1 3).bind fun t70035 => (if (wrap64 ((t70022.size : Int) / 64)) = 0 then (none) else (if 0 ≤ (wrap64 ((wrap64 (64 + (wrap64 ((Int.tmod t70035 (wrap64 ((t70022.size : Int) / 64))) * 64)))) + 63)) then (if (wrap64 ((wrap64 (64 + (wrap64 ((Int.tmod t70035 (wrap64 ((t70022.size : Int) / 64))) * 64)))) + 63)) ≤ ((((t70020 ++ t70022) ++ t70008) ++ (⟨#[83]⟩ : ByteArray)).size : Int) then (if ((((t70020 ++ t70022) ++ t70008) ++ (⟨#[83]⟩ : ByteArray)).extract 0 ((wrap64 ((wrap64 (64 + (wrap64 ((Int.tmod t70035 (wrap64 ((t70022.size : Int) / 64))) * 64)))) + 63)) : Int).toNat).size + 1 ≤ 9223372036854775807 then (if 0 ≤ (wrap64 ((wrap64 ((wrap64 (64 + (wrap64 ((Int.tmod t70035 (wrap64 ((t70022.size : Int) / 64))) * 64)))) + 63)) + 1)) then (if (wrap64 ((wrap64 ((wrap64 (64 + (wrap64 ((Int.tmod t70035 (wrap64 ((t70022.size : Int) / 64))) * 64)))) + 63)) + 1)) ≤ ((((t70020 ++ t70022) ++ t70008) ++ (⟨#[83]⟩ : ByteArray)).size : Int) then (if (((((t70020 ++ t70022) ++ t70008) ++ (⟨#[83]⟩ : ByteArray)).extract 0 ((wrap64 ((wrap64 (64 + (wrap64 ((Int.tmod t70035 (wrap64 ((t70022.size : Int) / 64))) * 64)))) + 63)) : Int).toNat) ++ (⟨#[0]⟩ : ByteArray)).size + ((((t70020 ++ t70022) ++ t70008) ++ (⟨#[83]⟩ : ByteArray)).extract ((wrap64 ((wrap64 ((wrap64 (64 + (wrap64 ((Int.tmod t70035 (wrap64 ((t70022.size : Int) / 64))) * 64)))) + 63)) + 1)) : Int).toNat (((t70020 ++ t70022) ++ t70008) ++ (⟨#[83]⟩ : ByteArray)).size).size ≤ 9223372036854775807 then ((impl_ReadRecord.f ((((((t70020 ++ t70022) ++ t70008) ++ (⟨#[83]⟩ : ByteArray)).extract 0 ((wrap64 ((wrap64 (64 + (wrap64 ((Int.tmod t70035 (wrap64 ((t70022.size : Int) / 64))) * 64)))) + 63)) : Int).toNat) ++ (⟨#[0]⟩ : ByteArray)) ++ ((((t70020 ++ t70022) ++ t70008) ++ (⟨#[83]⟩ : ByteArray)).extract ((wrap64 ((wrap64 ((wrap64 (64 + (wrap64 ((Int.tmod t70035 (wrap64 ((t70022.size : Int) / 64))) * 64)))) + 63)) + 1)) : Int).toNat (((t70020 ++ t70022) ++ t70008) ++ (⟨#[83]⟩ : ByteArray)).size)) 1).bind fun bt70036 => (some (bt70036.1 == 0))) else (none)) else (none)) else (none)) else (none)) else (none)) else (none)))) = some r := by rw [if_neg (show ¬ (false = true) by decide)] at H; exact H
                       clear H; have H := H1; clear H1; replace H := Option.bind_eq_some_iff.mp H; obtain ⟨t70035, A1440, H⟩ := H; replace H : (if (wrap64 ((t70022.size : Int) / 64)) = 0 then (none) else (if 0 ≤ (wrap64 ((wrap64 (64 + (wrap64 ((Int.tmod t70035 (wrap64 ((t70022.size : Int) / 64))) * 64)))) + 63)) then (if (wrap64 ((wrap64 (64 + (wrap64 ((Int.tmod t70035 (wrap64 ((t70022.size : Int) / 64))) * 64)))) + 63)) ≤ ((((t70020 ++ t70022) ++ t70008) ++ (⟨#[83]⟩ : ByteArray)).size : Int) then (if ((((t70020 ++ t70022) ++ t70008) ++ (⟨#[83]⟩ : ByteArray)).extract 0 ((wrap64 ((wrap64 (64 + (wrap64 ((Int.tmod t70035 (wrap64 ((t70022.size : Int) / 64))) * 64)))) + 63)) : Int).toNat).size + 1 ≤ 9223372036854775807 then (if 0 ≤ (wrap64 ((wrap64 ((wrap64 (64 + (wrap64 ((Int.tmod t70035 (wrap64 ((t70022.size : Int) / 64))) * 64)))) + 63)) + 1)) then (if (wrap64 ((wrap64 ((wrap64 (64 + (wrap64 ((Int.tmod t70035 (wrap64 ((t70022.size : Int) / 64))) * 64)))) + 63)) + 1)) ≤ ((((t70020 ++ t70022) ++ t70008) ++ (⟨#[83]⟩ : ByteArray)).size : Int) then (if (((((t70020 ++ t70022) ++ t70008) ++ (⟨#[83]⟩ : ByteArray)).extract 0 ((wrap64 ((wrap64 (64 + (wrap64 ((Int.tmod t70035 (wrap64 ((t70022.size : Int) / 64))) * 64)))) + 63)) : Int).toNat) ++ (⟨#[0]⟩ : ByteArray)).size + ((((t70020 ++ t70022) ++ t70008) ++ (⟨#[83]⟩ : ByteArray)).extract ((wrap64 ((wrap64 ((wrap64 (64 + (wrap64 ((Int.tmod t70035 (wrap64 ((t70022.size : Int) / 64))) * 64)))) + 63)) + 1)) : Int).toNat (((t70020 ++ t70022) ++ t70008) ++ (⟨#[83]⟩ : ByteArray)).size).size ≤ 9223372036854775807 then ((impl_ReadRecord.f ((((((t70020 ++ t70022) ++ t70008) ++ (⟨#[83]⟩ : ByteArray)).extract 0 ((wrap64 ((wrap64 (64 + (wrap64 ((Int.tmod t70035 (wrap64 ((t70022.size : Int) / 64))) * 64)))) + 63)) : Int).toNat) ++ (⟨#[0]⟩ : ByteArray)) ++ ((((t70020 ++ t70022) ++ t70008) ++ (⟨#[83]⟩ : ByteArray)).extract ((wrap64 ((wrap64 ((wrap64 (64 + (wrap64 ((Int.tmod t70035 (wrap64 ((t70022.size : Int) / 64))) * 64)))) + 63)) + 1)) : Int).toNat (((t70020 ++ t70022) ++ t70008) ++ (⟨#[83]⟩ : ByteArray)).size)) 1).bind fun bt70036 => (some (bt70036.1 == 0))) else (none)) else (none)) else (none)) else (none)) else (none)) else (none))) = some r := H; have A144 := Aside0.mk A1440; clear A1440
                       by_cases c145 : (wrap64 ((t70022.size : Int) / 64)) = 0
                       ·rw [if_pos c145] at H; exact absurd H (by simp)
                       ·rw [if_neg c145] at H; have c145b0 : ((wrap64 ((t70022.size : Int) / 64)) == 0) = false := beq_eq_false_iff_ne.mpr c145; have c145b1 : ((wrap64 ((t70022.size : Int) / 64)) != 0) = true := bne_iff_ne.mpr c145; obtain ⟨ji146, hji146⟩ : ∃ j_ : Int, (wrap64 ((wrap64 (64 + (wrap64 ((Int.tmod t70035 (wrap64 ((t70022.size : Int) / 64))) * 64)))) + 63)) = j_ := ⟨_, rfl⟩
                        replace H : (if 0 ≤ (ji146) then (if (ji146) ≤ ((((t70020 ++ t70022) ++ t70008) ++ (⟨#[83]⟩ : ByteArray)).size : Int) then (if ((((t70020 ++ t70022) ++ t70008) ++ (⟨#[83]⟩ : ByteArray)).extract 0 ((ji146) : Int).toNat).size + 1 ≤ 9223372036854775807 then (if 0 ≤ (wrap64 ((ji146) + 1)) then (if (wrap64 ((ji146) + 1)) ≤ ((((t70020 ++ t70022) ++ t70008) ++ (⟨#[83]⟩ : ByteArray)).size : Int) then (if (((((t70020 ++ t70022) ++ t70008) ++ (⟨#[83]⟩ : ByteArray)).extract 0 ((ji146) : Int).toNat) ++ (⟨#[0]⟩ : ByteArray)).size + ((((t70020 ++ t70022) ++ t70008) ++ (⟨#[83]⟩ : ByteArray)).extract ((wrap64 ((ji146) + 1)) : Int).toNat (((t70020 ++ t70022) ++ t70008) ++ (⟨#[83]⟩ : ByteArray)).size).size ≤ 9223372036854775807 then ((impl_ReadRecord.f ((((((t70020 ++ t70022) ++ t70008) ++ (⟨#[83]⟩ : ByteArray)).extract 0 ((ji146) : Int).toNat) ++ (⟨#[0]⟩ : ByteArray)) ++ ((((t70020 ++ t70022) ++ t70008) ++ (⟨#[83]⟩ : ByteArray)).extract ((wrap64 ((ji146) + 1)) : Int).toNat (((t70020 ++ t70022) ++ t70008) ++ (⟨#[83]⟩ : ByteArray)).size)) 1).bind fun bt70036 => (some (bt70036.1 == 0))) else (none)) else (none)) else (none)) else (none)) else (none)) else (none)) = some r := by first | (rw [hji146] at H; exact H) | (simp only [hji146] at H ⊢; exact H)
                        (try rw [hji146] at A144); have hji146w : (IntKind.i64.wrap ((wrap64 (64 + (wrap64 ((Int.tmod t70035 (wrap64 ((t70022.size : Int) / 64))) * 64)))) + 63)) = ji146 := (i64_w _).trans hji146
                        by_cases c147 : 0 ≤ (ji146)
                        ·rw [if_pos c147] at H; have c147b0 := eq_true c147; have c147b1 : decide (0 ≤ (ji146)) = true := decide_eq_true c147; clear c147
                         by_cases c148 : (ji146) ≤ ((((t70020 ++ t70022) ++ t70008) ++ (⟨#[83]⟩ : ByteArray)).size : Int)
                         ·rw [if_pos c148] at H; have c148b0 := eq_true c148; have c148b1 : decide ((ji146) ≤ ((((t70020 ++ t70022) ++ t70008) ++ (⟨#[83]⟩ : ByteArray)).size : Int)) = true := decide_eq_true c148
                          try have c148b5 : ((t70020.size : Int) + (t70022.size : Int) + (t70008.size : Int) + 1 < (ji146)) = False := eq_false (by have hh := c148; simp only [ByteArray.size_append, ByteArray.size_extract] at hh; (try rw [show ByteArray.size (⟨#[83]⟩ : ByteArray) = 1 from rfl] at hh); (try (have k_c63 := of_eq_true c63b0; (try simp only [ByteArray.size_append, ByteArray.size_extract] at k_c63); (try rw [show ByteArray.size (⟨#[83]⟩ : ByteArray) = 1 from rfl] at k_c63); skip)); (try (have k_c86 := of_eq_true c86b0; (try simp only [ByteArray.size_append, ByteArray.size_extract] at k_c86); (try rw [show ByteArray.size (⟨#[83]⟩ : ByteArray) = 1 from rfl] at k_c86); skip)); (try (have k_c87 := of_eq_true c87b0; (try simp only [ByteArray.size_append, ByteArray.size_extract] at k_c87); (try rw [show ByteArray.size (⟨#[83]⟩ : ByteArray) = 1 from rfl] at k_c87); skip)); (try (have k_c88 := of_eq_true c88b0; (try simp only [ByteArray.size_append, ByteArray.size_extract] at k_c88); (try rw [show ByteArray.size (⟨#[83]⟩ : ByteArray) = 1 from rfl] at k_c88); skip)); (try (have k_c147 := of_eq_true c147b0; (try simp only [ByteArray.size_append, ByteArray.size_extract] at k_c147); (try rw [show ByteArray.size (⟨#[83]⟩ : ByteArray) = 1 from rfl] at k_c147); skip)); omega)
                          try have c148b6 : ((ji146) ≤ (t70020.size : Int) + (t70022.size : Int) + (t70008.size : Int) + 1) = True := eq_true (by have hh := c148; simp only [ByteArray.size_append, ByteArray.size_extract] at hh; (try rw [show ByteArray.size (⟨#[83]⟩ : ByteArray) = 1 from rfl] at hh); (try (have k_c63 := of_eq_true c63b0; (try simp only [ByteArray.size_append, ByteArray.size_extract] at k_c63); (try rw [show ByteArray.size (⟨#[83]⟩ : ByteArray) = 1 from rfl] at k_c63); skip)); (try (have k_c86 := of_eq_true c86b0; (try simp only [ByteArray.size_append, ByteArray.size_extract] at k_c86); (try rw [show ByteArray.size (⟨#[83]⟩ : ByteArray) = 1 from rfl] at k_c86); skip)); (try (have k_c87 := of_eq_true c87b0; (try simp only [ByteArray.size_append, ByteArray.size_extract] at k_c87); (try rw [show ByteArray.size (⟨#[83]⟩ : ByteArray) = 1 from rfl] at k_c87); skip)); (try (have k_c88 := of_eq_true c88b0; (try simp only [ByteArray.size_append, ByteArray.size_extract] at k_c88); (try rw [show ByteArray.size (⟨#[83]⟩ : ByteArray) = 1 from rfl] at k_c88); skip)); (try (have k_c147 := of_eq_true c147b0; (try simp only [ByteArray.size_append, ByteArray.size_extract] at k_c147); (try rw [show ByteArray.size (⟨#[83]⟩ : ByteArray) = 1 from rfl] at k_c147); skip)); omega)
                          by_cases c149 : ((((t70020 ++ t70022) ++ t70008) ++ (⟨#[83]⟩ : ByteArray)).extract 0 ((ji146) : Int).toNat).size + 1 ≤ 9223372036854775807
                          ·rw [if_pos c149] at H; have c149b0 := eq_true c149; have c149b1 : decide (((((t70020 ++ t70022) ++ t70008) ++ (⟨#[83]⟩ : ByteArray)).extract 0 ((ji146) : Int).toNat).size + 1 ≤ 9223372036854775807) = true := decide_eq_true c149
                           try have c149b2 : (9223372036854775807 < ((((t70020 ++ t70022) ++ t70008) ++ (⟨#[83]⟩ : ByteArray)).extract 0 ((ji146) : Int).toNat).size + 1) = False := eq_false (Nat.not_lt.2 c149)
                           try have c149b4 : (9223372036854775807 < (ji146).toNat + 1) = False := eq_false (by have hh := c149; simp only [ByteArray.size_append, ByteArray.size_extract] at hh; (try (have k_c63 := of_eq_true c63b0; (try simp only [ByteArray.size_append, ByteArray.size_extract] at k_c63); skip)); (try (have k_c86 := of_eq_true c86b0; (try simp only [ByteArray.size_append, ByteArray.size_extract] at k_c86); skip)); (try (have k_c87 := of_eq_true c87b0; (try simp only [ByteArray.size_append, ByteArray.size_extract] at k_c87); skip)); (try (have k_c88 := of_eq_true c88b0; (try simp only [ByteArray.size_append, ByteArray.size_extract] at k_c88); skip)); (try (have k_c147 := of_eq_true c147b0; (try simp only [ByteArray.size_append, ByteArray.size_extract] at k_c147); skip)); (try (have k_c148 := of_eq_true c148b0; (try simp only [ByteArray.size_append, ByteArray.size_extract] at k_c148); skip)); omega)
                           try (have c149b3 := c149b2; simp only [ByteArray.size_append, ByteArray.size_extract, Nat.min_self] at c149b3)
                           obtain ⟨ji150, hji150⟩ : ∃ j_ : Int, (wrap64 ((ji146) + 1)) = j_ := ⟨_, rfl⟩
                           replace H : (if 0 ≤ (ji150) then (if (ji150) ≤ ((((t70020 ++ t70022) ++ t70008) ++ (⟨#[83]⟩ : ByteArray)).size : Int) then (if (((((t70020 ++ t70022) ++ t70008) ++ (⟨#[83]⟩ : ByteArray)).extract 0 ((ji146) : Int).toNat) ++ (⟨#[0]⟩ : ByteArray)).size + ((((t70020 ++ t70022) ++ t70008) ++ (⟨#[83]⟩ : ByteArray)).extract ((ji150) : Int).toNat (((t70020 ++ t70022) ++ t70008) ++ (⟨#[83]⟩ : ByteArray)).size).size ≤ 9223372036854775807 then ((impl_ReadRecord.f ((((((t70020 ++ t70022) ++ t70008) ++ (⟨#[83]⟩ : ByteArray)).extract 0 ((ji146) : Int).toNat) ++ (⟨#[0]⟩ : ByteArray)) ++ ((((t70020 ++ t70022) ++ t70008) ++ (⟨#[83]⟩ : ByteArray)).extract ((ji150) : Int).toNat (((t70020 ++ t70022) ++ t70008) ++ (⟨#[83]⟩ : ByteArray)).size)) 1).bind fun bt70036 => (some (bt70036.1 == 0))) else (none)) else (none)) else (none)) = some r := by first | (rw [hji150] at H; exact H) | (simp only [hji150] at H ⊢; exact H)
                           (try rw [hji150] at A144); have hji150w : (IntKind.i64.wrap ((ji146) + 1)) = ji150 := (i64_w _).trans hji150
                           by_cases c151 : 0 ≤ (ji150)
                           ·rw [if_pos c151] at H; have c151b0 := eq_true c151; have c151b1 : decide (0 ≤ (ji150)) = true := decide_eq_true c151; clear c151
                            by_cases c152 : (ji150) ≤ ((((t70020 ++ t70022) ++ t70008) ++ (⟨#[83]⟩ : ByteArray)).size : Int)
                            ·rw [if_pos c152] at H; have c152b0 := eq_true c152; have c152b1 : decide ((ji150) ≤ ((((t70020 ++ t70022) ++ t70008) ++ (⟨#[83]⟩ : ByteArray)).size : Int)) = true := decide_eq_true c152
                             try have c152b5 : ((t70020.size : Int) + (t70022.size : Int) + (t70008.size : Int) + 1 < (ji150)) = False := eq_false (by have hh := c152; simp only [ByteArray.size_append, ByteArray.size_extract] at hh; (try rw [show ByteArray.size (⟨#[83]⟩ : ByteArray) = 1 from rfl] at hh); (try (have k_c63 := of_eq_true c63b0; (try simp only [ByteArray.size_append, ByteArray.size_extract] at k_c63); (try rw [show ByteArray.size (⟨#[83]⟩ : ByteArray) = 1 from rfl] at k_c63); skip)); (try (have k_c86 := of_eq_true c86b0; (try simp only [ByteArray.size_append, ByteArray.size_extract] at k_c86); (try rw [show ByteArray.size (⟨#[83]⟩ : ByteArray) = 1 from rfl] at k_c86); skip)); (try (have k_c87 := of_eq_true c87b0; (try simp only [ByteArray.size_append, ByteArray.size_extract] at k_c87); (try rw [show ByteArray.size (⟨#[83]⟩ : ByteArray) = 1 from rfl] at k_c87); skip)); (try (have k_c88 := of_eq_true c88b0; (try simp only [ByteArray.size_append, ByteArray.size_extract] at k_c88); (try rw [show ByteArray.size (⟨#[83]⟩ : ByteArray) = 1 from rfl] at k_c88); skip)); (try (have k_c147 := of_eq_true c147b0; (try simp only [ByteArray.size_append, ByteArray.size_extract] at k_c147); (try rw [show ByteArray.size (⟨#[83]⟩ : ByteArray) = 1 from rfl] at k_c147); skip)); (try (have k_c148 := of_eq_true c148b0; (try simp only [ByteArray.size_append, ByteArray.size_extract] at k_c148); (try rw [show ByteArray.size (⟨#[83]⟩ : ByteArray) = 1 from rfl] at k_c148); skip)); (try (have k_c149 := of_eq_true c149b0; (try simp only [ByteArray.size_append, ByteArray.size_extract] at k_c149); (try rw [show ByteArray.size (⟨#[83]⟩ : ByteArray) = 1 from rfl] at k_c149); skip)); (try (have k_c151 := of_eq_true c151b0; (try simp only [ByteArray.size_append, ByteArray.size_extract] at k_c151); (try rw [show ByteArray.size (⟨#[83]⟩ : ByteArray) = 1 from rfl] at k_c151); skip)); omega)
                             try have c152b6 : ((ji150) ≤ (t70020.size : Int) + (t70022.size : Int) + (t70008.size : Int) + 1) = True := eq_true (by have hh := c152; simp only [ByteArray.size_append, ByteArray.size_extract] at hh; (try rw [show ByteArray.size (⟨#[83]⟩ : ByteArray) = 1 from rfl] at hh); (try (have k_c63 := of_eq_true c63b0; (try simp only [ByteArray.size_append, ByteArray.size_extract] at k_c63); (try rw [show ByteArray.size (⟨#[83]⟩ : ByteArray) = 1 from rfl] at k_c63); skip)); (try (have k_c86 := of_eq_true c86b0; (try simp only [ByteArray.size_append, ByteArray.size_extract] at k_c86); (try rw [show ByteArray.size (⟨#[83]⟩ : ByteArray) = 1 from rfl] at k_c86); skip)); (try (have k_c87 := of_eq_true c87b0; (try simp only [ByteArray.size_append, ByteArray.size_extract] at k_c87); (try rw [show ByteArray.size (⟨#[83]⟩ : ByteArray) = 1 from rfl] at k_c87); skip)); (try (have k_c88 := of_eq_true c88b0; (try simp only [ByteArray.size_append, ByteArray.size_extract] at k_c88); (try rw [show ByteArray.size (⟨#[83]⟩ : ByteArray) = 1 from rfl] at k_c88); skip)); (try (have k_c147 := of_eq_true c147b0; (try simp only [ByteArray.size_append, ByteArray.size_extract] at k_c147); (try rw [show ByteArray.size (⟨#[83]⟩ : ByteArray) = 1 from rfl] at k_c147); skip)); (try (have k_c148 := of_eq_true c148b0; (try simp only [ByteArray.size_append, ByteArray.size_extract] at k_c148); (try rw [show ByteArray.size (⟨#[83]⟩ : ByteArray) = 1 from rfl] at k_c148); skip)); (try (have k_c149 := of_eq_true c149b0; (try simp only [ByteArray.size_append, ByteArray.size_extract] at k_c149); (try rw [show ByteArray.size (⟨#[83]⟩ : ByteArray) = 1 from rfl] at k_c149); skip)); (try (have k_c151 := of_eq_true c151b0; (try simp only [ByteArray.size_append, ByteArray.size_extract] at k_c151); (try rw [show ByteArray.size (⟨#[83]⟩ : ByteArray) = 1 from rfl] at k_c151); skip)); omega)
                             by_cases c153 : (((((t70020 ++ t70022) ++ t70008) ++ (⟨#[83]⟩ : ByteArray)).extract 0 ((ji146) : Int).toNat) ++ (⟨#[0]⟩ : ByteArray)).size + ((((t70020 ++ t70022) ++ t70008) ++ (⟨#[83]⟩ : ByteArray)).extract ((ji150) : Int).toNat (((t70020 ++ t70022) ++ t70008) ++ (⟨#[83]⟩ : ByteArray)).size).size ≤ 9223372036854775807
                             ·rw [if_pos c153] at H; have c153b0 := eq_true c153; have c153b1 : decide ((((((t70020 ++ t70022) ++ t70008) ++ (⟨#[83]⟩ : ByteArray)).extract 0 ((ji146) : Int).toNat) ++ (⟨#[0]⟩ : ByteArray)).size + ((((t70020 ++ t70022) ++ t70008) ++ (⟨#[83]⟩ : ByteArray)).extract ((ji150) : Int).toNat (((t70020 ++ t70022) ++ t70008) ++ (⟨#[83]⟩ : ByteArray)).size).size ≤ 9223372036854775807) = true := decide_eq_true c153
                              try have c153b2 : (9223372036854775807 < (((((t70020 ++ t70022) ++ t70008) ++ (⟨#[83]⟩ : ByteArray)).extract 0 ((ji146) : Int).toNat) ++ (⟨#[0]⟩ : ByteArray)).size + ((((t70020 ++ t70022) ++ t70008) ++ (⟨#[83]⟩ : ByteArray)).extract ((ji150) : Int).toNat (((t70020 ++ t70022) ++ t70008) ++ (⟨#[83]⟩ : ByteArray)).size).size) = False := eq_false (Nat.not_lt.2 c153)
                              try have c153b4 : (9223372036854775807 < (ji146).toNat + 1 + ((((t70020.size + t70022.size) + t70008.size) + 1) - (ji150).toNat)) = False := eq_false (by have hh := c153; simp only [ByteArray.size_append, ByteArray.size_extract] at hh; (try rw [show ByteArray.size (⟨#[0]⟩ : ByteArray) = 1 from rfl] at hh); (try rw [show ByteArray.size (⟨#[83]⟩ : ByteArray) = 1 from rfl] at hh); (try (have k_c63 := of_eq_true c63b0; (try simp only [ByteArray.size_append, ByteArray.size_extract] at k_c63); (try rw [show ByteArray.size (⟨#[0]⟩ : ByteArray) = 1 from rfl] at k_c63); (try rw [show ByteArray.size (⟨#[83]⟩ : ByteArray) = 1 from rfl] at k_c63); skip)); (try (have k_c86 := of_eq_true c86b0; (try simp only [ByteArray.size_append, ByteArray.size_extract] at k_c86); (try rw [show ByteArray.size (⟨#[0]⟩ : ByteArray) = 1 from rfl] at k_c86); (try rw [show ByteArray.size (⟨#[83]⟩ : ByteArray) = 1 from rfl] at k_c86); skip)); (try (have k_c87 := of_eq_true c87b0; (try simp only [ByteArray.size_append, ByteArray.size_extract] at k_c87); (try rw [show ByteArray.size (⟨#[0]⟩ : ByteArray) = 1 from rfl] at k_c87); (try rw [show ByteArray.size (⟨#[83]⟩ : ByteArray) = 1 from rfl] at k_c87); skip)); (try (have k_c88 := of_eq_true c88b0; (try simp only [ByteArray.size_append, ByteArray.size_extract] at k_c88); (try rw [show ByteArray.size (⟨#[0]⟩ : ByteArray) = 1 from rfl] at k_c88); (try rw [show ByteArray.size (⟨#[83]⟩ : ByteArray) = 1 from rfl] at k_c88); skip)); (try (have k_c147 := of_eq_true c147b0; (try simp only [ByteArray.size_append, ByteArray.size_extract] at k_c147); (try rw [show ByteArray.size (⟨#[0]⟩ : ByteArray) = 1 from rfl] at k_c147); (try rw [show ByteArray.size (⟨#[83]⟩ : ByteArray) = 1 from rfl] at k_c147); skip)); (try (have k_c148 := of_eq_true c148b0; (try simp only [ByteArray.size_append, ByteArray.size_extract] at k_c148); (try rw [show ByteArray.size (⟨#[0]⟩ : ByteArray) = 1 from rfl] at k_c148); (try rw [show ByteArray.size (⟨#[83]⟩ : ByteArray) = 1 from rfl] at k_c148); skip)); (try (have k_c149 := of_eq_true c149b0; (try simp only [ByteArray.size_append, ByteArray.size_extract] at k_c149); (try rw [show ByteArray.size (⟨#[0]⟩ : ByteArray) = 1 from rfl] at k_c149); (try rw [show ByteArray.size (⟨#[83]⟩ : ByteArray) = 1 from rfl] at k_c149); skip)); (try (have k_c151 := of_eq_true c151b0; (try simp only [ByteArray.size_append, ByteArray.size_extract] at k_c151); (try rw [show ByteArray.size (⟨#[0]⟩ : ByteArray) = 1 from rfl] at k_c151); (try rw [show ByteArray.size (⟨#[83]⟩ : ByteArray) = 1 from rfl] at k_c151); skip)); (try (have k_c152 := of_eq_true c152b0; (try simp only [ByteArray.size_append, ByteArray.size_extract] at k_c152); (try rw [show ByteArray.size (⟨#[0]⟩ : ByteArray) = 1 from rfl] at k_c152); (try rw [show ByteArray.size (⟨#[83]⟩ : ByteArray) = 1 from rfl] at k_c152); skip)); omega)
                              try (have c153b3 := c153b2; simp only [ByteArray.size_append, ByteArray.size_extract, Nat.min_self] at c153b3)
                              replace H := Option.bind_eq_some_iff.mp H; obtain ⟨⟨t70036, t70037, t70038, t70039, t70040⟩, A1540, H⟩ := H; replace H : (some (t70036 == 0)) = some r := H; have A154 := Aside0.mk A1540; clear A1540; obtain rfl := Option.some.inj H
                              try go_wp2_with (first | ((with_reducible refine gate_callee (f := 36) rfl ?_); refine goesL_ (some 177) rfl rfl Tryd.func36 (by kernel_rfl) rfl #[.slice A1 l1.length c1, .int .i64 3] rfl (by (try simp only [List.map_toArray, List.map_cons, List.map_nil]); first | done | rfl | (simp only [List.length_drop, List.length_take]; rfl)) ?_; (with_reducible refine (laws_wPick.calls _ _ l1 3 t70035 _ ?side1 ?side2 A144.out).mono ?_); (case side1 => repeat (first | exact (Kd.C_below HR1.out HB.out) | (with_reducible refine Kd.C_alloc ?_ _) | (with_reducible refine Kd.C_drewN ?_ _) | (with_reducible refine Kd.C_drew ?_))); (case side2 => exact HC1.out); rintro e w' ⟨rfl, ⟨nd, rfl⟩⟩; refine ⟨_, rfl, ?_⟩; (try (rw [drewN_self wc]; generalize hq_ : World.drewN wc _ = wc; have n0_ : Aside0 (wc.heap[gb70006]? = some (.cells #[.string t70001, .string t70002, .string t70003, .string t70004] 49 (0, 0))) := ⟨by rw [← hq_]; exact (by (with_reducible repeat (first | refine blk_drewN ?_ _ | refine blk_drew ?_ | refine blk_alloc ?_ _)); exact BK70006.out)⟩; have n1_ : Aside0 (wc.heap[gb70017]? = some (.cells #[.string t70012, .string t70013, .string t70014, .string t70015] 49 (0, 0))) := ⟨by rw [← hq_]; exact (by (with_reducible repeat (first | refine blk_drewN ?_ _ | refine blk_drew ?_ | refine blk_alloc ?_ _)); exact BK70017.out)⟩; have n2_ : Aside0 (wc.heap[gb70028]? = some (.cells #[.int .i64 t70023, .string t70024, .int .i64 t70025, .string t70026, .int .i64 t70027] 61 (0, 0))) := ⟨by rw [← hq_]; exact (by (with_reducible repeat (first | refine blk_drewN ?_ _ | refine blk_drew ?_ | refine blk_alloc ?_ _)); exact BK70028.out)⟩; have n3_ : Aside0 (wc.heap[gb70034]? = some (.cells #[.int .i64 t70029, .string t70030, .int .i64 t70031, .string t70032, .int .i64 t70033] 61 (0, 0))) := ⟨by rw [← hq_]; exact (by (with_reducible repeat (first | refine blk_drewN ?_ _ | refine blk_drew ?_ | refine blk_alloc ?_ _)); exact BK70034.out)⟩; have n4_ : Aside0 (Below w.heap.size w wc) := ⟨by rw [← hq_]; exact (by repeat (first | (with_reducible first | exact HB.out | apply below_alloc | apply pw_below_drewN | apply below_drew1 | refine below_set ?_ GE70006.out | refine below_set ?_ GE70017.out | refine below_set ?_ GE70028.out | refine below_set ?_ GE70034.out) | exact HB.out))⟩; clear BK70006 BK70017 BK70028 BK70034 HB hq_; have BK70006 := n0_; have BK70017 := n1_; have BK70028 := n2_; have BK70034 := n3_; have HB := n4_; clear n0_ n1_ n2_ n3_ n4_))))
                              have n0_ := Aside0.mk (blk_drew BK70006.out); have n1_ := Aside0.mk (blk_drew BK70017.out); have n2_ := Aside0.mk (blk_drew BK70028.out); have n3_ := Aside0.mk (blk_drew BK70034.out); have n4_ := Aside0.mk (below_drew1 HB.out); clear BK70006; clear BK70017; clear BK70028; clear BK70034; clear HB; have BK70006 := n0_; have BK70017 := n1_; have BK70028 := n2_; have BK70034 := n3_; have HB := n4_; clear n0_ n1_ n2_ n3_ n4_; refine start_ (n := 12) (S := fun w' => True) (ds := []) #[false, false, false, false, false, false, false, false, false, false, false, false] (by kernel_rfl) rfl rfl trivial (fun hHeld => ?_); refine with_tabW laws_FnCodec.tab27 laws_FnCodec.bits27 (fun HT_ HW_ => ?_); generalize wc.drew = w155 at BK70006 BK70017 BK70028 BK70034 HB hHeld ⊢; refine pure_ (i := 0) (N := some 185) (v := ?_) (a' := ?_) #[true, false, false, false, false, false, false, false, false, false, false, false] rfl rfl (any_of HT_.out (by kernel_rfl)) (fun _ _ _ h => h) (Or.inl ⟨by rfl, ?_⟩) ?_ ?_; rotate_left
                              ·intro w'; go_simp
                               with_reducible rfl
                              rotate_left
                              ·simp only [Act.put, List.setIfInBounds_toArray, List.set_cons_zero, List.set_cons_succ, i64_w, i32_w]; rfl
                              refine pure_ (i := 1) (N := some 186) (v := ?_) (a' := ?_) #[true, true, false, false, false, false, false, false, false, false, false, false] rfl rfl (any_of HT_.out (by kernel_rfl)) (fun _ _ _ h => h) (Or.inl ⟨by rfl, ?_⟩) ?_ ?_; rotate_left
                              ·intro w'; go_simp
                               with_reducible rfl
                              rotate_left
                              ·simp only [Act.put, List.setIfInBounds_toArray, List.set_cons_zero, List.set_cons_succ, i64_w, i32_w]; rfl
                              refine pure_ (i := 2) (N := some 187) (v := ?_) (a' := ?_) #[true, true, true, false, false, false, false, false, false, false, false, false] rfl rfl (any_of HT_.out (by kernel_rfl)) (fun _ _ _ h => h) (Or.inl ⟨by rfl, ?_⟩) ?_ ?_; rotate_left
                              ·intro w'; go_simp
                               with_reducible rfl
                              rotate_left
                              ·simp only [Act.put, List.setIfInBounds_toArray, List.set_cons_zero, List.set_cons_succ, i64_w, i32_w]; rfl
                              refine pure_ (i := 3) (N := some 188) (v := ?_) (a' := ?_) #[true, true, true, true, false, false, false, false, false, false, false, false] rfl rfl (any_of HT_.out (by kernel_rfl)) (fun _ _ _ h => h) (Or.inl ⟨by rfl, ?_⟩) ?_ ?_; rotate_left
                              ·intro w'; go_simp
                               with_reducible rfl
                              rotate_left
                              ·simp only [Act.put, List.setIfInBounds_toArray, List.set_cons_zero, List.set_cons_succ, i64_w, i32_w]; rfl
                              refine pure_ (i := 4) (N := some 189) (v := ?_) (a' := ?_) #[true, true, true, true, true, false, false, false, false, false, false, false] rfl rfl (any_of HT_.out (by kernel_rfl)) (fun _ _ _ h => h) (Or.inl ⟨by rfl, ?_⟩) ?_ ?_; rotate_left
                              ·intro w'; go_simp
                               with_reducible rfl
                              rotate_left
                              ·simp only [Act.put, List.setIfInBounds_toArray, List.set_cons_zero, List.set_cons_succ, i64_w, i32_w]; rfl
                              refine pure_ (i := 5) (N := some 190) (v := ?_) (a' := ?_) #[true, true, true, true, true, true, false, false, false, false, false, false] rfl rfl (any_of HT_.out (by kernel_rfl)) (fun _ _ _ h => h) (Or.inl ⟨by rfl, ?_⟩) ?_ ?_; rotate_left
                              ·intro w'; go_simp
                               with_reducible rfl
                              rotate_left
                              ·simp only [Act.put, List.setIfInBounds_toArray, List.set_cons_zero, List.set_cons_succ, i64_w, i32_w]; rfl
                              refine pure_ (i := 6) (N := some 191) (v := ?_) (a' := ?_) #[true, true, true, true, true, true, true, false, false, false, false, false] rfl rfl (any_of HT_.out (by kernel_rfl)) (fun _ _ _ h => h) (Or.inl ⟨by rfl, ?_⟩) ?_ ?_; rotate_left
                              ·intro w'; go_simp
                               with_reducible rfl
                              rotate_left
                              ·simp only [Act.put, List.setIfInBounds_toArray, List.set_cons_zero, List.set_cons_succ, i64_w, i32_w]; rfl
                              refine pure_ (i := 7) (N := some 192) (v := ?_) (a' := ?_) #[true, true, true, true, true, true, true, true, false, false, false, false] rfl rfl (any_of HT_.out (by kernel_rfl)) (fun _ _ _ h => h) (Or.inl ⟨by rfl, ?_⟩) ?_ ?_; rotate_left
                              ·intro w'; go_simp
                               with_reducible rfl
                              rotate_left
                              ·simp only [Act.put, List.setIfInBounds_toArray, List.set_cons_zero, List.set_cons_succ, i64_w, i32_w]; rfl
                              refine pure_ (i := 8) (N := some 193) (v := ?_) (a' := ?_) #[true, true, true, true, true, true, true, true, true, false, false, false] rfl rfl (any_of HT_.out (by kernel_rfl)) (fun _ _ _ h => h) (Or.inl ⟨by rfl, ?_⟩) ?_ ?_; rotate_left
                              ·intro w'; go_simp
                               with_reducible rfl
                              rotate_left
                              ·simp only [Act.put, List.setIfInBounds_toArray, List.set_cons_zero, List.set_cons_succ, i64_w, i32_w]; rfl
                              refine join_ (σ := Nat) 1 #[true, true, true, true, true, true, true, true, true, true, true, false] (fun s_ => [(194, .agg #[.int .i64 t70036, .string t70037, .int .i64 t70038, .string t70039, .int .i64 t70040]), (18, .pointer (some ⟨s_, 0, none⟩))]) (fun s_ w' => (w'.heap[gb70006]? = some (.cells #[.string t70001, .string t70002, .string t70003, .string t70004] 49 (0, 0))) ∧ (w'.heap[gb70017]? = some (.cells #[.string t70012, .string t70013, .string t70014, .string t70015] 49 (0, 0))) ∧ (w'.heap[gb70028]? = some (.cells #[.int .i64 t70023, .string t70024, .int .i64 t70025, .string t70026, .int .i64 t70027] 61 (0, 0))) ∧ (w'.heap[gb70034]? = some (.cells #[.int .i64 t70029, .string t70030, .int .i64 t70031, .string t70032, .int .i64 t70033] 61 (0, 0))) ∧ (w'.heap[s_]? = some (.cells #[.int .i64 0, .string (⟨#[]⟩ : ByteArray), .int .i64 0, .string (⟨#[]⟩ : ByteArray), .int .i64 0] 61 (0, 0))) ∧ (w.heap.size ≤ s_) ∧ (w.heap.size ≤ s_) ∧ (gb70006 ≠ s_) ∧ (s_ ≠ gb70006) ∧ (gb70017 ≠ s_) ∧ (s_ ≠ gb70017) ∧ (gb70028 ≠ s_) ∧ (s_ ≠ gb70028) ∧ (gb70034 ≠ s_) ∧ (s_ ≠ gb70034) ∧ (Below w.heap.size w w')) ?_ ?_; rotate_left
                              ·intro hCont; refine two_ (i := 9) (j := 10) (Ni := some 194) (Nj := some 18) #[true, true, true, true, true, true, true, true, true, true, false, false] #[true, true, true, true, true, true, true, true, true, false, true, false] rfl rfl rfl rfl (two_of HT_.out (by kernel_rfl)) (by decide) (by decide) (fun K hK => ?_) (fun K hK => ?_)
                               ·skip; refine goes_ Tryd.func35 (by kernel_rfl) rfl #[.string ((((((t70020 ++ t70022) ++ t70008) ++ (⟨#[83]⟩ : ByteArray)).extract 0 ((ji146) : Int).toNat) ++ (⟨#[0]⟩ : ByteArray)) ++ ((((t70020 ++ t70022) ++ t70008) ++ (⟨#[83]⟩ : ByteArray)).extract ((ji150) : Int).toNat (((t70020 ++ t70022) ++ t70008) ++ (⟨#[83]⟩ : ByteArray)).size)), .int .i64 1] (by rfl) rfl rfl (by (try simp only [List.map_toArray, List.map_cons, List.map_nil]); first | done | (simp only [hji146, hji150]; rfl) | rfl | (simp only [List.length_drop, List.length_take]; rfl) | (simp only [ByteArray.size_append]; rfl)) ?_
                                with_reducible refine (impl_ReadRecord.calls ((((((t70020 ++ t70022) ++ t70008) ++ (⟨#[83]⟩ : ByteArray)).extract 0 ((ji146) : Int).toNat) ++ (⟨#[0]⟩ : ByteArray)) ++ ((((t70020 ++ t70022) ++ t70008) ++ (⟨#[83]⟩ : ByteArray)).extract ((ji150) : Int).toNat (((t70020 ++ t70022) ++ t70008) ++ (⟨#[83]⟩ : ByteArray)).size)) 1 t70036 t70037 t70038 t70039 t70040 _ A154.out).mono ?_
                                rintro e w156 ⟨rfl, hb⟩; refine ⟨_, rfl, ?_⟩; have n0_ := Aside0.mk (blk_below (g := gb70006) (o := .cells #[.string t70001, .string t70002, .string t70003, .string t70004] 49 (0, 0)) (by (with_reducible repeat (first | refine blk_drewN ?_ _ | refine blk_drew ?_ | refine blk_alloc ?_ _)); exact BK70006.out) hb); have n1_ := Aside0.mk (blk_below (g := gb70017) (o := .cells #[.string t70012, .string t70013, .string t70014, .string t70015] 49 (0, 0)) (by (with_reducible repeat (first | refine blk_drewN ?_ _ | refine blk_drew ?_ | refine blk_alloc ?_ _)); exact BK70017.out) hb); have n2_ := Aside0.mk (blk_below (g := gb70028) (o := .cells #[.int .i64 t70023, .string t70024, .int .i64 t70025, .string t70026, .int .i64 t70027] 61 (0, 0)) (by (with_reducible repeat (first | refine blk_drewN ?_ _ | refine blk_drew ?_ | refine blk_alloc ?_ _)); exact BK70028.out) hb); have n3_ := Aside0.mk (blk_below (g := gb70034) (o := .cells #[.int .i64 t70029, .string t70030, .int .i64 t70031, .string t70032, .int .i64 t70033] 61 (0, 0)) (by (with_reducible repeat (first | refine blk_drewN ?_ _ | refine blk_drew ?_ | refine blk_alloc ?_ _)); exact BK70034.out) hb); have n4_ := Aside0.mk (below_step (by repeat (first | (with_reducible first | exact HB.out | apply below_alloc | apply pw_below_drewN | apply below_drew1 | refine below_set ?_ GE70006.out | refine below_set ?_ GE70017.out | refine below_set ?_ GE70028.out | refine below_set ?_ GE70034.out) | exact HB.out)) hb); clear BK70006; clear BK70017; clear BK70028; clear BK70034; clear HB; have BK70006 := n0_; have BK70017 := n1_; have BK70028 := n2_; have BK70034 := n3_; have HB := n4_; clear n0_ n1_ n2_ n3_ n4_; (try clear hb); (try clear hb2); (try clear hk); (try clear hi); refine hK.out _ _ trivial (fun hHeld => ?_); clear hK K; refine norm_ (a' := ?_) ?_ ?_; rotate_left
                                ·show Act.put _ (some 194) _ = _; simp only [Act.put, List.setIfInBounds_toArray, List.set_cons_zero, List.set_cons_succ, i64_w, i32_w]; rfl
                                refine one_ (i := 10) (N := some 18) #[true, true, true, true, true, true, true, true, true, true, true, false] rfl rfl (one_of HT_.out (by kernel_rfl)) (by decide) (fun K hK => ?_); refine box_step ?hg (N := 18) ?hd (cs := #[.int .i64 0, .string (⟨#[]⟩ : ByteArray), .int .i64 0, .string (⟨#[]⟩ : ByteArray), .int .i64 0]) (t := 61) ?hr ?_; (case hd => rfl); (case hg => rfl); (case hr => first | (go_simp; done) | (go_simp; rfl)); intro gb70041 hg w157 hbox hb; have n0_ := Aside0.mk (blk_below (g := gb70006) (o := .cells #[.string t70001, .string t70002, .string t70003, .string t70004] 49 (0, 0)) (by (with_reducible repeat (first | refine blk_drewN ?_ _ | refine blk_drew ?_ | refine blk_alloc ?_ _)); exact BK70006.out) hb); have n1_ := Aside0.mk (blk_below (g := gb70017) (o := .cells #[.string t70012, .string t70013, .string t70014, .string t70015] 49 (0, 0)) (by (with_reducible repeat (first | refine blk_drewN ?_ _ | refine blk_drew ?_ | refine blk_alloc ?_ _)); exact BK70017.out) hb); have n2_ := Aside0.mk (blk_below (g := gb70028) (o := .cells #[.int .i64 t70023, .string t70024, .int .i64 t70025, .string t70026, .int .i64 t70027] 61 (0, 0)) (by (with_reducible repeat (first | refine blk_drewN ?_ _ | refine blk_drew ?_ | refine blk_alloc ?_ _)); exact BK70028.out) hb); have n3_ := Aside0.mk (blk_below (g := gb70034) (o := .cells #[.int .i64 t70029, .string t70030, .int .i64 t70031, .string t70032, .int .i64 t70033] 61 (0, 0)) (by (with_reducible repeat (first | refine blk_drewN ?_ _ | refine blk_drew ?_ | refine blk_alloc ?_ _)); exact BK70034.out) hb); have n4_ := Aside0.mk (below_step (by repeat (first | (with_reducible first | exact HB.out | apply below_alloc | apply pw_below_drewN | apply below_drew1 | refine below_set ?_ GE70006.out | refine below_set ?_ GE70017.out | refine below_set ?_ GE70028.out | refine below_set ?_ GE70034.out) | exact HB.out)) hb); have n5_ := Aside0.mk (hbox); have n6_ := Aside0.mk ((by rw [hg]; exact (below_size (by repeat (first | (with_reducible first | exact HB.out | apply below_alloc | apply pw_below_drewN | apply below_drew1 | refine below_set ?_ GE70006.out | refine below_set ?_ GE70017.out | refine below_set ?_ GE70028.out | refine below_set ?_ GE70034.out) | exact HB.out))) : w.heap.size ≤ gb70041))
                                have n7_ := Aside0.mk ((by rw [hg]; exact (below_size (by repeat (first | (with_reducible first | exact HB.out | apply below_alloc | apply pw_below_drewN | apply below_drew1 | refine below_set ?_ GE70006.out | refine below_set ?_ GE70017.out | refine below_set ?_ GE70028.out | refine below_set ?_ GE70034.out) | exact HB.out))) : w.heap.size ≤ gb70041)); have n8_ := Aside0.mk ((by rw [hg]; exact Nat.ne_of_lt (blk_lt (g := gb70006) (o := .cells #[.string t70001, .string t70002, .string t70003, .string t70004] 49 (0, 0)) (by (with_reducible repeat (first | refine blk_drewN ?_ _ | refine blk_drew ?_ | refine blk_alloc ?_ _)); exact BK70006.out)) : gb70006 ≠ gb70041)); have n9_ := Aside0.mk ((by rw [hg]; exact Nat.ne_of_gt (blk_lt (g := gb70006) (o := .cells #[.string t70001, .string t70002, .string t70003, .string t70004] 49 (0, 0)) (by (with_reducible repeat (first | refine blk_drewN ?_ _ | refine blk_drew ?_ | refine blk_alloc ?_ _)); exact BK70006.out)) : gb70041 ≠ gb70006)); have n10_ := Aside0.mk ((by rw [hg]; exact Nat.ne_of_lt (blk_lt (g := gb70017) (o := .cells #[.string t70012, .string t70013, .string t70014, .string t70015] 49 (0, 0)) (by (with_reducible repeat (first | refine blk_drewN ?_ _ | refine blk_drew ?_ | refine blk_alloc ?_ _)); exact BK70017.out)) : gb70017 ≠ gb70041)); have n11_ := Aside0.mk ((by rw [hg]; exact Nat.ne_of_gt (blk_lt (g := gb70017) (o := .cells #[.string t70012, .string t70013, .string t70014, .string t70015] 49 (0, 0)) (by (with_reducible repeat (first | refine blk_drewN ?_ _ | refine blk_drew ?_ | refine blk_alloc ?_ _)); exact BK70017.out)) : gb70041 ≠ gb70017)); have n12_ := Aside0.mk ((by rw [hg]; exact Nat.ne_of_lt (blk_lt (g := gb70028) (o := .cells #[.int .i64 t70023, .string t70024, .int .i64 t70025, .string t70026, .int .i64 t70027] 61 (0, 0)) (by (with_reducible repeat (first | refine blk_drewN ?_ _ | refine blk_drew ?_ | refine blk_alloc ?_ _)); exact BK70028.out)) : gb70028 ≠ gb70041)); have n13_ := Aside0.mk ((by rw [hg]; exact Nat.ne_of_gt (blk_lt (g := gb70028) (o := .cells #[.int .i64 t70023, .string t70024, .int .i64 t70025, .string t70026, .int .i64 t70027] 61 (0, 0)) (by (with_reducible repeat (first | refine blk_drewN ?_ _ | refine blk_drew ?_ | refine blk_alloc ?_ _)); exact BK70028.out)) : gb70041 ≠ gb70028))
                                have n14_ := Aside0.mk ((by rw [hg]; exact Nat.ne_of_lt (blk_lt (g := gb70034) (o := .cells #[.int .i64 t70029, .string t70030, .int .i64 t70031, .string t70032, .int .i64 t70033] 61 (0, 0)) (by (with_reducible repeat (first | refine blk_drewN ?_ _ | refine blk_drew ?_ | refine blk_alloc ?_ _)); exact BK70034.out)) : gb70034 ≠ gb70041)); have n15_ := Aside0.mk ((by rw [hg]; exact Nat.ne_of_gt (blk_lt (g := gb70034) (o := .cells #[.int .i64 t70029, .string t70030, .int .i64 t70031, .string t70032, .int .i64 t70033] 61 (0, 0)) (by (with_reducible repeat (first | refine blk_drewN ?_ _ | refine blk_drew ?_ | refine blk_alloc ?_ _)); exact BK70034.out)) : gb70041 ≠ gb70034)); clear BK70006; clear BK70017; clear BK70028; clear BK70034; clear HB; have BK70006 := n0_; have BK70017 := n1_; have BK70028 := n2_; have BK70034 := n3_; have HB := n4_; have BK70041 := n5_; have GW70041 := n6_; have GE70041 := n7_; have NB70006_70041 := n8_; have NB70041_70006 := n9_; have NB70017_70041 := n10_; have NB70041_70017 := n11_; have NB70028_70041 := n12_; have NB70041_70028 := n13_; have NB70034_70041 := n14_; have NB70041_70034 := n15_; clear n0_ n1_ n2_ n3_ n4_ n5_ n6_ n7_ n8_ n9_ n10_ n11_ n12_ n13_ n14_ n15_; clear hb hbox hg; refine hK.out _ _ trivial (fun hHeld => ?_); clear hK K; refine norm_ (a' := ?_) ?_ ?_; rotate_left
                                ·show Act.put _ (some 18) _ = _; simp only [Act.put, List.setIfInBounds_toArray, List.set_cons_zero, List.set_cons_succ, i64_w, i32_w]; rfl
                                exact norm_ (by simp only [putAll, Act.put, List.setIfInBounds_toArray, List.set_cons_zero, List.set_cons_succ]) (hCont (gb70041) _ ⟨(by (with_reducible repeat (first | refine blk_drewN ?_ _ | refine blk_drew ?_ | refine blk_alloc ?_ _)); exact BK70006.out), (by (with_reducible repeat (first | refine blk_drewN ?_ _ | refine blk_drew ?_ | refine blk_alloc ?_ _)); exact BK70017.out), (by (with_reducible repeat (first | refine blk_drewN ?_ _ | refine blk_drew ?_ | refine blk_alloc ?_ _)); exact BK70028.out), (by (with_reducible repeat (first | refine blk_drewN ?_ _ | refine blk_drew ?_ | refine blk_alloc ?_ _)); exact BK70034.out), (by (with_reducible repeat (first | refine blk_drewN ?_ _ | refine blk_drew ?_ | refine blk_alloc ?_ _)); exact BK70041.out), GW70041.out, GE70041.out, NB70006_70041.out, NB70041_70006.out, NB70017_70041.out, NB70041_70017.out, NB70028_70041.out, NB70041_70028.out, NB70034_70041.out, NB70041_70034.out, (by repeat (first | (with_reducible first | exact HB.out | apply below_alloc | apply pw_below_drewN | apply below_drew1 | refine below_set ?_ GE70006.out | refine below_set ?_ GE70017.out | refine below_set ?_ GE70028.out | refine below_set ?_ GE70034.out | refine below_set ?_ GE70041.out) | exact HB.out))⟩)
                               ·skip; refine box_step ?hg (N := 18) ?hd (cs := #[.int .i64 0, .string (⟨#[]⟩ : ByteArray), .int .i64 0, .string (⟨#[]⟩ : ByteArray), .int .i64 0]) (t := 61) ?hr ?_; (case hd => rfl); (case hg => rfl); (case hr => first | (go_simp; done) | (go_simp; rfl)); intro gb70041 hg w156 hbox hb; have n0_ := Aside0.mk (blk_below (g := gb70006) (o := .cells #[.string t70001, .string t70002, .string t70003, .string t70004] 49 (0, 0)) (by (with_reducible repeat (first | refine blk_drewN ?_ _ | refine blk_drew ?_ | refine blk_alloc ?_ _)); exact BK70006.out) hb); have n1_ := Aside0.mk (blk_below (g := gb70017) (o := .cells #[.string t70012, .string t70013, .string t70014, .string t70015] 49 (0, 0)) (by (with_reducible repeat (first | refine blk_drewN ?_ _ | refine blk_drew ?_ | refine blk_alloc ?_ _)); exact BK70017.out) hb); have n2_ := Aside0.mk (blk_below (g := gb70028) (o := .cells #[.int .i64 t70023, .string t70024, .int .i64 t70025, .string t70026, .int .i64 t70027] 61 (0, 0)) (by (with_reducible repeat (first | refine blk_drewN ?_ _ | refine blk_drew ?_ | refine blk_alloc ?_ _)); exact BK70028.out) hb); have n3_ := Aside0.mk (blk_below (g := gb70034) (o := .cells #[.int .i64 t70029, .string t70030, .int .i64 t70031, .string t70032, .int .i64 t70033] 61 (0, 0)) (by (with_reducible repeat (first | refine blk_drewN ?_ _ | refine blk_drew ?_ | refine blk_alloc ?_ _)); exact BK70034.out) hb); have n4_ := Aside0.mk (below_step (by repeat (first | (with_reducible first | exact HB.out | apply below_alloc | apply pw_below_drewN | apply below_drew1 | refine below_set ?_ GE70006.out | refine below_set ?_ GE70017.out | refine below_set ?_ GE70028.out | refine below_set ?_ GE70034.out) | exact HB.out)) hb); have n5_ := Aside0.mk (hbox); have n6_ := Aside0.mk ((by rw [hg]; exact (below_size (by repeat (first | (with_reducible first | exact HB.out | apply below_alloc | apply pw_below_drewN | apply below_drew1 | refine below_set ?_ GE70006.out | refine below_set ?_ GE70017.out | refine below_set ?_ GE70028.out | refine below_set ?_ GE70034.out) | exact HB.out))) : w.heap.size ≤ gb70041)); have n7_ := Aside0.mk ((by rw [hg]; exact (below_size (by repeat (first | (with_reducible first | exact HB.out | apply below_alloc | apply pw_below_drewN | apply below_drew1 | refine below_set ?_ GE70006.out | refine below_set ?_ GE70017.out | refine below_set ?_ GE70028.out | refine below_set ?_ GE70034.out) | exact HB.out))) : w.heap.size ≤ gb70041))
                                have n8_ := Aside0.mk ((by rw [hg]; exact Nat.ne_of_lt (blk_lt (g := gb70006) (o := .cells #[.string t70001, .string t70002, .string t70003, .string t70004] 49 (0, 0)) (by (with_reducible repeat (first | refine blk_drewN ?_ _ | refine blk_drew ?_ | refine blk_alloc ?_ _)); exact BK70006.out)) : gb70006 ≠ gb70041)); have n9_ := Aside0.mk ((by rw [hg]; exact Nat.ne_of_gt (blk_lt (g := gb70006) (o := .cells #[.string t70001, .string t70002, .string t70003, .string t70004] 49 (0, 0)) (by (with_reducible repeat (first | refine blk_drewN ?_ _ | refine blk_drew ?_ | refine blk_alloc ?_ _)); exact BK70006.out)) : gb70041 ≠ gb70006)); have n10_ := Aside0.mk ((by rw [hg]; exact Nat.ne_of_lt (blk_lt (g := gb70017) (o := .cells #[.string t70012, .string t70013, .string t70014, .string t70015] 49 (0, 0)) (by (with_reducible repeat (first | refine blk_drewN ?_ _ | refine blk_drew ?_ | refine blk_alloc ?_ _)); exact BK70017.out)) : gb70017 ≠ gb70041)); have n11_ := Aside0.mk ((by rw [hg]; exact Nat.ne_of_gt (blk_lt (g := gb70017) (o := .cells #[.string t70012, .string t70013, .string t70014, .string t70015] 49 (0, 0)) (by (with_reducible repeat (first | refine blk_drewN ?_ _ | refine blk_drew ?_ | refine blk_alloc ?_ _)); exact BK70017.out)) : gb70041 ≠ gb70017)); have n12_ := Aside0.mk ((by rw [hg]; exact Nat.ne_of_lt (blk_lt (g := gb70028) (o := .cells #[.int .i64 t70023, .string t70024, .int .i64 t70025, .string t70026, .int .i64 t70027] 61 (0, 0)) (by (with_reducible repeat (first | refine blk_drewN ?_ _ | refine blk_drew ?_ | refine blk_alloc ?_ _)); exact BK70028.out)) : gb70028 ≠ gb70041)); have n13_ := Aside0.mk ((by rw [hg]; exact Nat.ne_of_gt (blk_lt (g := gb70028) (o := .cells #[.int .i64 t70023, .string t70024, .int .i64 t70025, .string t70026, .int .i64 t70027] 61 (0, 0)) (by (with_reducible repeat (first | refine blk_drewN ?_ _ | refine blk_drew ?_ | refine blk_alloc ?_ _)); exact BK70028.out)) : gb70041 ≠ gb70028)); have n14_ := Aside0.mk ((by rw [hg]; exact Nat.ne_of_lt (blk_lt (g := gb70034) (o := .cells #[.int .i64 t70029, .string t70030, .int .i64 t70031, .string t70032, .int .i64 t70033] 61 (0, 0)) (by (with_reducible repeat (first | refine blk_drewN ?_ _ | refine blk_drew ?_ | refine blk_alloc ?_ _)); exact BK70034.out)) : gb70034 ≠ gb70041))
                                have n15_ := Aside0.mk ((by rw [hg]; exact Nat.ne_of_gt (blk_lt (g := gb70034) (o := .cells #[.int .i64 t70029, .string t70030, .int .i64 t70031, .string t70032, .int .i64 t70033] 61 (0, 0)) (by (with_reducible repeat (first | refine blk_drewN ?_ _ | refine blk_drew ?_ | refine blk_alloc ?_ _)); exact BK70034.out)) : gb70041 ≠ gb70034)); clear BK70006; clear BK70017; clear BK70028; clear BK70034; clear HB; have BK70006 := n0_; have BK70017 := n1_; have BK70028 := n2_; have BK70034 := n3_; have HB := n4_; have BK70041 := n5_; have GW70041 := n6_; have GE70041 := n7_; have NB70006_70041 := n8_; have NB70041_70006 := n9_; have NB70017_70041 := n10_; have NB70041_70017 := n11_; have NB70028_70041 := n12_; have NB70041_70028 := n13_; have NB70034_70041 := n14_; have NB70041_70034 := n15_; clear n0_ n1_ n2_ n3_ n4_ n5_ n6_ n7_ n8_ n9_ n10_ n11_ n12_ n13_ n14_ n15_; clear hb hbox hg; refine hK.out _ _ trivial (fun hHeld => ?_); clear hK K; refine norm_ (a' := ?_) ?_ ?_; rotate_left
                                ·show Act.put _ (some 18) _ = _; simp only [Act.put, List.setIfInBounds_toArray, List.set_cons_zero, List.set_cons_succ, i64_w, i32_w]; rfl
                                refine one_ (i := 9) (N := some 194) #[true, true, true, true, true, true, true, true, true, true, true, false] rfl rfl (one_of HT_.out (by kernel_rfl)) (by decide) (fun K hK => ?_); refine goes_ Tryd.func35 (by kernel_rfl) rfl #[.string ((((((t70020 ++ t70022) ++ t70008) ++ (⟨#[83]⟩ : ByteArray)).extract 0 ((ji146) : Int).toNat) ++ (⟨#[0]⟩ : ByteArray)) ++ ((((t70020 ++ t70022) ++ t70008) ++ (⟨#[83]⟩ : ByteArray)).extract ((ji150) : Int).toNat (((t70020 ++ t70022) ++ t70008) ++ (⟨#[83]⟩ : ByteArray)).size)), .int .i64 1] (by rfl) rfl rfl (by (try simp only [List.map_toArray, List.map_cons, List.map_nil]); first | done | (simp only [hji146, hji150]; rfl) | rfl | (simp only [List.length_drop, List.length_take]; rfl) | (simp only [ByteArray.size_append]; rfl)) ?_
                                with_reducible refine (impl_ReadRecord.calls ((((((t70020 ++ t70022) ++ t70008) ++ (⟨#[83]⟩ : ByteArray)).extract 0 ((ji146) : Int).toNat) ++ (⟨#[0]⟩ : ByteArray)) ++ ((((t70020 ++ t70022) ++ t70008) ++ (⟨#[83]⟩ : ByteArray)).extract ((ji150) : Int).toNat (((t70020 ++ t70022) ++ t70008) ++ (⟨#[83]⟩ : ByteArray)).size)) 1 t70036 t70037 t70038 t70039 t70040 _ A154.out).mono ?_
                                rintro e w157 ⟨rfl, hb⟩; refine ⟨_, rfl, ?_⟩; have n0_ := Aside0.mk (blk_below (g := gb70006) (o := .cells #[.string t70001, .string t70002, .string t70003, .string t70004] 49 (0, 0)) (by (with_reducible repeat (first | refine blk_drewN ?_ _ | refine blk_drew ?_ | refine blk_alloc ?_ _)); exact BK70006.out) hb); have n1_ := Aside0.mk (blk_below (g := gb70017) (o := .cells #[.string t70012, .string t70013, .string t70014, .string t70015] 49 (0, 0)) (by (with_reducible repeat (first | refine blk_drewN ?_ _ | refine blk_drew ?_ | refine blk_alloc ?_ _)); exact BK70017.out) hb); have n2_ := Aside0.mk (blk_below (g := gb70028) (o := .cells #[.int .i64 t70023, .string t70024, .int .i64 t70025, .string t70026, .int .i64 t70027] 61 (0, 0)) (by (with_reducible repeat (first | refine blk_drewN ?_ _ | refine blk_drew ?_ | refine blk_alloc ?_ _)); exact BK70028.out) hb); have n3_ := Aside0.mk (blk_below (g := gb70034) (o := .cells #[.int .i64 t70029, .string t70030, .int .i64 t70031, .string t70032, .int .i64 t70033] 61 (0, 0)) (by (with_reducible repeat (first | refine blk_drewN ?_ _ | refine blk_drew ?_ | refine blk_alloc ?_ _)); exact BK70034.out) hb); have n4_ := Aside0.mk (blk_below (g := gb70041) (o := .cells #[.int .i64 0, .string (⟨#[]⟩ : ByteArray), .int .i64 0, .string (⟨#[]⟩ : ByteArray), .int .i64 0] 61 (0, 0)) (by (with_reducible repeat (first | refine blk_drewN ?_ _ | refine blk_drew ?_ | refine blk_alloc ?_ _)); exact BK70041.out) hb); have n5_ := Aside0.mk (below_step (by repeat (first | (with_reducible first | exact HB.out | apply below_alloc | apply pw_below_drewN | apply below_drew1 | refine below_set ?_ GE70006.out | refine below_set ?_ GE70017.out | refine below_set ?_ GE70028.out | refine below_set ?_ GE70034.out | refine below_set ?_ GE70041.out) | exact HB.out)) hb); clear BK70006; clear BK70017; clear BK70028; clear BK70034; clear BK70041; clear HB; have BK70006 := n0_; have BK70017 := n1_; have BK70028 := n2_; have BK70034 := n3_; have BK70041 := n4_; have HB := n5_; clear n0_ n1_ n2_ n3_ n4_ n5_; (try clear hb); (try clear hb2); (try clear hk); (try clear hi); refine hK.out _ _ trivial (fun hHeld => ?_); clear hK K; refine norm_ (a' := ?_) ?_ ?_; rotate_left
                                ·show Act.put _ (some 194) _ = _; simp only [Act.put, List.setIfInBounds_toArray, List.set_cons_zero, List.set_cons_succ, i64_w, i32_w]; rfl
                                exact norm_ (by simp only [putAll, Act.put, List.setIfInBounds_toArray, List.set_cons_zero, List.set_cons_succ]) (hCont (gb70041) _ ⟨(by (with_reducible repeat (first | refine blk_drewN ?_ _ | refine blk_drew ?_ | refine blk_alloc ?_ _)); exact BK70006.out), (by (with_reducible repeat (first | refine blk_drewN ?_ _ | refine blk_drew ?_ | refine blk_alloc ?_ _)); exact BK70017.out), (by (with_reducible repeat (first | refine blk_drewN ?_ _ | refine blk_drew ?_ | refine blk_alloc ?_ _)); exact BK70028.out), (by (with_reducible repeat (first | refine blk_drewN ?_ _ | refine blk_drew ?_ | refine blk_alloc ?_ _)); exact BK70034.out), (by (with_reducible repeat (first | refine blk_drewN ?_ _ | refine blk_drew ?_ | refine blk_alloc ?_ _)); exact BK70041.out), GW70041.out, GE70041.out, NB70006_70041.out, NB70041_70006.out, NB70017_70041.out, NB70041_70017.out, NB70028_70041.out, NB70041_70028.out, NB70034_70041.out, NB70041_70034.out, (by repeat (first | (with_reducible first | exact HB.out | apply below_alloc | apply pw_below_drewN | apply below_drew1 | refine below_set ?_ GE70006.out | refine below_set ?_ GE70017.out | refine below_set ?_ GE70028.out | refine below_set ?_ GE70034.out | refine below_set ?_ GE70041.out) | exact HB.out))⟩)
                              rintro gb70041 w158 ⟨h0_, h1_, h2_, h3_, h4_, h5_, h6_, h7_, h8_, h9_, h10_, h11_, h12_, h13_, h14_, h15_⟩; have n0_ : Aside0 (w158.heap[gb70006]? = some (.cells #[.string t70001, .string t70002, .string t70003, .string t70004] 49 (0, 0))) := ⟨h0_⟩
                              have n1_ : Aside0 (w158.heap[gb70017]? = some (.cells #[.string t70012, .string t70013, .string t70014, .string t70015] 49 (0, 0))) := ⟨h1_⟩
                              have n2_ : Aside0 (w158.heap[gb70028]? = some (.cells #[.int .i64 t70023, .string t70024, .int .i64 t70025, .string t70026, .int .i64 t70027] 61 (0, 0))) := ⟨h2_⟩
                              have n3_ : Aside0 (w158.heap[gb70034]? = some (.cells #[.int .i64 t70029, .string t70030, .int .i64 t70031, .string t70032, .int .i64 t70033] 61 (0, 0))) := ⟨h3_⟩
                              have n4_ : Aside0 (w158.heap[gb70041]? = some (.cells #[.int .i64 0, .string (⟨#[]⟩ : ByteArray), .int .i64 0, .string (⟨#[]⟩ : ByteArray), .int .i64 0] 61 (0, 0))) := ⟨h4_⟩
                              have n5_ : Aside0 (w.heap.size ≤ gb70041) := ⟨h5_⟩
                              have n6_ : Aside0 (w.heap.size ≤ gb70041) := ⟨h6_⟩
                              have n7_ : Aside0 (gb70006 ≠ gb70041) := ⟨h7_⟩
                              have n8_ : Aside0 (gb70041 ≠ gb70006) := ⟨h8_⟩
                              have n9_ : Aside0 (gb70017 ≠ gb70041) := ⟨h9_⟩
                              have n10_ : Aside0 (gb70041 ≠ gb70017) := ⟨h10_⟩
                              have n11_ : Aside0 (gb70028 ≠ gb70041) := ⟨h11_⟩
                              have n12_ : Aside0 (gb70041 ≠ gb70028) := ⟨h12_⟩
                              have n13_ : Aside0 (gb70034 ≠ gb70041) := ⟨h13_⟩
                              have n14_ : Aside0 (gb70041 ≠ gb70034) := ⟨h14_⟩
                              have n15_ : Aside0 (Below w.heap.size w w158) := ⟨h15_⟩
                              clear BK70006; clear BK70017; clear BK70028; clear BK70034; clear HB; clear h0_ h1_ h2_ h3_ h4_ h5_ h6_ h7_ h8_ h9_ h10_ h11_ h12_ h13_ h14_ h15_; have BK70006 := n0_; have BK70017 := n1_; have BK70028 := n2_; have BK70034 := n3_; have BK70041 := n4_; have GW70041 := n5_; have GE70041 := n6_; have NB70006_70041 := n7_; have NB70041_70006 := n8_; have NB70017_70041 := n9_; have NB70041_70017 := n10_; have NB70028_70041 := n11_; have NB70041_70028 := n12_; have NB70034_70041 := n13_; have NB70041_70034 := n14_; have HB := n15_; clear n0_ n1_ n2_ n3_ n4_ n5_ n6_ n7_ n8_ n9_ n10_ n11_ n12_ n13_ n14_ n15_; have hHeld := trivial; refine norm_ (a' := ?_) ?_ ?_; rotate_left
                              ·simp only [putAll, Act.put, List.setIfInBounds_toArray, List.set_cons_zero, List.set_cons_succ]; rfl
                              refine one_ (i := 11) (N := none) #[true, true, true, true, true, true, true, true, true, true, true, true] rfl rfl (one_of HT_.out (by kernel_rfl)) (by decide) (fun K hK => ?_); have hs159 : w158.cell? ⟨gb70041, 0, none⟩ = some (.int .i64 0) := (blk_cell BK70041.out 0).trans rfl; have hfs159 := blk_frozen BK70041.out 0; have hns159_0 := NB70006_70041.out; have hns159_1 := NB70017_70041.out; have hns159_2 := NB70028_70041.out; have hns159_3 := NB70034_70041.out; have hms159_0 := NB70041_70006.out; have hms159_1 := NB70041_70017.out; have hms159_2 := NB70041_70028.out; have hms159_3 := NB70041_70034.out; have hs160 : w158.cell? ⟨gb70041, 1, none⟩ = some (.string (⟨#[]⟩ : ByteArray)) := (blk_cell BK70041.out 1).trans rfl; have hfs160 := blk_frozen BK70041.out 1; have hns160_0 := NB70006_70041.out; have hns160_1 := NB70017_70041.out; have hns160_2 := NB70028_70041.out; have hns160_3 := NB70034_70041.out; have hms160_0 := NB70041_70006.out; have hms160_1 := NB70041_70017.out; have hms160_2 := NB70041_70028.out; have hms160_3 := NB70041_70034.out; have hs161 : w158.cell? ⟨gb70041, 2, none⟩ = some (.int .i64 0) := (blk_cell BK70041.out 2).trans rfl; have hfs161 := blk_frozen BK70041.out 2; have hns161_0 := NB70006_70041.out; have hns161_1 := NB70017_70041.out; have hns161_2 := NB70028_70041.out; have hns161_3 := NB70034_70041.out; have hms161_0 := NB70041_70006.out; have hms161_1 := NB70041_70017.out; have hms161_2 := NB70041_70028.out; have hms161_3 := NB70041_70034.out; have hs162 : w158.cell? ⟨gb70041, 3, none⟩ = some (.string (⟨#[]⟩ : ByteArray)) := (blk_cell BK70041.out 3).trans rfl; have hfs162 := blk_frozen BK70041.out 3; have hns162_0 := NB70006_70041.out; have hns162_1 := NB70017_70041.out; have hns162_2 := NB70028_70041.out; have hns162_3 := NB70034_70041.out; have hms162_0 := NB70041_70006.out; have hms162_1 := NB70041_70017.out; have hms162_2 := NB70041_70028.out; have hms162_3 := NB70041_70034.out; have hs163 : w158.cell? ⟨gb70041, 4, none⟩ = some (.int .i64 0) := (blk_cell BK70041.out 4).trans rfl; have hfs163 := blk_frozen BK70041.out 4; have hns163_0 := NB70006_70041.out; have hns163_1 := NB70017_70041.out; have hns163_2 := NB70028_70041.out; have hns163_3 := NB70034_70041.out; have hms163_0 := NB70041_70006.out; have hms163_1 := NB70041_70017.out; have hms163_2 := NB70041_70028.out; have hms163_3 := NB70041_70034.out; refine skip_ (w1 := ?_) (by rfl) rfl ?_ ?_; rotate_left
                              ·go_simp; rfl
                              refine hK.out _ _ trivial (fun hHeld => ?_); clear hK K; refine done_ (done_of HT_.out (by kernel_rfl)) ?_; have hnb164 := NB70041_70006.out; have hnc164 := NB70006_70041.out; have hnb165 := NB70041_70017.out; have hnc165 := NB70017_70041.out; have hnb166 := NB70041_70028.out; have hnc166 := NB70028_70041.out; have hnb167 := NB70041_70034.out; have hnc167 := NB70034_70041.out; have hcz168_0 : w158.cell? ⟨gb70041, 0, none⟩ = some (.int .i64 0) := (blk_cell BK70041.out 0).trans rfl; have hcz168_1 : w158.cell? ⟨gb70041, 1, none⟩ = some (.string (⟨#[]⟩ : ByteArray)) := (blk_cell BK70041.out 1).trans rfl; have hcz168_2 : w158.cell? ⟨gb70041, 2, none⟩ = some (.int .i64 0) := (blk_cell BK70041.out 2).trans rfl; have hcz168_3 : w158.cell? ⟨gb70041, 3, none⟩ = some (.string (⟨#[]⟩ : ByteArray)) := (blk_cell BK70041.out 3).trans rfl; have hcz168_4 : w158.cell? ⟨gb70041, 4, none⟩ = some (.int .i64 0) := (blk_cell BK70041.out 4).trans rfl; have hfz168_0 := blk_frozen BK70041.out 0; have hfz168_1 := blk_frozen BK70041.out 1; have hfz168_2 := blk_frozen BK70041.out 2; have hfz168_3 := blk_frozen BK70041.out 3; have hfz168_4 := blk_frozen BK70041.out 4
                              try go_wp2
                              go_ret
                              exact ⟨by first | rfl | (simp [errW_none, errW_some] <;> rfl) | (simp only [← hji146, ← hji150]; first | rfl | (simp [errW_none, errW_some] <;> rfl)) | (simp [*, errW_none, errW_some] <;> rfl), by repeat (first | (with_reducible first | exact HB.out | apply below_alloc | apply pw_below_drewN | apply below_drew1 | refine below_set ?_ GE70006.out | refine below_set ?_ GE70017.out | refine below_set ?_ GE70028.out | refine below_set ?_ GE70034.out | refine below_set ?_ GE70041.out) | exact HB.out)⟩
                              all_goals (rename_i hh_; rw [c152b5] at hh_; exact hh_.elim)
                             ·rw [if_neg c153] at H; exact absurd H (by simp)
                            ·rw [if_neg c152] at H; exact absurd H (by simp)
                           ·rw [if_neg c151] at H; exact absurd H (by simp)
                          ·rw [if_neg c149] at H; exact absurd H (by simp)
                         ·rw [if_neg c148] at H; exact absurd H (by simp)
                        ·rw [if_neg c147] at H; exact absurd H (by simp)
                ·rw [if_neg c88] at H; exact absurd H (by simp)
               ·rw [if_neg c87] at H; exact absurd H (by simp)
              ·rw [if_neg c86] at H; exact absurd H (by simp)
         ·rw [if_neg c65] at H; exact absurd H (by simp)
        ·rw [if_neg c63] at H; exact absurd H (by simp)
end Go.Proofs.YtonbmghgbblifaaDoor.Z
end
section
namespace Go.Proofs.YtonbmghgbblifaaDoor.Z
open Go.RowKit Go.Proofs.YtonbmghgbblifaaDoor Go.Proofs.YtonbmghgbblifaaDoorW.PrintWords Go.Proofs.YtonbmghgbblifaaDoorW.PrintLast
theorem wrapN (n : Nat) (h : n < 9223372036854775808) : IntKind.i64.wrap (n : Int) = n := by
 simp [IntKind.wrap, IntKind.bits, IntKind.signed]; omega
end Go.Proofs.YtonbmghgbblifaaDoor.Z
end
section
namespace Go.Proofs.YtonbmghgbblifaaDoor.Z
open Go.RowKit Go.Proofs.YtonbmghgbblifaaDoor Go.Proofs.YtonbmghgbblifaaDoorW.PrintWords Go.Proofs.YtonbmghgbblifaaDoorW.PrintLast
set_option linter.unusedVariables false
set_option linter.unusedSimpArgs false
theorem xor_nn (x y : Nat) (hx : x < 1099511627776) (hy : y < 1099511627776) : 0 ≤ Go.bits .xor .i64 (x : Int) (y : Int) := by
 unfold Go.bits; have h1 : (BitVec.ofInt (IntKind.i64).bits (x : Int) ^^^ BitVec.ofInt (IntKind.i64).bits (y : Int)).toNat = x ^^^ y := by
  rw [BitVec.toNat_xor, BitVec.ofInt_natCast, BitVec.ofInt_natCast, BitVec.toNat_ofNat, BitVec.toNat_ofNat]; rw [Nat.mod_eq_of_lt (show x < 2 ^ (IntKind.i64).bits from Nat.lt_trans hx (by decide)), Nat.mod_eq_of_lt (show y < 2 ^ (IntKind.i64).bits from Nat.lt_trans hy (by decide))]
 have h2 : x ^^^ y < 2 ^ 40 := Nat.xor_lt_two_pow (n := 40) hx hy; dsimp only; rw [h1, wrapN _ (by omega)]; omega
def Code (L : List Int) : Prop := L.length ≤ 1048576 ∧ ∀ x ∈ L, 0 ≤ x ∧ x < 256
theorem code_rd {L : List Int} (h : Code L) (i : Int) : 0 ≤ rd L i ∧ rd L i < 256 := by
 unfold rd; rw [List.getD_eq_getElem?_getD]
 cases hg : L[i.toNat]? with
 | none => exact ⟨Int.le_refl _, by decide⟩
 | some x => exact h.2 x (List.mem_of_getElem? hg)
theorem w64D {x : Int} (h0 : -9223372036854775808 ≤ x) (h1 : x ≤ 9223372036854775807) : wrap64 x = x := by unfold wrap64; omega
theorem l1Take_x (a b p q : Int) (ha : 0 ≤ a ∧ a < 256) (hb : 0 ≤ b ∧ b < 256) (hp : 0 ≤ p ∧ p ≤ 100000000) (hq : 0 ≤ q ∧ q ≤ 100000000) :
  0 ≤ Go.bits .xor .i64 (wrap64 ((wrap64 ((wrap64 ((wrap64 ((wrap64 a) * 131)) + (wrap64 ((wrap64 b) * 1117)))) + (wrap64 (p * 29)))) + (wrap64 ((wrap64 q) * 53)))) (wrap64 (Int.tdiv (wrap64 ((wrap64 ((wrap64 ((wrap64 ((wrap64 a) * 131)) + (wrap64 ((wrap64 b) * 1117)))) + (wrap64 (p * 29)))) + (wrap64 ((wrap64 q) * 53)))) 64)) := by
 rw [w64D (x := a) (by omega) (by omega), w64D (x := b) (by omega) (by omega), w64D (x := a * 131) (by omega) (by omega), w64D (x := b * 1117) (by omega) (by omega), w64D (x := a * 131 + b * 1117) (by omega) (by omega), w64D (x := p * 29) (by omega) (by omega), w64D (x := a * 131 + b * 1117 + p * 29) (by omega) (by omega), w64D (x := q) (by omega) (by omega), w64D (x := q * 53) (by omega) (by omega), w64D (x := a * 131 + b * 1117 + p * 29 + q * 53) (by omega) (by omega)]; obtain ⟨n, hn⟩ := Int.eq_ofNat_of_zero_le (show 0 ≤ a * 131 + b * 1117 + p * 29 + q * 53 by omega); rw [hn]; have h1 : Int.tdiv (n : Int) 64 = ((n / 64 : Nat) : Int) := rfl; rw [h1, w64D (x := ((n / 64 : Nat) : Int)) (by omega) (by omega)]; exact xor_nn n (n / 64) (by omega) (by omega)
theorem tmod_in (x n : Int) (hx : 0 ≤ x) (hn : 1 ≤ n) : 0 ≤ Int.tmod x n ∧ Int.tmod x n < n := ⟨Int.tmod_nonneg _ hx, Int.tmod_lt_of_pos _ (by omega)⟩
theorem l1Take_s {L : List Int} (h : Code L) (p n : Int) (hp : 0 ≤ p ∧ p ≤ 100000000) (k : Nat) (hk : 1 ≤ k) : ∃ a, spec_l1Take.f k L p n = some (a, p + 1) ∧ 0 ≤ a ∧ (a < n ∨ a = 0) := by
 obtain ⟨k, rfl⟩ : ∃ j, k = j + 1 := ⟨k - 1, by omega⟩
 have hw : wrap64 (p + 1) = p + 1 := w64D (by omega) (by omega); unfold spec_l1Take.f
 by_cases h1 : n < 1
 ·rw [if_pos h1, spec_l1Take.j0, if_pos rfl, hw]; exact ⟨0, rfl, Int.le_refl _, .inr rfl⟩
 rw [if_neg h1]
 by_cases h2 : (L.length : Int) = 0
 ·rw [show ((L.length : Int) == 0) = true from beq_iff_eq.2 h2, spec_l1Take.j0, if_pos rfl, hw]; exact ⟨0, rfl, Int.le_refl _, .inr rfl⟩
 have hL := h.1; rw [show ((L.length : Int) == 0) = false from beq_eq_false_iff_ne.2 h2, spec_l1Take.j0, if_neg (by decide)]; have m1 := tmod_in p (L.length : Int) hp.1 (by omega); have hw7 : wrap64 ((wrap64 (p * 7)) + 3) = p * 7 + 3 := by rw [w64D (x := p * 7) (by omega) (by omega), w64D (by omega) (by omega)]
 have m2 := tmod_in (p * 7 + 3) (L.length : Int) (by omega) (by omega); have hq : 0 ≤ Int.tdiv p (L.length : Int) ∧ Int.tdiv p (L.length : Int) ≤ 100000000 := ⟨Int.tdiv_nonneg hp.1 (by omega), Int.le_trans (Int.tdiv_le_self _ hp.1) hp.2⟩
 have hx := l1Take_x _ _ p _ (code_rd h (Int.tmod p (L.length : Int))) (code_rd h (Int.tmod (p * 7 + 3) (L.length : Int))) hp hq; rw [hw7, hw]; have big : ∃ a : Int, (if (L.length : Int) = 0 then (none : Option (Int × Int)) else (if 0 ≤ (Int.tmod p (L.length : Int)) then (if (Int.tmod p (L.length : Int)) < (L.length : Int) then (if 0 ≤ (Int.tmod (p * 7 + 3) (L.length : Int)) then (if (Int.tmod (p * 7 + 3) (L.length : Int)) < (L.length : Int) then (if n = 0 then none else some (Int.tmod (Go.bits .xor .i64 (wrap64 ((wrap64 ((wrap64 ((wrap64 ((wrap64 (rd L (Int.tmod p (L.length : Int)))) * 131)) + (wrap64 ((wrap64 (rd L (Int.tmod (p * 7 + 3) (L.length : Int)))) * 1117)))) + (wrap64 (p * 29)))) + (wrap64 ((wrap64 (Int.tdiv p (L.length : Int))) * 53)))) (wrap64 (Int.tdiv (wrap64 ((wrap64 ((wrap64 ((wrap64 ((wrap64 (rd L (Int.tmod p (L.length : Int)))) * 131)) + (wrap64 ((wrap64 (rd L (Int.tmod (p * 7 + 3) (L.length : Int)))) * 1117)))) + (wrap64 (p * 29)))) + (wrap64 ((wrap64 (Int.tdiv p (L.length : Int))) * 53)))) 64))) n, p + 1)) else none) else none) else none) else none)) = some (a, p + 1) ∧ 0 ≤ a ∧ (a < n ∨ a = 0) := by
  rw [if_neg h2, if_pos m1.1, if_pos m1.2, if_pos m2.1, if_pos m2.2, if_neg (by omega)]; have m3 := tmod_in _ n hx (by omega); exact ⟨_, rfl, m3.1, .inl m3.2⟩
 by_cases h3 : p < (L.length : Int)
 ·rw [if_pos h3]
  by_cases h4 : n ≤ 256
  ·have hr := code_rd h p; have m3 := tmod_in (rd L p) n hr.1 (by omega); rw [if_pos h4, if_pos hp.1, if_neg (by omega), w64D (x := rd L p) (by omega) (by omega)]; exact ⟨_, rfl, m3.1, .inl m3.2⟩
  ·rw [if_neg h4]; exact big
 ·rw [if_neg h3]; exact big
theorem l1DrawKey_s {L : List Int} (h : Code L) (p : Int) (hp : 0 ≤ p ∧ p ≤ 100000000) (k : Nat) (hk : 1 ≤ k) : ∃ s, spec_l1DrawKey.f k L p = some (s, p + 1) ∧ s.size ≤ 70 := by
 obtain ⟨a, ha, h0, h1⟩ := l1Take_s h p 24 hp k hk; unfold spec_l1DrawKey.f; rw [ha, Option.bind_some]; dsimp only
 by_cases h2 : a < 20
 ·rw [if_pos h2, if_pos h0, w64D (x := a + 1) (by omega) (by omega), if_pos (by omega), if_pos (by omega)]; exact ⟨_, rfl, by rw [ByteArray.size_extract]; show min _ 20 - _ ≤ _; omega⟩
 rw [if_neg h2]
 by_cases h3 : a = 20
 ·rw [if_pos h3]; exact ⟨_, rfl, by decide⟩
 rw [if_neg h3]
 by_cases h4 : a = 21
 ·rw [if_pos h4]; exact ⟨_, rfl, by decide⟩
 rw [if_neg h4]
 by_cases h5 : a = 22
 ·rw [if_pos h5]; exact ⟨_, rfl, by decide⟩
 rw [if_neg h5]; exact ⟨_, rfl, Nat.le_of_eq (rep_size 70 _)⟩
end Go.Proofs.YtonbmghgbblifaaDoor.Z
end
section
namespace Go.Proofs.YtonbmghgbblifaaDoor.Z
open Go.RowKit Go.Proofs.YtonbmghgbblifaaDoor Go.Proofs.YtonbmghgbblifaaDoorW.PrintWords Go.Proofs.YtonbmghgbblifaaDoorW.PrintLast
set_option linter.unusedVariables false
set_option linter.unusedSimpArgs false
theorem w64c {x : Int} (h0 : -9223372036854775808 ≤ x) (h1 : x ≤ 9223372036854775807) : wrap64 x = x := by unfold wrap64; omega
theorem ba_ext {a b : ByteArray} (h : a.data.toList = b.data.toList) : a = b := ByteArray.ext (Array.toList_inj.mp h)
theorem ba_app (a b : ByteArray) : (a ++ b).data.toList = a.data.toList ++ b.data.toList := by simp [ByteArray.data_append]
theorem ba_len (a : ByteArray) : a.data.toList.length = a.size := rfl
theorem ba_mk (l : List UInt8) : (⟨l.toArray⟩ : ByteArray).data.toList = l := by simp
theorem l2Marked_loop (s A B : ByteArray) (hs : s.size ≤ 1048576) (hA : A.size ≤ 1) (hB : B.size ≤ 1) : ∀ (d m k : Nat) (out : ByteArray), nSec s.size = m + d → d < k →
  out.data.toList = secs s.data.toList A.data.toList B.data.toList m →
  ∃ r, spec_l2Marked.l0 k s A B out ((63 * m : Nat) : Int) = some r ∧ r.data.toList = secs s.data.toList A.data.toList B.data.toList (nSec s.size) := by
 intro d
 induction d with
 | zero =>
  intro m k out hn hk ho; obtain ⟨k, rfl⟩ : ∃ j, k = j + 1 := ⟨k - 1, by omega⟩
  refine ⟨out, ?_, by rw [hn]; exact ho⟩; simp only [spec_l2Marked.l0]; rw [if_neg (by unfold nSec at hn; omega)]
 | succ d ih =>
  intro m k out hn hk ho; obtain ⟨k, rfl⟩ : ∃ j, k = j + 1 := ⟨k - 1, by omega⟩
  have hlt : 63 * m < s.size := by unfold nSec at hn; omega
  have hol : out.size ≤ 64 * m := by
   have := secs_length s.data.toList A.data.toList B.data.toList hA hB m; rw [← ho] at this; exact this
  -- one round, whatever the part is
  have step : ∀ (part : ByteArray), part.data.toList = chunk s.data.toList m ++ List.replicate (63 - (chunk s.data.toList m).length) 0 → ∀ (M : ByteArray), M.data.toList = (if m = 0 then A.data.toList else B.data.toList) →
    ∃ r, spec_l2Marked.l0 k s A B (out ++ part ++ M) ((63 * (m + 1) : Nat) : Int) = some r ∧ r.data.toList = secs s.data.toList A.data.toList B.data.toList (nSec s.size) := by
   intro part hp M hM; refine ih (m + 1) k _ (by omega) (by omega) ?_; rw [ba_app, ba_app, ho, hp, hM, secs, secOne]; simp only [List.append_assoc]
  have hcl : (chunk s.data.toList m).length = min 63 (s.size - 63 * m) := chunk_length _ _; have hw : wrap64 (((63 * m : Nat) : Int) + 63) = ((63 * (m + 1) : Nat) : Int) := by rw [w64c (by omega) (by omega)]; omega
  have eM : ((63 * m : Nat) : Int) = 0 ↔ m = 0 := by omega
  simp only [spec_l2Marked.l0]; rw [if_pos (by omega), hw]; have t1 : (((63 * m : Nat) : Int)).toNat = 63 * m := by omega
  have t2 : (((63 * (m + 1) : Nat) : Int)).toNat = 63 * (m + 1) := by omega
  rw [t1, t2]
  by_cases hf : 63 * (m + 1) ≤ s.size
  ·rw [if_pos (by omega), if_pos (by omega), if_pos (by omega)]; have hpart : (s.extract (63 * m) (63 * (m + 1))).data.toList = chunk s.data.toList m ++ List.replicate (63 - (chunk s.data.toList m).length) 0 := by
    rw [hcl, show min 63 (s.size - 63 * m) = 63 by omega, ext_chunk s m _ (by omega)]; simp
   have hps : (s.extract (63 * m) (63 * (m + 1))).size = 63 := by rw [ByteArray.size_extract]; omega
   by_cases h0 : m = 0
   ·rw [if_pos (eM.2 h0), if_pos (by rw [hps]; omega), if_pos (by rw [ByteArray.size_append, hps]; omega)]; exact step _ hpart A (by rw [if_pos h0])
   ·rw [if_neg (fun h => h0 (eM.1 h)), if_pos (by rw [hps]; omega), if_pos (by rw [ByteArray.size_append, hps]; omega)]; exact step _ hpart B (by rw [if_neg h0])
  ·rw [if_neg (by omega), if_pos (by omega), if_pos (by omega)]; have hg : wrap64 (((63 * (m + 1) : Nat) : Int) - (s.size : Int)) = ((63 * (m + 1) - s.size : Nat) : Int) := by rw [w64c (by omega) (by omega)]; omega
   have hlong : spec_l1Long.f (wrap64 (((63 * (m + 1) : Nat) : Int) - (s.size : Int))) (⟨#[0]⟩ : ByteArray) = some (rep (63 * (m + 1) - s.size) 0) := by
    rw [hg]; unfold spec_l1Long.f; rw [if_pos ⟨by omega, by omega, rfl⟩, Int.toNat_natCast]; rfl
   rw [hlong]; simp only [Option.bind_some]; have hps : (s.extract (63 * m) s.size).size = s.size - 63 * m := by rw [ByteArray.size_extract]; omega
   have hpart : (s.extract (63 * m) s.size ++ rep (63 * (m + 1) - s.size) 0).data.toList = chunk s.data.toList m ++ List.replicate (63 - (chunk s.data.toList m).length) 0 := by
    have hz : 63 - min 63 (s.size - 63 * m) = 63 * (m + 1) - s.size := by omega
    rw [ba_app, ext_chunk s m _ (by omega), hcl, hz]; unfold rep; rw [ba_mk]
   have hpz : (s.extract (63 * m) s.size ++ rep (63 * (m + 1) - s.size) 0).size = 63 := by rw [ByteArray.size_append, hps, rep_size]; omega
   rw [if_pos (by rw [hps, rep_size]; omega)]
   by_cases h0 : m = 0
   ·rw [if_pos (eM.2 h0), if_pos (by rw [hpz]; omega), if_pos (by rw [ByteArray.size_append, hpz]; omega)]; exact step _ hpart A (by rw [if_pos h0])
   ·rw [if_neg (fun h => h0 (eM.1 h)), if_pos (by rw [hpz]; omega), if_pos (by rw [ByteArray.size_append, hpz]; omega)]; exact step _ hpart B (by rw [if_neg h0])
theorem l2Marked_f (s A B : ByteArray) (hs : s.size ≤ 1048576) (hA : A.size ≤ 1) (hB : B.size ≤ 1) (k : Nat) (hk : nSec s.size < k) :
  spec_l2Marked.f k s A B = some ⟨(secs s.data.toList A.data.toList B.data.toList (nSec s.size)).toArray⟩ := by
 obtain ⟨r, h1, h2⟩ := l2Marked_loop s A B hs hA hB (nSec s.size) 0 k ⟨#[]⟩ (by omega) hk rfl; unfold spec_l2Marked.f; refine h1.trans (congrArg some (ba_ext ?_)); rw [h2, ba_mk]
theorem l2Byte_f (n : Nat) : spec_l2Byte.f (n : Int) = some ⟨#[UInt8.ofNat n]⟩ := by
 unfold spec_l2Byte.f; have h : ((n : Int) % 256).toNat = n % 256 := by omega
 simp only [strOfNums, List.map_cons, List.map_nil, h]
 congr 4
 apply UInt8.toNat_inj.mp
 rw [UInt8.toNat_ofNat', UInt8.toNat_ofNat']; omega
theorem four_step (n q : Nat) (hn : n < 4294967296) (hq : 0 < q) (hq2 : q ≤ 16777216) : Int.tmod (wrap64 (Int.tdiv (n : Int) (q : Int))) 256 = (((n / q) % 256 : Nat) : Int) := by
 have h1 : Int.tdiv (n : Int) (q : Int) = ((n / q : Nat) : Int) := by rw [Int.tdiv_eq_ediv_of_nonneg (by omega)]; rfl
 have h2 : n / q ≤ n := Nat.div_le_self n q; rw [h1]; generalize n / q = c at *; rw [w64c (by omega) (by omega), Int.tmod_eq_emod_of_nonneg (by omega)]; omega
theorem ofNat_mod (n : Nat) : UInt8.ofNat (n % 256) = UInt8.ofNat n := by
 apply UInt8.toNat_inj.mp
 rw [UInt8.toNat_ofNat', UInt8.toNat_ofNat']; omega
theorem l2Four_f (n : Nat) (hn : n < 4294967296) : spec_l2Four.f (n : Int) = some ⟨(numL n 4 true 4).toArray⟩ := by
 unfold spec_l2Four.f; have e1 : Int.tmod (n : Int) 256 = ((n % 256 : Nat) : Int) := by rw [Int.tmod_eq_emod_of_nonneg (by omega)]; rfl
 have e2 := four_step n 256 hn (by omega) (by omega); have e3 := four_step n 65536 hn (by omega) (by omega); have e4 := four_step n 16777216 hn (by omega) (by omega); rw [e1, show (256 : Int) = ((256 : Nat) : Int) from rfl] at *; rw [e2, show (65536 : Int) = ((65536 : Nat) : Int) from rfl, e3, show (16777216 : Int) = ((16777216 : Nat) : Int) from rfl, e4]; simp only [l2Byte_f, Option.bind_some]; rw [if_pos (by show 1 + 1 ≤ _; omega), if_pos (by show 2 + 1 ≤ _; omega), if_pos (by show 3 + 1 ≤ _; omega)]; rw [ofNat_mod, ofNat_mod, ofNat_mod, ofNat_mod]; refine congrArg some (ba_ext ?_); rw [ba_mk]; simp [numL, numByte, List.range_succ]
theorem secs_first (l a b c : List UInt8) : secs l a b 1 = secs l a c 1 := by simp [secs, secOne]
theorem spec_CommitRecord_f (a0 : Int) (a1 : ByteArray) (k : Nat) (hk : 1000 < k) : spec_CommitRecord.f k a0 a1 = some (commitRecV a0 a1) := by
 unfold spec_CommitRecord.f; obtain ⟨k, rfl⟩ : ∃ j, k = j + 1 := ⟨k - 1, by omega⟩
 by_cases h0 : a0 < 1
 ·rw [if_pos h0, commitRecV_no (by omega)]; simp only [spec_CommitRecord.j0]; rfl
 ·rw [if_neg h0]
  by_cases h2 : a0 > 1000000
  ·rw [if_pos h2, commitRecV_no (by omega)]; simp only [spec_CommitRecord.j0]; rfl
  ·rw [if_neg h2]
   by_cases h1 : (a1.size : Int) > 32
   ·rw [decide_eq_true h1, commitRecV_no (by omega)]; simp only [spec_CommitRecord.j0]; rfl
   ·rw [decide_eq_false h1, commitRecV_yes (by omega)]; obtain ⟨n, rfl⟩ := Int.eq_ofNat_of_zero_le (show 0 ≤ a0 by omega); rw [Int.toNat_natCast]; simp only [spec_CommitRecord.j0]; rw [if_neg (by decide), l2Four_f _ (by omega), l2Byte_f]; simp only [Option.bind_some]; have hz : (⟨(numL n 4 true 4).toArray⟩ : ByteArray).size = 4 := by rw [arr_size, numL_length]
    have hy : (⟨#[UInt8.ofNat a1.size]⟩ : ByteArray).size = 1 := rfl; have hs : ((⟨(numL n 4 true 4).toArray⟩ : ByteArray) ++ (⟨#[UInt8.ofNat a1.size]⟩ : ByteArray) ++ a1).size = 5 + a1.size := by rw [ByteArray.size_append, ByteArray.size_append, hz, hy]
    have hl : ((⟨(numL n 4 true 4).toArray⟩ : ByteArray) ++ (⟨#[UInt8.ofNat a1.size]⟩ : ByteArray) ++ a1).data.toList = commitRecL n a1 := by
     rw [ba_app, ba_app, ba_mk, commitRecL]
     congr 2
     simp [numL, numByte]
    have hn : nSec (5 + a1.size) = 1 := by unfold nSec; omega
    rw [if_pos (by rw [hz, hy]; omega), if_pos (by rw [ByteArray.size_append, hz, hy]; omega)]; rw [l2Marked_f _ _ _ (by omega) (by decide) (by decide) k (by rw [hs]; unfold nSec; omega), hl, hs, hn]; simp only [Option.bind_some]; unfold commitRec; rw [← hl, ba_len, hs, hn]; refine congrArg some (ba_ext ?_); rw [ba_mk, ba_mk]; exact secs_first _ _ _ _
end Go.Proofs.YtonbmghgbblifaaDoor.Z
end
section
namespace Go.Proofs.YtonbmghgbblifaaDoor.Z
open Go.RowKit Go.Proofs.YtonbmghgbblifaaDoor Go.Proofs.YtonbmghgbblifaaDoorW.PrintWords Go.Proofs.YtonbmghgbblifaaDoorW.PrintLast
set_option linter.unusedVariables false
set_option linter.unusedSimpArgs false
theorem l1Width_f (n : Int) : spec_l1Width.f n = some (widB n) := by
 unfold spec_l1Width.f widB
 by_cases h : n ≥ 1
 ·rw [if_pos h]; congr 1; simp; omega
 ·rw [if_neg h]; congr 1; simp; omega
theorem spec_Digest_f (a0 : ByteArray) (a1 : Int) (ha : a0.size ≤ 4294967296) (k : Nat) (hk : a0.size + 100 < k) : spec_Digest.f k a0 a1 = some (digV a0 a1) := by
 unfold spec_Digest.f; rw [l1Width_f]; simp only [Option.bind_some]
 by_cases hw : widB a1 = true
 ·have hr : 1 ≤ a1 ∧ a1 ≤ 32 := by unfold widB at hw; exact of_decide_eq_true hw
  rw [if_pos hw, digV_yes hw, spec_Sha256_f a0 ha k hk]; simp only [Option.bind_some]; rw [if_pos (by omega), if_pos (by rw [shaV_size]; omega)]
 ·rw [if_neg hw, digV_no (Bool.eq_false_iff.2 hw)]
theorem toList_inj {a b : ByteArray} : a.toList = b.toList ↔ a = b := by
 rw [ByteArray.toList_eq, ByteArray.toList_eq]; exact ⟨fun h => ByteArray.ext (Array.toList_inj.mp h), fun h => by rw [h]⟩
end Go.Proofs.YtonbmghgbblifaaDoor.Z
end
section
namespace Go.Proofs.YtonbmghgbblifaaDoor.Z
open Go.RowKit Go.Proofs.YtonbmghgbblifaaDoor Go.Proofs.YtonbmghgbblifaaDoorW.PrintWords Go.Proofs.YtonbmghgbblifaaDoorW.PrintLast
set_option linter.unusedVariables false
set_option linter.unusedSimpArgs false
theorem l1Long_s (n : Int) (c : UInt8) (h0 : 0 ≤ n) (h1 : n ≤ 1000000) : ∃ s, spec_l1Long.f n ⟨#[c]⟩ = some s ∧ (s.size : Int) = n := by
 unfold spec_l1Long.f; rw [if_pos ⟨h0, by omega, rfl⟩]; exact ⟨_, rfl, by rw [rep_size]; omega⟩
theorem l2Byte_s (x : Int) : ∃ s, spec_l2Byte.f x = some s ∧ s.size = 1 := ⟨_, rfl, rfl⟩
theorem commitRecV_size (a : Int) (r : ByteArray) : (commitRecV a r).size ≤ 64 := by
 unfold commitRecV
 split
 ·rename_i h
  unfold comOk at h; rw [decide_eq_true_eq] at h; unfold commitRec; rw [arr_size]; have hl : (commitRecL a.toNat r).length = 5 + r.size := by unfold commitRecL; rw [List.length_append, List.length_append, numL_length, numL_length, ba_len]
  have := secs_length (commitRecL a.toNat r) [67] [67] (by simp) (by simp) (nSec (commitRecL a.toNat r).length); have h2 : nSec (commitRecL a.toNat r).length = 1 := by rw [hl]; unfold nSec; omega
  rw [h2] at this ⊢; omega
 ·exact Nat.zero_le _
theorem digV_le (s : ByteArray) (n : Int) : (digV s n).size ≤ 32 := by
 unfold digV
 split
 ·rw [ByteArray.size_extract, shaV_size]; omega
 ·exact Nat.zero_le _
theorem l2DrawWidth_s {L : List Int} (h : Code L) (p : Int) (hp : 0 ≤ p ∧ p ≤ 100000000) (k : Nat) (hk : 1 ≤ k) : ∃ w, spec_l2DrawWidth.f k L p = some (w, p + 1) ∧ 0 ≤ w ∧ w ≤ 32 := by
 obtain ⟨a, ha, h0, h1⟩ := l1Take_s h p 10 hp k hk; unfold spec_l2DrawWidth.f; rw [ha, Option.bind_some]; dsimp only
 by_cases h3 : a < 3
 ·rw [if_pos h3]; exact ⟨_, rfl, by omega, by omega⟩
 by_cases h5 : a < 5
 ·rw [if_neg h3, if_pos h5]; exact ⟨_, rfl, by omega, by omega⟩
 by_cases h7 : a < 7
 ·rw [if_neg h3, if_neg h5, if_pos h7]; exact ⟨_, rfl, by omega, by omega⟩
 ·rw [if_neg h3, if_neg h5, if_neg h7]; exact ⟨_, rfl, by omega, by omega⟩
theorem ba_sz (a b : ByteArray) : (a ++ b).size = a.size + b.size := ByteArray.size_append
theorem l2DrawVal_s {L : List Int} (h : Code L) (p : Int) (hp : 0 ≤ p ∧ p ≤ 90000000) (k : Nat) (hk : 1000 < k) : ∃ s, spec_l2DrawVal.f k L p = some (s, p + 2) ∧ s.size ≤ 240 := by
 obtain ⟨a, ha, h0, h1⟩ := l1Take_s h p 16 (by omega) k (by omega); obtain ⟨b, hb, b0, b1⟩ := l1Take_s h (p + 1) 120 (by omega) k (by omega); unfold spec_l2DrawVal.f; rw [ha, Option.bind_some]; dsimp only; rw [hb, Option.bind_some]; dsimp only; rw [show p + 1 + 1 = p + 2 by omega]
 by_cases h2 : a < 2
 ·rw [if_pos h2]; exact ⟨_, rfl, by decide⟩
 rw [if_neg h2]
 by_cases h14 : a = 14
 ·obtain ⟨s, hs, hz⟩ := l1Long_s (wrap64 (b * 2)) 118 (by rw [w64D (by omega) (by omega)]; omega) (by rw [w64D (by omega) (by omega)]; omega); rw [w64D (x := b * 2) (by omega) (by omega)] at hs hz; rw [if_pos h14, w64D (x := b * 2) (by omega) (by omega), hs, Option.bind_some]; exact ⟨_, rfl, by omega⟩
 rw [if_neg h14]
 by_cases h15 : a = 15
 ·have m63 := tmod_in b 63 b0 (by omega); obtain ⟨s, hs, hz⟩ := l1Long_s (Int.tmod b 63) 0 m63.1 (by omega); obtain ⟨s1, hs1, hz1⟩ := l1Long_s 1 114 (by omega) (by omega); have c1 := commitRecV_size (wrap64 (Int.tmod b 4 + 1)) ⟨#[]⟩; have c2 := commitRecV_size (wrap64 (Int.tmod b 3 + 1)) s1; rw [if_pos h15, hs, Option.bind_some, spec_CommitRecord_f _ _ k hk, Option.bind_some, if_pos (by omega), hs1, Option.bind_some, spec_CommitRecord_f _ _ k hk, Option.bind_some, if_pos (by rw [ba_sz]; omega)]; exact ⟨_, rfl, by rw [ba_sz, ba_sz]; omega⟩
 rw [if_neg h15]; obtain ⟨s, hs, hz⟩ := l2Byte_s (wrap64 (48 + Int.tmod b 10)); obtain ⟨s1, hs1, hz1⟩ := l2Byte_s (wrap64 (48 + wrap64 (Int.tdiv b 10))); rw [hs, Option.bind_some, if_pos (by omega), hs1, Option.bind_some, if_pos (by rw [ba_sz]; show 1 + _ + _ ≤ _; omega)]; exact ⟨_, rfl, by rw [ba_sz, ba_sz]; show 1 + _ + _ ≤ _; omega⟩
theorem l2DrawHash_s {L : List Int} (h : Code L) (p : Int) (hp : 0 ≤ p ∧ p ≤ 100000000) (w : Int) (k : Nat) (hk : 1000 < k) : ∃ s, spec_l2DrawHash.f k L p w = some (s, p + 1) ∧ s.size ≤ 32 := by
 obtain ⟨a, ha, h0, h1⟩ := l1Take_s h p 64 (by omega) k (by omega); unfold spec_l2DrawHash.f; rw [ha, Option.bind_some]; dsimp only
 by_cases h2 : a < 20
 ·rw [if_pos h2]; exact ⟨_, rfl, by decide⟩
 obtain ⟨s, hs, hz⟩ := l2Byte_s a; rw [if_neg h2, hs, Option.bind_some, spec_Digest_f s w (by omega) k (by omega), Option.bind_some]; exact ⟨_, rfl, digV_le _ _⟩
theorem l2DrawNode_s {L : List Int} (h : Code L) (p : Int) (hp : 0 ≤ p ∧ p ≤ 80000000) (w : Int) (k : Nat) (hk : 2000 < k) : ∃ a b c d q, spec_l2DrawNode.f k L p w = some (a, b, c, d, q) ∧ p ≤ q ∧ q ≤ p + 6 := by
 obtain ⟨x, hx, h0, h1⟩ := l1Take_s h p 18 (by omega) k (by omega); obtain ⟨key, hkey, _⟩ := l1DrawKey_s h (p + 1) (by omega) k (by omega); obtain ⟨val, hval, _⟩ := l2DrawVal_s h (p + 1 + 1) (by omega) k (by omega); obtain ⟨l, hl, hlz⟩ := l2DrawHash_s h (p + 1 + 1 + 2) (by omega) w k (by omega); obtain ⟨r, hr, _⟩ := l2DrawHash_s h (p + 1 + 1 + 2 + 1) (by omega) w k (by omega); unfold spec_l2DrawNode.f; rw [hx, Option.bind_some]; dsimp only; rw [hkey, Option.bind_some]; dsimp only; rw [hval, Option.bind_some]; dsimp only; rw [hl, Option.bind_some]; dsimp only; rw [hr, Option.bind_some]; dsimp only; have m2 := tmod_in (p + 1 + 1 + 2 + 1 + 1) 2 (by omega) (by omega); have hj : ∀ K : ByteArray, ∃ a b c d q, spec_l2DrawNode.j0 k x (p + 1 + 1 + 2 + 1 + 1) K val l r = some (a, b, c, d, q) ∧ p ≤ q ∧ q ≤ p + 6 := by
  intro K; obtain ⟨k, rfl⟩ : ∃ j, k = j + 1 := ⟨k - 1, by omega⟩
  rw [spec_l2DrawNode.j0]
  by_cases h16 : x = 16
  ·obtain ⟨s, hs, hz⟩ := l1Long_s (wrap64 (2000 + Int.tmod (p + 1 + 1 + 2 + 1 + 1) 2)) 118 (by rw [w64D (by omega) (by omega)]; omega) (by rw [w64D (by omega) (by omega)]; omega); rw [if_pos h16, hs, Option.bind_some, if_neg (by omega)]; exact ⟨_, _, _, _, _, rfl, by omega, by omega⟩
  ·rw [if_neg h16]
   by_cases h17 : x = 17
   ·rw [if_pos h17, if_pos (by omega)]; exact ⟨_, _, _, _, _, rfl, by omega, by omega⟩
   ·rw [if_neg h17]; exact ⟨_, _, _, _, _, rfl, by omega, by omega⟩
 by_cases h15 : x = 15
 ·obtain ⟨s, hs, hz⟩ := l1Long_s (wrap64 (257 * Int.tmod (p + 1 + 1 + 2 + 1 + 1) 2)) 107 (by rw [w64D (by omega) (by omega)]; omega) (by rw [w64D (by omega) (by omega)]; omega); rw [if_pos h15, hs, Option.bind_some]; exact hj _
 ·rw [if_neg h15]; exact hj _
end Go.Proofs.YtonbmghgbblifaaDoor.Z
end
section
namespace Go.Proofs.YtonbmghgbblifaaDoor.Z
open Go.RowKit Go.Proofs.YtonbmghgbblifaaDoor Go.Proofs.YtonbmghgbblifaaDoorW.PrintWords Go.Proofs.YtonbmghgbblifaaDoorW.PrintLast
set_option linter.unusedVariables false
set_option linter.unusedSimpArgs false
theorem DrawEncodeNode_s {L : List Int} (h : Code L) (k : Nat) (hk : 2000 < k) : ∃ a b c d w, spec_DrawEncodeNode.f k L = some (a, b, c, d, w) := by
 obtain ⟨x, hx, h0, h1⟩ := l1Take_s h 0 16 (by omega) k (by omega); obtain ⟨w, hw, w0, w1⟩ := l2DrawWidth_s h (0 + 1) (by omega) k (by omega); obtain ⟨a, b, c, d, q, hn, _, _⟩ := l2DrawNode_s h (0 + 1 + 1) (by omega) w k hk; unfold spec_DrawEncodeNode.f; rw [hx, Option.bind_some]; dsimp only; rw [hw, Option.bind_some]; dsimp only; rw [hn, Option.bind_some]
 split
 ·exact ⟨_, _, _, _, _, rfl⟩
 split
 ·exact ⟨_, _, _, _, _, rfl⟩
 ·exact ⟨_, _, _, _, _, rfl⟩
theorem DrawCommitRecord_s {L : List Int} (h : Code L) (k : Nat) (hk : 2000 < k) : ∃ v r, spec_DrawCommitRecord.f k L = some (v, r) := by
 obtain ⟨x, hx, h0, h1⟩ := l1Take_s h 0 16 (by omega) k (by omega); obtain ⟨w, hw, w0, w1⟩ := l2DrawWidth_s h (0 + 1) (by omega) k (by omega); obtain ⟨r, hr, _⟩ := l2DrawHash_s h (0 + 1 + 1) (by omega) w k (by omega); obtain ⟨v, hv, v0, v1⟩ := l1Take_s h (0 + 1 + 1 + 1) 300 (by omega) k (by omega); unfold spec_DrawCommitRecord.f; rw [hx, Option.bind_some]; dsimp only; rw [hw, Option.bind_some]; dsimp only; rw [hr, Option.bind_some]; dsimp only; rw [hv, Option.bind_some]
 split
 ·exact ⟨_, _, rfl⟩
 split
 ·exact ⟨_, _, rfl⟩
 split
 ·have hm : 0 ≤ Int.tmod (0 + 1 + 1 + 1 : Int) 2 ∧ Int.tmod (0 + 1 + 1 + 1 : Int) 2 < 2 := ⟨by decide, by decide⟩
  obtain ⟨s, hs, hz⟩ := l1Long_s (wrap64 (32 + Int.tmod (0 + 1 + 1 + 1) 2)) 114 (by rw [w64D (by omega) (by omega)]; omega) (by rw [w64D (by omega) (by omega)]; omega); rw [hs, Option.bind_some]; exact ⟨_, _, rfl⟩
 ·exact ⟨_, _, rfl⟩
end Go.Proofs.YtonbmghgbblifaaDoor.Z
end
