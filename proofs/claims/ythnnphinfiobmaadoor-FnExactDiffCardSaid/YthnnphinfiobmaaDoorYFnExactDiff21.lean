/- Own texts, joined. -/
import Derived.Test.YthnnphinfiobmaaDoorYFnExactDiff27
import Derived.Test.YthnnphinfiobmaaDoorYFnExactDiff28
import Derived.ArgAppend
import Derived.Below
import Derived.BigQuiet
import Derived.Deep.AppendLies
import Derived.Deep.CutBlock
import Derived.Deep.DeepCutAuto
import Derived.Deep.Draws
import Derived.Deep.LoopGhost
import Derived.Deep.OwnRows
import Derived.Deep.QuietTactic
import Derived.Deep.RegionHeld3
import Derived.KernelRfl
import Derived.Laws.BitsLemmas
import Derived.Laws.BytesArg
import Derived.Laws.IdiomCopy
import Derived.Laws.MakeOwn
import Derived.Laws.OwnMore
import Derived.Laws.Rows
import Derived.Laws.Slices
import Derived.Lib.AppendStr
import Derived.Lib.ConvBytes
import Derived.Maps.AppendAt
import Derived.OrdersHeld
import Derived.OwnWalk
import Derived.RowKit
import Derived.RowKit3
import Derived.Tactics
import Derived.Test.YthnnphinfiobmaaDoorProg
import Derived.Test.YthnnphinfiobmaaDoorYFnExactDiff2
import Derived.Test.YthnnphinfiobmaaDoorYFnExactDiff3
import Derived.Test.YthnnphinfiobmaaDoorYFnExactDiff10
import Derived.Test.YthnnphinfiobmaaDoorYFnExactDiff11
import Derived.Test.YthnnphinfiobmaaDoorYFnExactDiff4
import Derived.Test.YthnnphinfiobmaaDoorYFnExactDiff9
import Derived.Test.YthnnphinfiobmaaDoorYFnExactDiff13
import Derived.Test.YthnnphinfiobmaaDoorYFnExactDiff14
import Derived.Test.YthnnphinfiobmaaDoorYFnExactDiff15
import Derived.Test.YthnnphinfiobmaaDoorYFnExactDiff16
import Derived.Test.YthnnphinfiobmaaDoorYFnExactDiff5
import Derived.Test.YthnnphinfiobmaaDoorYFnExactDiff1
import Derived.Test.YthnnphinfiobmaaDoorYFnExactDiff19
import Derived.Test.YthnnphinfiobmaaDoorYFnExactDiff8
import Derived.Test.YthnnphinfiobmaaDoorYFnExactDiff18
import Derived.Test.YthnnphinfiobmaaDoorYFnExactDiff17
import Derived.Test.YthnnphinfiobmaaDoorYFnExactDiff20
import Derived.Test.YthnnphinfiobmaaDoorYFnExactDiff6
import Derived.Test.YthnnphinfiobmaaDoorYFnExactDiff12
import Derived.Test.YthnnphinfiobmaaDoorYFnExactDiff0
import Derived.Test.YthnnphinfiobmaaDoorYFnExactDiff7
import Derived.WalkKit
import Derived.WideLaws
import Derived.WalkLawsBesides
import Derived.WalkSpells
import Derived.Deep.AppendSrc
import Derived.Deep.Upon
import Derived.Test.YthnnphinfiobmaaDoorRows
import Derived.Deep.Light
import Derived.Lib.Hide
import Derived.Handy
section
namespace Go.Proofs.YthnnphinfiobmaaDoor.Z
open RowKit YthnnphinfiobmaaDoorW.PrintWords YthnnphinfiobmaaDoorW.PrintLast YthnnphinfiobmaaDoorW.PrintMore
attribute [local go_sem] max2_int min2_int max_two min_two max_three min_three max_four min_four
set_option linter.all false
def errW : Option Int → Value
 | none => .nilIface
 | some c => .iface 0 (.int .i64 c)
theorem errW_none : errW none = .nilIface := rfl
theorem errW_some (c : Int) : errW (some c) = .iface 0 (.int .i64 c) := rfl
theorem info5 : (Tryd.prog.info? 5).map (fun i => (i.zero, i.size, i.bytes)) = some (some (.int .u8 0), 1, 1) := by kernel_rfl
theorem info9 : (Tryd.prog.info? 9).map (fun i => (i.zero, i.size, i.bytes)) = some (some (.string ⟨#[]⟩), 1, 16) := by kernel_rfl
theorem info65 : (Tryd.prog.info? 65).map (fun i => (i.zero, i.size, i.bytes)) = some (some (.agg #[(.string ⟨#[]⟩), (.string ⟨#[]⟩)]), 2, 32) := by kernel_rfl
theorem info120 : (Tryd.prog.info? 120).map (fun i => (i.zero, i.size, i.bytes)) = some (some (.agg #[(.string ⟨#[]⟩), (.bool false), (.string ⟨#[]⟩), (.bool false), (.string ⟨#[]⟩)]), 5, 64) := by kernel_rfl
theorem info142 : (Tryd.prog.info? 142).map (fun i => (i.zero, i.size, i.bytes)) = some (some (.int .u32 0), 1, 4) := by kernel_rfl
structure S60 where
 f0 : ByteArray
 f1 : ByteArray
structure S65 where
 f0 : ByteArray
 f1 : ByteArray
def z65 : S65 := ⟨(⟨#[]⟩ : ByteArray), (⟨#[]⟩ : ByteArray)⟩
def k65 : Kd S65 := Kd.iso (Kd.pair Kd.string Kd.string) (fun x : S65 => (x.f0, x.f1))
theorem k65_open {w : World} {x : S65} {cs : List Value} (h : k65.K w x cs) : cs = [.string x.f0, .string x.f1] := by
 obtain ⟨_, _, rfl, rfl, rfl⟩ := h; exact rfl
theorem k65_mkM (w : World) (base : Nat) (ok : Nat → Prop) (x : S65)  : k65.M w base ok x [.string x.f0, .string x.f1] := ⟨[.string x.f0], [.string x.f1], rfl, rfl, rfl⟩
def rd_T65 (xs : List S65) (i : Int) : S65 := xs.getD i.toNat z65
theorem at_T65 {w : World} {A : Option Addr} {n : Nat} {xs : List S65} (h : Kd.C k65 w A n xs) (i : Int) (h0 : 0 ≤ i) (h1 : i < n) : ∃ ad , A = some ad ∧ w.cell? (ad.add (i.toNat * 2)) = some (.string (rd_T65 xs i).f0) ∧ w.cell? ⟨(ad.add (i.toNat * 2)).block, (ad.add (i.toNat * 2)).off + 1, none⟩ = some (.string (rd_T65 xs i).f1) := by
 obtain ⟨ad, c, e, _, hK, hc0⟩ := Kd.C_get h z65 i h0 h1; have hc : ∀ j u, c[j]? = some u → w.cell? (ad.add (i.toNat * 2 + j)) = some u := hc0; obtain rfl := k65_open hK; exact ⟨ad, e, hc 0 _ rfl, by rw [← add_field _ _ 1 (by omega)]; exact hc 1 _ rfl⟩
structure S99 where
 f0 : ByteArray
 f1 : ByteArray
 f2 : ByteArray
 f3 : ByteArray
structure S120 where
 f0 : ByteArray
 f1 : Bool
 f2 : ByteArray
 f3 : Bool
 f4 : ByteArray
def z120 : S120 := ⟨(⟨#[]⟩ : ByteArray), false, (⟨#[]⟩ : ByteArray), false, (⟨#[]⟩ : ByteArray)⟩
def k120 : Kd S120 := Kd.iso (Kd.pair Kd.string (Kd.pair Kd.bool (Kd.pair Kd.string (Kd.pair Kd.bool Kd.string)))) (fun x : S120 => (x.f0, x.f1, x.f2, x.f3, x.f4))
theorem k120_open {w : World} {x : S120} {cs : List Value} (h : k120.K w x cs) : cs = [.string x.f0, .bool x.f1, .string x.f2, .bool x.f3, .string x.f4] := by
 obtain ⟨_, _, rfl, rfl, ⟨_, _, rfl, rfl, ⟨_, _, rfl, rfl, ⟨_, _, rfl, rfl, rfl⟩⟩⟩⟩ := h; exact rfl
theorem k120_openM {w : World} {base : Nat} {ok : Nat → Prop} {x : S120} {cs : List Value} (h : k120.M w base ok x cs) : cs = [.string x.f0, .bool x.f1, .string x.f2, .bool x.f3, .string x.f4] := by
 obtain ⟨_, _, rfl, rfl, ⟨_, _, rfl, rfl, ⟨_, _, rfl, rfl, ⟨_, _, rfl, rfl, rfl⟩⟩⟩⟩ := h; exact rfl
theorem k120_mkM (w : World) (base : Nat) (ok : Nat → Prop) (x : S120)  : k120.M w base ok x [.string x.f0, .bool x.f1, .string x.f2, .bool x.f3, .string x.f4] := ⟨[.string x.f0], [.bool x.f1, .string x.f2, .bool x.f3, .string x.f4], rfl, rfl, ⟨[.bool x.f1], [.string x.f2, .bool x.f3, .string x.f4], rfl, rfl, ⟨[.string x.f2], [.bool x.f3, .string x.f4], rfl, rfl, ⟨[.bool x.f3], [.string x.f4], rfl, rfl, rfl⟩⟩⟩⟩
def rd_T120 (xs : List S120) (i : Int) : S120 := xs.getD i.toNat z120
theorem at_T120 {w : World} {A : Option Addr} {n : Nat} {xs : List S120} (h : Kd.C k120 w A n xs) (i : Int) (h0 : 0 ≤ i) (h1 : i < n) : ∃ ad , A = some ad ∧ w.cell? (ad.add (i.toNat * 5)) = some (.string (rd_T120 xs i).f0) ∧ w.cell? ⟨(ad.add (i.toNat * 5)).block, (ad.add (i.toNat * 5)).off + 1, none⟩ = some (.bool (rd_T120 xs i).f1) ∧ w.cell? ⟨(ad.add (i.toNat * 5)).block, (ad.add (i.toNat * 5)).off + 2, none⟩ = some (.string (rd_T120 xs i).f2) ∧ w.cell? ⟨(ad.add (i.toNat * 5)).block, (ad.add (i.toNat * 5)).off + 3, none⟩ = some (.bool (rd_T120 xs i).f3) ∧ w.cell? ⟨(ad.add (i.toNat * 5)).block, (ad.add (i.toNat * 5)).off + 4, none⟩ = some (.string (rd_T120 xs i).f4) := by
 obtain ⟨ad, c, e, _, hK, hc0⟩ := Kd.C_get h z120 i h0 h1; have hc : ∀ j u, c[j]? = some u → w.cell? (ad.add (i.toNat * 5 + j)) = some u := hc0; obtain rfl := k120_open hK; exact ⟨ad, e, hc 0 _ rfl, by rw [← add_field _ _ 1 (by omega)]; exact hc 1 _ rfl, by rw [← add_field _ _ 2 (by omega)]; exact hc 2 _ rfl, by rw [← add_field _ _ 3 (by omega)]; exact hc 3 _ rfl, by rw [← add_field _ _ 4 (by omega)]; exact hc 4 _ rfl⟩
structure S38 where
 f0 : Int
 f1 : (List ByteArray)
structure S86 where
 f0 : ByteArray
 f1 : ByteArray
structure S82 where
 f0 : (List S65)
 f1 : Int
 f2 : Int
mutual
def impl_changes.l0 : Nat → List (S65) → List (S65) → List (S120) → Option ((List (S120)))
 | 0, _, _, _ => none
 | k + 1, x0, x1, x5 => if (x0.length : Int) > 0 then (impl_changes.j1 k x0 x1 x5 true) else (impl_changes.j1 k x0 x1 x5 (decide ((x1.length : Int) > 0)))
def impl_changes.j1 : Nat → List (S65) → List (S65) → List (S120) → Bool → Option ((List (S120)))
 | 0, _, _, _, _ => none
 | k + 1, x0, x1, x5, x13 => if x13 = true then (if (x1.length : Int) = 0 then (impl_changes.j2 k x0 x1 x5 true) else (if (x0.length : Int) > 0 then (if 0 < (x0.length : Int) then (if 0 < (x1.length : Int) then (impl_changes.j2 k x0 x1 x5 (Op.bytesLess (((rd_T65 x0 0).f0).toList) (((rd_T65 x1 0).f0).toList))) else (none)) else (none)) else (impl_changes.j2 k x0 x1 x5 false))) else (some x5)
def impl_changes.j2 : Nat → List (S65) → List (S65) → List (S120) → Bool → Option ((List (S120)))
 | 0, _, _, _, _ => none
 | k + 1, x0, x1, x5, x43 => if x43 = true then (if 0 < (x0.length : Int) then (if x5.length < 2199023255552 then (if 1 ≤ (x0.length : Int) then (impl_changes.l0 k (x0.drop 1) x1 (x5 ++ [(⟨(rd_T65 x0 0).f0, true, (rd_T65 x0 0).f1, false, (⟨#[]⟩ : ByteArray)⟩ : S120)])) else (none)) else (none)) else (none)) else (if (x0.length : Int) = 0 then (impl_changes.j3 k x0 x1 x5 true) else (if 0 < (x1.length : Int) then (if 0 < (x0.length : Int) then (impl_changes.j3 k x0 x1 x5 (Op.bytesLess (((rd_T65 x1 0).f0).toList) (((rd_T65 x0 0).f0).toList))) else (none)) else (none)))
def impl_changes.j3 : Nat → List (S65) → List (S65) → List (S120) → Bool → Option ((List (S120)))
 | 0, _, _, _, _ => none
 | k + 1, x0, x1, x5, x77 => if x77 = true then (if 0 < (x1.length : Int) then (if x5.length < 2199023255552 then (if 1 ≤ (x1.length : Int) then (impl_changes.l0 k x0 (x1.drop 1) (x5 ++ [(⟨(rd_T65 x1 0).f0, false, (⟨#[]⟩ : ByteArray), true, (rd_T65 x1 0).f1⟩ : S120)])) else (none)) else (none)) else (none)) else (if 0 < (x0.length : Int) then (if 0 < (x1.length : Int) then (if ((rd_T65 x0 0).f1).toList = ((rd_T65 x1 0).f1).toList then (if 1 ≤ (x0.length : Int) then (if 1 ≤ (x1.length : Int) then (impl_changes.l0 k (x0.drop 1) (x1.drop 1) x5) else (none)) else (none)) else (if x5.length < 2199023255552 then (if 1 ≤ (x0.length : Int) then (if 1 ≤ (x1.length : Int) then (impl_changes.l0 k (x0.drop 1) (x1.drop 1) (x5 ++ [(⟨(rd_T65 x0 0).f0, true, (rd_T65 x0 0).f1, true, (rd_T65 x1 0).f1⟩ : S120)])) else (none)) else (none)) else (none))) else (none)) else (none))
end
def impl_changes.f (k : Nat) (l0 : List (S65)) (l1 : List (S65)) : Option ((List (S120))) := impl_changes.l0 k l0 l1 ([] : List (S120))
def impl_changes.T3 : Bool × List (List Nat × List Nat) := (true, [([], []), ([0], [0]), ([1], [1]), ([2], [2]), ([], []), ([4], [4]), ([5], [5]), ([6], [6]), ([3, 7], [3, 7])])
def impl_changes.B3 : List Nat := [0, 1, 3, 7, 0, 16, 48, 112, 255]
theorem impl_changes.tab3 : rtab .any (opsOf Tryd.f79 3) = impl_changes.T3 := by kernel_rfl
theorem impl_changes.bits3 : waitsOk impl_changes.T3.2 impl_changes.B3 = true := by kernel_rfl
def impl_changes.T4 : Bool × List (List Nat × List Nat) := (true, [([], []), ([], []), ([1], [1]), ([2], [2]), ([3], [3]), ([], []), ([5], [5]), ([6], [6]), ([7], [7]), ([], []), ([9], [9]), ([10], [10]), ([11], [11]), ([4, 8, 12], [4, 8, 12]), ([13], [13]), ([0, 14], [0, 14]), ([15, 15, 0, 1, 2, 3, 4, 5, 6, 7, 8, 9, 10, 11, 12, 13, 14, 15], [0, 15])])
def impl_changes.B4 : List Nat := [0, 0, 2, 6, 14, 0, 32, 96, 224, 0, 512, 1536, 3584, 8190, 16382, 32767, 65535]
theorem impl_changes.tab4 : rtab .any (opsOf Tryd.f79 4) = impl_changes.T4 := by kernel_rfl
theorem impl_changes.bits4 : waitsOk impl_changes.T4.2 impl_changes.B4 = true := by kernel_rfl
def impl_changes.T6 : Bool × List (List Nat × List Nat) := (true, [([], []), ([0], [0]), ([1], [1]), ([2], [2]), ([3], [3]), ([4, 3], [3, 4]), ([5, 3], [3, 5]), ([6, 3, 3], [3, 6]), ([7], [7]), ([8, 7], [7, 8]), ([9, 7], [7, 9]), ([10, 7], [7, 10]), ([7], [7]), ([12, 7], [7, 12]), ([13, 7], [7, 13]), ([14, 7], [7, 14]), ([11, 15, 7], [7, 11, 15]), ([7, 16, 3], [3, 7, 16]), ([3, 17], [3, 17]), ([18, 7], [18])])
def impl_changes.B6 : List Nat := [0, 1, 3, 7, 15, 31, 63, 127, 255, 511, 1023, 2047, 255, 4351, 12543, 28927, 65535, 131071, 262143, 524287]
theorem impl_changes.tab6 : rtab .any (opsOf Tryd.f79 6) = impl_changes.T6 := by kernel_rfl
theorem impl_changes.bits6 : waitsOk impl_changes.T6.2 impl_changes.B6 = true := by kernel_rfl
def impl_changes.T7 : Bool × List (List Nat × List Nat) := (true, [([], []), ([], []), ([1], [1]), ([2], [2]), ([3], [3]), ([], []), ([5], [5]), ([6], [6]), ([7], [7]), ([4, 8], [4, 8]), ([9], [9]), ([0, 10], [0, 10]), ([11, 11, 0, 1, 2, 3, 4, 5, 6, 7, 8, 9, 10, 11], [0, 11])])
def impl_changes.B7 : List Nat := [0, 0, 2, 6, 14, 0, 32, 96, 224, 510, 1022, 2047, 4095]
theorem impl_changes.tab7 : rtab .any (opsOf Tryd.f79 7) = impl_changes.T7 := by kernel_rfl
theorem impl_changes.bits7 : waitsOk impl_changes.T7.2 impl_changes.B7 = true := by kernel_rfl
def impl_changes.T9 : Bool × List (List Nat × List Nat) := (true, [([], []), ([0], [0]), ([1], [1]), ([2], [2]), ([3], [3]), ([4, 3], [3, 4]), ([5, 3], [3, 5]), ([6, 3], [3, 6]), ([3], [3]), ([8, 3], [3, 8]), ([9, 3], [3, 9]), ([10, 3], [3, 10]), ([7, 11, 3], [3, 7, 11]), ([3, 12], [3, 12]), ([13, 3], [13])])
def impl_changes.B9 : List Nat := [0, 1, 3, 7, 15, 31, 63, 127, 15, 271, 783, 1807, 4095, 8191, 16383]
theorem impl_changes.tab9 : rtab .any (opsOf Tryd.f79 9) = impl_changes.T9 := by kernel_rfl
theorem impl_changes.bits9 : waitsOk impl_changes.T9.2 impl_changes.B9 = true := by kernel_rfl
def impl_changes.T10 : Bool × List (List Nat × List Nat) := (true, [([], []), ([], []), ([1], [1]), ([2], [2]), ([3], [3]), ([], []), ([5], [5]), ([6], [6]), ([7], [7]), ([4, 8], [4, 8]), ([9], [9]), ([0, 10], [0, 10]), ([11, 11, 0, 1, 2, 3, 4, 5, 6, 7, 8, 9, 10, 11], [0, 11])])
def impl_changes.B10 : List Nat := [0, 0, 2, 6, 14, 0, 32, 96, 224, 510, 1022, 2047, 4095]
theorem impl_changes.tab10 : rtab .any (opsOf Tryd.f79 10) = impl_changes.T10 := by kernel_rfl
theorem impl_changes.bits10 : waitsOk impl_changes.T10.2 impl_changes.B10 = true := by kernel_rfl
set_option maxHeartbeats 8000000 in
set_option maxRecDepth 100000 in
theorem impl_changes.calls (k : Nat) (P0_ : Nat → Prop) (A0 : Option Addr) (c0 : Nat) (l0 : List (S65)) (P1_ : Nat → Prop) (A1 : Option Addr) (c1 : Nat) (l1 : List (S65)) (r : List (S120)) (w : World) (hs0 : Kd.V k65 65 w w.heap.size (fun k_ => P0_ k_) (.slice A0 l0.length c0) l0) (hs1 : Kd.V k65 65 w w.heap.size (fun k_ => P1_ k_) (.slice A1 l1.length c1) l1) (h : impl_changes.f k l0 l1 = some r) :
  Calls Tryd.prog 79 #[.slice A0 l0.length c0, .slice A1 l1.length c1] w fun e w' => ∃ v0_ : Value, e = .returned (v0_) ∧ Kd.R k120 120 w' w.heap.size (fun k_ => (w.heap.size ≤ k_)) v0_ r ∧ Below w.heap.size w w' := by
 have hu120 := Tryd.underlying120; have HO0 := Aside0.mk (show Kd.V k65 65 w w.heap.size (fun k_ => ((P0_ k_ ∨ P1_ k_) ∨ w.heap.size ≤ k_)) (.slice A0 l0.length c0) l0 from Kd.V_mono hs0 (fun k_ hk => .inl (.inl hk))); have HO1 := Aside0.mk (show Kd.V k65 65 w w.heap.size (fun k_ => ((P0_ k_ ∨ P1_ k_) ∨ w.heap.size ≤ k_)) (.slice A1 l1.length c1) l1 from Kd.V_mono hs1 (fun k_ hk => .inl (.inr hk))); have HB := Aside0.mk (Below.refl w.heap.size w); have H : (impl_changes.l0 k l0 l1 ([] : List (S120))) = some r := h; clear h; have H' := Aside0.mk H; clear H
 go_enter Tryd.func79, Tryd.ntmps79
 go_wp2
 go_loopg [0, 1, 5] k (fun kq v0 v1 v5 w' => ∃ (x0_1 : List (S65)) (x1_1 : List (S65)) (x5_1 : List (S120)), Aside0 (impl_changes.l0 kq x0_1 x1_1 x5_1 = some r) ∧ Aside0 (kq ≤ k) ∧ Aside0 (Kd.V k65 65 w' w.heap.size (fun k_ => ((P0_ k_ ∨ P1_ k_) ∨ w.heap.size ≤ k_) ∧ some k_ ≠ (v5 : Value).ownBlock) v0 x0_1) ∧ Aside0 (Kd.V k65 65 w' w.heap.size (fun k_ => ((P0_ k_ ∨ P1_ k_) ∨ w.heap.size ≤ k_) ∧ some k_ ≠ (v5 : Value).ownBlock) v1 x1_1) ∧ Aside0 (Kd.R k120 120 w' w.heap.size (fun k_ => (w.heap.size ≤ k_)) v5 x5_1) ∧ Aside0 (Below w.heap.size w w'))
 case atStart => exact ⟨(l0), (l1), (([] : List (S120))), H', ⟨Nat.le_refl _⟩, ⟨by (with_reducible repeat (first | apply Kd.V_alloc | apply Kd.V_drewN | apply Kd.V_drew)); exact Kd.V_mono HO0.out (fun _ hk => ⟨hk, (by simp [Value.ownBlock])⟩)⟩, ⟨by (with_reducible repeat (first | apply Kd.V_alloc | apply Kd.V_drewN | apply Kd.V_drew)); exact Kd.V_mono HO1.out (fun _ hk => ⟨hk, (by simp [Value.ownBlock])⟩)⟩, ⟨by first | exact Kd.R_nil _ _ _ _ _ | exact Kd.N_nil _ _ _ _ _ | exact Kd.V_nil _ _ _ _ _ | exact Kd.Q_nil _ _ _ _ _ | exact Kd.S_nil _ _ _ _ _⟩, ⟨by repeat (first | (with_reducible first | exact HB.out | apply below_alloc | apply pw_below_drewN | apply below_drew1) | exact HB.out)⟩⟩
 case round =>
  clear H'
  try clear c1
  try clear p2
  obtain ⟨x0_1, x1_1, x5_1, HA, HK1, HO_0, HO_1, HO_5, HB⟩ := hrel
  cases gk with
  | zero => exact absurd HA.out (by simp [impl_changes.l0])
  | succ k1 =>
   have H := HA.out; clear HA; simp only [impl_changes.l0] at H; have HC3 := Aside0.mk H; clear H
   go_upto_region 2 with (fail)
   go_cut [13] (fun v13 wc => ∃ (kq : Nat) (x13_2 : Bool), v13 = .bool x13_2 ∧ Aside0 (impl_changes.j1 kq x0_1 x1_1 x5_1 x13_2 = some r) ∧ Aside0 (kq ≤ k1) ∧ Aside0 (Kd.V k65 65 wc w.heap.size (fun k_ => ((P0_ k_ ∨ P1_ k_) ∨ w.heap.size ≤ k_) ∧ some k_ ≠ (u5 : Value).ownBlock) u0 x0_1) ∧ Aside0 (Kd.V k65 65 wc w.heap.size (fun k_ => ((P0_ k_ ∨ P1_ k_) ∨ w.heap.size ≤ k_) ∧ some k_ ≠ (u5 : Value).ownBlock) u1 x1_1) ∧ Aside0 (Kd.R k120 120 wc w.heap.size (fun k_ => (w.heap.size ≤ k_)) u5 x5_1) ∧ Aside0 (Below w.heap.size w wc))
   case first =>
    have H := HC3.out; clear HC3
    by_cases c4 : (x0_1.length : Int) > 0
    ·rw [if_pos c4] at H; have c4b0 : decide (0 < (x0_1.length : Int)) = true := decide_eq_true c4; have c4b1 : decide (0 < x0_1.length) = true := decide_eq_true (by omega); clear c4; (first | rw [c4b0] | (simp only [i64_w, i32_w]; rw [c4b0]) | skip); have H' := Aside0.mk H; clear H; obtain ⟨Ao5, co5, eo5⟩ := Kd.V_slice HO_0.out; subst eo5
     go_wp2
     go_meet
     case rel => exact ⟨_, (true), zq_6, H', ⟨by have := HK1.out; first | omega | exact Nat.le_refl _⟩, ⟨by (with_reducible repeat (first | apply Kd.V_alloc | apply Kd.V_drewN | apply Kd.V_drew)); exact HO_0.out⟩, ⟨by (with_reducible repeat (first | apply Kd.V_alloc | apply Kd.V_drewN | apply Kd.V_drew)); exact HO_1.out⟩, ⟨by (with_reducible repeat (first | apply Kd.R_alloc | apply Kd.R_drewN | apply Kd.R_drew)); exact HO_5.out⟩, ⟨by repeat (first | (with_reducible first | exact HB.out | apply below_alloc | apply pw_below_drewN | apply below_drew1) | exact HB.out)⟩⟩
    ·rw [if_neg c4] at H; have c4b0 : decide (0 < (x0_1.length : Int)) = false := decide_eq_false c4; have c4b1 : decide (0 < x0_1.length) = false := decide_eq_false (by omega); clear c4; (first | rw [c4b0] | (simp only [i64_w, i32_w]; rw [c4b0]) | skip); have H' := Aside0.mk H; clear H; obtain ⟨Ao6, co6, eo6⟩ := Kd.V_slice HO_0.out; subst eo6; obtain ⟨Ao7, co7, eo7⟩ := Kd.V_slice HO_1.out; subst eo7
     go_wp2
     go_meet
     case rel => exact ⟨_, (decide ((x1_1.length : Int) > 0)), zq_6, H', ⟨by have := HK1.out; first | omega | exact Nat.le_refl _⟩, ⟨by (with_reducible repeat (first | apply Kd.V_alloc | apply Kd.V_drewN | apply Kd.V_drew)); exact HO_0.out⟩, ⟨by (with_reducible repeat (first | apply Kd.V_alloc | apply Kd.V_drewN | apply Kd.V_drew)); exact HO_1.out⟩, ⟨by (with_reducible repeat (first | apply Kd.R_alloc | apply Kd.R_drewN | apply Kd.R_drew)); exact HO_5.out⟩, ⟨by repeat (first | (with_reducible first | exact HB.out | apply below_alloc | apply pw_below_drewN | apply below_drew1) | exact HB.out)⟩⟩
   case rest =>
    clear HC3
    try clear c1
    try clear p2
    try clear c4
    try clear c4b0
    try clear c4b1
    try clear c7
    try clear p2
    obtain ⟨kq, x13_2, rfl, HA, HJ2, HO_0, HO_1, HO_5, HB⟩ := hcut
    cases kq with
    | zero => exact absurd HA.out (by simp [impl_changes.j1])
    | succ kj2 =>
     have H := HA.out; clear HA; simp only [impl_changes.j1] at H
     by_cases c8 : x13_2 = true
     ·subst c8; have H1 : (if (x1_1.length : Int) = 0 then (impl_changes.j2 kj2 x0_1 x1_1 x5_1 true) else (if (x0_1.length : Int) > 0 then (if 0 < (x0_1.length : Int) then (if 0 < (x1_1.length : Int) then (impl_changes.j2 kj2 x0_1 x1_1 x5_1 (Op.bytesLess (((rd_T65 x0_1 0).f0).toList) (((rd_T65 x1_1 0).f0).toList))) else (none)) else (none)) else (impl_changes.j2 kj2 x0_1 x1_1 x5_1 false))) = some r := by rw [if_pos rfl] at H; exact H
      clear H; have H := H1; clear H1; have HC9 := Aside0.mk H; clear H
      go_upto_region 6 with (fail)
      go_cut [43] (fun v43 wc => ∃ (kq : Nat) (x43_8 : Bool), v43 = .bool x43_8 ∧ Aside0 (impl_changes.j2 kq x0_1 x1_1 x5_1 x43_8 = some r) ∧ Aside0 (kq ≤ kj2) ∧ Aside0 (Kd.V k65 65 wc w.heap.size (fun k_ => ((P0_ k_ ∨ P1_ k_) ∨ w.heap.size ≤ k_) ∧ some k_ ≠ (u5 : Value).ownBlock) u0 x0_1) ∧ Aside0 (Kd.V k65 65 wc w.heap.size (fun k_ => ((P0_ k_ ∨ P1_ k_) ∨ w.heap.size ≤ k_) ∧ some k_ ≠ (u5 : Value).ownBlock) u1 x1_1) ∧ Aside0 (Kd.R k120 120 wc w.heap.size (fun k_ => (w.heap.size ≤ k_)) u5 x5_1) ∧ Aside0 (Below w.heap.size w wc))
      case first =>
       have H := HC9.out; clear HC9
       by_cases c10 : (x1_1.length : Int) = 0
       ·rw [if_pos c10] at H; have c10b0 : ((x1_1.length : Int) == 0) = true := beq_iff_eq.mpr c10; have c10b1 : ((x1_1.length : Int) != 0) = false := bne_eq_false_iff_eq.mpr c10; clear c10; (first | rw [c10b0] | (simp only [i64_w, i32_w]; rw [c10b0]) | skip); have H' := Aside0.mk H; clear H
        try go_wp2
        have n0_ := Aside0.mk (Kd.V_drew HO_0.out); have n1_ := Aside0.mk (Kd.V_drew HO_1.out); have n2_ := Aside0.mk (Kd.R_drew HO_5.out); have n3_ := Aside0.mk (below_drew1 HB.out); clear HO_0; clear HO_1; clear HO_5; clear HB; have HO_0 := n0_; have HO_1 := n1_; have HO_5 := n2_; have HB := n3_; clear n0_ n1_ n2_ n3_; obtain ⟨Ao12, co12, eo12⟩ := Kd.V_slice HO_1.out; (first | subst eo12 | (injection eo12 with f1_ f2_ f3_; have f4_ := f1_.symm; have f5_ := f3_.symm; clear f1_ f2_ f3_; subst f4_; subst f5_)); refine start_ (n := 20) (S := fun w' => True) (ds := []) #[false, false, false, false, false, false, false, false, false, false, false, false, false, false, false, false, false, false, false, false] (by kernel_rfl) rfl rfl trivial (fun hHeld => ?_); refine with_tabW impl_changes.tab6 impl_changes.bits6 (fun HT_ HW_ => ?_); generalize wc.drew = w11 at HO_0 HO_1 HO_5 HB hHeld ⊢; refine pq_ (i := 0) (N := some 44) HT_.out ?_; refine pq_ (i := 1) (N := some 45) HT_.out ?_; refine pq_ (i := 2) (N := some 46) HT_.out ?_; refine pq_ (i := 3) (N := some 47) HT_.out ?_; refine pu_ (i := 4) (N := some 48) HT_.out ?_; refine pu_ (i := 5) (N := some 49) HT_.out ?_; refine pu_ (i := 6) (N := some 50) HT_.out ?_; refine pu_ (i := 7) (N := some 51) HT_.out ?_; refine pu_ (i := 8) (N := some 52) HT_.out ?_; refine pu_ (i := 9) (N := some 53) HT_.out ?_; refine pu_ (i := 10) (N := some 54) HT_.out ?_; refine pu_ (i := 11) (N := some 55) HT_.out ?_; refine pu_ (i := 12) (N := some 56) HT_.out ?_; refine pu_ (i := 13) (N := some 57) HT_.out ?_; refine pu_ (i := 14) (N := some 58) HT_.out ?_; refine pu_ (i := 15) (N := some 59) HT_.out ?_; refine pu_ (i := 16) (N := some 60) HT_.out ?_; refine pu_ (i := 17) (N := some 61) HT_.out ?_; refine pq_ (i := 18) (N := some 62) HT_.out ?_; refine pq_ (i := 19) (N := some 43) HT_.out ?_; refine done_ (done_of HT_.out (by kernel_rfl)) ?_
        try go_wp2
        go_meet
        case rel => exact ⟨_, (true), zq_6, H', ⟨by have := HK1.out; have := HJ2.out; first | omega | exact Nat.le_refl _⟩, ⟨by (with_reducible repeat (first | apply Kd.V_alloc | apply Kd.V_drewN | apply Kd.V_drew)); exact HO_0.out⟩, ⟨by (with_reducible repeat (first | apply Kd.V_alloc | apply Kd.V_drewN | apply Kd.V_drew)); exact HO_1.out⟩, ⟨by (with_reducible repeat (first | apply Kd.R_alloc | apply Kd.R_drewN | apply Kd.R_drew)); exact HO_5.out⟩, ⟨by repeat (first | (with_reducible first | exact HB.out | apply below_alloc | apply pw_below_drewN | apply below_drew1) | exact HB.out)⟩⟩
       ·rw [if_neg c10] at H; have c10b0 : ((x1_1.length : Int) == 0) = false := beq_eq_false_iff_ne.mpr c10; have c10b1 : ((x1_1.length : Int) != 0) = true := bne_iff_ne.mpr c10; have c10b2 : ¬ (x1_1 = []) := fun h_ => c10 (by rw [h_]; rfl)
        (first | rw [c10b0] | (simp only [i64_w, i32_w]; rw [c10b0]) | skip)
        by_cases c13 : (x0_1.length : Int) > 0
        ·rw [if_pos c13] at H; have c13b0 : decide (0 < (x0_1.length : Int)) = true := decide_eq_true c13; have c13b1 : decide (0 < x0_1.length) = true := decide_eq_true (by omega); clear c13
         by_cases c14 : 0 < (x0_1.length : Int)
         ·rw [if_pos c14] at H; have c14b0 : decide (0 < (x0_1.length : Int)) = true := decide_eq_true c14; have c14b1 : decide (0 < x0_1.length) = true := decide_eq_true (by omega); clear c14
          by_cases c15 : 0 < (x1_1.length : Int)
          ·rw [if_pos c15] at H; have c15b0 : decide (0 < (x1_1.length : Int)) = true := decide_eq_true c15; have c15b1 : decide (0 < x1_1.length) = true := decide_eq_true (by omega); clear c15; have H' := Aside0.mk H; clear H
           try go_wp2
           have n0_ := Aside0.mk (Kd.V_drew HO_0.out); have n1_ := Aside0.mk (Kd.V_drew HO_1.out); have n2_ := Aside0.mk (Kd.R_drew HO_5.out); have n3_ := Aside0.mk (below_drew1 HB.out); clear HO_0; clear HO_1; clear HO_5; clear HB; have HO_0 := n0_; have HO_1 := n1_; have HO_5 := n2_; have HB := n3_; clear n0_ n1_ n2_ n3_; obtain ⟨Ao17, co17, eo17⟩ := Kd.V_slice HO_1.out; (first | subst eo17 | (injection eo17 with f1_ f2_ f3_; have f4_ := f1_.symm; have f5_ := f3_.symm; clear f1_ f2_ f3_; subst f4_; subst f5_)); obtain ⟨Ao18, co18, eo18⟩ := Kd.V_slice HO_0.out; (first | subst eo18 | (injection eo18 with f1_ f2_ f3_; have f4_ := f1_.symm; have f5_ := f3_.symm; clear f1_ f2_ f3_; subst f4_; subst f5_)); have p790001 : 0 ≤ (0 : Int) := (by omega)
           have q790001 : 0 < (x0_1.length : Int) := of_decide_eq_true zq_2; obtain ⟨ad790001, e790001, hx790001_0, hx790001_1⟩ := at_T65 (Kd.V_reads' HO_0.out).2.2 0 p790001 q790001
           cases e790001
           have qi790001 : (0 < x0_1.length) = True := eq_true (by omega); (try rw [show ((0 : Int)).toNat = 0 from rfl] at hx790001_0); (try rw [show 0 * 2 = 0 from rfl] at hx790001_0); (try rw [Addr.add_zero'] at hx790001_0); (try rw [show ((0 : Int)).toNat = 0 from rfl] at hx790001_1); (try rw [show 0 * 2 = 0 from rfl] at hx790001_1); (try rw [Addr.add_zero'] at hx790001_1); replace p790001 := eq_true p790001; replace q790001 := eq_true q790001; have p790002 : 0 ≤ (0 : Int) := (by omega)
           have q790002 : 0 < (x1_1.length : Int) := of_decide_eq_true zq_2; obtain ⟨ad790002, e790002, hx790002_0, hx790002_1⟩ := at_T65 (Kd.V_reads' HO_1.out).2.2 0 p790002 q790002
           cases e790002
           have qi790002 : (0 < x1_1.length) = True := eq_true (by omega); (try rw [show ((0 : Int)).toNat = 0 from rfl] at hx790002_0); (try rw [show 0 * 2 = 0 from rfl] at hx790002_0); (try rw [Addr.add_zero'] at hx790002_0); (try rw [show ((0 : Int)).toNat = 0 from rfl] at hx790002_1); (try rw [show 0 * 2 = 0 from rfl] at hx790002_1); (try rw [Addr.add_zero'] at hx790002_1); replace p790002 := eq_true p790002; replace q790002 := eq_true q790002; refine start_ (n := 20) (S := fun w' => w'.cell? ad790001 = some (.string ((rd_T65 x0_1 0).f0)) ∧ w'.cell? ⟨ad790001.block, ad790001.off + 1, none⟩ = some (.string ((rd_T65 x0_1 0).f1)) ∧ w'.cell? ad790002 = some (.string ((rd_T65 x1_1 0).f0)) ∧ w'.cell? ⟨ad790002.block, ad790002.off + 1, none⟩ = some (.string ((rd_T65 x1_1 0).f1))) (ds := []) #[false, false, false, false, false, false, false, false, false, false, false, false, false, false, false, false, false, false, false, false] (by kernel_rfl) rfl rfl ⟨hx790001_0, hx790001_1, hx790002_0, hx790002_1⟩ (fun hHeld => ?_); refine with_tabW impl_changes.tab6 impl_changes.bits6 (fun HT_ HW_ => ?_); generalize wc.drew = w16 at HO_0 HO_1 HO_5 HB hx790001_0 hx790001_1 hx790002_0 hx790002_1 hHeld ⊢; refine pq_ (i := 0) (N := some 44) HT_.out ?_; refine pq_ (i := 1) (N := some 45) HT_.out ?_; refine pq_ (i := 2) (N := some 46) HT_.out ?_; refine pq_ (i := 3) (N := some 47) HT_.out ?_; refine pq_ (i := 4) (N := some 48) HT_.out ?_; refine pq_ (i := 5) (N := some 49) HT_.out ?_; refine pq_ (i := 6) (N := some 50) HT_.out ?_; refine pq_ (i := 7) (N := some 51) HT_.out ?_; refine pq_ (i := 8) (N := some 52) HT_.out ?_; refine pq_ (i := 9) (N := some 53) HT_.out ?_; refine pq_ (i := 10) (N := some 54) HT_.out ?_; refine pq_ (i := 12) (N := some 56) HT_.out ?_; refine pq_ (i := 13) (N := some 57) HT_.out ?_; refine pq_ (i := 14) (N := some 58) HT_.out ?_; refine tq_ (i := 11) (N := some 55) HT_.out HW_.out hHeld (hy := by rintro w' ⟨s0, s1, s2, s3⟩; go_simp; with_reducible rfl) (h := ?_); refine tq_ (i := 15) (N := some 59) HT_.out HW_.out hHeld (hy := by rintro w' ⟨s0, s1, s2, s3⟩; go_simp; with_reducible rfl) (h := ?_); refine pq_ (i := 16) (N := some 60) HT_.out ?_; refine pq_ (i := 17) (N := some 61) HT_.out ?_; refine pq_ (i := 18) (N := some 62) HT_.out ?_; refine pq_ (i := 19) (N := some 43) HT_.out ?_; refine done_ (done_of HT_.out (by kernel_rfl)) ?_
           try go_wp2
           go_meet
           case rel => exact ⟨_, ((Op.bytesLess (((rd_T65 x0_1 0).f0).toList) (((rd_T65 x1_1 0).f0).toList))), zq_6, H', ⟨by have := HK1.out; have := HJ2.out; first | omega | exact Nat.le_refl _⟩, ⟨by (with_reducible repeat (first | apply Kd.V_alloc | apply Kd.V_drewN | apply Kd.V_drew)); exact HO_0.out⟩, ⟨by (with_reducible repeat (first | apply Kd.V_alloc | apply Kd.V_drewN | apply Kd.V_drew)); exact HO_1.out⟩, ⟨by (with_reducible repeat (first | apply Kd.R_alloc | apply Kd.R_drewN | apply Kd.R_drew)); exact HO_5.out⟩, ⟨by repeat (first | (with_reducible first | exact HB.out | apply below_alloc | apply pw_below_drewN | apply below_drew1) | exact HB.out)⟩⟩
          ·rw [if_neg c15] at H; exact absurd H (by simp)
         ·rw [if_neg c14] at H; exact absurd H (by simp)
        ·rw [if_neg c13] at H; have c13b0 : decide (0 < (x0_1.length : Int)) = false := decide_eq_false c13; have c13b1 : decide (0 < x0_1.length) = false := decide_eq_false (by omega); clear c13; have H' := Aside0.mk H; clear H
         try go_wp2
         have n0_ := Aside0.mk (Kd.V_drew HO_0.out); have n1_ := Aside0.mk (Kd.V_drew HO_1.out); have n2_ := Aside0.mk (Kd.R_drew HO_5.out); have n3_ := Aside0.mk (below_drew1 HB.out); clear HO_0; clear HO_1; clear HO_5; clear HB; have HO_0 := n0_; have HO_1 := n1_; have HO_5 := n2_; have HB := n3_; clear n0_ n1_ n2_ n3_; obtain ⟨Ao20, co20, eo20⟩ := Kd.V_slice HO_1.out; (first | subst eo20 | (injection eo20 with f1_ f2_ f3_; have f4_ := f1_.symm; have f5_ := f3_.symm; clear f1_ f2_ f3_; subst f4_; subst f5_)); obtain ⟨Ao21, co21, eo21⟩ := Kd.V_slice HO_0.out; (first | subst eo21 | (injection eo21 with f1_ f2_ f3_; have f4_ := f1_.symm; have f5_ := f3_.symm; clear f1_ f2_ f3_; subst f4_; subst f5_)); refine start_ (n := 20) (S := fun w' => True) (ds := []) #[false, false, false, false, false, false, false, false, false, false, false, false, false, false, false, false, false, false, false, false] (by kernel_rfl) rfl rfl trivial (fun hHeld => ?_); refine with_tabW impl_changes.tab6 impl_changes.bits6 (fun HT_ HW_ => ?_); generalize wc.drew = w19 at HO_0 HO_1 HO_5 HB hHeld ⊢; refine pq_ (i := 0) (N := some 44) HT_.out ?_; refine pq_ (i := 1) (N := some 45) HT_.out ?_; refine pq_ (i := 2) (N := some 46) HT_.out ?_; refine pq_ (i := 3) (N := some 47) HT_.out ?_; refine pq_ (i := 4) (N := some 48) HT_.out ?_; refine pq_ (i := 5) (N := some 49) HT_.out ?_; refine pq_ (i := 6) (N := some 50) HT_.out ?_; refine pq_ (i := 7) (N := some 51) HT_.out ?_; refine pu_ (i := 8) (N := some 52) HT_.out ?_; refine pu_ (i := 9) (N := some 53) HT_.out ?_; refine pu_ (i := 10) (N := some 54) HT_.out ?_; refine pu_ (i := 11) (N := some 55) HT_.out ?_; refine pu_ (i := 12) (N := some 56) HT_.out ?_; refine pu_ (i := 13) (N := some 57) HT_.out ?_; refine pu_ (i := 14) (N := some 58) HT_.out ?_; refine pu_ (i := 15) (N := some 59) HT_.out ?_; refine pu_ (i := 16) (N := some 60) HT_.out ?_; refine pq_ (i := 17) (N := some 61) HT_.out ?_; refine pq_ (i := 18) (N := some 62) HT_.out ?_; refine pq_ (i := 19) (N := some 43) HT_.out ?_; refine done_ (done_of HT_.out (by kernel_rfl)) ?_
         try go_wp2
         go_meet
         case rel => exact ⟨_, (false), zq_6, H', ⟨by have := HK1.out; have := HJ2.out; first | omega | exact Nat.le_refl _⟩, ⟨by (with_reducible repeat (first | apply Kd.V_alloc | apply Kd.V_drewN | apply Kd.V_drew)); exact HO_0.out⟩, ⟨by (with_reducible repeat (first | apply Kd.V_alloc | apply Kd.V_drewN | apply Kd.V_drew)); exact HO_1.out⟩, ⟨by (with_reducible repeat (first | apply Kd.R_alloc | apply Kd.R_drewN | apply Kd.R_drew)); exact HO_5.out⟩, ⟨by repeat (first | (with_reducible first | exact HB.out | apply below_alloc | apply pw_below_drewN | apply below_drew1) | exact HB.out)⟩⟩
      case rest =>
       clear HC9
       try clear c1
       try clear p2
       try clear c4
       try clear c4b0
       try clear c4b1
       try clear c7
       try clear p7
       try clear q7
       try clear hx7
       try clear qi7
       try clear c8
       try clear c10
       try clear c10b0
       try clear c10b1
       try clear c10b2
       try clear c13
       try clear c13b0
       try clear c13b1
       try clear c14
       try clear c14b0
       try clear c14b1
       try clear c15
       try clear c15b0
       try clear c15b1
       try clear hx790001_0
       try clear hx790001_1
       try clear hx790002_0
       try clear hx790002_1
       try clear p2
       try clear p790001
       try clear p790002
       try clear q790001
       try clear q790002
       obtain ⟨kq, x43_8, rfl, HA, HJ8, HO_0, HO_1, HO_5, HB⟩ := hcut
       cases kq with
       | zero => exact absurd HA.out (by simp [impl_changes.j2])
       | succ kj8 =>
        have H := HA.out; clear HA; simp only [impl_changes.j2] at H
        by_cases c22 : x43_8 = true
        ·subst c22; have H1 : (if 0 < (x0_1.length : Int) then (if x5_1.length < 2199023255552 then (if 1 ≤ (x0_1.length : Int) then (impl_changes.l0 kj8 (x0_1.drop 1) x1_1 (x5_1 ++ [(⟨(rd_T65 x0_1 0).f0, true, (rd_T65 x0_1 0).f1, false, (⟨#[]⟩ : ByteArray)⟩ : S120)])) else (none)) else (none)) else (none)) = some r := by rw [if_pos rfl] at H; exact H
         clear H; have H := H1; clear H1
         by_cases c23 : 0 < (x0_1.length : Int)
         ·rw [if_pos c23] at H; have c23b0 : decide (0 < (x0_1.length : Int)) = true := decide_eq_true c23; have c23b1 : decide (0 < x0_1.length) = true := decide_eq_true (by omega); clear c23
          by_cases c24 : x5_1.length < 2199023255552
          ·rw [if_pos c24] at H; have LMc24 := Aside0.mk c24; clear c24; obtain ⟨y790005, hy790005⟩ : ∃ y_ : List (S120), y_ = (x5_1 ++ [(⟨(rd_T65 x0_1 0).f0, true, (rd_T65 x0_1 0).f1, false, (⟨#[]⟩ : ByteArray)⟩ : S120)]) := ⟨_, rfl⟩
           replace H : (if 1 ≤ (x0_1.length : Int) then (impl_changes.l0 kj8 (x0_1.drop 1) x1_1 y790005) else (none)) = some r := by first | (rw [hy790005]; with_reducible exact H) | (have H2_ := (Option.bind_some _ _).symm.trans H; rw [hy790005]; with_reducible exact H2_) | (have H2_ := (Option.bind_some _ _).symm.trans H; with_reducible exact H2_) | with_reducible exact H | (rw [hy790005]; exact H) | exact H
           have Ny790005 := Aside0.mk hy790005; clear hy790005
           by_cases c25 : 1 ≤ (x0_1.length : Int)
           ·rw [if_pos c25] at H; have c25b0 := eq_true c25; have c25b1 : decide (1 ≤ (x0_1.length : Int)) = true := decide_eq_true c25; clear c25; obtain ⟨y790008, hy790008⟩ : ∃ y_ : List (S65), y_ = (x0_1.drop 1) := ⟨_, rfl⟩
            replace H : (impl_changes.l0 kj8 y790008 x1_1 y790005) = some r := by first | (rw [hy790008]; with_reducible exact H) | (have H2_ := (Option.bind_some _ _).symm.trans H; rw [hy790008]; with_reducible exact H2_) | (have H2_ := (Option.bind_some _ _).symm.trans H; with_reducible exact H2_) | with_reducible exact H | (rw [hy790008]; exact H) | exact H
            have Ny790008 := Aside0.mk hy790008; clear hy790008; have H' := Aside0.mk H; clear H
            try go_wp2
            have n0_ := Aside0.mk (Kd.V_drew HO_0.out); have n1_ := Aside0.mk (Kd.V_drew HO_1.out); have n2_ := Aside0.mk (Kd.R_drew HO_5.out); have n3_ := Aside0.mk (below_drew1 HB.out); clear HO_0; clear HO_1; clear HO_5; clear HB; have HO_0 := n0_; have HO_1 := n1_; have HO_5 := n2_; have HB := n3_; clear n0_ n1_ n2_ n3_; obtain ⟨Ao27, co27, eo27⟩ := Kd.V_slice HO_0.out; (first | subst eo27 | (injection eo27 with f1_ f2_ f3_; have f4_ := f1_.symm; have f5_ := f3_.symm; clear f1_ f2_ f3_; subst f4_; subst f5_)); have p790003 : 0 ≤ (0 : Int) := (by omega)
            have q790003 : 0 < (x0_1.length : Int) := of_decide_eq_true zq_2; obtain ⟨ad790003, e790003, hx790003_0, hx790003_1⟩ := at_T65 (Kd.V_reads' HO_0.out).2.2 0 p790003 q790003
            cases e790003
            have qi790003 : (0 < x0_1.length) = True := eq_true (by omega); (try rw [show ((0 : Int)).toNat = 0 from rfl] at hx790003_0); (try rw [show 0 * 2 = 0 from rfl] at hx790003_0); (try rw [Addr.add_zero'] at hx790003_0); (try rw [show ((0 : Int)).toNat = 0 from rfl] at hx790003_1); (try rw [show 0 * 2 = 0 from rfl] at hx790003_1); (try rw [Addr.add_zero'] at hx790003_1); replace p790003 := eq_true p790003; replace q790003 := eq_true q790003; have p790004 : 0 ≤ (0 : Int) := (by omega)
            have q790004 : 0 < (x0_1.length : Int) := of_decide_eq_true zq_2; obtain ⟨ad790004, e790004, hx790004_0, hx790004_1⟩ := at_T65 (Kd.V_reads' HO_0.out).2.2 0 p790004 q790004; obtain rfl : ad790003 = ad790004 := (by injection e790004)
            have qi790004 : (0 < x0_1.length) = True := eq_true (by omega); (try rw [show ((0 : Int)).toNat = 0 from rfl] at hx790004_0); (try rw [show 0 * 2 = 0 from rfl] at hx790004_0); (try rw [Addr.add_zero'] at hx790004_0); (try rw [show ((0 : Int)).toNat = 0 from rfl] at hx790004_1); (try rw [show 0 * 2 = 0 from rfl] at hx790004_1); (try rw [Addr.add_zero'] at hx790004_1); replace p790004 := eq_true p790004; replace q790004 := eq_true q790004; refine start_ (n := 13) (S := fun w' => w'.cell? ad790003 = some (.string ((rd_T65 x0_1 0).f0)) ∧ w'.cell? ⟨ad790003.block, ad790003.off + 1, none⟩ = some (.string ((rd_T65 x0_1 0).f1)) ∧ w'.cell? ad790003 = some (.string ((rd_T65 x0_1 0).f0)) ∧ w'.cell? ⟨ad790003.block, ad790003.off + 1, none⟩ = some (.string ((rd_T65 x0_1 0).f1))) (ds := [10, 11]) #[false, false, false, false, false, false, false, false, false, false, false, false, false] (by kernel_rfl) rfl rfl ⟨hx790003_0, hx790003_1, hx790004_0, hx790004_1⟩ (fun hHeld => ?_); refine with_tabW impl_changes.tab7 impl_changes.bits7 (fun HT_ HW_ => ?_); generalize wc.drew = w26 at HO_0 HO_1 HO_5 HB hx790003_0 hx790003_1 hx790004_0 hx790004_1 hHeld ⊢; refine pq_ (i := 0) (N := some 63) HT_.out ?_; refine pq_ (i := 1) (N := some 64) HT_.out ?_; refine pq_ (i := 2) (N := some 65) HT_.out ?_; refine pq_ (i := 3) (N := some 66) HT_.out ?_; refine pq_ (i := 5) (N := some 68) HT_.out ?_; refine pq_ (i := 6) (N := some 69) HT_.out ?_; refine pq_ (i := 7) (N := some 70) HT_.out ?_; refine tq_ (i := 4) (N := some 67) HT_.out HW_.out hHeld (hy := by rintro w' ⟨s0, s1, s2, s3⟩; go_simp; with_reducible rfl) (h := ?_); refine tq_ (i := 8) (N := some 71) HT_.out HW_.out hHeld (hy := by rintro w' ⟨s0, s1, s2, s3⟩; go_simp; with_reducible rfl) (h := ?_); refine pq_ (i := 9) (N := some 72) HT_.out ?_; refine last_ (i := 10) (N := some 73) #[true, true, true, true, true, true, true, true, true, true, true, false, false] rfl rfl (one_of HT_.out (by kernel_rfl)) (by decide) (fun K hK => ?_); refine value_ (w1 := ?_) (v := ?_) (by rfl) rfl ?_ ?_; rotate_left 2
            ·go_simp
             constructor
             ·rfl
             ·rfl
            refine hK.out _ _ ?_; clear hK K; refine norm_ (a' := ?_) ?_ ?_; rotate_left
            ·show Act.put _ (some 73) _ = _; simp only [Act.put, List.setIfInBounds_toArray, List.set_cons_zero, List.set_cons_succ, i64_w, i32_w]; rfl
            refine last_ (i := 11) (N := some 74) #[true, true, true, true, true, true, true, true, true, true, true, true, false] rfl rfl (one_of HT_.out (by kernel_rfl)) (by decide) (fun K hK => ?_); refine Kd.R_append_step k120 (w0 := w) w.heap.size (by rfl) (.tmp 63) (.tmp 73) 52 120 (.agg #[(.string ⟨#[]⟩), (.bool false), (.string ⟨#[]⟩), (.bool false), (.string ⟨#[]⟩)]) 64 rfl Tryd.underlying52 info120 rfl (by decide) (by omega) u5 x5_1 (⟨(rd_T65 x0_1 0).f0, true, (rd_T65 x0_1 0).f1, false, (⟨#[]⟩ : ByteArray)⟩ : S120) [.string ((rd_T65 x0_1 0).f0), .bool true, .string ((rd_T65 x0_1 0).f1), .bool false, .string (⟨#[]⟩ : ByteArray)] (fun k_ => (w.heap.size ≤ k_)) (fun _ => False) rfl rfl ?aP (fun _ hk => hk.elim) ?aF ?aO ?aB ?aS ?aL ?_; (case aP => exact k120_mkM _ _ _ (⟨(rd_T65 x0_1 0).f0, true, (rd_T65 x0_1 0).f1, false, (⟨#[]⟩ : ByteArray)⟩ : S120)); (case aB => exact zq_0); (case aF => exact (fun k_ hk => (Nat.le_trans (below_size zq_0) hk))); (case aO => exact zq_40); (case aS => exact (below_size zq_0)); (case aL => have := LMc24.out; omega); intro v790006 w28 ho hb hg hat; rw [← Ny790005.out] at ho; have n0_ := Aside0.mk (Kd.V_afterv (ok := (fun k_ => ((P0_ k_ ∨ P1_ k_) ∨ w.heap.size ≤ k_))) zq_41 hg hat); have n1_ := Aside0.mk (Kd.V_afterv (ok := (fun k_ => ((P0_ k_ ∨ P1_ k_) ∨ w.heap.size ≤ k_))) (by (with_reducible repeat (first | apply Kd.V_alloc | apply Kd.V_drewN | apply Kd.V_drew)); exact HO_1.out) hg hat); have n2_ := Aside0.mk (hb); have n3_ := Aside0.mk (ho); clear HO_0; clear HO_1; clear HB; clear HO_5; have HO_0 := n0_; have HO_1 := n1_; have HB := n2_; have HO790007 := n3_; clear n0_ n1_ n2_ n3_; clear ho hb hg hat; refine hK.out _ _ ?_; clear hK K; refine norm_ (a' := ?_) ?_ ?_; rotate_left
            ·show Act.put _ (some 74) _ = _; simp only [Act.put, List.setIfInBounds_toArray, List.set_cons_zero, List.set_cons_succ, i64_w, i32_w]; rfl
            refine pq_ (i := 12) (N := some 5) HT_.out ?_; refine done_ (done_of HT_.out (by kernel_rfl)) ?_; have q29 : (1 : Int) ≤ ((x0_1.length : Int) : Int) := of_decide_eq_true zq_2; obtain ⟨i029, hi029, _, hsz29, _⟩ := info_parts info65; have hroom29 : x0_1.length ≤ co27 := (Kd.V_reads' HO_0.out).2.1; have hC29 : Kd.F k65 _ _ (some ad790003) x0_1.length x0_1 := (Kd.V_at (base := w.heap.size) HO_0.out).2.2; have hcut29 := cut_from (P := Tryd.prog) 25 65 .i64 Tryd.underlying25 hi029 2 hsz29 (some ad790003) x0_1.length co27 1 (by omega) q29; have hr29 := Kd.F_cut (m := (1 : Int).toNat) (c := co27) hC29 (by omega) hroom29; obtain ⟨A29, hA29⟩ : ∃ Az_, Az_ = (if co27 = (1 : Int).toNat then (some ad790003) else ((some ad790003) : Option Addr).map (·.add ((1 : Int).toNat * 2))) := ⟨_, rfl⟩
            obtain ⟨c29, hc29⟩ : ∃ cz_, cz_ = co27 - (1 : Int).toNat := ⟨_, rfl⟩
            have hy29 : y790008.length = x0_1.length - (1 : Int).toNat := (by rw [Ny790008.out, List.length_drop] <;> omega)
            rw [show (x0_1).drop (1 : Int).toNat = y790008 from Ny790008.out.symm] at hr29; replace hr29 : Kd.F k65 _ _ A29 y790008.length y790008 := (by rw [hA29]; exact hr29)
            rw [← hy29, ← hA29, ← hc29] at hcut29; have HO790012 := Aside0.mk (show Kd.V k65 65 _ w.heap.size _ (.slice A29 y790008.length c29) y790008 from Kd.V_mk (by rw [hy29, hc29]; exact Nat.sub_le_sub_right hroom29 _) hr29); have HC790012 := Aside0.mk (show y790008.length ≤ c29 from by rw [hy29, hc29]; exact Nat.sub_le_sub_right hroom29 _); clear hr29 hC29 hroom29 hi029 hsz29 hc29; have KY29 := Aside0.mk hy29; have KA29 := Aside0.mk hA29; clear hy29 hA29; replace q29 := eq_true q29
            try go_wp2
            go_roundg kj8
            case measure => have := HK1.out; have := HJ2.out; have := HJ8.out; omega
            case rel => exact ⟨(y790008), (x1_1), (y790005), H', ⟨by have := HK1.out; have := HJ2.out; have := HJ8.out; omega⟩, ⟨by (with_reducible repeat (first | apply Kd.V_alloc | apply Kd.V_drewN | apply Kd.V_drew)); exact HO790012.out⟩, ⟨by (with_reducible repeat (first | apply Kd.V_alloc | apply Kd.V_drewN | apply Kd.V_drew)); exact HO_1.out⟩, ⟨by (with_reducible repeat (first | apply Kd.R_alloc | apply Kd.R_drewN | apply Kd.R_drew)); exact HO790007.out⟩, ⟨by repeat (first | (with_reducible first | exact HB.out | apply below_alloc | apply pw_below_drewN | apply below_drew1) | exact HB.out)⟩⟩
           ·rw [if_neg c25] at H; exact absurd H (by simp)
          ·rw [if_neg c24] at H; exact absurd H (by simp)
         ·rw [if_neg c23] at H; exact absurd H (by simp)
        ·replace c22 := Bool.eq_false_iff.mpr c22; subst c22; have H1 : (if (x0_1.length : Int) = 0 then (impl_changes.j3 kj8 x0_1 x1_1 x5_1 true) else (if 0 < (x1_1.length : Int) then (if 0 < (x0_1.length : Int) then (impl_changes.j3 kj8 x0_1 x1_1 x5_1 (Op.bytesLess (((rd_T65 x1_1 0).f0).toList) (((rd_T65 x0_1 0).f0).toList))) else (none)) else (none))) = some r := by rw [if_neg (show ¬ (false = true) by decide)] at H; exact H
         clear H; have H := H1; clear H1; have HC30 := Aside0.mk H; clear H
         go_upto_region 9 with (fail)
         go_cut [77] (fun v77 wc => ∃ (kq : Nat) (x77_29 : Bool), v77 = .bool x77_29 ∧ Aside0 (impl_changes.j3 kq x0_1 x1_1 x5_1 x77_29 = some r) ∧ Aside0 (kq ≤ kj8) ∧ Aside0 (Kd.V k65 65 wc w.heap.size (fun k_ => ((P0_ k_ ∨ P1_ k_) ∨ w.heap.size ≤ k_) ∧ some k_ ≠ (u5 : Value).ownBlock) u0 x0_1) ∧ Aside0 (Kd.V k65 65 wc w.heap.size (fun k_ => ((P0_ k_ ∨ P1_ k_) ∨ w.heap.size ≤ k_) ∧ some k_ ≠ (u5 : Value).ownBlock) u1 x1_1) ∧ Aside0 (Kd.R k120 120 wc w.heap.size (fun k_ => (w.heap.size ≤ k_)) u5 x5_1) ∧ Aside0 (Below w.heap.size w wc))
         case first =>
          have H := HC30.out; clear HC30
          by_cases c31 : (x0_1.length : Int) = 0
          ·rw [if_pos c31] at H; have c31b0 : ((x0_1.length : Int) == 0) = true := beq_iff_eq.mpr c31; have c31b1 : ((x0_1.length : Int) != 0) = false := bne_eq_false_iff_eq.mpr c31; clear c31; (first | rw [c31b0] | (simp only [i64_w, i32_w]; rw [c31b0]) | skip); have H' := Aside0.mk H; clear H
           try go_wp2
           have n0_ := Aside0.mk (Kd.V_drew HO_0.out); have n1_ := Aside0.mk (Kd.V_drew HO_1.out); have n2_ := Aside0.mk (Kd.R_drew HO_5.out); have n3_ := Aside0.mk (below_drew1 HB.out); clear HO_0; clear HO_1; clear HO_5; clear HB; have HO_0 := n0_; have HO_1 := n1_; have HO_5 := n2_; have HB := n3_; clear n0_ n1_ n2_ n3_; obtain ⟨Ao33, co33, eo33⟩ := Kd.V_slice HO_0.out; (first | subst eo33 | (injection eo33 with f1_ f2_ f3_; have f4_ := f1_.symm; have f5_ := f3_.symm; clear f1_ f2_ f3_; subst f4_; subst f5_)); refine start_ (n := 15) (S := fun w' => True) (ds := []) #[false, false, false, false, false, false, false, false, false, false, false, false, false, false, false] (by kernel_rfl) rfl rfl trivial (fun hHeld => ?_); refine with_tabW impl_changes.tab9 impl_changes.bits9 (fun HT_ HW_ => ?_); generalize wc.drew = w32 at HO_0 HO_1 HO_5 HB hHeld ⊢; refine pq_ (i := 0) (N := some 78) HT_.out ?_; refine pq_ (i := 1) (N := some 79) HT_.out ?_; refine pq_ (i := 2) (N := some 80) HT_.out ?_; refine pq_ (i := 3) (N := some 81) HT_.out ?_; refine pu_ (i := 4) (N := some 82) HT_.out ?_; refine pu_ (i := 5) (N := some 83) HT_.out ?_; refine pu_ (i := 6) (N := some 84) HT_.out ?_; refine pu_ (i := 7) (N := some 85) HT_.out ?_; refine pu_ (i := 8) (N := some 86) HT_.out ?_; refine pu_ (i := 9) (N := some 87) HT_.out ?_; refine pu_ (i := 10) (N := some 88) HT_.out ?_; refine pu_ (i := 11) (N := some 89) HT_.out ?_; refine pu_ (i := 12) (N := some 90) HT_.out ?_; refine pq_ (i := 13) (N := some 91) HT_.out ?_; refine pq_ (i := 14) (N := some 77) HT_.out ?_; refine done_ (done_of HT_.out (by kernel_rfl)) ?_
           try go_wp2
           go_meet
           case rel => exact ⟨_, (true), zq_6, H', ⟨by have := HK1.out; have := HJ2.out; have := HJ8.out; first | omega | exact Nat.le_refl _⟩, ⟨by (with_reducible repeat (first | apply Kd.V_alloc | apply Kd.V_drewN | apply Kd.V_drew)); exact HO_0.out⟩, ⟨by (with_reducible repeat (first | apply Kd.V_alloc | apply Kd.V_drewN | apply Kd.V_drew)); exact HO_1.out⟩, ⟨by (with_reducible repeat (first | apply Kd.R_alloc | apply Kd.R_drewN | apply Kd.R_drew)); exact HO_5.out⟩, ⟨by repeat (first | (with_reducible first | exact HB.out | apply below_alloc | apply pw_below_drewN | apply below_drew1) | exact HB.out)⟩⟩
          ·rw [if_neg c31] at H; have c31b0 : ((x0_1.length : Int) == 0) = false := beq_eq_false_iff_ne.mpr c31; have c31b1 : ((x0_1.length : Int) != 0) = true := bne_iff_ne.mpr c31; have c31b2 : ¬ (x0_1 = []) := fun h_ => c31 (by rw [h_]; rfl)
           (first | rw [c31b0] | (simp only [i64_w, i32_w]; rw [c31b0]) | skip)
           by_cases c34 : 0 < (x1_1.length : Int)
           ·rw [if_pos c34] at H; have c34b0 : decide (0 < (x1_1.length : Int)) = true := decide_eq_true c34; have c34b1 : decide (0 < x1_1.length) = true := decide_eq_true (by omega); clear c34
            by_cases c35 : 0 < (x0_1.length : Int)
            ·rw [if_pos c35] at H; have c35b0 : decide (0 < (x0_1.length : Int)) = true := decide_eq_true c35; have c35b1 : decide (0 < x0_1.length) = true := decide_eq_true (by omega); clear c35; have H' := Aside0.mk H; clear H
             try go_wp2
             have n0_ := Aside0.mk (Kd.V_drew HO_0.out); have n1_ := Aside0.mk (Kd.V_drew HO_1.out); have n2_ := Aside0.mk (Kd.R_drew HO_5.out); have n3_ := Aside0.mk (below_drew1 HB.out); clear HO_0; clear HO_1; clear HO_5; clear HB; have HO_0 := n0_; have HO_1 := n1_; have HO_5 := n2_; have HB := n3_; clear n0_ n1_ n2_ n3_; obtain ⟨Ao37, co37, eo37⟩ := Kd.V_slice HO_0.out; (first | subst eo37 | (injection eo37 with f1_ f2_ f3_; have f4_ := f1_.symm; have f5_ := f3_.symm; clear f1_ f2_ f3_; subst f4_; subst f5_)); obtain ⟨Ao38, co38, eo38⟩ := Kd.V_slice HO_1.out; (first | subst eo38 | (injection eo38 with f1_ f2_ f3_; have f4_ := f1_.symm; have f5_ := f3_.symm; clear f1_ f2_ f3_; subst f4_; subst f5_)); have p790013 : 0 ≤ (0 : Int) := (by omega)
             have q790013 : 0 < (x1_1.length : Int) := of_decide_eq_true zq_2; obtain ⟨ad790013, e790013, hx790013_0, hx790013_1⟩ := at_T65 (Kd.V_reads' HO_1.out).2.2 0 p790013 q790013
             cases e790013
             have qi790013 : (0 < x1_1.length) = True := eq_true (by omega); (try rw [show ((0 : Int)).toNat = 0 from rfl] at hx790013_0); (try rw [show 0 * 2 = 0 from rfl] at hx790013_0); (try rw [Addr.add_zero'] at hx790013_0); (try rw [show ((0 : Int)).toNat = 0 from rfl] at hx790013_1); (try rw [show 0 * 2 = 0 from rfl] at hx790013_1); (try rw [Addr.add_zero'] at hx790013_1); replace p790013 := eq_true p790013; replace q790013 := eq_true q790013; have p790014 : 0 ≤ (0 : Int) := (by omega)
             have q790014 : 0 < (x0_1.length : Int) := of_decide_eq_true zq_2; obtain ⟨ad790014, e790014, hx790014_0, hx790014_1⟩ := at_T65 (Kd.V_reads' HO_0.out).2.2 0 p790014 q790014
             cases e790014
             have qi790014 : (0 < x0_1.length) = True := eq_true (by omega); (try rw [show ((0 : Int)).toNat = 0 from rfl] at hx790014_0); (try rw [show 0 * 2 = 0 from rfl] at hx790014_0); (try rw [Addr.add_zero'] at hx790014_0); (try rw [show ((0 : Int)).toNat = 0 from rfl] at hx790014_1); (try rw [show 0 * 2 = 0 from rfl] at hx790014_1); (try rw [Addr.add_zero'] at hx790014_1); replace p790014 := eq_true p790014; replace q790014 := eq_true q790014; refine start_ (n := 15) (S := fun w' => w'.cell? ad790013 = some (.string ((rd_T65 x1_1 0).f0)) ∧ w'.cell? ⟨ad790013.block, ad790013.off + 1, none⟩ = some (.string ((rd_T65 x1_1 0).f1)) ∧ w'.cell? ad790014 = some (.string ((rd_T65 x0_1 0).f0)) ∧ w'.cell? ⟨ad790014.block, ad790014.off + 1, none⟩ = some (.string ((rd_T65 x0_1 0).f1))) (ds := []) #[false, false, false, false, false, false, false, false, false, false, false, false, false, false, false] (by kernel_rfl) rfl rfl ⟨hx790013_0, hx790013_1, hx790014_0, hx790014_1⟩ (fun hHeld => ?_); refine with_tabW impl_changes.tab9 impl_changes.bits9 (fun HT_ HW_ => ?_); generalize wc.drew = w36 at HO_0 HO_1 HO_5 HB hx790013_0 hx790013_1 hx790014_0 hx790014_1 hHeld ⊢; refine pq_ (i := 0) (N := some 78) HT_.out ?_; refine pq_ (i := 1) (N := some 79) HT_.out ?_; refine pq_ (i := 2) (N := some 80) HT_.out ?_; refine pq_ (i := 3) (N := some 81) HT_.out ?_; refine pq_ (i := 4) (N := some 82) HT_.out ?_; refine pq_ (i := 5) (N := some 83) HT_.out ?_; refine pq_ (i := 6) (N := some 84) HT_.out ?_; refine pq_ (i := 8) (N := some 86) HT_.out ?_; refine pq_ (i := 9) (N := some 87) HT_.out ?_; refine pq_ (i := 10) (N := some 88) HT_.out ?_; refine tq_ (i := 7) (N := some 85) HT_.out HW_.out hHeld (hy := by rintro w' ⟨s0, s1, s2, s3⟩; go_simp; with_reducible rfl) (h := ?_); refine tq_ (i := 11) (N := some 89) HT_.out HW_.out hHeld (hy := by rintro w' ⟨s0, s1, s2, s3⟩; go_simp; with_reducible rfl) (h := ?_); refine pq_ (i := 12) (N := some 90) HT_.out ?_; refine pq_ (i := 13) (N := some 91) HT_.out ?_; refine pq_ (i := 14) (N := some 77) HT_.out ?_; refine done_ (done_of HT_.out (by kernel_rfl)) ?_
             try go_wp2
             go_meet
             case rel => exact ⟨_, ((Op.bytesLess (((rd_T65 x1_1 0).f0).toList) (((rd_T65 x0_1 0).f0).toList))), zq_6, H', ⟨by have := HK1.out; have := HJ2.out; have := HJ8.out; first | omega | exact Nat.le_refl _⟩, ⟨by (with_reducible repeat (first | apply Kd.V_alloc | apply Kd.V_drewN | apply Kd.V_drew)); exact HO_0.out⟩, ⟨by (with_reducible repeat (first | apply Kd.V_alloc | apply Kd.V_drewN | apply Kd.V_drew)); exact HO_1.out⟩, ⟨by (with_reducible repeat (first | apply Kd.R_alloc | apply Kd.R_drewN | apply Kd.R_drew)); exact HO_5.out⟩, ⟨by repeat (first | (with_reducible first | exact HB.out | apply below_alloc | apply pw_below_drewN | apply below_drew1) | exact HB.out)⟩⟩
            ·rw [if_neg c35] at H; exact absurd H (by simp)
           ·rw [if_neg c34] at H; exact absurd H (by simp)
         case rest =>
          clear HC30
          try clear c1
          try clear c2
          try clear p2
          try clear q2
          try clear c3
          try clear c4
          try clear c4b0
          try clear c4b1
          try clear c7
          try clear p7
          try clear q7
          try clear hx7
          try clear qi7
          try clear c8
          try clear c10
          try clear c10b0
          try clear c10b1
          try clear c10b2
          try clear c13
          try clear c13b0
          try clear c13b1
          try clear c14
          try clear c14b0
          try clear c14b1
          try clear c15
          try clear c15b0
          try clear c15b1
          try clear c22
          try clear c23
          try clear c23b0
          try clear c23b1
          try clear c24
          try clear c25
          try clear c25b0
          try clear c25b1
          try clear c29
          try clear q29
          try clear c31
          try clear c31b0
          try clear c31b1
          try clear c31b2
          try clear c34
          try clear c34b0
          try clear c34b1
          try clear c35
          try clear c35b0
          try clear c35b1
          try clear hx790001_0
          try clear hx790001_1
          try clear hx790002_0
          try clear hx790002_1
          try clear hx790003_0
          try clear hx790003_1
          try clear hx790004_0
          try clear hx790004_1
          try clear hx790013_0
          try clear hx790013_1
          try clear hx790014_0
          try clear hx790014_1
          try clear p2
          try clear p7
          try clear p790001
          try clear p790002
          try clear p790003
          try clear p790004
          try clear p790013
          try clear p790014
          try clear q29
          try clear q7
          try clear q790001
          try clear q790002
          try clear q790003
          try clear q790004
          try clear q790013
          try clear q790014
          obtain ⟨kq, x77_29, rfl, HA, HJ29, HO_0, HO_1, HO_5, HB⟩ := hcut
          cases kq with
          | zero => exact absurd HA.out (by simp [impl_changes.j3])
          | succ kj29 =>
           have H := HA.out; clear HA; simp only [impl_changes.j3] at H
           by_cases c39 : x77_29 = true
           ·subst c39; have H1 : (if 0 < (x1_1.length : Int) then (if x5_1.length < 2199023255552 then (if 1 ≤ (x1_1.length : Int) then (impl_changes.l0 kj29 x0_1 (x1_1.drop 1) (x5_1 ++ [(⟨(rd_T65 x1_1 0).f0, false, (⟨#[]⟩ : ByteArray), true, (rd_T65 x1_1 0).f1⟩ : S120)])) else (none)) else (none)) else (none)) = some r := by rw [if_pos rfl] at H; exact H
            clear H; have H := H1; clear H1
            by_cases c40 : 0 < (x1_1.length : Int)
            ·rw [if_pos c40] at H; have c40b0 : decide (0 < (x1_1.length : Int)) = true := decide_eq_true c40; have c40b1 : decide (0 < x1_1.length) = true := decide_eq_true (by omega); clear c40
             by_cases c41 : x5_1.length < 2199023255552
             ·rw [if_pos c41] at H; have LMc41 := Aside0.mk c41; clear c41; obtain ⟨y790017, hy790017⟩ : ∃ y_ : List (S120), y_ = (x5_1 ++ [(⟨(rd_T65 x1_1 0).f0, false, (⟨#[]⟩ : ByteArray), true, (rd_T65 x1_1 0).f1⟩ : S120)]) := ⟨_, rfl⟩
              replace H : (if 1 ≤ (x1_1.length : Int) then (impl_changes.l0 kj29 x0_1 (x1_1.drop 1) y790017) else (none)) = some r := by first | (rw [hy790017]; with_reducible exact H) | (have H2_ := (Option.bind_some _ _).symm.trans H; rw [hy790017]; with_reducible exact H2_) | (have H2_ := (Option.bind_some _ _).symm.trans H; with_reducible exact H2_) | with_reducible exact H | (rw [hy790017]; exact H) | exact H
              have Ny790017 := Aside0.mk hy790017; clear hy790017
              by_cases c42 : 1 ≤ (x1_1.length : Int)
              ·rw [if_pos c42] at H; have c42b0 := eq_true c42; have c42b1 : decide (1 ≤ (x1_1.length : Int)) = true := decide_eq_true c42; clear c42; obtain ⟨y790020, hy790020⟩ : ∃ y_ : List (S65), y_ = (x1_1.drop 1) := ⟨_, rfl⟩
               replace H : (impl_changes.l0 kj29 x0_1 y790020 y790017) = some r := by first | (rw [hy790020]; with_reducible exact H) | (have H2_ := (Option.bind_some _ _).symm.trans H; rw [hy790020]; with_reducible exact H2_) | (have H2_ := (Option.bind_some _ _).symm.trans H; with_reducible exact H2_) | with_reducible exact H | (rw [hy790020]; exact H) | exact H
               have Ny790020 := Aside0.mk hy790020; clear hy790020; have H' := Aside0.mk H; clear H
               try go_wp2
               have n0_ := Aside0.mk (Kd.V_drew HO_0.out); have n1_ := Aside0.mk (Kd.V_drew HO_1.out); have n2_ := Aside0.mk (Kd.R_drew HO_5.out); have n3_ := Aside0.mk (below_drew1 HB.out); clear HO_0; clear HO_1; clear HO_5; clear HB; have HO_0 := n0_; have HO_1 := n1_; have HO_5 := n2_; have HB := n3_; clear n0_ n1_ n2_ n3_; obtain ⟨Ao44, co44, eo44⟩ := Kd.V_slice HO_1.out; (first | subst eo44 | (injection eo44 with f1_ f2_ f3_; have f4_ := f1_.symm; have f5_ := f3_.symm; clear f1_ f2_ f3_; subst f4_; subst f5_)); have p790015 : 0 ≤ (0 : Int) := (by omega)
               have q790015 : 0 < (x1_1.length : Int) := of_decide_eq_true zq_2; obtain ⟨ad790015, e790015, hx790015_0, hx790015_1⟩ := at_T65 (Kd.V_reads' HO_1.out).2.2 0 p790015 q790015
               cases e790015
               have qi790015 : (0 < x1_1.length) = True := eq_true (by omega); (try rw [show ((0 : Int)).toNat = 0 from rfl] at hx790015_0); (try rw [show 0 * 2 = 0 from rfl] at hx790015_0); (try rw [Addr.add_zero'] at hx790015_0); (try rw [show ((0 : Int)).toNat = 0 from rfl] at hx790015_1); (try rw [show 0 * 2 = 0 from rfl] at hx790015_1); (try rw [Addr.add_zero'] at hx790015_1); replace p790015 := eq_true p790015; replace q790015 := eq_true q790015; have p790016 : 0 ≤ (0 : Int) := (by omega)
               have q790016 : 0 < (x1_1.length : Int) := of_decide_eq_true zq_2; obtain ⟨ad790016, e790016, hx790016_0, hx790016_1⟩ := at_T65 (Kd.V_reads' HO_1.out).2.2 0 p790016 q790016; obtain rfl : ad790015 = ad790016 := (by injection e790016)
               have qi790016 : (0 < x1_1.length) = True := eq_true (by omega); (try rw [show ((0 : Int)).toNat = 0 from rfl] at hx790016_0); (try rw [show 0 * 2 = 0 from rfl] at hx790016_0); (try rw [Addr.add_zero'] at hx790016_0); (try rw [show ((0 : Int)).toNat = 0 from rfl] at hx790016_1); (try rw [show 0 * 2 = 0 from rfl] at hx790016_1); (try rw [Addr.add_zero'] at hx790016_1); replace p790016 := eq_true p790016; replace q790016 := eq_true q790016; refine start_ (n := 13) (S := fun w' => w'.cell? ad790015 = some (.string ((rd_T65 x1_1 0).f0)) ∧ w'.cell? ⟨ad790015.block, ad790015.off + 1, none⟩ = some (.string ((rd_T65 x1_1 0).f1)) ∧ w'.cell? ad790015 = some (.string ((rd_T65 x1_1 0).f0)) ∧ w'.cell? ⟨ad790015.block, ad790015.off + 1, none⟩ = some (.string ((rd_T65 x1_1 0).f1))) (ds := [10, 11]) #[false, false, false, false, false, false, false, false, false, false, false, false, false] (by kernel_rfl) rfl rfl ⟨hx790015_0, hx790015_1, hx790016_0, hx790016_1⟩ (fun hHeld => ?_); refine with_tabW impl_changes.tab10 impl_changes.bits10 (fun HT_ HW_ => ?_); generalize wc.drew = w43 at HO_0 HO_1 HO_5 HB hx790015_0 hx790015_1 hx790016_0 hx790016_1 hHeld ⊢; refine pq_ (i := 0) (N := some 92) HT_.out ?_; refine pq_ (i := 1) (N := some 93) HT_.out ?_; refine pq_ (i := 2) (N := some 94) HT_.out ?_; refine pq_ (i := 3) (N := some 95) HT_.out ?_; refine pq_ (i := 5) (N := some 97) HT_.out ?_; refine pq_ (i := 6) (N := some 98) HT_.out ?_; refine pq_ (i := 7) (N := some 99) HT_.out ?_; refine tq_ (i := 4) (N := some 96) HT_.out HW_.out hHeld (hy := by rintro w' ⟨s0, s1, s2, s3⟩; go_simp; with_reducible rfl) (h := ?_); refine tq_ (i := 8) (N := some 100) HT_.out HW_.out hHeld (hy := by rintro w' ⟨s0, s1, s2, s3⟩; go_simp; with_reducible rfl) (h := ?_); refine pq_ (i := 9) (N := some 101) HT_.out ?_; refine last_ (i := 10) (N := some 102) #[true, true, true, true, true, true, true, true, true, true, true, false, false] rfl rfl (one_of HT_.out (by kernel_rfl)) (by decide) (fun K hK => ?_); refine value_ (w1 := ?_) (v := ?_) (by rfl) rfl ?_ ?_; rotate_left 2
               ·go_simp
                constructor
                ·rfl
                ·rfl
               refine hK.out _ _ ?_; clear hK K; refine norm_ (a' := ?_) ?_ ?_; rotate_left
               ·show Act.put _ (some 102) _ = _; simp only [Act.put, List.setIfInBounds_toArray, List.set_cons_zero, List.set_cons_succ, i64_w, i32_w]; rfl
               refine last_ (i := 11) (N := some 103) #[true, true, true, true, true, true, true, true, true, true, true, true, false] rfl rfl (one_of HT_.out (by kernel_rfl)) (by decide) (fun K hK => ?_); refine Kd.R_append_step k120 (w0 := w) w.heap.size (by rfl) (.tmp 92) (.tmp 102) 52 120 (.agg #[(.string ⟨#[]⟩), (.bool false), (.string ⟨#[]⟩), (.bool false), (.string ⟨#[]⟩)]) 64 rfl Tryd.underlying52 info120 rfl (by decide) (by omega) u5 x5_1 (⟨(rd_T65 x1_1 0).f0, false, (⟨#[]⟩ : ByteArray), true, (rd_T65 x1_1 0).f1⟩ : S120) [.string ((rd_T65 x1_1 0).f0), .bool false, .string (⟨#[]⟩ : ByteArray), .bool true, .string ((rd_T65 x1_1 0).f1)] (fun k_ => (w.heap.size ≤ k_)) (fun _ => False) rfl rfl ?aP (fun _ hk => hk.elim) ?aF ?aO ?aB ?aS ?aL ?_; (case aP => exact k120_mkM _ _ _ (⟨(rd_T65 x1_1 0).f0, false, (⟨#[]⟩ : ByteArray), true, (rd_T65 x1_1 0).f1⟩ : S120)); (case aB => exact zq_0); (case aF => exact (fun k_ hk => (Nat.le_trans (below_size zq_0) hk))); (case aO => exact zq_40); (case aS => exact (below_size zq_0)); (case aL => have := LMc41.out; omega); intro v790018 w45 ho hb hg hat; rw [← Ny790017.out] at ho; have n0_ := Aside0.mk (Kd.V_afterv (ok := (fun k_ => ((P0_ k_ ∨ P1_ k_) ∨ w.heap.size ≤ k_))) zq_41 hg hat); have n1_ := Aside0.mk (Kd.V_afterv (ok := (fun k_ => ((P0_ k_ ∨ P1_ k_) ∨ w.heap.size ≤ k_))) (by (with_reducible repeat (first | apply Kd.V_alloc | apply Kd.V_drewN | apply Kd.V_drew)); exact HO_1.out) hg hat); have n2_ := Aside0.mk (hb); have n3_ := Aside0.mk (ho); clear HO_0; clear HO_1; clear HB; clear HO_5; have HO_0 := n0_; have HO_1 := n1_; have HB := n2_; have HO790019 := n3_; clear n0_ n1_ n2_ n3_; clear ho hb hg hat; refine hK.out _ _ ?_; clear hK K; refine norm_ (a' := ?_) ?_ ?_; rotate_left
               ·show Act.put _ (some 103) _ = _; simp only [Act.put, List.setIfInBounds_toArray, List.set_cons_zero, List.set_cons_succ, i64_w, i32_w]; rfl
               refine pq_ (i := 12) (N := some 5) HT_.out ?_; refine done_ (done_of HT_.out (by kernel_rfl)) ?_; have q46 : (1 : Int) ≤ ((x1_1.length : Int) : Int) := of_decide_eq_true zq_2; obtain ⟨i046, hi046, _, hsz46, _⟩ := info_parts info65; have hroom46 : x1_1.length ≤ co44 := (Kd.V_reads' HO_1.out).2.1; have hC46 : Kd.F k65 _ _ (some ad790015) x1_1.length x1_1 := (Kd.V_at (base := w.heap.size) HO_1.out).2.2; have hcut46 := cut_from (P := Tryd.prog) 25 65 .i64 Tryd.underlying25 hi046 2 hsz46 (some ad790015) x1_1.length co44 1 (by omega) q46; have hr46 := Kd.F_cut (m := (1 : Int).toNat) (c := co44) hC46 (by omega) hroom46; obtain ⟨A46, hA46⟩ : ∃ Az_, Az_ = (if co44 = (1 : Int).toNat then (some ad790015) else ((some ad790015) : Option Addr).map (·.add ((1 : Int).toNat * 2))) := ⟨_, rfl⟩
               obtain ⟨c46, hc46⟩ : ∃ cz_, cz_ = co44 - (1 : Int).toNat := ⟨_, rfl⟩
               have hy46 : y790020.length = x1_1.length - (1 : Int).toNat := (by rw [Ny790020.out, List.length_drop] <;> omega)
               rw [show (x1_1).drop (1 : Int).toNat = y790020 from Ny790020.out.symm] at hr46; replace hr46 : Kd.F k65 _ _ A46 y790020.length y790020 := (by rw [hA46]; exact hr46)
               rw [← hy46, ← hA46, ← hc46] at hcut46; have HO790024 := Aside0.mk (show Kd.V k65 65 _ w.heap.size _ (.slice A46 y790020.length c46) y790020 from Kd.V_mk (by rw [hy46, hc46]; exact Nat.sub_le_sub_right hroom46 _) hr46); have HC790024 := Aside0.mk (show y790020.length ≤ c46 from by rw [hy46, hc46]; exact Nat.sub_le_sub_right hroom46 _); clear hr46 hC46 hroom46 hi046 hsz46 hc46; have KY46 := Aside0.mk hy46; have KA46 := Aside0.mk hA46; clear hy46 hA46; replace q46 := eq_true q46
               try go_wp2
               go_roundg kj29
               case measure => have := HK1.out; have := HJ2.out; have := HJ8.out; have := HJ29.out; omega
               case rel => exact ⟨(x0_1), (y790020), (y790017), H', ⟨by have := HK1.out; have := HJ2.out; have := HJ8.out; have := HJ29.out; omega⟩, ⟨by (with_reducible repeat (first | apply Kd.V_alloc | apply Kd.V_drewN | apply Kd.V_drew)); exact HO_0.out⟩, ⟨by (with_reducible repeat (first | apply Kd.V_alloc | apply Kd.V_drewN | apply Kd.V_drew)); exact HO790024.out⟩, ⟨by (with_reducible repeat (first | apply Kd.R_alloc | apply Kd.R_drewN | apply Kd.R_drew)); exact HO790019.out⟩, ⟨by repeat (first | (with_reducible first | exact HB.out | apply below_alloc | apply pw_below_drewN | apply below_drew1) | exact HB.out)⟩⟩
              ·rw [if_neg c42] at H; exact absurd H (by simp)
             ·rw [if_neg c41] at H; exact absurd H (by simp)
            ·rw [if_neg c40] at H; exact absurd H (by simp)
           ·replace c39 := Bool.eq_false_iff.mpr c39; subst c39; have H1 : (if 0 < (x0_1.length : Int) then (if 0 < (x1_1.length : Int) then (if ((rd_T65 x0_1 0).f1).toList = ((rd_T65 x1_1 0).f1).toList then (if 1 ≤ (x0_1.length : Int) then (if 1 ≤ (x1_1.length : Int) then (impl_changes.l0 kj29 (x0_1.drop 1) (x1_1.drop 1) x5_1) else (none)) else (none)) else (if x5_1.length < 2199023255552 then (if 1 ≤ (x0_1.length : Int) then (if 1 ≤ (x1_1.length : Int) then (impl_changes.l0 kj29 (x0_1.drop 1) (x1_1.drop 1) (x5_1 ++ [(⟨(rd_T65 x0_1 0).f0, true, (rd_T65 x0_1 0).f1, true, (rd_T65 x1_1 0).f1⟩ : S120)])) else (none)) else (none)) else (none))) else (none)) else (none)) = some r := by rw [if_neg (show ¬ (false = true) by decide)] at H; exact H
            clear H; have H := H1; clear H1
            by_cases c47 : 0 < (x0_1.length : Int)
            ·rw [if_pos c47] at H; have c47b0 : decide (0 < (x0_1.length : Int)) = true := decide_eq_true c47; have c47b1 : decide (0 < x0_1.length) = true := decide_eq_true (by omega); clear c47
             by_cases c48 : 0 < (x1_1.length : Int)
             ·rw [if_pos c48] at H; have c48b0 : decide (0 < (x1_1.length : Int)) = true := decide_eq_true c48; have c48b1 : decide (0 < x1_1.length) = true := decide_eq_true (by omega); clear c48
              by_cases c49 : ((rd_T65 x0_1 0).f1).toList = ((rd_T65 x1_1 0).f1).toList
              ·rw [if_pos c49] at H; have c49b0 : (((rd_T65 x0_1 0).f1).toList == ((rd_T65 x1_1 0).f1).toList) = true := beq_iff_eq.mpr c49; have c49b1 : (((rd_T65 x0_1 0).f1).toList != ((rd_T65 x1_1 0).f1).toList) = false := bne_eq_false_iff_eq.mpr c49; clear c49
               by_cases c50 : 1 ≤ (x0_1.length : Int)
               ·rw [if_pos c50] at H; have c50b0 := eq_true c50; have c50b1 : decide (1 ≤ (x0_1.length : Int)) = true := decide_eq_true c50; clear c50; obtain ⟨y790027, hy790027⟩ : ∃ y_ : List (S65), y_ = (x0_1.drop 1) := ⟨_, rfl⟩
                replace H : (if 1 ≤ (x1_1.length : Int) then (impl_changes.l0 kj29 y790027 (x1_1.drop 1) x5_1) else (none)) = some r := by first | (rw [hy790027]; with_reducible exact H) | (have H2_ := (Option.bind_some _ _).symm.trans H; rw [hy790027]; with_reducible exact H2_) | (have H2_ := (Option.bind_some _ _).symm.trans H; with_reducible exact H2_) | with_reducible exact H | (rw [hy790027]; exact H) | exact H
                have Ny790027 := Aside0.mk hy790027; clear hy790027
                by_cases c51 : 1 ≤ (x1_1.length : Int)
                ·rw [if_pos c51] at H; have c51b0 := eq_true c51; have c51b1 : decide (1 ≤ (x1_1.length : Int)) = true := decide_eq_true c51; clear c51; obtain ⟨y790032, hy790032⟩ : ∃ y_ : List (S65), y_ = (x1_1.drop 1) := ⟨_, rfl⟩
                 replace H : (impl_changes.l0 kj29 y790027 y790032 x5_1) = some r := by first | (rw [hy790032]; with_reducible exact H) | (have H2_ := (Option.bind_some _ _).symm.trans H; rw [hy790032]; with_reducible exact H2_) | (have H2_ := (Option.bind_some _ _).symm.trans H; with_reducible exact H2_) | with_reducible exact H | (rw [hy790032]; exact H) | exact H
                 have Ny790032 := Aside0.mk hy790032; clear hy790032; have H' := Aside0.mk H; clear H
                 try go_wp2
                 have n0_ := Aside0.mk (Kd.V_drew HO_0.out); have n1_ := Aside0.mk (Kd.V_drew HO_1.out); have n2_ := Aside0.mk (Kd.R_drew HO_5.out); have n3_ := Aside0.mk (below_drew1 HB.out); clear HO_0; clear HO_1; clear HO_5; clear HB; have HO_0 := n0_; have HO_1 := n1_; have HO_5 := n2_; have HB := n3_; clear n0_ n1_ n2_ n3_; obtain ⟨Ao53, co53, eo53⟩ := Kd.V_slice HO_0.out; (first | subst eo53 | (injection eo53 with f1_ f2_ f3_; have f4_ := f1_.symm; have f5_ := f3_.symm; clear f1_ f2_ f3_; subst f4_; subst f5_)); have p790025 : 0 ≤ (0 : Int) := (by omega)
                 have q790025 : 0 < (x0_1.length : Int) := of_decide_eq_true zq_2; obtain ⟨ad790025, e790025, hx790025_0, hx790025_1⟩ := at_T65 (Kd.V_reads' HO_0.out).2.2 0 p790025 q790025
                 cases e790025
                 have qi790025 : (0 < x0_1.length) = True := eq_true (by omega); (try rw [show ((0 : Int)).toNat = 0 from rfl] at hx790025_0); (try rw [show 0 * 2 = 0 from rfl] at hx790025_0); (try rw [Addr.add_zero'] at hx790025_0); (try rw [show ((0 : Int)).toNat = 0 from rfl] at hx790025_1); (try rw [show 0 * 2 = 0 from rfl] at hx790025_1); (try rw [Addr.add_zero'] at hx790025_1); replace p790025 := eq_true p790025; replace q790025 := eq_true q790025; obtain ⟨Ao54, co54, eo54⟩ := Kd.V_slice HO_1.out; (first | subst eo54 | (injection eo54 with f1_ f2_ f3_; have f4_ := f1_.symm; have f5_ := f3_.symm; clear f1_ f2_ f3_; subst f4_; subst f5_)); have p790026 : 0 ≤ (0 : Int) := (by omega)
                 have q790026 : 0 < (x1_1.length : Int) := of_decide_eq_true zq_2; obtain ⟨ad790026, e790026, hx790026_0, hx790026_1⟩ := at_T65 (Kd.V_reads' HO_1.out).2.2 0 p790026 q790026
                 cases e790026
                 have qi790026 : (0 < x1_1.length) = True := eq_true (by omega); (try rw [show ((0 : Int)).toNat = 0 from rfl] at hx790026_0); (try rw [show 0 * 2 = 0 from rfl] at hx790026_0); (try rw [Addr.add_zero'] at hx790026_0); (try rw [show ((0 : Int)).toNat = 0 from rfl] at hx790026_1); (try rw [show 0 * 2 = 0 from rfl] at hx790026_1); (try rw [Addr.add_zero'] at hx790026_1); replace p790026 := eq_true p790026; replace q790026 := eq_true q790026; refine start_ (n := 9) (S := fun w' => w'.cell? ad790025 = some (.string ((rd_T65 x0_1 0).f0)) ∧ w'.cell? ⟨ad790025.block, ad790025.off + 1, none⟩ = some (.string ((rd_T65 x0_1 0).f1)) ∧ w'.cell? ad790026 = some (.string ((rd_T65 x1_1 0).f0)) ∧ w'.cell? ⟨ad790026.block, ad790026.off + 1, none⟩ = some (.string ((rd_T65 x1_1 0).f1))) (ds := []) #[false, false, false, false, false, false, false, false, false] (by kernel_rfl) rfl rfl ⟨hx790025_0, hx790025_1, hx790026_0, hx790026_1⟩ (fun hHeld => ?_); refine with_tabW impl_changes.tab3 impl_changes.bits3 (fun HT_ HW_ => ?_); generalize wc.drew = w52 at HO_0 HO_1 HO_5 HB hx790025_0 hx790025_1 hx790026_0 hx790026_1 hHeld ⊢; refine pq_ (i := 0) (N := some 14) HT_.out ?_; refine pq_ (i := 1) (N := some 15) HT_.out ?_; refine pq_ (i := 2) (N := some 16) HT_.out ?_; refine pq_ (i := 4) (N := some 18) HT_.out ?_; refine pq_ (i := 5) (N := some 19) HT_.out ?_; refine pq_ (i := 6) (N := some 20) HT_.out ?_; refine tq_ (i := 3) (N := some 17) HT_.out HW_.out hHeld (hy := by rintro w' ⟨s0, s1, s2, s3⟩; go_simp; with_reducible rfl) (h := ?_); refine tq_ (i := 7) (N := some 21) HT_.out HW_.out hHeld (hy := by rintro w' ⟨s0, s1, s2, s3⟩; go_simp; with_reducible rfl) (h := ?_); refine pq_ (i := 8) (N := some 22) HT_.out ?_; refine done_ (done_of HT_.out (by kernel_rfl)) ?_
                 try go_wp2
                 have n0_ := Aside0.mk (Kd.V_drew HO_0.out); have n1_ := Aside0.mk (Kd.V_drew HO_1.out); have n2_ := Aside0.mk (Kd.R_drew HO_5.out); have n3_ := Aside0.mk (below_drew1 HB.out); clear HO_0; clear HO_1; clear HO_5; clear HB; have HO_0 := n0_; have HO_1 := n1_; have HO_5 := n2_; have HB := n3_; clear n0_ n1_ n2_ n3_; have q56 : (1 : Int) ≤ ((x0_1.length : Int) : Int) := of_decide_eq_true zq_2; obtain ⟨i056, hi056, _, hsz56, _⟩ := info_parts info65; have hroom56 : x0_1.length ≤ co53 := (Kd.V_reads' HO_0.out).2.1; have hC56 : Kd.F k65 _ _ (some ad790025) x0_1.length x0_1 := (Kd.V_at (base := w.heap.size) HO_0.out).2.2; have hcut56 := cut_from (P := Tryd.prog) 25 65 .i64 Tryd.underlying25 hi056 2 hsz56 (some ad790025) x0_1.length co53 1 (by omega) q56; have hr56 := Kd.F_cut (m := (1 : Int).toNat) (c := co53) hC56 (by omega) hroom56; obtain ⟨A56, hA56⟩ : ∃ Az_, Az_ = (if co53 = (1 : Int).toNat then (some ad790025) else ((some ad790025) : Option Addr).map (·.add ((1 : Int).toNat * 2))) := ⟨_, rfl⟩
                 obtain ⟨c56, hc56⟩ : ∃ cz_, cz_ = co53 - (1 : Int).toNat := ⟨_, rfl⟩
                 have hy56 : y790027.length = x0_1.length - (1 : Int).toNat := (by rw [Ny790027.out, List.length_drop] <;> omega)
                 rw [show (x0_1).drop (1 : Int).toNat = y790027 from Ny790027.out.symm] at hr56; replace hr56 : Kd.F k65 _ _ A56 y790027.length y790027 := (by rw [hA56]; exact hr56)
                 rw [← hy56, ← hA56, ← hc56] at hcut56; have HO790031 := Aside0.mk (show Kd.V k65 65 _ w.heap.size _ (.slice A56 y790027.length c56) y790027 from Kd.V_mk (by rw [hy56, hc56]; exact Nat.sub_le_sub_right hroom56 _) hr56); have HC790031 := Aside0.mk (show y790027.length ≤ c56 from by rw [hy56, hc56]; exact Nat.sub_le_sub_right hroom56 _); clear hr56 hC56 hroom56 hi056 hsz56 hc56; have KY56 := Aside0.mk hy56; have KA56 := Aside0.mk hA56; clear hy56 hA56; replace q56 := eq_true q56; have q57 : (1 : Int) ≤ ((x1_1.length : Int) : Int) := of_decide_eq_true zq_2; obtain ⟨i057, hi057, _, hsz57, _⟩ := info_parts info65; have hroom57 : x1_1.length ≤ co54 := (Kd.V_reads' HO_1.out).2.1; have hC57 : Kd.F k65 _ _ (some ad790026) x1_1.length x1_1 := (Kd.V_at (base := w.heap.size) HO_1.out).2.2; have hcut57 := cut_from (P := Tryd.prog) 25 65 .i64 Tryd.underlying25 hi057 2 hsz57 (some ad790026) x1_1.length co54 1 (by omega) q57; have hr57 := Kd.F_cut (m := (1 : Int).toNat) (c := co54) hC57 (by omega) hroom57; obtain ⟨A57, hA57⟩ : ∃ Az_, Az_ = (if co54 = (1 : Int).toNat then (some ad790026) else ((some ad790026) : Option Addr).map (·.add ((1 : Int).toNat * 2))) := ⟨_, rfl⟩
                 obtain ⟨c57, hc57⟩ : ∃ cz_, cz_ = co54 - (1 : Int).toNat := ⟨_, rfl⟩
                 have hy57 : y790032.length = x1_1.length - (1 : Int).toNat := (by rw [Ny790032.out, List.length_drop] <;> omega)
                 rw [show (x1_1).drop (1 : Int).toNat = y790032 from Ny790032.out.symm] at hr57; replace hr57 : Kd.F k65 _ _ A57 y790032.length y790032 := (by rw [hA57]; exact hr57)
                 rw [← hy57, ← hA57, ← hc57] at hcut57; have HO790036 := Aside0.mk (show Kd.V k65 65 _ w.heap.size _ (.slice A57 y790032.length c57) y790032 from Kd.V_mk (by rw [hy57, hc57]; exact Nat.sub_le_sub_right hroom57 _) hr57); have HC790036 := Aside0.mk (show y790032.length ≤ c57 from by rw [hy57, hc57]; exact Nat.sub_le_sub_right hroom57 _); clear hr57 hC57 hroom57 hi057 hsz57 hc57; have KY57 := Aside0.mk hy57; have KA57 := Aside0.mk hA57; clear hy57 hA57; replace q57 := eq_true q57; refine start_ (n := 6) (S := fun w' => True) (ds := []) #[false, false, false, false, false, false] (by kernel_rfl) rfl rfl trivial (fun hHeld => ?_); generalize w52.drew = w55 at HO_0 HO_1 HO_5 HB HO790031 HO790036 hHeld ⊢; refine pure_ (i := 0) (N := some 39) (v := ?_) (a' := ?_) #[true, false, false, false, false, false] rfl rfl (by kernel_rfl) (fun _ _ _ h => h) (Or.inl ⟨by rfl, ?_⟩) ?_ ?_; rotate_left
                 ·intro w'; go_simp
                  with_reducible rfl
                 rotate_left
                 ·simp only [Act.put, List.setIfInBounds_toArray, List.set_cons_zero, List.set_cons_succ, i64_w, i32_w]; rfl
                 refine pure_ (i := 1) (N := some 40) (v := ?_) (a' := ?_) #[true, true, false, false, false, false] rfl rfl (by kernel_rfl) (fun _ _ _ h => h) (Or.inl ⟨by rfl, ?_⟩) ?_ ?_; rotate_left
                 ·intro w'; go_simp
                  with_reducible rfl
                 rotate_left
                 ·simp only [Act.put, List.setIfInBounds_toArray, List.set_cons_zero, List.set_cons_succ, i64_w, i32_w]; rfl
                 refine pure_ (i := 2) (N := some 41) (v := ?_) (a' := ?_) #[true, true, true, false, false, false] rfl rfl (by kernel_rfl) (fun _ _ _ h => h) (Or.inl ⟨by rfl, ?_⟩) ?_ ?_; rotate_left
                 ·intro w'; go_simp
                  with_reducible rfl
                 rotate_left
                 ·simp only [Act.put, List.setIfInBounds_toArray, List.set_cons_zero, List.set_cons_succ, i64_w, i32_w]; rfl
                 refine pure_ (i := 3) (N := some 42) (v := ?_) (a' := ?_) #[true, true, true, true, false, false] rfl rfl (by kernel_rfl) (fun _ _ _ h => h) (Or.inl ⟨by rfl, ?_⟩) ?_ ?_; rotate_left
                 ·intro w'; go_simp
                  with_reducible rfl
                 rotate_left
                 ·simp only [Act.put, List.setIfInBounds_toArray, List.set_cons_zero, List.set_cons_succ, i64_w, i32_w]; rfl
                 refine pure_ (i := 4) (N := some 0) (v := ?_) (a' := ?_) #[true, true, true, true, true, false] rfl rfl (by kernel_rfl) (fun _ _ _ h => h) (Or.inl ⟨by rfl, ?_⟩) ?_ ?_; rotate_left
                 ·intro w'; go_simp
                  with_reducible rfl
                 rotate_left
                 ·simp only [Act.put, List.setIfInBounds_toArray, List.set_cons_zero, List.set_cons_succ, i64_w, i32_w]; rfl
                 refine pure_ (i := 5) (N := some 1) (v := ?_) (a' := ?_) #[true, true, true, true, true, true] rfl rfl (by kernel_rfl) (fun _ _ _ h => h) (Or.inl ⟨by rfl, ?_⟩) ?_ ?_; rotate_left
                 ·intro w'; go_simp
                  with_reducible rfl
                 rotate_left
                 ·simp only [Act.put, List.setIfInBounds_toArray, List.set_cons_zero, List.set_cons_succ, i64_w, i32_w]; rfl
                 refine done_ (by kernel_rfl) ?_
                 try go_wp2
                 go_roundg kj29
                 case measure => have := HK1.out; have := HJ2.out; have := HJ8.out; have := HJ29.out; omega
                 case rel => exact ⟨(y790027), (y790032), (x5_1), H', ⟨by have := HK1.out; have := HJ2.out; have := HJ8.out; have := HJ29.out; omega⟩, ⟨by (with_reducible repeat (first | apply Kd.V_alloc | apply Kd.V_drewN | apply Kd.V_drew)); exact HO790031.out⟩, ⟨by (with_reducible repeat (first | apply Kd.V_alloc | apply Kd.V_drewN | apply Kd.V_drew)); exact HO790036.out⟩, ⟨by (with_reducible repeat (first | apply Kd.R_alloc | apply Kd.R_drewN | apply Kd.R_drew)); exact HO_5.out⟩, ⟨by repeat (first | (with_reducible first | exact HB.out | apply below_alloc | apply pw_below_drewN | apply below_drew1) | exact HB.out)⟩⟩
                ·rw [if_neg c51] at H; exact absurd H (by simp)
               ·rw [if_neg c50] at H; exact absurd H (by simp)
              ·rw [if_neg c49] at H; have c49b0 : (((rd_T65 x0_1 0).f1).toList == ((rd_T65 x1_1 0).f1).toList) = false := beq_eq_false_iff_ne.mpr c49; have c49b1 : (((rd_T65 x0_1 0).f1).toList != ((rd_T65 x1_1 0).f1).toList) = true := bne_iff_ne.mpr c49
               by_cases c58 : x5_1.length < 2199023255552
               ·rw [if_pos c58] at H; have LMc58 := Aside0.mk c58; clear c58; obtain ⟨y790040, hy790040⟩ : ∃ y_ : List (S120), y_ = (x5_1 ++ [(⟨(rd_T65 x0_1 0).f0, true, (rd_T65 x0_1 0).f1, true, (rd_T65 x1_1 0).f1⟩ : S120)]) := ⟨_, rfl⟩
                replace H : (if 1 ≤ (x0_1.length : Int) then (if 1 ≤ (x1_1.length : Int) then (impl_changes.l0 kj29 (x0_1.drop 1) (x1_1.drop 1) y790040) else (none)) else (none)) = some r := by first | (rw [hy790040]; with_reducible exact H) | (have H2_ := (Option.bind_some _ _).symm.trans H; rw [hy790040]; with_reducible exact H2_) | (have H2_ := (Option.bind_some _ _).symm.trans H; with_reducible exact H2_) | with_reducible exact H | (rw [hy790040]; exact H) | exact H
                have Ny790040 := Aside0.mk hy790040; clear hy790040
                by_cases c59 : 1 ≤ (x0_1.length : Int)
                ·rw [if_pos c59] at H; have c59b0 := eq_true c59; have c59b1 : decide (1 ≤ (x0_1.length : Int)) = true := decide_eq_true c59; clear c59; obtain ⟨y790043, hy790043⟩ : ∃ y_ : List (S65), y_ = (x0_1.drop 1) := ⟨_, rfl⟩
                 replace H : (if 1 ≤ (x1_1.length : Int) then (impl_changes.l0 kj29 y790043 (x1_1.drop 1) y790040) else (none)) = some r := by first | (rw [hy790043]; with_reducible exact H) | (have H2_ := (Option.bind_some _ _).symm.trans H; rw [hy790043]; with_reducible exact H2_) | (have H2_ := (Option.bind_some _ _).symm.trans H; with_reducible exact H2_) | with_reducible exact H | (rw [hy790043]; exact H) | exact H
                 have Ny790043 := Aside0.mk hy790043; clear hy790043
                 by_cases c60 : 1 ≤ (x1_1.length : Int)
                 ·rw [if_pos c60] at H; have c60b0 := eq_true c60; have c60b1 : decide (1 ≤ (x1_1.length : Int)) = true := decide_eq_true c60; clear c60; obtain ⟨y790048, hy790048⟩ : ∃ y_ : List (S65), y_ = (x1_1.drop 1) := ⟨_, rfl⟩
                  replace H : (impl_changes.l0 kj29 y790043 y790048 y790040) = some r := by first | (rw [hy790048]; with_reducible exact H) | (have H2_ := (Option.bind_some _ _).symm.trans H; rw [hy790048]; with_reducible exact H2_) | (have H2_ := (Option.bind_some _ _).symm.trans H; with_reducible exact H2_) | with_reducible exact H | (rw [hy790048]; exact H) | exact H
                  have Ny790048 := Aside0.mk hy790048; clear hy790048; have H' := Aside0.mk H; clear H
                  try go_wp2
                  have n0_ := Aside0.mk (Kd.V_drew HO_0.out); have n1_ := Aside0.mk (Kd.V_drew HO_1.out); have n2_ := Aside0.mk (Kd.R_drew HO_5.out); have n3_ := Aside0.mk (below_drew1 HB.out); clear HO_0; clear HO_1; clear HO_5; clear HB; have HO_0 := n0_; have HO_1 := n1_; have HO_5 := n2_; have HB := n3_; clear n0_ n1_ n2_ n3_; obtain ⟨Ao62, co62, eo62⟩ := Kd.V_slice HO_0.out; (first | subst eo62 | (injection eo62 with f1_ f2_ f3_; have f4_ := f1_.symm; have f5_ := f3_.symm; clear f1_ f2_ f3_; subst f4_; subst f5_)); have p790025 : 0 ≤ (0 : Int) := (by omega)
                  have q790025 : 0 < (x0_1.length : Int) := of_decide_eq_true zq_2; obtain ⟨ad790025, e790025, hx790025_0, hx790025_1⟩ := at_T65 (Kd.V_reads' HO_0.out).2.2 0 p790025 q790025
                  cases e790025
                  have qi790025 : (0 < x0_1.length) = True := eq_true (by omega); (try rw [show ((0 : Int)).toNat = 0 from rfl] at hx790025_0); (try rw [show 0 * 2 = 0 from rfl] at hx790025_0); (try rw [Addr.add_zero'] at hx790025_0); (try rw [show ((0 : Int)).toNat = 0 from rfl] at hx790025_1); (try rw [show 0 * 2 = 0 from rfl] at hx790025_1); (try rw [Addr.add_zero'] at hx790025_1); replace p790025 := eq_true p790025; replace q790025 := eq_true q790025; obtain ⟨Ao63, co63, eo63⟩ := Kd.V_slice HO_1.out; (first | subst eo63 | (injection eo63 with f1_ f2_ f3_; have f4_ := f1_.symm; have f5_ := f3_.symm; clear f1_ f2_ f3_; subst f4_; subst f5_)); have p790026 : 0 ≤ (0 : Int) := (by omega)
                  have q790026 : 0 < (x1_1.length : Int) := of_decide_eq_true zq_2; obtain ⟨ad790026, e790026, hx790026_0, hx790026_1⟩ := at_T65 (Kd.V_reads' HO_1.out).2.2 0 p790026 q790026
                  cases e790026
                  have qi790026 : (0 < x1_1.length) = True := eq_true (by omega); (try rw [show ((0 : Int)).toNat = 0 from rfl] at hx790026_0); (try rw [show 0 * 2 = 0 from rfl] at hx790026_0); (try rw [Addr.add_zero'] at hx790026_0); (try rw [show ((0 : Int)).toNat = 0 from rfl] at hx790026_1); (try rw [show 0 * 2 = 0 from rfl] at hx790026_1); (try rw [Addr.add_zero'] at hx790026_1); replace p790026 := eq_true p790026; replace q790026 := eq_true q790026; refine start_ (n := 9) (S := fun w' => w'.cell? ad790025 = some (.string ((rd_T65 x0_1 0).f0)) ∧ w'.cell? ⟨ad790025.block, ad790025.off + 1, none⟩ = some (.string ((rd_T65 x0_1 0).f1)) ∧ w'.cell? ad790026 = some (.string ((rd_T65 x1_1 0).f0)) ∧ w'.cell? ⟨ad790026.block, ad790026.off + 1, none⟩ = some (.string ((rd_T65 x1_1 0).f1))) (ds := []) #[false, false, false, false, false, false, false, false, false] (by kernel_rfl) rfl rfl ⟨hx790025_0, hx790025_1, hx790026_0, hx790026_1⟩ (fun hHeld => ?_); refine with_tabW impl_changes.tab3 impl_changes.bits3 (fun HT_ HW_ => ?_); generalize wc.drew = w61 at HO_0 HO_1 HO_5 HB hx790025_0 hx790025_1 hx790026_0 hx790026_1 hHeld ⊢; refine pq_ (i := 0) (N := some 14) HT_.out ?_; refine pq_ (i := 1) (N := some 15) HT_.out ?_; refine pq_ (i := 2) (N := some 16) HT_.out ?_; refine pq_ (i := 4) (N := some 18) HT_.out ?_; refine pq_ (i := 5) (N := some 19) HT_.out ?_; refine pq_ (i := 6) (N := some 20) HT_.out ?_; refine tq_ (i := 3) (N := some 17) HT_.out HW_.out hHeld (hy := by rintro w' ⟨s0, s1, s2, s3⟩; go_simp; with_reducible rfl) (h := ?_); refine tq_ (i := 7) (N := some 21) HT_.out HW_.out hHeld (hy := by rintro w' ⟨s0, s1, s2, s3⟩; go_simp; with_reducible rfl) (h := ?_); refine pq_ (i := 8) (N := some 22) HT_.out ?_; refine done_ (done_of HT_.out (by kernel_rfl)) ?_
                  try go_wp2
                  have n0_ := Aside0.mk (Kd.V_drew HO_0.out); have n1_ := Aside0.mk (Kd.V_drew HO_1.out); have n2_ := Aside0.mk (Kd.R_drew HO_5.out); have n3_ := Aside0.mk (below_drew1 HB.out); clear HO_0; clear HO_1; clear HO_5; clear HB; have HO_0 := n0_; have HO_1 := n1_; have HO_5 := n2_; have HB := n3_; clear n0_ n1_ n2_ n3_; have p790037 : 0 ≤ (0 : Int) := (by omega)
                  have q790037 : 0 < (x0_1.length : Int) := of_decide_eq_true zq_2; obtain ⟨ad790037, e790037, hx790037_0, hx790037_1⟩ := at_T65 (Kd.V_reads' HO_0.out).2.2 0 p790037 q790037; obtain rfl : ad790025 = ad790037 := (by injection e790037)
                  have qi790037 : (0 < x0_1.length) = True := eq_true (by omega); (try rw [show ((0 : Int)).toNat = 0 from rfl] at hx790037_0); (try rw [show 0 * 2 = 0 from rfl] at hx790037_0); (try rw [Addr.add_zero'] at hx790037_0); (try rw [show ((0 : Int)).toNat = 0 from rfl] at hx790037_1); (try rw [show 0 * 2 = 0 from rfl] at hx790037_1); (try rw [Addr.add_zero'] at hx790037_1); replace p790037 := eq_true p790037; replace q790037 := eq_true q790037; have p790038 : 0 ≤ (0 : Int) := (by omega)
                  have q790038 : 0 < (x0_1.length : Int) := of_decide_eq_true zq_2; obtain ⟨ad790038, e790038, hx790038_0, hx790038_1⟩ := at_T65 (Kd.V_reads' HO_0.out).2.2 0 p790038 q790038; obtain rfl : ad790025 = ad790038 := (by injection e790038)
                  have qi790038 : (0 < x0_1.length) = True := eq_true (by omega); (try rw [show ((0 : Int)).toNat = 0 from rfl] at hx790038_0); (try rw [show 0 * 2 = 0 from rfl] at hx790038_0); (try rw [Addr.add_zero'] at hx790038_0); (try rw [show ((0 : Int)).toNat = 0 from rfl] at hx790038_1); (try rw [show 0 * 2 = 0 from rfl] at hx790038_1); (try rw [Addr.add_zero'] at hx790038_1); replace p790038 := eq_true p790038; replace q790038 := eq_true q790038; have p790039 : 0 ≤ (0 : Int) := (by omega)
                  have q790039 : 0 < (x1_1.length : Int) := of_decide_eq_true zq_2; obtain ⟨ad790039, e790039, hx790039_0, hx790039_1⟩ := at_T65 (Kd.V_reads' HO_1.out).2.2 0 p790039 q790039; obtain rfl : ad790026 = ad790039 := (by injection e790039)
                  have qi790039 : (0 < x1_1.length) = True := eq_true (by omega); (try rw [show ((0 : Int)).toNat = 0 from rfl] at hx790039_0); (try rw [show 0 * 2 = 0 from rfl] at hx790039_0); (try rw [Addr.add_zero'] at hx790039_0); (try rw [show ((0 : Int)).toNat = 0 from rfl] at hx790039_1); (try rw [show 0 * 2 = 0 from rfl] at hx790039_1); (try rw [Addr.add_zero'] at hx790039_1); replace p790039 := eq_true p790039; replace q790039 := eq_true q790039; refine start_ (n := 17) (S := fun w' => w'.cell? ad790025 = some (.string ((rd_T65 x0_1 0).f0)) ∧ w'.cell? ⟨ad790025.block, ad790025.off + 1, none⟩ = some (.string ((rd_T65 x0_1 0).f1)) ∧ w'.cell? ad790025 = some (.string ((rd_T65 x0_1 0).f0)) ∧ w'.cell? ⟨ad790025.block, ad790025.off + 1, none⟩ = some (.string ((rd_T65 x0_1 0).f1)) ∧ w'.cell? ad790026 = some (.string ((rd_T65 x1_1 0).f0)) ∧ w'.cell? ⟨ad790026.block, ad790026.off + 1, none⟩ = some (.string ((rd_T65 x1_1 0).f1))) (ds := [14, 15]) #[false, false, false, false, false, false, false, false, false, false, false, false, false, false, false, false, false] (by kernel_rfl) rfl rfl ⟨hx790037_0, hx790037_1, hx790038_0, hx790038_1, hx790039_0, hx790039_1⟩ (fun hHeld => ?_); refine with_tabW impl_changes.tab4 impl_changes.bits4 (fun HT_ HW_ => ?_); generalize w61.drew = w64 at HO_0 HO_1 HO_5 HB hx790037_0 hx790037_1 hx790038_0 hx790038_1 hx790039_0 hx790039_1 hHeld ⊢; refine pq_ (i := 0) (N := some 23) HT_.out ?_; refine pq_ (i := 1) (N := some 24) HT_.out ?_; refine pq_ (i := 2) (N := some 25) HT_.out ?_; refine pq_ (i := 3) (N := some 26) HT_.out ?_; refine pq_ (i := 5) (N := some 28) HT_.out ?_; refine pq_ (i := 6) (N := some 29) HT_.out ?_; refine pq_ (i := 7) (N := some 30) HT_.out ?_; refine pq_ (i := 9) (N := some 32) HT_.out ?_; refine pq_ (i := 10) (N := some 33) HT_.out ?_; refine pq_ (i := 11) (N := some 34) HT_.out ?_; refine tq_ (i := 4) (N := some 27) HT_.out HW_.out hHeld (hy := by rintro w' ⟨s0, s1, s2, s3, s4, s5⟩; go_simp; with_reducible rfl) (h := ?_); refine tq_ (i := 8) (N := some 31) HT_.out HW_.out hHeld (hy := by rintro w' ⟨s0, s1, s2, s3, s4, s5⟩; go_simp; with_reducible rfl) (h := ?_); refine tq_ (i := 12) (N := some 35) HT_.out HW_.out hHeld (hy := by rintro w' ⟨s0, s1, s2, s3, s4, s5⟩; go_simp; with_reducible rfl) (h := ?_); refine pq_ (i := 13) (N := some 36) HT_.out ?_
                  refine last_ (i := 14) (N := some 37) #[true, true, true, true, true, true, true, true, true, true, true, true, true, true, true, false, false] rfl rfl (one_of HT_.out (by kernel_rfl)) (by decide) (fun K hK => ?_); refine value_ (w1 := ?_) (v := ?_) (by rfl) rfl ?_ ?_; rotate_left 2
                  ·go_simp
                   constructor
                   ·rfl
                   ·rfl
                  refine hK.out _ _ ?_; clear hK K; refine norm_ (a' := ?_) ?_ ?_; rotate_left
                  ·show Act.put _ (some 37) _ = _; simp only [Act.put, List.setIfInBounds_toArray, List.set_cons_zero, List.set_cons_succ, i64_w, i32_w]; rfl
                  refine last_ (i := 15) (N := some 38) #[true, true, true, true, true, true, true, true, true, true, true, true, true, true, true, true, false] rfl rfl (one_of HT_.out (by kernel_rfl)) (by decide) (fun K hK => ?_); refine Kd.R_append_step k120 (w0 := w) w.heap.size (by rfl) (.tmp 23) (.tmp 37) 52 120 (.agg #[(.string ⟨#[]⟩), (.bool false), (.string ⟨#[]⟩), (.bool false), (.string ⟨#[]⟩)]) 64 rfl Tryd.underlying52 info120 rfl (by decide) (by omega) u5 x5_1 (⟨(rd_T65 x0_1 0).f0, true, (rd_T65 x0_1 0).f1, true, (rd_T65 x1_1 0).f1⟩ : S120) [.string ((rd_T65 x0_1 0).f0), .bool true, .string ((rd_T65 x0_1 0).f1), .bool true, .string ((rd_T65 x1_1 0).f1)] (fun k_ => (w.heap.size ≤ k_)) (fun _ => False) rfl rfl ?aP (fun _ hk => hk.elim) ?aF ?aO ?aB ?aS ?aL ?_; (case aP => exact k120_mkM _ _ _ (⟨(rd_T65 x0_1 0).f0, true, (rd_T65 x0_1 0).f1, true, (rd_T65 x1_1 0).f1⟩ : S120)); (case aB => exact zq_0); (case aF => exact (fun k_ hk => (Nat.le_trans (below_size zq_0) hk))); (case aO => exact zq_40); (case aS => exact (below_size zq_0)); (case aL => have := LMc58.out; omega); intro v790041 w65 ho hb hg hat; rw [← Ny790040.out] at ho; have n0_ := Aside0.mk (Kd.V_afterv (ok := (fun k_ => ((P0_ k_ ∨ P1_ k_) ∨ w.heap.size ≤ k_))) zq_41 hg hat); have n1_ := Aside0.mk (Kd.V_afterv (ok := (fun k_ => ((P0_ k_ ∨ P1_ k_) ∨ w.heap.size ≤ k_))) (by (with_reducible repeat (first | apply Kd.V_alloc | apply Kd.V_drewN | apply Kd.V_drew)); exact HO_1.out) hg hat); have n2_ := Aside0.mk (hb); have n3_ := Aside0.mk (ho); clear HO_0; clear HO_1; clear HB; clear HO_5; have HO_0 := n0_; have HO_1 := n1_; have HB := n2_; have HO790042 := n3_; clear n0_ n1_ n2_ n3_; clear ho hb hg hat; refine hK.out _ _ ?_; clear hK K; refine norm_ (a' := ?_) ?_ ?_; rotate_left
                  ·show Act.put _ (some 38) _ = _; simp only [Act.put, List.setIfInBounds_toArray, List.set_cons_zero, List.set_cons_succ, i64_w, i32_w]; rfl
                  refine pq_ (i := 16) (N := some 5) HT_.out ?_; refine done_ (done_of HT_.out (by kernel_rfl)) ?_
                  try go_wp2
                  have n0_ := Aside0.mk (Kd.V_drew HO_0.out); have n1_ := Aside0.mk (Kd.V_drew HO_1.out); have n2_ := Aside0.mk (Kd.R_drew HO790042.out); have n3_ := Aside0.mk (below_drew1 HB.out); clear HO_0; clear HO_1; clear HO790042; clear HB; have HO_0 := n0_; have HO_1 := n1_; have HO790042 := n2_; have HB := n3_; clear n0_ n1_ n2_ n3_; have q67 : (1 : Int) ≤ ((x0_1.length : Int) : Int) := of_decide_eq_true zq_2; obtain ⟨i067, hi067, _, hsz67, _⟩ := info_parts info65; have hroom67 : x0_1.length ≤ co62 := (Kd.V_reads' HO_0.out).2.1; have hC67 : Kd.F k65 _ _ (some ad790025) x0_1.length x0_1 := (Kd.V_at (base := w.heap.size) HO_0.out).2.2; have hcut67 := cut_from (P := Tryd.prog) 25 65 .i64 Tryd.underlying25 hi067 2 hsz67 (some ad790025) x0_1.length co62 1 (by omega) q67; have hr67 := Kd.F_cut (m := (1 : Int).toNat) (c := co62) hC67 (by omega) hroom67; obtain ⟨A67, hA67⟩ : ∃ Az_, Az_ = (if co62 = (1 : Int).toNat then (some ad790025) else ((some ad790025) : Option Addr).map (·.add ((1 : Int).toNat * 2))) := ⟨_, rfl⟩
                  obtain ⟨c67, hc67⟩ : ∃ cz_, cz_ = co62 - (1 : Int).toNat := ⟨_, rfl⟩
                  have hy67 : y790043.length = x0_1.length - (1 : Int).toNat := (by rw [Ny790043.out, List.length_drop] <;> omega)
                  rw [show (x0_1).drop (1 : Int).toNat = y790043 from Ny790043.out.symm] at hr67; replace hr67 : Kd.F k65 _ _ A67 y790043.length y790043 := (by rw [hA67]; exact hr67)
                  rw [← hy67, ← hA67, ← hc67] at hcut67; have HO790047 := Aside0.mk (show Kd.V k65 65 _ w.heap.size _ (.slice A67 y790043.length c67) y790043 from Kd.V_mk (by rw [hy67, hc67]; exact Nat.sub_le_sub_right hroom67 _) hr67); have HC790047 := Aside0.mk (show y790043.length ≤ c67 from by rw [hy67, hc67]; exact Nat.sub_le_sub_right hroom67 _); clear hr67 hC67 hroom67 hi067 hsz67 hc67; have KY67 := Aside0.mk hy67; have KA67 := Aside0.mk hA67; clear hy67 hA67; replace q67 := eq_true q67; have q68 : (1 : Int) ≤ ((x1_1.length : Int) : Int) := of_decide_eq_true zq_2; obtain ⟨i068, hi068, _, hsz68, _⟩ := info_parts info65; have hroom68 : x1_1.length ≤ co63 := (Kd.V_reads' HO_1.out).2.1; have hC68 : Kd.F k65 _ _ (some ad790026) x1_1.length x1_1 := (Kd.V_at (base := w.heap.size) HO_1.out).2.2; have hcut68 := cut_from (P := Tryd.prog) 25 65 .i64 Tryd.underlying25 hi068 2 hsz68 (some ad790026) x1_1.length co63 1 (by omega) q68; have hr68 := Kd.F_cut (m := (1 : Int).toNat) (c := co63) hC68 (by omega) hroom68; obtain ⟨A68, hA68⟩ : ∃ Az_, Az_ = (if co63 = (1 : Int).toNat then (some ad790026) else ((some ad790026) : Option Addr).map (·.add ((1 : Int).toNat * 2))) := ⟨_, rfl⟩
                  obtain ⟨c68, hc68⟩ : ∃ cz_, cz_ = co63 - (1 : Int).toNat := ⟨_, rfl⟩
                  have hy68 : y790048.length = x1_1.length - (1 : Int).toNat := (by rw [Ny790048.out, List.length_drop] <;> omega)
                  rw [show (x1_1).drop (1 : Int).toNat = y790048 from Ny790048.out.symm] at hr68; replace hr68 : Kd.F k65 _ _ A68 y790048.length y790048 := (by rw [hA68]; exact hr68)
                  rw [← hy68, ← hA68, ← hc68] at hcut68; have HO790052 := Aside0.mk (show Kd.V k65 65 _ w.heap.size _ (.slice A68 y790048.length c68) y790048 from Kd.V_mk (by rw [hy68, hc68]; exact Nat.sub_le_sub_right hroom68 _) hr68); have HC790052 := Aside0.mk (show y790048.length ≤ c68 from by rw [hy68, hc68]; exact Nat.sub_le_sub_right hroom68 _); clear hr68 hC68 hroom68 hi068 hsz68 hc68; have KY68 := Aside0.mk hy68; have KA68 := Aside0.mk hA68; clear hy68 hA68; replace q68 := eq_true q68; refine start_ (n := 6) (S := fun w' => True) (ds := []) #[false, false, false, false, false, false] (by kernel_rfl) rfl rfl trivial (fun hHeld => ?_); generalize w65.drew = w66 at HO_0 HO_1 HO790042 HB HO790047 HO790052 hHeld ⊢; refine pure_ (i := 0) (N := some 39) (v := ?_) (a' := ?_) #[true, false, false, false, false, false] rfl rfl (by kernel_rfl) (fun _ _ _ h => h) (Or.inl ⟨by rfl, ?_⟩) ?_ ?_; rotate_left
                  ·intro w'; go_simp
                   with_reducible rfl
                  rotate_left
                  ·simp only [Act.put, List.setIfInBounds_toArray, List.set_cons_zero, List.set_cons_succ, i64_w, i32_w]; rfl
                  refine pure_ (i := 1) (N := some 40) (v := ?_) (a' := ?_) #[true, true, false, false, false, false] rfl rfl (by kernel_rfl) (fun _ _ _ h => h) (Or.inl ⟨by rfl, ?_⟩) ?_ ?_; rotate_left
                  ·intro w'; go_simp
                   with_reducible rfl
                  rotate_left
                  ·simp only [Act.put, List.setIfInBounds_toArray, List.set_cons_zero, List.set_cons_succ, i64_w, i32_w]; rfl
                  refine pure_ (i := 2) (N := some 41) (v := ?_) (a' := ?_) #[true, true, true, false, false, false] rfl rfl (by kernel_rfl) (fun _ _ _ h => h) (Or.inl ⟨by rfl, ?_⟩) ?_ ?_; rotate_left
                  ·intro w'; go_simp
                   with_reducible rfl
                  rotate_left
                  ·simp only [Act.put, List.setIfInBounds_toArray, List.set_cons_zero, List.set_cons_succ, i64_w, i32_w]; rfl
                  refine pure_ (i := 3) (N := some 42) (v := ?_) (a' := ?_) #[true, true, true, true, false, false] rfl rfl (by kernel_rfl) (fun _ _ _ h => h) (Or.inl ⟨by rfl, ?_⟩) ?_ ?_; rotate_left
                  ·intro w'; go_simp
                   with_reducible rfl
                  rotate_left
                  ·simp only [Act.put, List.setIfInBounds_toArray, List.set_cons_zero, List.set_cons_succ, i64_w, i32_w]; rfl
                  refine pure_ (i := 4) (N := some 0) (v := ?_) (a' := ?_) #[true, true, true, true, true, false] rfl rfl (by kernel_rfl) (fun _ _ _ h => h) (Or.inl ⟨by rfl, ?_⟩) ?_ ?_; rotate_left
                  ·intro w'; go_simp
                   with_reducible rfl
                  rotate_left
                  ·simp only [Act.put, List.setIfInBounds_toArray, List.set_cons_zero, List.set_cons_succ, i64_w, i32_w]; rfl
                  refine pure_ (i := 5) (N := some 1) (v := ?_) (a' := ?_) #[true, true, true, true, true, true] rfl rfl (by kernel_rfl) (fun _ _ _ h => h) (Or.inl ⟨by rfl, ?_⟩) ?_ ?_; rotate_left
                  ·intro w'; go_simp
                   with_reducible rfl
                  rotate_left
                  ·simp only [Act.put, List.setIfInBounds_toArray, List.set_cons_zero, List.set_cons_succ, i64_w, i32_w]; rfl
                  refine done_ (by kernel_rfl) ?_
                  try go_wp2
                  go_roundg kj29
                  case measure => have := HK1.out; have := HJ2.out; have := HJ8.out; have := HJ29.out; omega
                  case rel => exact ⟨(y790043), (y790048), (y790040), H', ⟨by have := HK1.out; have := HJ2.out; have := HJ8.out; have := HJ29.out; omega⟩, ⟨by (with_reducible repeat (first | apply Kd.V_alloc | apply Kd.V_drewN | apply Kd.V_drew)); exact HO790047.out⟩, ⟨by (with_reducible repeat (first | apply Kd.V_alloc | apply Kd.V_drewN | apply Kd.V_drew)); exact HO790052.out⟩, ⟨by (with_reducible repeat (first | apply Kd.R_alloc | apply Kd.R_drewN | apply Kd.R_drew)); exact HO790042.out⟩, ⟨by repeat (first | (with_reducible first | exact HB.out | apply below_alloc | apply pw_below_drewN | apply below_drew1) | exact HB.out)⟩⟩
                 ·rw [if_neg c60] at H; exact absurd H (by simp)
                ·rw [if_neg c59] at H; exact absurd H (by simp)
               ·rw [if_neg c58] at H; exact absurd H (by simp)
             ·rw [if_neg c48] at H; exact absurd H (by simp)
            ·rw [if_neg c47] at H; exact absurd H (by simp)
     ·replace c8 := Bool.eq_false_iff.mpr c8; subst c8; have H1 : (some x5_1) = some r := by rw [if_neg (show ¬ (false = true) by decide)] at H; exact H
      clear H; have H := H1; clear H1; obtain rfl := Option.some.inj H
      go_wp2
      go_ret
      exact ⟨_, by first | rfl | (simp [errW_none, errW_some] <;> rfl) | (simp [*, errW_none, errW_some] <;> rfl), by (with_reducible repeat (first | apply Kd.R_alloc | apply Kd.R_drewN | apply Kd.R_drew)); exact HO_5.out, by repeat (first | (with_reducible first | exact HB.out | apply below_alloc | apply pw_below_drewN | apply below_drew1) | exact HB.out)⟩
end Go.Proofs.YthnnphinfiobmaaDoor.Z
end
section
namespace Go.Proofs.YthnnphinfiobmaaDoor
open RowKit
set_option linter.all false
def Own (w : World) (base size : Nat) (v : Value) (n : Nat) (xs : List Value) : Prop :=
 xs.length = n * size ∧ ((v = .slice none 0 0 ∧ n = 0) ∨ ∃ g cap, v = .slice (some ⟨g, 0, none⟩) n cap ∧ base ≤ g ∧ g < w.heap.size ∧ n ≤ cap ∧ cap ≤ maxLen ∧ (∀ j, j < n * size → w.cell? ⟨g, j, none⟩ = xs[j]?) ∧ ∀ j, j < cap * size → (w.cell? ⟨g, j, none⟩).isSome = true ∧ w.frozen? ⟨g, j, none⟩ = false)
theorem Own.nil (w : World) (base size : Nat) : Own w base size (.slice none 0 0) 0 [] := ⟨by simp, .inl ⟨rfl, rfl⟩⟩
section
variable {w w1 : World} {base size : Nat} {v : Value} {n : Nat} {xs : List Value}
theorem Own.len (h : Own w base size v n xs) : xs.length = n * size := h.1
theorem Own.form (h : Own w base size v n xs) : ∃ A c, v = .slice A n c := by
 rcases h.2 with ⟨rfl, rfl⟩ | ⟨g, cap, rfl, _⟩
 ·exact ⟨none, 0, rfl⟩
 ·exact ⟨_, cap, rfl⟩
theorem Own.bound (h : Own w base size v n xs) : n ≤ maxLen := by
 rcases h.2 with ⟨_, rfl⟩ | ⟨g, cap, _, _, _, h1, h2, _⟩
 ·exact Nat.zero_le _
 ·omega
theorem Own.at (h : Own w base size v n xs) (hn : 0 < n) : ∃ g cap, v = .slice (some ⟨g, 0, none⟩) n cap ∧ base ≤ g ∧ g < w.heap.size ∧ n ≤ cap ∧ (∀ j, j < n * size → w.cell? ⟨g, j, none⟩ = xs[j]?) ∧ ∀ j, j < n * size → w.frozen? ⟨g, j, none⟩ = false := by
 rcases h.2 with ⟨_, rfl⟩ | ⟨g, cap, rfl, h1, h2, h3, h4, h5, h6⟩
 ·omega
 ·exact ⟨g, cap, rfl, h1, h2, h3, h5, fun j hj => (h6 j (Nat.lt_of_lt_of_le hj (Nat.mul_le_mul_right _ h3))).2⟩
theorem Own.keep (h : Own w base size v n xs) (hs : w.heap.size ≤ w1.heap.size) (hb : ∀ k, v.ownBlock = some k → w1.heap[k]? = w.heap[k]?) : Own w1 base size v n xs := by
 refine ⟨h.1, ?_⟩
 rcases h.2 with h2 | ⟨g, cap, rfl, h1, h2, h3, h4, h5, h6⟩
 ·exact .inl h2
 ·have e := hb g rfl; refine .inr ⟨g, cap, rfl, h1, by omega, h3, h4, fun j hj => ?_, fun j hj => ?_⟩
  ·rw [World.cell?_of_block (a := ⟨g, j, none⟩) e]; exact h5 j hj
  ·rw [World.cell?_of_block (a := ⟨g, j, none⟩) e, World.frozen?_of_block (a := ⟨g, j, none⟩) e]; exact h6 j hj
theorem Own.lt (h : Own w base size v n xs) (k : Nat) (hk : v.ownBlock = some k) : base ≤ k ∧ k < w.heap.size := by
 rcases h.2 with ⟨rfl, _⟩ | ⟨g, cap, rfl, h1, h2, _⟩
 ·simp [Value.ownBlock] at hk
 ·simp [Value.ownBlock] at hk; omega
theorem Own.below (h : Own w base size v n xs) (hb : Below w.heap.size w w1) : Own w1 base size v n xs :=
 h.keep hb.size fun k hk => hb.block k (h.lt k hk).2
theorem Own.alloc (h : Own w base size v n xs) (o : Obj) : Own (w.alloc o) base size v n xs :=
 h.below ((Below.refl _ _).alloc (Nat.le_refl _) o)
theorem Own.drew (h : Own w base size v n xs) : Own w.drew base size v n xs := h.below (Below.refl _ _).drew
theorem Own.drewN (h : Own w base size v n xs) (k : Nat) : Own (w.drewN k) base size v n xs := h.keep (Nat.le_refl _) fun _ _ => rfl
theorem Own.set (h : Own w base size v n xs) {p : Addr} (hp : v.ownBlock ≠ some p.block) (u : Value) : Own (w.setCell p u) base size v n xs :=
 h.keep (by simp) fun k hk => Below.heap_setCell w p u k (fun e => hp (by rw [hk, e]))
theorem Own.grown (h : Own w base size v n xs) {row : Option Nat} (hg : w.grownBy w1 row) (hne : ∀ k, v.ownBlock = some k → some k ≠ row) : Own w1 base size v n xs :=
 h.keep hg.size fun k hk => hg.block k (h.lt k hk).2 (hne k hk)
theorem Own.lower (h : Own w base size v n xs) {b : Nat} (hb : b ≤ base) : Own w b size v n xs := by
 refine ⟨h.1, ?_⟩
 rcases h.2 with h2 | ⟨g, cap, rfl, h1, h2⟩
 ·exact .inl h2
 ·exact .inr ⟨g, cap, rfl, by omega, h2⟩
theorem below_of_grown {B : Nat} {w0 : World} (h : Below B w0 w) (hv : Own w base size v n xs) (hB : B ≤ base) (hB2 : B ≤ w.heap.size) (hg : w.grownBy w1 v.ownBlock) : Below B w0 w1 :=
 h.grown hg hB2 fun k hk => Nat.le_trans hB (hv.lt k hk).1
end
theorem tape_setCells : ∀ (w : World) (g o : Nat) (vs : List Value), (w.setCells g o vs).tape = w.tape
 | _, _, _, [] => rfl
 | w, g, o, v :: r => by rw [World.setCells, tape_setCells (w.setCell ⟨g, o, none⟩ v) g (o + 1) r]; rfl
section
variable {P : Program} {w : World}
theorem run_app (base : Nat) (t tx ty e : TypeId) (i : TypeInfo) (z : Value) (size bytes : Nat) (ht : P.underlying t = some (.slice e)) (hi : P.info? e = some i) (hz : i.zero = some z)
  (hsize : i.size = size) (hby : i.bytes = bytes) (hzs : z.cells.size = size)
  {v : Value} {n : Nat} {xs : List Value} (hown : Own w base size v n xs) {x : Value} {m : Nat} {news : List Value} (hs : Src P size tx x m news w)
  (h63 : n + m ≤ maxLen) (hbytes : (n + m) * bytes ≤ 140737488355328) (hbase : base ≤ w.heap.size) :
  ∃ v' w', (Builtin.append_ #[t, tx] ty #[v, x]).run P w = .ok v' w' ∧ Own w' base size v' (n + m) (xs ++ news) ∧ w.grownBy w' v.ownBlock ∧ (v'.ownBlock = v.ownBlock ∨ ∀ k, v'.ownBlock = some k → w.heap.size ≤ k) := by
 subst hsize; subst hby; have hsmall : ((n + m : Nat) : Int) ≤ 9223372036854775807 := by simp only [maxLen] at h63; omega
 have hlen : (xs ++ news).length = (n + m) * i.size := by rw [List.length_append, hown.1, hs.newsLen, Nat.add_mul]
 have grow : ∀ (bs : Option Addr) (sc : Nat), v = .slice bs n sc → sc < n + m → (Builtin.firstCells i.size n (.slice bs n sc)).run P w.drew = .ok xs.toArray w.drew →
   ∃ v' w', (Builtin.append_ #[t, tx] ty #[v, x]).run P w = .ok v' w' ∧ Own w' base i.size v' (n + m) (xs ++ news) ∧ w.grownBy w' v.ownBlock ∧ (v'.ownBlock = v.ownBlock ∨ ∀ k, v'.ownBlock = some k → w.heap.size ≤ k) := by
  rintro bs sc rfl hlt hold; have hrun := run_append_grow_src (P := P) w t tx ty e i z ht hi hz bs n sc xs hold x m news hs hlt hsmall (growslice_fits hlt hbytes); have hge := grownCap_ge w (n + m) sc e; have hcm := grownCap_le_maxLen w (n + m) sc e h63; refine ⟨_, _, hrun, ⟨hlen, .inr ⟨w.heap.size, _, rfl, hbase, by simp, hge, hcm, fun j hj => ?_, fun j hj => ?_⟩⟩, ⟨rfl, rfl, rfl, by simp, fun k hk _ => Below.heap_alloc w.drew _ k hk⟩, .inr fun k hk => by simp [Value.ownBlock] at hk; omega⟩
  ·have e1 := World.cell?_alloc_new w.drew (((xs ++ news).toArray ++ Builtin.zeroCells z.cells (grownCap w (n + m) sc e - (n + m)))) e j; refine Eq.trans e1 ?_; rw [Array.getElem?_append_left (by simp only [List.size_toArray]; omega), List.getElem?_toArray]
  ·have e1 := World.cell?_alloc_new w.drew (((xs ++ news).toArray ++ Builtin.zeroCells z.cells (grownCap w (n + m) sc e - (n + m)))) e j; have hsz : ((xs ++ news).toArray ++ Builtin.zeroCells z.cells (grownCap w (n + m) sc e - (n + m))).size = grownCap w (n + m) sc e * i.size := by
    rw [Array.size_append, List.size_toArray, hlen, size_zeroCells, hzs, ← Nat.add_mul]
    congr 1
    omega
   refine ⟨?_, World.frozen?_alloc_new w.drew _ _ j⟩; have e2 : ∀ o, o = some ((((xs ++ news).toArray ++ Builtin.zeroCells z.cells (grownCap w (n + m) sc e - (n + m))))[j]'(by rw [hsz]; exact hj)) → o.isSome = true := fun o h => by rw [h]; rfl
   exact e2 _ (Eq.trans e1 (Array.getElem?_eq_getElem (by rw [hsz]; exact hj)))
 rcases hown.2 with ⟨rfl, rfl⟩ | ⟨g, cap, rfl, h1, h2, h3, h4, h5, h6⟩
 ·have hx : xs = [] := List.eq_nil_of_length_eq_zero (by simpa using hown.1); subst hx
  by_cases hm : m = 0
  ·subst hm; have hn : news = [] := List.eq_nil_of_length_eq_zero (by simpa using hs.newsLen); subst hn; exact ⟨_, w, run_append_nothing w t tx ty e i ht hi none 0 0 (Nat.le_refl _) x hs, Own.nil w base i.size, ⟨rfl, rfl, rfl, Nat.le_refl _, fun _ _ _ => rfl⟩, .inl rfl⟩
  ·exact grow none 0 rfl (by omega) (run_firstCells_none w.drew i.size 0 0 0)
 ·by_cases hroom : n + m ≤ cap
  ·have hfit : (n + m) * i.size ≤ cap * i.size := Nat.mul_le_mul_right _ hroom; have hnl := hs.newsLen; have hmul : (n + m) * i.size = n * i.size + m * i.size := Nat.add_mul ..; have hrun := run_append_room_src (P := P) w t tx ty e i ht hi g 0 n cap x m news hs hroom (fun j hj => by rw [Nat.zero_add]; exact (h6 _ (by omega)).1) (fun j hj => by rw [Nat.zero_add]; exact (h6 _ (by omega)).2); rw [Nat.zero_add] at hrun; have hk := World.keptBut_setCells g (may := fun p => p.block = g) news (n * i.size) w (fun _ _ => rfl); refine ⟨_, _, hrun, ⟨hlen, .inr ⟨g, cap, rfl, h1, Nat.lt_of_lt_of_le h2 hk.size, hroom, h4, fun j hj => ?_, fun j hj => ⟨?_, (World.frozen?_setCells g _ _ _ _).trans (h6 j hj).2⟩⟩⟩, ?_, .inl rfl⟩
   ·by_cases hjn : j < n * i.size
    ·rw [World.cell?_setCells_out g _ _ _ _ (fun _ _ => Or.inl hjn), List.getElem?_append_left (by rw [hown.1]; exact hjn)]; exact h5 j hjn
    ·have hin := World.cell?_setCells_in g news (n * i.size) w (fun j hj => (h6 _ (by omega)).1) (j - n * i.size) (by omega); rw [show n * i.size + (j - n * i.size) = j by omega] at hin; rw [hin, List.getElem?_append_right (by rw [hown.1]; omega), hown.1, List.getElem?_eq_getElem]
   ·by_cases hjn : n * i.size ≤ j ∧ j < n * i.size + news.length
    ·have hin := World.cell?_setCells_in g news (n * i.size) w (fun j hj => (h6 _ (by omega)).1) (j - n * i.size) (by omega); rw [show n * i.size + (j - n * i.size) = j by omega] at hin; rw [hin]; rfl
    ·rw [World.cell?_setCells_out g _ _ _ _ (fun _ _ => by show j < _ ∨ _ ≤ j; omega)]; exact (h6 j hj).1
   ·refine ⟨World.os_setCells _ _ _ _, tape_setCells _ _ _ _, World.output_setCells _ _ _ _, hk.size, fun k hk1 hk2 => World.heap_setCells_other w g _ news hk1 (fun e => hk2 (by simp [Value.ownBlock, e]))⟩
  ·refine grow _ cap rfl (by omega) ?_; refine run_firstCells_some w.drew i.size n ⟨g, 0, none⟩ n cap xs hown.1 (fun j u hu => ?_); rw [Addr.add_lit, Nat.zero_add]; exact (h5 j (by have := (List.getElem?_eq_some_iff.1 hu).1; rw [hown.1] at this; exact this)).trans hu
theorem wpList_app (base : Nat) {ops : Array Oper} {rest : List Oper} {o : Oper} {a : Act} {Q : Exit → Act → World → Prop} (hgd : o.guard = none) (s x : Operand) (t tx : TypeId)
  (ho : o.op = .call { callee := .builtin .append, args := #[s, x], argTypes := #[t, tx] }) (e : TypeId) (z : Value) (size bytes : Nat) (ht : P.underlying t = some (.slice e))
  (hinfo : (P.info? e).map (fun i => (i.zero, i.size, i.bytes)) = some (some z, size, bytes)) (hzs : z.cells.size = size)
  {v : Value} {n : Nat} {xs : List Value} (hv : a.eval s = v) (hown : Own w base size v n xs) (xv : Value) (m : Nat) (news : List Value) (hx : a.eval x = xv) (hs : Src P size tx xv m news w)
  (h63 : n + m ≤ maxLen) (hbytes : (n + m) * bytes ≤ 140737488355328) (hbase : base ≤ w.heap.size)
  (hK : ∀ v' w', Own w' base size v' (n + m) (xs ++ news) → w.grownBy w' v.ownBlock → (v'.ownBlock = v.ownBlock ∨ ∀ k, v'.ownBlock = some k → w.heap.size ≤ k) → wpList P ops Q rest (a.put o.dst v') w') : wpList P ops Q (o :: rest) a w := by
 obtain ⟨i, hi, hz, hsize, hby⟩ := info_parts hinfo; refine wpList_plain hgd fun K hK' => ?_
 obtain ⟨v', w', hr, h2, h3, h4⟩ := run_app (P := P) (w := w) base t tx o.type e i z size bytes ht hi hz hsize hby hzs hown hs h63 hbytes hbase; unfold Oper.wp execOp; simp only [ho, resolve, invoke, builtin, Sem.run_bind, Sem.run_pure, Result.andThen_ok, List.map_toArray, List.map_cons, List.map_nil, hv, hx, hr]; exact hK' _ _ (hK v' w' h2 h3 h4)
theorem src_one (w0 : World) (tx e' e : TypeId) (hk : P.underlying tx = some (.slice e')) (u : Value) (h1 : u.oneCell' = true) :
  Src P 1 tx (.slice (some ⟨w0.heap.size, 0, none⟩) 1 1) 1 [u] (w0.alloc (.cells #[u] e)) :=
 Src.ofSlice _ hk _ 1 1 [u] rfl (fun j u' hu => by
  match j, hu with
  | 0, hu => simp at hu; subst hu; simp [Addr.add]) (by simpa using h1)
theorem Own.bytes (w : World) (base : Nat) (e : TypeId) (s : ByteArray) (hb : base ≤ w.heap.size) (hs : s.size ≤ maxLen) :
  Own (Lib.bytesWorld w e s) base 1 (.slice (some ⟨w.heap.size, 0, none⟩) s.size (grownCap w s.size 0 e)) s.size (byteCells s) := by
 have hge := grownCap_ge w s.size 0 e; have hsz : (Lib.bytesCells w e s).size = grownCap w s.size 0 e := by
  have : s.data.size = s.size := rfl; simp [Lib.bytesCells, this]; omega
 refine ⟨by rw [byteCells_length]; omega, .inr ⟨w.heap.size, _, rfl, hb, by rw [Lib.bytesWorld_size]; omega, hge, grownCap_le_maxLen w s.size 0 e hs, fun j hj => ?_, fun j hj => ?_⟩⟩
 ·have hj' : j < s.size := by omega
  have hj2 : j < s.data.toList.length := by rw [Array.length_toList]; exact hj'
  rw [Lib.bytesWorld_cell w e s j hj']; simp only [byteCells, List.getElem?_map, List.getElem?_eq_getElem hj2, List.getD_eq_getElem?_getD, Option.map_some, Option.getD_some]
 ·have h1 := Lib.bytesWorld_at_new w e s
  constructor
  ·simp [World.cell?, h1, hsz]; omega
  ·simp [World.frozen?, h1, hsz]; omega
theorem bytes_grown (w : World) (e : TypeId) (s : ByteArray) {B : Nat} {w0 : World} (h : Below B w0 w) (hB : B ≤ w.heap.size) : Below B w0 (Lib.bytesWorld w e s) :=
 h.trans ⟨rfl, rfl, rfl, by rw [Lib.bytesWorld_size]; omega, fun k hk => Lib.bytesWorld_at_old w e s k (by omega)⟩
def bcs (l : List UInt8) : List Value := l.map fun b => Value.int .u8 b.toNat
theorem bcs_append (l k : List UInt8) : bcs (l ++ k) = bcs l ++ bcs k := by simp [bcs]
theorem bcs_get (l : List UInt8) (j : Nat) (h : j < l.length) : (bcs l)[j]? = some (.int .u8 l[j].toNat) := by simp [bcs, h]
theorem byteCells_bcs (s : ByteArray) : byteCells s = bcs s.data.toList := rfl
def OwnB (w : World) (base : Nat) (v : Value) (l : List UInt8) : Prop := Own w base 1 v l.length (bcs l)
section
variable {ops : Array Oper} {rest : List Oper} {o : Oper} {a : Act} {Q : Exit → Act → World → Prop}
theorem gate_dst {N : Nat} (h : o.dst = some N) (k : wpList P ops Q (o :: rest) a w) : wpList P ops Q (o :: rest) a w := k
theorem wpList_convert (hgd : o.guard = none) (src dst : TypeId) (x : Operand) (ho : o.op = .convert src dst x) {v u : Value} {w1 : World} (hx : a.eval x = v) (hr : (convert src dst v).run P w = .ok u w1)
  (hK : wpList P ops Q rest (a.put o.dst u) w1) : wpList P ops Q (o :: rest) a w := by
 refine wpList_plain hgd fun K hK' => ?_
 unfold Oper.wp execOp; simp only [ho, hx, Sem.run_bind, Sem.run_pure, hr, Result.andThen_ok]; exact hK' _ _ hK
theorem wpList_bytes (base : Nat) (hgd : o.guard = none) (src dst e : TypeId) (x : Operand) (ho : o.op = .convert src dst x) {ud : TypeDesc} (hs : P.underlying src = some ud) (hd : P.underlying dst = some (.slice e)) (he : P.underlying e = some (.int .u8))
  (s : ByteArray) (hx : a.eval x = .string s) (hb : base ≤ w.heap.size) (hl : s.size ≤ maxLen)
  (hK : ∀ v w1, OwnB w1 base v s.data.toList → (∀ k, v.ownBlock = some k → w.heap.size ≤ k) → Below w.heap.size w w1 → wpList P ops Q rest (a.put o.dst v) w1) : wpList P ops Q (o :: rest) a w := by
 refine wpList_convert hgd src dst x ho hx (Lib.run_convert_string_bytes w src dst e s hs hd he) ?_; refine hK _ _ ?_ (fun k hk => by simp [Value.ownBlock] at hk; omega) (bytes_grown w e s (Below.refl _ _) (Nat.le_refl _)); have := Own.bytes w base e s hb hl; rw [byteCells_bcs] at this; unfold OwnB; rw [show s.data.toList.length = s.size from by rw [Array.length_toList]; rfl]; exact this
theorem wpList_appB1 (base : Nat) (hgd : o.guard = none) (s x : Operand) (t e : TypeId) (ho : o.op = .call { callee := .builtin .append, args := #[s, x], argTypes := #[t, t] }) (ht : P.underlying t = some (.slice e))
  (hinfo : (P.info? e).map (fun i => (i.zero, i.size, i.bytes)) = some (some (.int .u8 0), 1, 1)) {v : Value} {l : List UInt8} (hv : a.eval s = v) (b : UInt8) {w0 : World} (hx : a.eval x = .slice (some ⟨w0.heap.size, 0, none⟩) 1 1)
  (hw : w = w0.alloc (.cells #[.int .u8 b.toNat] e)) (hown : OwnB w0 base v l) (hl : l.length + 1 ≤ 140737488355328) (hbase : base ≤ w0.heap.size)
  (hK : ∀ v' w', OwnB w' base v' (l ++ [b]) → Below base w0 w' → wpList P ops Q rest (a.put o.dst v') w') : wpList P ops Q (o :: rest) a w := by
 subst hw; have h2 := hown.alloc (.cells #[.int .u8 b.toNat] e); refine wpList_app base hgd s x t t ho e (.int .u8 0) 1 1 ht hinfo rfl hv h2 _ 1 [.int .u8 b.toNat] hx (src_one w0 t e e ht _ rfl) (by unfold maxLen; omega) (by omega) (by simp; omega) ?_; intro v' w' h3 hg _; refine hK v' w' ?_ (below_of_grown ((Below.refl _ _).alloc hbase _) h2 (Nat.le_refl _) (by simp; omega) hg); unfold OwnB; rw [bcs_append, List.length_append]; exact h3
end
end
theorem Own.store {w : World} {base size g n cap : Nat} {xs : List Value} (h : Own w base size (.slice (some ⟨g, 0, none⟩) n cap) n xs) (k : Nat) (hk : k < n * size) (u : Value) :
  Own (w.setCell ⟨g, k, none⟩ u) base size (.slice (some ⟨g, 0, none⟩) n cap) n (xs.set k u) := by
 obtain ⟨h0, h⟩ := h
 rcases h with ⟨h, rfl⟩ | ⟨g', cap', hv, h1, h2, h3, h4, h5, h6⟩
 ·cases h
 ·cases hv
  refine ⟨by rw [List.length_set, h0], .inr ⟨g, cap, rfl, h1, by simpa using h2, h3, h4, fun j hj => ?_, fun j hj => ⟨?_, by rw [World.frozen?_setCell]; exact (h6 j hj).2⟩⟩⟩
  ·by_cases e : j = k
   ·subst e; rw [World.cell?_setCell_same' _ _ _ (h6 j (Nat.lt_of_lt_of_le hj (Nat.mul_le_mul_right _ h3))).1, List.getElem?_set_self (by omega)]
   ·rw [World.cell?_setCell_other _ _ _ _ (fun e' => e (by cases e'; rfl)), List.getElem?_set_ne (fun e' => e e'.symm)]; exact h5 j hj
  ·by_cases e : j = k
   ·subst e; rw [World.cell?_setCell_same' _ _ _ (h6 j hj).1]; rfl
   ·rw [World.cell?_setCell_other _ _ _ _ (fun e' => e (by cases e'; rfl))]; exact (h6 j hj).1
theorem Own.cell {w : World} {base size g n cap : Nat} {xs : List Value} (h : Own w base size (.slice (some ⟨g, 0, none⟩) n cap) n xs) (k : Nat) (hk : k < n * size) :
  w.cell? ⟨g, k, none⟩ = xs[k]? ∧ (w.cell? ⟨g, k, none⟩).isSome = true ∧ w.frozen? ⟨g, k, none⟩ = false := by
 obtain ⟨h0, h⟩ := h
 rcases h with ⟨h, rfl⟩ | ⟨g', cap', hv, h1, h2, h3, h4, h5, h6⟩
 ·cases h
 ·cases hv
  have hk' := Nat.lt_of_lt_of_le hk (Nat.mul_le_mul_right size h3); exact ⟨h5 k hk, (h6 k hk').1, (h6 k hk').2⟩
theorem Own.slot {w : World} {base size g n cap : Nat} {xs : List Value} (h : Own w base size (.slice (some ⟨g, 0, none⟩) n cap) n xs) (k : Nat) (hk : k < n * size) : ∃ u, w.cell? ⟨g, k, none⟩ = some u ∧ w.frozen? ⟨g, k, none⟩ = false := by
 obtain ⟨_, h2, h3⟩ := h.cell k hk; obtain ⟨u, hu⟩ := Option.isSome_iff_exists.1 h2; exact ⟨u, hu, h3⟩
def lenOf : Value → Nat | .slice _ n _ => n | _ => 0
@[simp] theorem lenOf_slice (a : Option Addr) (n c : Nat) : lenOf (.slice a n c) = n := rfl
def Rd (w : World) (size : Nat) (v : Value) (n : Nat) (xs : List Value) : Prop :=
 xs.length = n * size ∧ ∃ A c, v = .slice A n c ∧ n ≤ c ∧ (0 < n → ∃ b off, A = some ⟨b, off, none⟩ ∧ b < w.heap.size ∧ ∀ j, j < n * size → w.cell? ⟨b, off + j, none⟩ = xs[j]?)
theorem Own.rd {w : World} {base size : Nat} {v : Value} {n : Nat} {xs : List Value} (h : Own w base size v n xs) : Rd w size v n xs := by
 refine ⟨h.1, ?_⟩
 rcases h.2 with ⟨rfl, rfl⟩ | ⟨g, cap, rfl, h1, h2, h3, h4, h5, h6⟩
 ·exact ⟨none, 0, rfl, Nat.le_refl _, fun h => absurd h (Nat.lt_irrefl 0)⟩
 ·exact ⟨_, cap, rfl, h3, fun _ => ⟨g, 0, rfl, h2, fun j hj => by rw [Nat.zero_add]; exact h5 j hj⟩⟩
theorem Rd.below {w w1 : World} {size : Nat} {v : Value} {n : Nat} {xs : List Value} (h : Rd w size v n xs) {B : Nat} (hb : Below B w w1) (hB : w.heap.size ≤ B) : Rd w1 size v n xs := by
 obtain ⟨h1, A, c, hv, h2, h3⟩ := h; refine ⟨h1, A, c, hv, h2, fun hn => ?_⟩; obtain ⟨b, off, hA, hlt, hc⟩ := h3 hn; exact ⟨b, off, hA, Nat.lt_of_lt_of_le hlt hb.size, fun j hj => by rw [hb.cell (p := ⟨b, off + j, none⟩) (by show b < B; omega)]; exact hc j hj⟩
end Go.Proofs.YthnnphinfiobmaaDoor
end
section
namespace Go.Proofs.YthnnphinfiobmaaDoor.Z
open RowKit YthnnphinfiobmaaDoorW.PrintWords YthnnphinfiobmaaDoorW.PrintLast YthnnphinfiobmaaDoorW.PrintMore
attribute [local go_sem] max2_int min2_int max_two min_two max_three min_three max_four min_four
set_option linter.all false
def spec_l1Turn.f (a0 : Int) (a1 : Int) : Option (Int) := if 0 ≤ (IntKind.u64.wrap (a1)) then (if 0 ≤ (IntKind.u64.wrap (wrap64 (32 - a1))) then (some (Go.bits .or .u32 (shr .u32 a0 (IntKind.u64.wrap (a1))) (shl .u32 a0 (IntKind.u64.wrap (wrap64 (32 - a1)))))) else (none)) else (none)
set_option maxHeartbeats 8000000 in
set_option maxRecDepth 100000 in
theorem spec_l1Turn.calls (a0 : Int) (a1 : Int) (r : Int) (w : World) (h : spec_l1Turn.f a0 a1 = some r) :
  Calls Tryd.prog 122 #[.int .u32 a0, .int .i64 a1] w fun e w' => e = .returned (.int .u32 r) ∧ Drawn0 w w' := by
 have H : (if 0 ≤ (IntKind.u64.wrap (a1)) then (if 0 ≤ (IntKind.u64.wrap (wrap64 (32 - a1))) then (some (Go.bits .or .u32 (shr .u32 a0 (IntKind.u64.wrap (a1))) (shl .u32 a0 (IntKind.u64.wrap (wrap64 (32 - a1)))))) else (none)) else (none)) = some r := h; clear h; obtain ⟨ji3, hji3⟩ : ∃ j_ : Int, (IntKind.u64.wrap (a1)) = j_ := ⟨_, rfl⟩
 replace H : (if 0 ≤ (ji3) then (if 0 ≤ (IntKind.u64.wrap (wrap64 (32 - a1))) then (some (Go.bits .or .u32 (shr .u32 a0 (ji3)) (shl .u32 a0 (IntKind.u64.wrap (wrap64 (32 - a1)))))) else (none)) else (none)) = some r := by first | (rw [hji3] at H; exact H) | (simp only [hji3] at H ⊢; exact H)
 by_cases c4 : 0 ≤ (ji3)
 ·rw [if_pos c4] at H; have c4b0 := eq_true c4; have c4b1 : decide (0 ≤ (ji3)) = true := decide_eq_true c4; clear c4; obtain ⟨ji5, hji5⟩ : ∃ j_ : Int, (shr .u32 a0 (ji3)) = j_ := ⟨_, rfl⟩
  replace H : (if 0 ≤ (IntKind.u64.wrap (wrap64 (32 - a1))) then (some (Go.bits .or .u32 (ji5) (shl .u32 a0 (IntKind.u64.wrap (wrap64 (32 - a1)))))) else (none)) = some r := by first | (rw [hji5] at H; exact H) | (simp only [hji5] at H ⊢; exact H)
  have hji5_ : (a0 / 2 ^ min (ji3).toNat 32) = ji5 := hji5; have hji5z : (ji3) ≤ 32 → (a0 / 2 ^ (ji3).toNat) = ji5 := shr_small hji5; obtain ⟨ji6, hji6⟩ : ∃ j_ : Int, (IntKind.u64.wrap (wrap64 (32 - a1))) = j_ := ⟨_, rfl⟩
  replace H : (if 0 ≤ (ji6) then (some (Go.bits .or .u32 (ji5) (shl .u32 a0 (ji6)))) else (none)) = some r := by first | (rw [hji6] at H; exact H) | (simp only [hji6] at H ⊢; exact H)
  by_cases c7 : 0 ≤ (ji6)
  ·rw [if_pos c7] at H; have c7b0 := eq_true c7; have c7b1 : decide (0 ≤ (ji6)) = true := decide_eq_true c7; clear c7; obtain ⟨ji8, hji8⟩ : ∃ j_ : Int, (shl .u32 a0 (ji6)) = j_ := ⟨_, rfl⟩
   replace H : (some (Go.bits .or .u32 (ji5) (ji8))) = some r := by first | (rw [hji8] at H; exact H) | (simp only [hji8] at H ⊢; exact H)
   have hji8_ : (IntKind.u32.wrap (a0 * 2 ^ min (ji6).toNat 32)) = ji8 := hji8; have hji8z : (ji6) ≤ 32 → (IntKind.u32.wrap (a0 * 2 ^ (ji6).toNat)) = ji8 := shl_small hji8; obtain rfl := Option.some.inj H
   go_enter Tryd.func122, Tryd.ntmps122
   go_wp2
   go_ret
   exact ⟨by first | rfl | (simp; done) | (simp only [← hji3, ← hji5, ← hji6, ← hji8] <;> (first | rfl | simp)) | (simp [*]; done), by repeat (first | exact Drawn0.refl _ | apply Drawn0.step)⟩
  ·rw [if_neg c7] at H; exact absurd H (by simp)
 ·rw [if_neg c4] at H; exact absurd H (by simp)
mutual
def spec_l1Schedule.l0 : Nat → List Int → Int → List Int → Int → Option (List Int)
 | 0, _, _, _, _ => none
 | k + 1, x0, x1, x5, x6 => if x6 < 16 then (if 0 ≤ (wrap64 (x1 + (wrap64 (4 * x6)))) then (if (wrap64 (x1 + (wrap64 (4 * x6)))) < (x0.length : Int) then (if 0 ≤ (wrap64 ((wrap64 (x1 + (wrap64 (4 * x6)))) + 1)) then (if (wrap64 ((wrap64 (x1 + (wrap64 (4 * x6)))) + 1)) < (x0.length : Int) then (if 0 ≤ (wrap64 ((wrap64 (x1 + (wrap64 (4 * x6)))) + 2)) then (if (wrap64 ((wrap64 (x1 + (wrap64 (4 * x6)))) + 2)) < (x0.length : Int) then (if 0 ≤ (wrap64 ((wrap64 (x1 + (wrap64 (4 * x6)))) + 3)) then (if (wrap64 ((wrap64 (x1 + (wrap64 (4 * x6)))) + 3)) < (x0.length : Int) then (if x5.length < 35184372088832 then (spec_l1Schedule.l0 k x0 x1 (x5 ++ [Go.bits .or .u32 (Go.bits .or .u32 (Go.bits .or .u32 ((((rd x0 (wrap64 (x1 + (wrap64 (4 * x6))))) % 4294967296) * 16777216) % 4294967296) ((((rd x0 (wrap64 ((wrap64 (x1 + (wrap64 (4 * x6)))) + 1))) % 4294967296) * 65536) % 4294967296)) ((((rd x0 (wrap64 ((wrap64 (x1 + (wrap64 (4 * x6)))) + 2))) % 4294967296) * 256) % 4294967296)) ((rd x0 (wrap64 ((wrap64 (x1 + (wrap64 (4 * x6)))) + 3))) % 4294967296)]) (wrap64 (x6 + 1))) else (none)) else (none)) else (none)) else (none)) else (none)) else (none)) else (none)) else (none)) else (none)) else (spec_l1Schedule.l1 k x5 16)
def spec_l1Schedule.l1 : Nat → List Int → Int → Option (List Int)
 | 0, _, _ => none
 | k + 1, x5, x8 => if x8 < 64 then (if 0 ≤ (wrap64 (x8 - 15)) then (if (wrap64 (x8 - 15)) < (x5.length : Int) then (if 0 ≤ (wrap64 (x8 - 2)) then (if (wrap64 (x8 - 2)) < (x5.length : Int) then ((spec_l1Turn.f (rd x5 (wrap64 (x8 - 15))) 7).bind fun t1210013 => ((spec_l1Turn.f (rd x5 (wrap64 (x8 - 15))) 18).bind fun t1210014 => ((spec_l1Turn.f (rd x5 (wrap64 (x8 - 2))) 17).bind fun t1210015 => ((spec_l1Turn.f (rd x5 (wrap64 (x8 - 2))) 19).bind fun t1210016 => (if 0 ≤ (wrap64 (x8 - 16)) then (if (wrap64 (x8 - 16)) < (x5.length : Int) then (if 0 ≤ (wrap64 (x8 - 7)) then (if (wrap64 (x8 - 7)) < (x5.length : Int) then (if x5.length < 35184372088832 then (spec_l1Schedule.l1 k (x5 ++ [((((((rd x5 (wrap64 (x8 - 16))) + (Go.bits .xor .u32 (Go.bits .xor .u32 t1210013 t1210014) ((rd x5 (wrap64 (x8 - 15))) / 8))) % 4294967296) + (rd x5 (wrap64 (x8 - 7)))) % 4294967296) + (Go.bits .xor .u32 (Go.bits .xor .u32 t1210015 t1210016) ((rd x5 (wrap64 (x8 - 2))) / 1024))) % 4294967296]) (wrap64 (x8 + 1))) else (none)) else (none)) else (none)) else (none)) else (none)))))) else (none)) else (none)) else (none)) else (none)) else (some x5)
end
def spec_l1Schedule.f (k : Nat) (l0 : List Int) (a1 : Int) : Option (List Int) := spec_l1Schedule.l0 k l0 a1 (([] : List Int)) 0
def spec_l1Schedule.T6 : Bool × List (List Nat × List Nat) := (true, [([], []), ([], []), ([], []), ([1, 2], [1, 2]), ([3], [3]), ([4], [4]), ([5], [5]), ([], []), ([], []), ([8], [8]), ([7, 9], [7, 9]), ([10], [10]), ([11], [11]), ([12], [12]), ([6, 13], [6, 13]), ([], []), ([], []), ([16], [16]), ([15, 17], [15, 17]), ([18], [18]), ([19], [19]), ([20], [20]), ([14, 21], [14, 21]), ([], []), ([], []), ([24], [24]), ([23, 25], [23, 25]), ([26], [26]), ([27], [27]), ([22, 28], [22, 28]), ([29], [29]), ([0, 30], [0, 30]), ([31, 31, 0, 1, 2, 3, 4, 5, 6, 7, 8, 9, 10, 11, 12, 13, 14, 15, 16, 17, 18, 19, 20, 21, 22, 23, 24, 25, 26, 27, 28, 29, 30, 31], [0, 31])])
def spec_l1Schedule.B6 : List Nat := [0, 0, 0, 6, 14, 30, 62, 0, 0, 256, 896, 1920, 3968, 8064, 16382, 0, 0, 65536, 229376, 491520, 1015808, 2064384, 4194302, 0, 0, 16777216, 58720256, 125829120, 260046848, 536870910, 1073741822, 2147483647, 4294967295]
theorem spec_l1Schedule.tab6 : rtab .any (opsOf Tryd.f121 6) = spec_l1Schedule.T6 := by kernel_rfl
theorem spec_l1Schedule.bits6 : waitsOk spec_l1Schedule.T6.2 spec_l1Schedule.B6 = true := by kernel_rfl
def spec_l1Schedule.T14 : Bool × List (List Nat × List Nat) := (true, [([], []), ([], []), ([], []), ([2], [2]), ([1, 3], [1, 3]), ([4], [4]), ([], []), ([5, 6], [5, 6]), ([], []), ([], []), ([9], [9]), ([8, 10], [8, 10]), ([11], [11]), ([7, 12], [7, 12]), ([], []), ([13, 14], [13, 14]), ([15], [15]), ([0, 16], [0, 16]), ([17, 17, 0, 1, 2, 3, 4, 5, 6, 7, 8, 9, 10, 11, 12, 13, 14, 15, 16, 17], [0, 1, 8, 17])])
def spec_l1Schedule.B14 : List Nat := [0, 0, 0, 4, 14, 30, 0, 126, 0, 0, 512, 1792, 3840, 8190, 0, 32766, 65534, 131071, 262143]
theorem spec_l1Schedule.tab14 : rtab .any (opsOf Tryd.f121 14) = spec_l1Schedule.T14 := by kernel_rfl
theorem spec_l1Schedule.bits14 : waitsOk spec_l1Schedule.T14.2 spec_l1Schedule.B14 = true := by kernel_rfl
set_option maxHeartbeats 8000000 in
set_option maxRecDepth 100000 in
theorem spec_l1Schedule.calls (k : Nat) (A0 : Option Addr) (c0 : Nat) (l0 : List Int) (a1 : Int) (r : List Int) (w : World) (hr0 : Kd.C (Kd.int .u8) w A0 l0.length l0) (hc0 : l0.length ≤ c0) (h : spec_l1Schedule.f k l0 a1 = some r) :
  Calls Tryd.prog 121 #[.slice A0 l0.length c0, .int .i64 a1] w fun e w' => ∃ v0_ : Value, e = .returned (v0_) ∧ Kd.R (Kd.int .u32) 142 w' w.heap.size (fun _ => True) v0_ r ∧ Below w.heap.size w w' := by
 have HR0 := Aside0.mk hr0; have HC0 := Aside0.mk hc0; clear hr0 hc0; have HB := Aside0.mk (Below.refl w.heap.size w); have H : (spec_l1Schedule.l0 k l0 a1 (([] : List Int)) 0) = some r := h; clear h; obtain ⟨y1210001, hy1210001⟩ : ∃ y_ : List Int, y_ = (([] : List Int)) := ⟨_, rfl⟩
 replace H : (spec_l1Schedule.l0 k l0 a1 y1210001 0) = some r := by first | (rw [hy1210001]; with_reducible exact H) | (have H2_ := (Option.bind_some _ _).symm.trans H; rw [hy1210001]; with_reducible exact H2_) | (have H2_ := (Option.bind_some _ _).symm.trans H; with_reducible exact H2_) | with_reducible exact H | (rw [hy1210001]; exact H) | exact H
 have Ny1210001 := Aside0.mk hy1210001; clear hy1210001; have H' := Aside0.mk H; clear H
 go_enter Tryd.func121, Tryd.ntmps121
 go_wp2_with (first | ((with_reducible refine gate_dst (N := 13) rfl ?_); refine Kd.R_lit (Kd.int .u32) _ 142 ?hg (N := 13) ?hd (xs := ([] : List Int)) (inner := []) (ok := fun _ => True) (okp := fun _ => True) ?hr ?hp (fun _ hk => hk) trivial (Below.refl _ _) (Nat.le_refl _) (by simp) ?_; (case hd => rfl); (case hg => rfl); (case hr => exact zq_13); (case hp => exact (Reps.none _ _)); intro v1210002 w3 ho4 hb hg_ hnew_; clear hg_ hnew_; (first | rw [← Ny1210001.out] at ho4 | (simp only [Int.reduceToNat] at ho4; rw [← Ny1210001.out] at ho4)); have n0_ := Aside0.mk (Kd.R_lower ho4 (below_size zq_0)); have n1_ := Aside0.mk (below_step zq_0 hb); clear HB; have HO1210003 := n0_; have HB := n1_; clear n0_ n1_; clear hb ho4))
 go_loopg [5, 6] k (fun kq v5 v6 w' => ∃ (x5_1 : List Int) (x6_1 : Int), v6 = .int .i64 x6_1 ∧ Aside0 (spec_l1Schedule.l0 kq l0 a1 x5_1 x6_1 = some r) ∧ Aside0 (kq ≤ k) ∧ Aside0 (Kd.R (Kd.int .u32) 142 w' w.heap.size (fun _ => True) v5 x5_1) ∧ Aside0 (Below w.heap.size w w'))
 case atStart => exact ⟨(y1210001), (0), zq_6, H', ⟨Nat.le_refl _⟩, ⟨by (with_reducible repeat (first | apply Kd.R_alloc | apply Kd.R_drewN | apply Kd.R_drew)); exact HO1210003.out⟩, ⟨by repeat (first | (with_reducible first | exact HB.out | apply below_alloc | apply pw_below_drewN | apply below_drew1) | exact HB.out)⟩⟩
 case round =>
  clear H'
  try clear c1
  try clear p2
  obtain ⟨x5_1, x6_1, rfl, HA, HK1, HO_5, HB⟩ := hrel
  cases gk with
  | zero => exact absurd HA.out (by simp [spec_l1Schedule.l0])
  | succ k1 =>
   have H := HA.out; clear HA; simp only [spec_l1Schedule.l0] at H
   by_cases c5 : x6_1 < 16
   ·rw [if_pos c5] at H; have c5b0 : decide (x6_1 < 16) = true := decide_eq_true c5; clear c5; obtain ⟨ji6, hji6⟩ : ∃ j_ : Int, (wrap64 (a1 + (wrap64 (4 * x6_1)))) = j_ := ⟨_, rfl⟩
    replace H : (if 0 ≤ (ji6) then (if (ji6) < (l0.length : Int) then (if 0 ≤ (wrap64 ((ji6) + 1)) then (if (wrap64 ((ji6) + 1)) < (l0.length : Int) then (if 0 ≤ (wrap64 ((ji6) + 2)) then (if (wrap64 ((ji6) + 2)) < (l0.length : Int) then (if 0 ≤ (wrap64 ((ji6) + 3)) then (if (wrap64 ((ji6) + 3)) < (l0.length : Int) then (if x5_1.length < 35184372088832 then (spec_l1Schedule.l0 k1 l0 a1 (x5_1 ++ [Go.bits .or .u32 (Go.bits .or .u32 (Go.bits .or .u32 ((((rd l0 (ji6)) % 4294967296) * 16777216) % 4294967296) ((((rd l0 (wrap64 ((ji6) + 1))) % 4294967296) * 65536) % 4294967296)) ((((rd l0 (wrap64 ((ji6) + 2))) % 4294967296) * 256) % 4294967296)) ((rd l0 (wrap64 ((ji6) + 3))) % 4294967296)]) (wrap64 (x6_1 + 1))) else (none)) else (none)) else (none)) else (none)) else (none)) else (none)) else (none)) else (none)) else (none)) = some r := by first | (rw [hji6] at H; exact H) | (simp only [hji6] at H ⊢; exact H)
    have hji6w : (IntKind.i64.wrap (a1 + (wrap64 (4 * x6_1)))) = ji6 := (i64_w _).trans hji6
    by_cases c7 : 0 ≤ (ji6)
    ·rw [if_pos c7] at H; have c7b0 : decide (0 ≤ (ji6)) = true := decide_eq_true c7; clear c7
     by_cases c8 : (ji6) < (l0.length : Int)
     ·rw [if_pos c8] at H; have c8b0 : decide ((ji6) < (l0.length : Int)) = true := decide_eq_true c8; clear c8; obtain ⟨ji9, hji9⟩ : ∃ j_ : Int, (wrap64 ((ji6) + 1)) = j_ := ⟨_, rfl⟩
      replace H : (if 0 ≤ (ji9) then (if (ji9) < (l0.length : Int) then (if 0 ≤ (wrap64 ((ji6) + 2)) then (if (wrap64 ((ji6) + 2)) < (l0.length : Int) then (if 0 ≤ (wrap64 ((ji6) + 3)) then (if (wrap64 ((ji6) + 3)) < (l0.length : Int) then (if x5_1.length < 35184372088832 then (spec_l1Schedule.l0 k1 l0 a1 (x5_1 ++ [Go.bits .or .u32 (Go.bits .or .u32 (Go.bits .or .u32 ((((rd l0 (ji6)) % 4294967296) * 16777216) % 4294967296) ((((rd l0 (ji9)) % 4294967296) * 65536) % 4294967296)) ((((rd l0 (wrap64 ((ji6) + 2))) % 4294967296) * 256) % 4294967296)) ((rd l0 (wrap64 ((ji6) + 3))) % 4294967296)]) (wrap64 (x6_1 + 1))) else (none)) else (none)) else (none)) else (none)) else (none)) else (none)) else (none)) = some r := by first | (rw [hji9] at H; exact H) | (simp only [hji9] at H ⊢; exact H)
      have hji9w : (IntKind.i64.wrap ((ji6) + 1)) = ji9 := (i64_w _).trans hji9
      by_cases c10 : 0 ≤ (ji9)
      ·rw [if_pos c10] at H; have c10b0 : decide (0 ≤ (ji9)) = true := decide_eq_true c10; clear c10
       by_cases c11 : (ji9) < (l0.length : Int)
       ·rw [if_pos c11] at H; have c11b0 : decide ((ji9) < (l0.length : Int)) = true := decide_eq_true c11; clear c11; obtain ⟨ji12, hji12⟩ : ∃ j_ : Int, (wrap64 ((ji6) + 2)) = j_ := ⟨_, rfl⟩
        replace H : (if 0 ≤ (ji12) then (if (ji12) < (l0.length : Int) then (if 0 ≤ (wrap64 ((ji6) + 3)) then (if (wrap64 ((ji6) + 3)) < (l0.length : Int) then (if x5_1.length < 35184372088832 then (spec_l1Schedule.l0 k1 l0 a1 (x5_1 ++ [Go.bits .or .u32 (Go.bits .or .u32 (Go.bits .or .u32 ((((rd l0 (ji6)) % 4294967296) * 16777216) % 4294967296) ((((rd l0 (ji9)) % 4294967296) * 65536) % 4294967296)) ((((rd l0 (ji12)) % 4294967296) * 256) % 4294967296)) ((rd l0 (wrap64 ((ji6) + 3))) % 4294967296)]) (wrap64 (x6_1 + 1))) else (none)) else (none)) else (none)) else (none)) else (none)) = some r := by first | (rw [hji12] at H; exact H) | (simp only [hji12] at H ⊢; exact H)
        have hji12w : (IntKind.i64.wrap ((ji6) + 2)) = ji12 := (i64_w _).trans hji12
        by_cases c13 : 0 ≤ (ji12)
        ·rw [if_pos c13] at H; have c13b0 : decide (0 ≤ (ji12)) = true := decide_eq_true c13; clear c13
         by_cases c14 : (ji12) < (l0.length : Int)
         ·rw [if_pos c14] at H; have c14b0 : decide ((ji12) < (l0.length : Int)) = true := decide_eq_true c14; clear c14; obtain ⟨ji15, hji15⟩ : ∃ j_ : Int, (wrap64 ((ji6) + 3)) = j_ := ⟨_, rfl⟩
          replace H : (if 0 ≤ (ji15) then (if (ji15) < (l0.length : Int) then (if x5_1.length < 35184372088832 then (spec_l1Schedule.l0 k1 l0 a1 (x5_1 ++ [Go.bits .or .u32 (Go.bits .or .u32 (Go.bits .or .u32 ((((rd l0 (ji6)) % 4294967296) * 16777216) % 4294967296) ((((rd l0 (ji9)) % 4294967296) * 65536) % 4294967296)) ((((rd l0 (ji12)) % 4294967296) * 256) % 4294967296)) ((rd l0 (ji15)) % 4294967296)]) (wrap64 (x6_1 + 1))) else (none)) else (none)) else (none)) = some r := by first | (rw [hji15] at H; exact H) | (simp only [hji15] at H ⊢; exact H)
          have hji15w : (IntKind.i64.wrap ((ji6) + 3)) = ji15 := (i64_w _).trans hji15
          by_cases c16 : 0 ≤ (ji15)
          ·rw [if_pos c16] at H; have c16b0 : decide (0 ≤ (ji15)) = true := decide_eq_true c16; clear c16
           by_cases c17 : (ji15) < (l0.length : Int)
           ·rw [if_pos c17] at H; have c17b0 : decide ((ji15) < (l0.length : Int)) = true := decide_eq_true c17; clear c17
            by_cases c18 : x5_1.length < 35184372088832
            ·rw [if_pos c18] at H; have LMc18 := Aside0.mk c18; clear c18; obtain ⟨y1210008, hy1210008⟩ : ∃ y_ : List Int, y_ = (x5_1 ++ [Go.bits .or .u32 (Go.bits .or .u32 (Go.bits .or .u32 ((((rd l0 (ji6)) % 4294967296) * 16777216) % 4294967296) ((((rd l0 (ji9)) % 4294967296) * 65536) % 4294967296)) ((((rd l0 (ji12)) % 4294967296) * 256) % 4294967296)) ((rd l0 (ji15)) % 4294967296)]) := ⟨_, rfl⟩
             replace H : (spec_l1Schedule.l0 k1 l0 a1 y1210008 (wrap64 (x6_1 + 1))) = some r := by first | (rw [hy1210008]; with_reducible exact H) | (have H2_ := (Option.bind_some _ _).symm.trans H; rw [hy1210008]; with_reducible exact H2_) | (have H2_ := (Option.bind_some _ _).symm.trans H; with_reducible exact H2_) | with_reducible exact H | (rw [hy1210008]; exact H) | exact H
             have Ny1210008 := Aside0.mk hy1210008; clear hy1210008; have H' := Aside0.mk H; clear H
             try go_wp2
             have n0_ := Aside0.mk (Kd.R_drew HO_5.out); have n1_ := Aside0.mk (below_drew1 HB.out); clear HO_5; clear HB; have HO_5 := n0_; have HB := n1_; clear n0_ n1_; have p1210004 : 0 ≤ ((ji6) : Int) := of_decide_eq_true zq_2; have q1210004 : (ji6) < (l0.length : Int) := of_decide_eq_true zq_2; obtain ⟨ad1210004, e1210004, hx1210004_0⟩ := Kd.at_int HR0.out (ji6) p1210004 q1210004; have hw1210004_0 := hx1210004_0
             cases e1210004
             replace hx1210004_0 := (HB.out.cell (World.block_lt_of_cell? w _ hx1210004_0)).trans hx1210004_0; replace p1210004 := eq_true p1210004; replace q1210004 := eq_true q1210004; have p1210005 : 0 ≤ ((ji9) : Int) := of_decide_eq_true zq_2; have q1210005 : (ji9) < (l0.length : Int) := of_decide_eq_true zq_2; obtain ⟨ad1210005, e1210005, hx1210005_0⟩ := Kd.at_int HR0.out (ji9) p1210005 q1210005; have hw1210005_0 := hx1210005_0; obtain rfl : ad1210004 = ad1210005 := (by injection e1210005)
             replace hx1210005_0 := (HB.out.cell (World.block_lt_of_cell? w _ hx1210005_0)).trans hx1210005_0; replace p1210005 := eq_true p1210005; replace q1210005 := eq_true q1210005; have p1210006 : 0 ≤ ((ji12) : Int) := of_decide_eq_true zq_2; have q1210006 : (ji12) < (l0.length : Int) := of_decide_eq_true zq_2; obtain ⟨ad1210006, e1210006, hx1210006_0⟩ := Kd.at_int HR0.out (ji12) p1210006 q1210006; have hw1210006_0 := hx1210006_0; obtain rfl : ad1210004 = ad1210006 := (by injection e1210006)
             replace hx1210006_0 := (HB.out.cell (World.block_lt_of_cell? w _ hx1210006_0)).trans hx1210006_0; replace p1210006 := eq_true p1210006; replace q1210006 := eq_true q1210006; have p1210007 : 0 ≤ ((ji15) : Int) := of_decide_eq_true zq_2; have q1210007 : (ji15) < (l0.length : Int) := of_decide_eq_true zq_2; obtain ⟨ad1210007, e1210007, hx1210007_0⟩ := Kd.at_int HR0.out (ji15) p1210007 q1210007; have hw1210007_0 := hx1210007_0; obtain rfl : ad1210004 = ad1210007 := (by injection e1210007)
             replace hx1210007_0 := (HB.out.cell (World.block_lt_of_cell? w _ hx1210007_0)).trans hx1210007_0; replace p1210007 := eq_true p1210007; replace q1210007 := eq_true q1210007; refine start_ (n := 33) (S := fun w' => w'.cell? (ad1210004.add ((ji6)).toNat) = some (.int .u8 (rd l0 (ji6))) ∧ w'.cell? (ad1210004.add ((ji9)).toNat) = some (.int .u8 (rd l0 (ji9))) ∧ w'.cell? (ad1210004.add ((ji12)).toNat) = some (.int .u8 (rd l0 (ji12))) ∧ w'.cell? (ad1210004.add ((ji15)).toNat) = some (.int .u8 (rd l0 (ji15)))) (ds := []) #[false, false, false, false, false, false, false, false, false, false, false, false, false, false, false, false, false, false, false, false, false, false, false, false, false, false, false, false, false, false, false, false, false] (by kernel_rfl) rfl rfl ⟨((HB.out.cell (World.block_lt_of_cell? w _ hw1210004_0)).trans hw1210004_0), ((HB.out.cell (World.block_lt_of_cell? w _ hw1210005_0)).trans hw1210005_0), ((HB.out.cell (World.block_lt_of_cell? w _ hw1210006_0)).trans hw1210006_0), ((HB.out.cell (World.block_lt_of_cell? w _ hw1210007_0)).trans hw1210007_0)⟩ (fun hHeld => ?_); refine with_tabW spec_l1Schedule.tab6 spec_l1Schedule.bits6 (fun HT_ HW_ => ?_); generalize wr.drew = w19 at HO_5 HB hx1210004_0 hx1210005_0 hx1210006_0 hx1210007_0 hHeld ⊢; refine pq_ (i := 0) (N := some 22) HT_.out ?_; refine pq_ (i := 1) (N := some 23) HT_.out ?_; refine pq_ (i := 2) (N := some 24) HT_.out ?_; refine pq_ (i := 3) (N := some 25) HT_.out ?_; refine pq_ (i := 7) (N := some 29) HT_.out ?_; refine pq_ (i := 8) (N := some 30) HT_.out ?_; refine pq_ (i := 9) (N := some 31) HT_.out ?_; refine pq_ (i := 10) (N := some 32) HT_.out ?_; refine pq_ (i := 15) (N := some 37) HT_.out ?_; refine pq_ (i := 16) (N := some 38) HT_.out ?_; refine pq_ (i := 17) (N := some 39) HT_.out ?_; refine pq_ (i := 18) (N := some 40) HT_.out ?_; refine pq_ (i := 23) (N := some 45) HT_.out ?_; refine pq_ (i := 24) (N := some 46) HT_.out ?_; refine pq_ (i := 25) (N := some 47) HT_.out ?_; refine pq_ (i := 26) (N := some 48) HT_.out ?_; refine tq_ (i := 4) (N := some 26) HT_.out HW_.out hHeld (hy := by rintro w' ⟨s0, s1, s2, s3⟩; go_simp; with_reducible rfl) (h := ?_); refine pq_ (i := 5) (N := some 27) HT_.out ?_; refine pq_ (i := 6) (N := some 28) HT_.out ?_; refine tq_ (i := 11) (N := some 33) HT_.out HW_.out hHeld (hy := by rintro w' ⟨s0, s1, s2, s3⟩; go_simp; with_reducible rfl) (h := ?_); refine pq_ (i := 12) (N := some 34) HT_.out ?_; refine pq_ (i := 13) (N := some 35) HT_.out ?_
             refine pq_ (i := 14) (N := some 36) HT_.out ?_; refine tq_ (i := 19) (N := some 41) HT_.out HW_.out hHeld (hy := by rintro w' ⟨s0, s1, s2, s3⟩; go_simp; with_reducible rfl) (h := ?_); refine pq_ (i := 20) (N := some 42) HT_.out ?_; refine pq_ (i := 21) (N := some 43) HT_.out ?_; refine pq_ (i := 22) (N := some 44) HT_.out ?_; refine tq_ (i := 27) (N := some 49) HT_.out HW_.out hHeld (hy := by rintro w' ⟨s0, s1, s2, s3⟩; go_simp; with_reducible rfl) (h := ?_); refine pq_ (i := 28) (N := some 50) HT_.out ?_; refine pq_ (i := 29) (N := some 51) HT_.out ?_; refine one_ (i := 30) (N := some 52) #[true, true, true, true, true, true, true, true, true, true, true, true, true, true, true, true, true, true, true, true, true, true, true, true, true, true, true, true, true, true, true, false, false] rfl rfl (one_of HT_.out (by kernel_rfl)) (by decide) (fun K hK => ?_); refine value_ (w1 := ?_) (v := ?_) (by rfl) rfl ?_ ?_; rotate_left 2
             ·go_simp
              constructor
              ·rfl
              ·rfl
             refine hK.out _ _ ⟨(World.cell?_alloc_lt _ _ _ (World.block_lt_of_cell? _ _ (((HB.out.cell (World.block_lt_of_cell? w _ hw1210004_0)).trans hw1210004_0)))).trans (((HB.out.cell (World.block_lt_of_cell? w _ hw1210004_0)).trans hw1210004_0)), (World.cell?_alloc_lt _ _ _ (World.block_lt_of_cell? _ _ (((HB.out.cell (World.block_lt_of_cell? w _ hw1210005_0)).trans hw1210005_0)))).trans (((HB.out.cell (World.block_lt_of_cell? w _ hw1210005_0)).trans hw1210005_0)), (World.cell?_alloc_lt _ _ _ (World.block_lt_of_cell? _ _ (((HB.out.cell (World.block_lt_of_cell? w _ hw1210006_0)).trans hw1210006_0)))).trans (((HB.out.cell (World.block_lt_of_cell? w _ hw1210006_0)).trans hw1210006_0)), (World.cell?_alloc_lt _ _ _ (World.block_lt_of_cell? _ _ (((HB.out.cell (World.block_lt_of_cell? w _ hw1210007_0)).trans hw1210007_0)))).trans (((HB.out.cell (World.block_lt_of_cell? w _ hw1210007_0)).trans hw1210007_0))⟩ (fun hHeld => ?_); clear hK K; refine norm_ (a' := ?_) ?_ ?_; rotate_left
             ·show Act.put _ (some 52) _ = _; simp only [Act.put, List.setIfInBounds_toArray, List.set_cons_zero, List.set_cons_succ, i64_w, i32_w]; rfl
             refine one_ (i := 31) (N := some 53) #[true, true, true, true, true, true, true, true, true, true, true, true, true, true, true, true, true, true, true, true, true, true, true, true, true, true, true, true, true, true, true, true, false] rfl rfl (one_of HT_.out (by kernel_rfl)) (by decide) (fun K hK => ?_); refine Kd.R_append_step (Kd.int .u32) (w0 := w) w.heap.size (by rfl) (.tmp 22) (.tmp 52) 143 142 (.int .u32 0) 4 rfl Tryd.underlying143 info142 rfl (by decide) (by omega) u5 x5_1 (Go.bits .or .u32 (Go.bits .or .u32 (Go.bits .or .u32 ((((rd l0 (ji6)) % 4294967296) * 16777216) % 4294967296) ((((rd l0 (ji9)) % 4294967296) * 65536) % 4294967296)) ((((rd l0 (ji12)) % 4294967296) * 256) % 4294967296)) ((rd l0 (ji15)) % 4294967296)) [.int .u32 (Go.bits .or .u32 (Go.bits .or .u32 (Go.bits .or .u32 ((((rd l0 (ji6)) % 4294967296) * 16777216) % 4294967296) ((((rd l0 (ji9)) % 4294967296) * 65536) % 4294967296)) ((((rd l0 (ji12)) % 4294967296) * 256) % 4294967296)) ((rd l0 (ji15)) % 4294967296))] (fun _ => True) (fun _ => False) rfl rfl ?aP (fun _ hk => hk.elim) ?aF ?aO ?aB ?aS ?aL ?_; (case aP => exact rfl); (case aB => exact zq_0); (case aF => exact (fun _ _ => trivial)); (case aO => exact zq_40); (case aS => exact (below_size zq_0)); (case aL => have := LMc18.out; omega); intro v1210009 w20 ho hb hg hat; rw [← Ny1210008.out] at ho; have n0_ := Aside0.mk (hb); have n1_ := Aside0.mk (ho); clear HB; clear HO_5; have HB := n0_; have HO1210010 := n1_; clear n0_ n1_; clear ho hb hg hat; refine hK.out _ _ ⟨((HB.out.cell (World.block_lt_of_cell? w _ hw1210004_0)).trans hw1210004_0), ((HB.out.cell (World.block_lt_of_cell? w _ hw1210005_0)).trans hw1210005_0), ((HB.out.cell (World.block_lt_of_cell? w _ hw1210006_0)).trans hw1210006_0), ((HB.out.cell (World.block_lt_of_cell? w _ hw1210007_0)).trans hw1210007_0)⟩ (fun hHeld => ?_); clear hK K; refine norm_ (a' := ?_) ?_ ?_; rotate_left
             ·show Act.put _ (some 53) _ = _; simp only [Act.put, List.setIfInBounds_toArray, List.set_cons_zero, List.set_cons_succ, i64_w, i32_w]; rfl
             refine pq_ (i := 32) (N := some 5) HT_.out ?_; refine done_ (done_of HT_.out (by kernel_rfl)) ?_
             try go_wp2
             go_roundg k1
             case measure => have := HK1.out; omega
             case rel => exact ⟨(y1210008), (wrap64 (x6_1 + 1)), zq_6, H', ⟨by have := HK1.out; omega⟩, ⟨by (with_reducible repeat (first | apply Kd.R_alloc | apply Kd.R_drewN | apply Kd.R_drew)); exact HO1210010.out⟩, ⟨by repeat (first | (with_reducible first | exact HB.out | apply below_alloc | apply pw_below_drewN | apply below_drew1) | exact HB.out)⟩⟩
            ·rw [if_neg c18] at H; exact absurd H (by simp)
           ·rw [if_neg c17] at H; exact absurd H (by simp)
          ·rw [if_neg c16] at H; exact absurd H (by simp)
         ·rw [if_neg c14] at H; exact absurd H (by simp)
        ·rw [if_neg c13] at H; exact absurd H (by simp)
       ·rw [if_neg c11] at H; exact absurd H (by simp)
      ·rw [if_neg c10] at H; exact absurd H (by simp)
     ·rw [if_neg c8] at H; exact absurd H (by simp)
    ·rw [if_neg c7] at H; exact absurd H (by simp)
   ·rw [if_neg c5] at H; have c5b0 : decide (x6_1 < 16) = false := decide_eq_false c5; clear c5; have H' := Aside0.mk H; clear H
    go_wp2
    go_loopg [5, 8] k1 (fun kq v5 v8 w' => ∃ (x5_2 : List Int) (x8_2 : Int), v8 = .int .i64 x8_2 ∧ Aside0 (spec_l1Schedule.l1 kq x5_2 x8_2 = some r) ∧ Aside0 (kq ≤ k1) ∧ Aside0 (Kd.R (Kd.int .u32) 142 w' w.heap.size (fun _ => True) v5 x5_2) ∧ Aside0 (Below w.heap.size w w'))
    case atStart => exact ⟨(x5_1), (16), zq_6, H', ⟨Nat.le_refl _⟩, ⟨by (with_reducible repeat (first | apply Kd.R_alloc | apply Kd.R_drewN | apply Kd.R_drew)); exact HO_5.out⟩, ⟨by repeat (first | (with_reducible first | exact HB.out | apply below_alloc | apply pw_below_drewN | apply below_drew1) | exact HB.out)⟩⟩
    case round =>
     clear H'
     try clear c1
     try clear p1
     try clear q1
     try clear hx1
     try clear p2
     try clear c5
     try clear c5b0
     try clear p6
     try clear c7
     try clear c7b0
     try clear c8
     try clear c8b0
     try clear c10
     try clear c10b0
     try clear c11
     try clear c11b0
     try clear c12
     try clear p12
     try clear q12
     try clear hx12
     try clear c13
     try clear c13b0
     try clear c14
     try clear c14b0
     try clear c16
     try clear c16b0
     try clear c17
     try clear c17b0
     try clear c18
     try clear hx1210004_0
     try clear hx1210005_0
     try clear hx1210006_0
     try clear hx1210007_0
     try clear p1210004
     try clear p1210005
     try clear p1210006
     try clear p1210007
     try clear p2
     try clear q1210004
     try clear q1210005
     try clear q1210006
     try clear q1210007
     obtain ⟨x5_2, x8_2, rfl, HA, HK2, HO_5, HB⟩ := hrel
     cases gk with
     | zero => exact absurd HA.out (by simp [spec_l1Schedule.l1])
     | succ k2 =>
      have H := HA.out; clear HA; simp only [spec_l1Schedule.l1] at H
      by_cases c21 : x8_2 < 64
      ·rw [if_pos c21] at H; have c21b0 : decide (x8_2 < 64) = true := decide_eq_true c21; clear c21; obtain ⟨ji22, hji22⟩ : ∃ j_ : Int, (wrap64 (x8_2 - 15)) = j_ := ⟨_, rfl⟩
       replace H : (if 0 ≤ (ji22) then (if (ji22) < (x5_2.length : Int) then (if 0 ≤ (wrap64 (x8_2 - 2)) then (if (wrap64 (x8_2 - 2)) < (x5_2.length : Int) then ((spec_l1Turn.f (rd x5_2 (ji22)) 7).bind fun t1210013 => ((spec_l1Turn.f (rd x5_2 (ji22)) 18).bind fun t1210014 => ((spec_l1Turn.f (rd x5_2 (wrap64 (x8_2 - 2))) 17).bind fun t1210015 => ((spec_l1Turn.f (rd x5_2 (wrap64 (x8_2 - 2))) 19).bind fun t1210016 => (if 0 ≤ (wrap64 (x8_2 - 16)) then (if (wrap64 (x8_2 - 16)) < (x5_2.length : Int) then (if 0 ≤ (wrap64 (x8_2 - 7)) then (if (wrap64 (x8_2 - 7)) < (x5_2.length : Int) then (if x5_2.length < 35184372088832 then (spec_l1Schedule.l1 k2 (x5_2 ++ [((((((rd x5_2 (wrap64 (x8_2 - 16))) + (Go.bits .xor .u32 (Go.bits .xor .u32 t1210013 t1210014) ((rd x5_2 (ji22)) / 8))) % 4294967296) + (rd x5_2 (wrap64 (x8_2 - 7)))) % 4294967296) + (Go.bits .xor .u32 (Go.bits .xor .u32 t1210015 t1210016) ((rd x5_2 (wrap64 (x8_2 - 2))) / 1024))) % 4294967296]) (wrap64 (x8_2 + 1))) else (none)) else (none)) else (none)) else (none)) else (none)))))) else (none)) else (none)) else (none)) else (none)) = some r := by first | (rw [hji22] at H; exact H) | (simp only [hji22] at H ⊢; exact H)
       have hji22w : (IntKind.i64.wrap (x8_2 - 15)) = ji22 := (i64_w _).trans hji22
       by_cases c23 : 0 ≤ (ji22)
       ·rw [if_pos c23] at H; have c23b0 : decide (0 ≤ (ji22)) = true := decide_eq_true c23; clear c23
        by_cases c24 : (ji22) < (x5_2.length : Int)
        ·rw [if_pos c24] at H; have c24b0 : decide ((ji22) < (x5_2.length : Int)) = true := decide_eq_true c24; clear c24; obtain ⟨ji25, hji25⟩ : ∃ j_ : Int, (wrap64 (x8_2 - 2)) = j_ := ⟨_, rfl⟩
         replace H : (if 0 ≤ (ji25) then (if (ji25) < (x5_2.length : Int) then ((spec_l1Turn.f (rd x5_2 (ji22)) 7).bind fun t1210013 => ((spec_l1Turn.f (rd x5_2 (ji22)) 18).bind fun t1210014 => ((spec_l1Turn.f (rd x5_2 (ji25)) 17).bind fun t1210015 => ((spec_l1Turn.f (rd x5_2 (ji25)) 19).bind fun t1210016 => (if 0 ≤ (wrap64 (x8_2 - 16)) then (if (wrap64 (x8_2 - 16)) < (x5_2.length : Int) then (if 0 ≤ (wrap64 (x8_2 - 7)) then (if (wrap64 (x8_2 - 7)) < (x5_2.length : Int) then (if x5_2.length < 35184372088832 then (spec_l1Schedule.l1 k2 (x5_2 ++ [((((((rd x5_2 (wrap64 (x8_2 - 16))) + (Go.bits .xor .u32 (Go.bits .xor .u32 t1210013 t1210014) ((rd x5_2 (ji22)) / 8))) % 4294967296) + (rd x5_2 (wrap64 (x8_2 - 7)))) % 4294967296) + (Go.bits .xor .u32 (Go.bits .xor .u32 t1210015 t1210016) ((rd x5_2 (ji25)) / 1024))) % 4294967296]) (wrap64 (x8_2 + 1))) else (none)) else (none)) else (none)) else (none)) else (none)))))) else (none)) else (none)) = some r := by first | (rw [hji25] at H; exact H) | (simp only [hji25] at H ⊢; exact H)
         have hji25w : (IntKind.i64.wrap (x8_2 - 2)) = ji25 := (i64_w _).trans hji25
         by_cases c26 : 0 ≤ (ji25)
         ·rw [if_pos c26] at H; have c26b0 : decide (0 ≤ (ji25)) = true := decide_eq_true c26; clear c26
          by_cases c27 : (ji25) < (x5_2.length : Int)
          ·rw [if_pos c27] at H; have c27b0 : decide ((ji25) < (x5_2.length : Int)) = true := decide_eq_true c27; clear c27; replace H := Option.bind_eq_some_iff.mp H; obtain ⟨t1210013, A280, H⟩ := H; (try dsimp only at H); have A28 := Aside0.mk A280; clear A280; replace H := Option.bind_eq_some_iff.mp H; obtain ⟨t1210014, A290, H⟩ := H; (try dsimp only at H); have A29 := Aside0.mk A290; clear A290; replace H := Option.bind_eq_some_iff.mp H; obtain ⟨t1210015, A300, H⟩ := H; (try dsimp only at H); have A30 := Aside0.mk A300; clear A300; replace H := Option.bind_eq_some_iff.mp H; obtain ⟨t1210016, A310, H⟩ := H; (try dsimp only at H); have A31 := Aside0.mk A310; clear A310; obtain ⟨ji32, hji32⟩ : ∃ j_ : Int, (wrap64 (x8_2 - 16)) = j_ := ⟨_, rfl⟩
           replace H : (if 0 ≤ (ji32) then (if (ji32) < (x5_2.length : Int) then (if 0 ≤ (wrap64 (x8_2 - 7)) then (if (wrap64 (x8_2 - 7)) < (x5_2.length : Int) then (if x5_2.length < 35184372088832 then (spec_l1Schedule.l1 k2 (x5_2 ++ [((((((rd x5_2 (ji32)) + (Go.bits .xor .u32 (Go.bits .xor .u32 t1210013 t1210014) ((rd x5_2 (ji22)) / 8))) % 4294967296) + (rd x5_2 (wrap64 (x8_2 - 7)))) % 4294967296) + (Go.bits .xor .u32 (Go.bits .xor .u32 t1210015 t1210016) ((rd x5_2 (ji25)) / 1024))) % 4294967296]) (wrap64 (x8_2 + 1))) else (none)) else (none)) else (none)) else (none)) else (none)) = some r := by first | (rw [hji32] at H; exact H) | (simp only [hji32] at H ⊢; exact H)
           (try rw [hji32] at A28); (try rw [hji32] at A29); (try rw [hji32] at A30); (try rw [hji32] at A31); have hji32w : (IntKind.i64.wrap (x8_2 - 16)) = ji32 := (i64_w _).trans hji32
           by_cases c33 : 0 ≤ (ji32)
           ·rw [if_pos c33] at H; have c33b0 : decide (0 ≤ (ji32)) = true := decide_eq_true c33; clear c33
            by_cases c34 : (ji32) < (x5_2.length : Int)
            ·rw [if_pos c34] at H; have c34b0 : decide ((ji32) < (x5_2.length : Int)) = true := decide_eq_true c34; clear c34; obtain ⟨ji35, hji35⟩ : ∃ j_ : Int, (wrap64 (x8_2 - 7)) = j_ := ⟨_, rfl⟩
             replace H : (if 0 ≤ (ji35) then (if (ji35) < (x5_2.length : Int) then (if x5_2.length < 35184372088832 then (spec_l1Schedule.l1 k2 (x5_2 ++ [((((((rd x5_2 (ji32)) + (Go.bits .xor .u32 (Go.bits .xor .u32 t1210013 t1210014) ((rd x5_2 (ji22)) / 8))) % 4294967296) + (rd x5_2 (ji35))) % 4294967296) + (Go.bits .xor .u32 (Go.bits .xor .u32 t1210015 t1210016) ((rd x5_2 (ji25)) / 1024))) % 4294967296]) (wrap64 (x8_2 + 1))) else (none)) else (none)) else (none)) = some r := by first | (rw [hji35] at H; exact H) | (simp only [hji35] at H ⊢; exact H)
             (try rw [hji35] at A28); (try rw [hji35] at A29); (try rw [hji35] at A30); (try rw [hji35] at A31); have hji35w : (IntKind.i64.wrap (x8_2 - 7)) = ji35 := (i64_w _).trans hji35
             by_cases c36 : 0 ≤ (ji35)
             ·rw [if_pos c36] at H; have c36b0 : decide (0 ≤ (ji35)) = true := decide_eq_true c36; clear c36
              by_cases c37 : (ji35) < (x5_2.length : Int)
              ·rw [if_pos c37] at H; have c37b0 : decide ((ji35) < (x5_2.length : Int)) = true := decide_eq_true c37; clear c37
               by_cases c38 : x5_2.length < 35184372088832
               ·rw [if_pos c38] at H; have LMc38 := Aside0.mk c38; clear c38; obtain ⟨y1210019, hy1210019⟩ : ∃ y_ : List Int, y_ = (x5_2 ++ [((((((rd x5_2 (ji32)) + (Go.bits .xor .u32 (Go.bits .xor .u32 t1210013 t1210014) ((rd x5_2 (ji22)) / 8))) % 4294967296) + (rd x5_2 (ji35))) % 4294967296) + (Go.bits .xor .u32 (Go.bits .xor .u32 t1210015 t1210016) ((rd x5_2 (ji25)) / 1024))) % 4294967296]) := ⟨_, rfl⟩
                replace H : (spec_l1Schedule.l1 k2 y1210019 (wrap64 (x8_2 + 1))) = some r := by first | (rw [hy1210019]; with_reducible exact H) | (have H2_ := (Option.bind_some _ _).symm.trans H; rw [hy1210019]; with_reducible exact H2_) | (have H2_ := (Option.bind_some _ _).symm.trans H; with_reducible exact H2_) | with_reducible exact H | (rw [hy1210019]; exact H) | exact H
                have Ny1210019 := Aside0.mk hy1210019; clear hy1210019; have H' := Aside0.mk H; clear H; obtain ⟨Ao39, co39, eo39⟩ := Kd.R_slice HO_5.out; subst eo39; have p1210011 : 0 ≤ ((ji22) : Int) := of_decide_eq_true zq_2; have q1210011 : (ji22) < (x5_2.length : Int) := of_decide_eq_true zq_2; obtain ⟨ad1210011, e1210011, hx1210011_0⟩ := Kd.at_int (Kd.R_reads' HO_5.out).2.2 (ji22) p1210011 q1210011
                cases e1210011
                replace p1210011 := eq_true p1210011; replace q1210011 := eq_true q1210011; have p1210012 : 0 ≤ ((ji25) : Int) := of_decide_eq_true zq_2; have q1210012 : (ji25) < (x5_2.length : Int) := of_decide_eq_true zq_2; obtain ⟨ad1210012, e1210012, hx1210012_0⟩ := Kd.at_int (Kd.R_reads' HO_5.out).2.2 (ji25) p1210012 q1210012; obtain rfl : ad1210011 = ad1210012 := (by injection e1210012)
                replace p1210012 := eq_true p1210012; replace q1210012 := eq_true q1210012
                try go_wp2_with (first | ((with_reducible refine gate_callee (f := 122) rfl ?_); refine goesL_ (some 69) rfl rfl Tryd.func122 (by kernel_rfl) rfl #[.int .u32 (rd x5_2 (ji22)), .int .i64 7] rfl (by (try simp only [List.map_toArray, List.map_cons, List.map_nil]); first | done | (simp only [hji22]; rfl) | rfl | (simp only [List.length_drop, List.length_take]; rfl)) ?_; (with_reducible refine (spec_l1Turn.calls (rd x5_2 (ji22)) 7 t1210013 _ A28.out).mono ?_); rintro e w' ⟨rfl, ⟨nd, rfl⟩⟩; refine ⟨_, rfl, ?_⟩) | ((with_reducible refine gate_callee (f := 122) rfl ?_); refine goesL_ (some 71) rfl rfl Tryd.func122 (by kernel_rfl) rfl #[.int .u32 (rd x5_2 (ji22)), .int .i64 18] rfl (by (try simp only [List.map_toArray, List.map_cons, List.map_nil]); first | done | (simp only [hji22]; rfl) | rfl | (simp only [List.length_drop, List.length_take]; rfl)) ?_; (with_reducible refine (spec_l1Turn.calls (rd x5_2 (ji22)) 18 t1210014 _ A29.out).mono ?_); rintro e w' ⟨rfl, ⟨nd, rfl⟩⟩; refine ⟨_, rfl, ?_⟩) | ((with_reducible refine gate_callee (f := 122) rfl ?_); refine goesL_ (some 77) rfl rfl Tryd.func122 (by kernel_rfl) rfl #[.int .u32 (rd x5_2 (ji25)), .int .i64 17] rfl (by (try simp only [List.map_toArray, List.map_cons, List.map_nil]); first | done | (simp only [hji25]; rfl) | rfl | (simp only [List.length_drop, List.length_take]; rfl)) ?_; (with_reducible refine (spec_l1Turn.calls (rd x5_2 (ji25)) 17 t1210015 _ A30.out).mono ?_); rintro e w' ⟨rfl, ⟨nd, rfl⟩⟩; refine ⟨_, rfl, ?_⟩) | ((with_reducible refine gate_callee (f := 122) rfl ?_); refine goesL_ (some 79) rfl rfl Tryd.func122 (by kernel_rfl) rfl #[.int .u32 (rd x5_2 (ji25)), .int .i64 19] rfl (by (try simp only [List.map_toArray, List.map_cons, List.map_nil]); first | done | (simp only [hji25]; rfl) | rfl | (simp only [List.length_drop, List.length_take]; rfl)) ?_; (with_reducible refine (spec_l1Turn.calls (rd x5_2 (ji25)) 19 t1210016 _ A31.out).mono ?_); rintro e w' ⟨rfl, ⟨nd, rfl⟩⟩; refine ⟨_, rfl, ?_⟩))
                (try (rw [drewN_self wr]; generalize hq_ : World.drewN wr _ = wr; have n0_ : Aside0 (Kd.R (Kd.int .u32) 142 wr w.heap.size (fun _ => True) (.slice (some ad1210011) x5_2.length co39) x5_2) := ⟨by rw [← hq_]; exact zq_40⟩; have n1_ : Aside0 (Below w.heap.size w wr) := ⟨by rw [← hq_]; exact zq_0⟩; clear HO_5 HB hq_; have HO_5 := n0_; have HB := n1_; clear n0_ n1_)); have n0_ := Aside0.mk (Kd.R_drew HO_5.out); have n1_ := Aside0.mk (below_drew1 HB.out); clear HO_5; clear HB; have HO_5 := n0_; have HB := n1_; clear n0_ n1_; have p1210017 : 0 ≤ ((ji32) : Int) := of_decide_eq_true zq_2; have q1210017 : (ji32) < (x5_2.length : Int) := of_decide_eq_true zq_2; obtain ⟨ad1210017, e1210017, hx1210017_0⟩ := Kd.at_int (Kd.R_reads' HO_5.out).2.2 (ji32) p1210017 q1210017; obtain rfl : ad1210011 = ad1210017 := (by injection e1210017)
                replace p1210017 := eq_true p1210017; replace q1210017 := eq_true q1210017; have p1210018 : 0 ≤ ((ji35) : Int) := of_decide_eq_true zq_2; have q1210018 : (ji35) < (x5_2.length : Int) := of_decide_eq_true zq_2; obtain ⟨ad1210018, e1210018, hx1210018_0⟩ := Kd.at_int (Kd.R_reads' HO_5.out).2.2 (ji35) p1210018 q1210018; obtain rfl : ad1210011 = ad1210018 := (by injection e1210018)
                replace p1210018 := eq_true p1210018; replace q1210018 := eq_true q1210018; refine start_ (n := 19) (S := fun w' => w'.cell? (ad1210011.add ((ji32)).toNat) = some (.int .u32 (rd x5_2 (ji32))) ∧ w'.cell? (ad1210011.add ((ji35)).toNat) = some (.int .u32 (rd x5_2 (ji35)))) (ds := [16, 17]) #[false, false, false, false, false, false, false, false, false, false, false, false, false, false, false, false, false, false, false] (by kernel_rfl) rfl rfl ⟨hx1210017_0, hx1210018_0⟩ (fun hHeld => ?_); refine with_tabW spec_l1Schedule.tab14 spec_l1Schedule.bits14 (fun HT_ HW_ => ?_); generalize wr.drew = w40 at HO_5 HB hx1210017_0 hx1210018_0 hHeld ⊢; refine pq_ (i := 0) (N := some 84) HT_.out ?_; refine pq_ (i := 1) (N := some 85) HT_.out ?_; refine pq_ (i := 2) (N := some 86) HT_.out ?_; refine pq_ (i := 3) (N := some 87) HT_.out ?_; refine pq_ (i := 4) (N := some 88) HT_.out ?_; refine pq_ (i := 6) (N := some 90) HT_.out ?_; refine pq_ (i := 8) (N := some 92) HT_.out ?_; refine pq_ (i := 9) (N := some 93) HT_.out ?_; refine pq_ (i := 10) (N := some 94) HT_.out ?_; refine pq_ (i := 11) (N := some 95) HT_.out ?_; refine pq_ (i := 14) (N := some 98) HT_.out ?_; refine tq_ (i := 5) (N := some 89) HT_.out HW_.out hHeld (hy := by rintro w' ⟨s0, s1⟩; go_simp; with_reducible rfl) (h := ?_); refine pq_ (i := 7) (N := some 91) HT_.out ?_; refine tq_ (i := 12) (N := some 96) HT_.out HW_.out hHeld (hy := by rintro w' ⟨s0, s1⟩; go_simp; with_reducible rfl) (h := ?_); refine pq_ (i := 13) (N := some 97) HT_.out ?_; refine pq_ (i := 15) (N := some 99) HT_.out ?_; refine last_ (i := 16) (N := some 100) #[true, true, true, true, true, true, true, true, true, true, true, true, true, true, true, true, true, false, false] rfl rfl (one_of HT_.out (by kernel_rfl)) (by decide) (fun K hK => ?_); refine value_ (w1 := ?_) (v := ?_) (by rfl) rfl ?_ ?_; rotate_left 2
                ·go_simp
                 constructor
                 ·rfl
                 ·rfl
                refine hK.out _ _ ?_; clear hK K; refine norm_ (a' := ?_) ?_ ?_; rotate_left
                ·show Act.put _ (some 100) _ = _; simp only [Act.put, List.setIfInBounds_toArray, List.set_cons_zero, List.set_cons_succ, i64_w, i32_w]; rfl
                refine last_ (i := 17) (N := some 101) #[true, true, true, true, true, true, true, true, true, true, true, true, true, true, true, true, true, true, false] rfl rfl (one_of HT_.out (by kernel_rfl)) (by decide) (fun K hK => ?_); refine Kd.R_append_step (Kd.int .u32) (w0 := w) w.heap.size (by rfl) (.tmp 84) (.tmp 100) 143 142 (.int .u32 0) 4 rfl Tryd.underlying143 info142 rfl (by decide) (by omega) (.slice (some ad1210011) x5_2.length co39) x5_2 (((((((rd x5_2 (ji32)) + (Go.bits .xor .u32 (Go.bits .xor .u32 t1210013 t1210014) ((rd x5_2 (ji22)) / 8))) % 4294967296) + (rd x5_2 (ji35))) % 4294967296) + (Go.bits .xor .u32 (Go.bits .xor .u32 t1210015 t1210016) ((rd x5_2 (ji25)) / 1024))) % 4294967296) [.int .u32 (((((((rd x5_2 (ji32)) + (Go.bits .xor .u32 (Go.bits .xor .u32 t1210013 t1210014) ((rd x5_2 (ji22)) / 8))) % 4294967296) + (rd x5_2 (ji35))) % 4294967296) + (Go.bits .xor .u32 (Go.bits .xor .u32 t1210015 t1210016) ((rd x5_2 (ji25)) / 1024))) % 4294967296)] (fun _ => True) (fun _ => False) rfl rfl ?aP (fun _ hk => hk.elim) ?aF ?aO ?aB ?aS ?aL ?_; (case aP => exact rfl); (case aB => exact zq_0); (case aF => exact (fun _ _ => trivial)); (case aO => exact zq_40); (case aS => exact (below_size zq_0)); (case aL => have := LMc38.out; omega); intro v1210020 w41 ho hb hg hat; rw [← Ny1210019.out] at ho; have n0_ := Aside0.mk (hb); have n1_ := Aside0.mk (ho); clear HB; clear HO_5; have HB := n0_; have HO1210021 := n1_; clear n0_ n1_; clear ho hb hg hat; refine hK.out _ _ ?_; clear hK K; refine norm_ (a' := ?_) ?_ ?_; rotate_left
                ·show Act.put _ (some 101) _ = _; simp only [Act.put, List.setIfInBounds_toArray, List.set_cons_zero, List.set_cons_succ, i64_w, i32_w]; rfl
                refine pq_ (i := 18) (N := some 5) HT_.out ?_; refine done_ (done_of HT_.out (by kernel_rfl)) ?_
                try go_wp2
                go_roundg k2
                case measure => have := HK1.out; have := HK2.out; omega
                case rel => exact ⟨(y1210019), (wrap64 (x8_2 + 1)), zq_6, H', ⟨by have := HK1.out; have := HK2.out; omega⟩, ⟨by (with_reducible repeat (first | apply Kd.R_alloc | apply Kd.R_drewN | apply Kd.R_drew)); exact HO1210021.out⟩, ⟨by repeat (first | (with_reducible first | exact HB.out | apply below_alloc | apply pw_below_drewN | apply below_drew1) | exact HB.out)⟩⟩
               ·rw [if_neg c38] at H; exact absurd H (by simp)
              ·rw [if_neg c37] at H; exact absurd H (by simp)
             ·rw [if_neg c36] at H; exact absurd H (by simp)
            ·rw [if_neg c34] at H; exact absurd H (by simp)
           ·rw [if_neg c33] at H; exact absurd H (by simp)
          ·rw [if_neg c27] at H; exact absurd H (by simp)
         ·rw [if_neg c26] at H; exact absurd H (by simp)
        ·rw [if_neg c24] at H; exact absurd H (by simp)
       ·rw [if_neg c23] at H; exact absurd H (by simp)
      ·rw [if_neg c21] at H; have c21b0 : decide (x8_2 < 64) = false := decide_eq_false c21; clear c21; obtain rfl := Option.some.inj H
       go_wp2
       go_ret
       exact ⟨_, by first | rfl | (simp [errW_none, errW_some] <;> rfl) | (simp [*, errW_none, errW_some] <;> rfl), by (with_reducible repeat (first | apply Kd.R_alloc | apply Kd.R_drewN | apply Kd.R_drew)); exact HO_5.out, by repeat (first | (with_reducible first | exact HB.out | apply below_alloc | apply pw_below_drewN | apply below_drew1) | exact HB.out)⟩
def spec_l1Block.l0 : Nat → List Int → List Int → List Int → Int → Int → Int → Int → Int → Int → Int → Int → Int → Option (List Int)
 | 0, _, _, _, _, _, _, _, _, _, _, _, _ => none
 | k + 1, x0, x1, x9, x10, x11, x12, x13, x14, x15, x16, x17, x18 => if x18 < 64 then ((spec_l1Turn.f x14 6).bind fun t1110023 => ((spec_l1Turn.f x14 11).bind fun t1110024 => ((spec_l1Turn.f x14 25).bind fun t1110025 => (if 0 ≤ x18 then (if x18 < (x1.length : Int) then (if x18 < (x9.length : Int) then ((spec_l1Turn.f x10 2).bind fun t1110028 => ((spec_l1Turn.f x10 13).bind fun t1110029 => ((spec_l1Turn.f x10 22).bind fun t1110030 => (spec_l1Block.l0 k x0 x1 x9 ((((((((((x17 + (Go.bits .xor .u32 (Go.bits .xor .u32 t1110023 t1110024) t1110025)) % 4294967296) + (Go.bits .xor .u32 (Go.bits .and .u32 x14 x15) (Go.bits .and .u32 (Go.bits .xor .u32 IntKind.u32.max x14) x16))) % 4294967296) + (rd x1 x18)) % 4294967296) + (rd x9 x18)) % 4294967296) + (((Go.bits .xor .u32 (Go.bits .xor .u32 t1110028 t1110029) t1110030) + (Go.bits .xor .u32 (Go.bits .xor .u32 (Go.bits .and .u32 x10 x11) (Go.bits .and .u32 x10 x12)) (Go.bits .and .u32 x11 x12))) % 4294967296)) % 4294967296) x10 x11 x12 ((x13 + ((((((((x17 + (Go.bits .xor .u32 (Go.bits .xor .u32 t1110023 t1110024) t1110025)) % 4294967296) + (Go.bits .xor .u32 (Go.bits .and .u32 x14 x15) (Go.bits .and .u32 (Go.bits .xor .u32 IntKind.u32.max x14) x16))) % 4294967296) + (rd x1 x18)) % 4294967296) + (rd x9 x18)) % 4294967296)) % 4294967296) x14 x15 x16 (wrap64 (x18 + 1)))))) else (none)) else (none)) else (none))))) else (if 0 < (x0.length : Int) then (if 1 < (x0.length : Int) then (if 2 < (x0.length : Int) then (if 3 < (x0.length : Int) then (if 4 < (x0.length : Int) then (if 5 < (x0.length : Int) then (if 6 < (x0.length : Int) then (if 7 < (x0.length : Int) then (some (([((rd x0 0) + x10) % 4294967296, ((rd x0 1) + x11) % 4294967296, ((rd x0 2) + x12) % 4294967296, ((rd x0 3) + x13) % 4294967296, ((rd x0 4) + x14) % 4294967296, ((rd x0 5) + x15) % 4294967296, ((rd x0 6) + x16) % 4294967296, ((rd x0 7) + x17) % 4294967296] : List Int))) else (none)) else (none)) else (none)) else (none)) else (none)) else (none)) else (none)) else (none))
def spec_l1Block.f (k : Nat) (l0 : List Int) (l1 : List Int) (l2 : List Int) (a3 : Int) : Option (List Int) := (spec_l1Schedule.f k l2 a3).bind fun t1110001 => (if 0 < (l0.length : Int) then (if 1 < (l0.length : Int) then (if 2 < (l0.length : Int) then (if 3 < (l0.length : Int) then (if 4 < (l0.length : Int) then (if 5 < (l0.length : Int) then (if 6 < (l0.length : Int) then (if 7 < (l0.length : Int) then (spec_l1Block.l0 k l0 l1 t1110001 (rd l0 0) (rd l0 1) (rd l0 2) (rd l0 3) (rd l0 4) (rd l0 5) (rd l0 6) (rd l0 7) 0) else (none)) else (none)) else (none)) else (none)) else (none)) else (none)) else (none)) else (none))
def spec_l1Block.T14 : Bool × List (List Nat × List Nat) := (true, [([], []), ([], []), ([0, 1], [0, 1]), ([], []), ([], []), ([3, 4], [3, 4]), ([], []), ([6], [6]), ([], []), ([7, 8], [7, 8]), ([5, 9], [5, 9]), ([2, 10], [2, 10]), ([], []), ([], []), ([12, 13], [12, 13]), ([14], [14]), ([11, 15], [11, 15]), ([], []), ([], []), ([17, 18], [17, 18]), ([19], [19]), ([16, 20], [16, 20]), ([21, 0, 1, 2, 3, 4, 5, 6, 7, 8, 9, 10, 11, 12, 13, 14, 15, 16, 17, 18, 19, 20, 21], [21])])
def spec_l1Block.B14 : List Nat := [0, 0, 3, 0, 0, 24, 0, 64, 0, 448, 1016, 2047, 0, 0, 12288, 28672, 65535, 0, 0, 393216, 917504, 2097151, 4194303]
theorem spec_l1Block.tab14 : rtab .any (opsOf Tryd.f111 14) = spec_l1Block.T14 := by kernel_rfl
theorem spec_l1Block.bits14 : waitsOk spec_l1Block.T14.2 spec_l1Block.B14 = true := by kernel_rfl
def spec_l1Block.T25 : Bool × List (List Nat × List Nat) := (true, [([], []), ([0], [0]), ([1], [1]), ([], []), ([2, 3], [2, 3]), ([], []), ([5], [5]), ([6], [6]), ([], []), ([7, 8], [7, 8]), ([], []), ([10], [10]), ([11], [11]), ([], []), ([12, 13], [12, 13]), ([], []), ([15], [15]), ([16], [16]), ([], []), ([17, 18], [17, 18]), ([], []), ([20], [20]), ([21], [21]), ([], []), ([22, 23], [22, 23]), ([], []), ([25], [25]), ([26], [26]), ([], []), ([27, 28], [27, 28]), ([], []), ([30], [30]), ([31], [31]), ([], []), ([32, 33], [32, 33]), ([], []), ([35], [35]), ([36], [36]), ([], []), ([37, 38], [37, 38]), ([4, 9, 14, 19, 24, 29, 34, 39], [4, 9, 14, 19, 24, 29, 34, 39]), ([40, 0, 1, 2, 3, 4, 5, 6, 7, 8, 9, 10, 11, 12, 13, 14, 15, 16, 17, 18, 19, 20, 21, 22, 23, 24, 25, 26, 27, 28, 29, 30, 31, 32, 33, 34, 35, 36, 37, 38, 39, 40], [40])])
def spec_l1Block.B25 : List Nat := [0, 1, 3, 0, 15, 0, 32, 96, 0, 480, 0, 1024, 3072, 0, 15360, 0, 32768, 98304, 0, 491520, 0, 1048576, 3145728, 0, 15728640, 0, 33554432, 100663296, 0, 503316480, 0, 1073741824, 3221225472, 0, 16106127360, 0, 34359738368, 103079215104, 0, 515396075520, 1099511627775, 2199023255551]
theorem spec_l1Block.tab25 : rtab .any (opsOf Tryd.f111 25) = spec_l1Block.T25 := by kernel_rfl
theorem spec_l1Block.bits25 : waitsOk spec_l1Block.T25.2 spec_l1Block.B25 = true := by kernel_rfl
set_option maxHeartbeats 8000000 in
set_option maxRecDepth 100000 in
theorem spec_l1Block.calls (k : Nat) (A0 : Option Addr) (c0 : Nat) (l0 : List Int) (A1 : Option Addr) (c1 : Nat) (l1 : List Int) (A2 : Option Addr) (c2 : Nat) (l2 : List Int) (a3 : Int) (r : List Int) (w : World) (hr0 : Kd.C (Kd.int .u32) w A0 l0.length l0) (hc0 : l0.length ≤ c0) (hr1 : Kd.C (Kd.int .u32) w A1 l1.length l1) (hc1 : l1.length ≤ c1) (hr2 : Kd.C (Kd.int .u8) w A2 l2.length l2) (hc2 : l2.length ≤ c2) (h : spec_l1Block.f k l0 l1 l2 a3 = some r) :
  Calls Tryd.prog 111 #[.slice A0 l0.length c0, .slice A1 l1.length c1, .slice A2 l2.length c2, .int .i64 a3] w fun e w' => ∃ v0_ : Value, e = .returned (v0_) ∧ Kd.R (Kd.int .u32) 142 w' w.heap.size (fun _ => True) v0_ r ∧ Below w.heap.size w w' := by
 have HR0 := Aside0.mk hr0; have HC0 := Aside0.mk hc0; clear hr0 hc0; have HR1 := Aside0.mk hr1; have HC1 := Aside0.mk hc1; clear hr1 hc1; have HR2 := Aside0.mk hr2; have HC2 := Aside0.mk hc2; clear hr2 hc2; have HB := Aside0.mk (Below.refl w.heap.size w); have H : ((spec_l1Schedule.f k l2 a3).bind fun t1110001 => (if 0 < (l0.length : Int) then (if 1 < (l0.length : Int) then (if 2 < (l0.length : Int) then (if 3 < (l0.length : Int) then (if 4 < (l0.length : Int) then (if 5 < (l0.length : Int) then (if 6 < (l0.length : Int) then (if 7 < (l0.length : Int) then (spec_l1Block.l0 k l0 l1 t1110001 (rd l0 0) (rd l0 1) (rd l0 2) (rd l0 3) (rd l0 4) (rd l0 5) (rd l0 6) (rd l0 7) 0) else (none)) else (none)) else (none)) else (none)) else (none)) else (none)) else (none)) else (none))) = some r := h; clear h; replace H := Option.bind_eq_some_iff.mp H; obtain ⟨t1110001, A50, H⟩ := H; (try dsimp only at H); have A5 := Aside0.mk A50; clear A50
 by_cases c6 : 0 < (l0.length : Int)
 ·rw [if_pos c6] at H; have c6b0 : decide (0 < (l0.length : Int)) = true := decide_eq_true c6; have c6b1 : decide (0 < l0.length) = true := decide_eq_true (by omega); clear c6
  by_cases c7 : 1 < (l0.length : Int)
  ·rw [if_pos c7] at H; have c7b0 : decide (1 < (l0.length : Int)) = true := decide_eq_true c7; have c7b1 : decide (1 < l0.length) = true := decide_eq_true (by omega); clear c7
   by_cases c8 : 2 < (l0.length : Int)
   ·rw [if_pos c8] at H; have c8b0 : decide (2 < (l0.length : Int)) = true := decide_eq_true c8; have c8b1 : decide (2 < l0.length) = true := decide_eq_true (by omega); clear c8
    by_cases c9 : 3 < (l0.length : Int)
    ·rw [if_pos c9] at H; have c9b0 : decide (3 < (l0.length : Int)) = true := decide_eq_true c9; have c9b1 : decide (3 < l0.length) = true := decide_eq_true (by omega); clear c9
     by_cases c10 : 4 < (l0.length : Int)
     ·rw [if_pos c10] at H; have c10b0 : decide (4 < (l0.length : Int)) = true := decide_eq_true c10; have c10b1 : decide (4 < l0.length) = true := decide_eq_true (by omega); clear c10
      by_cases c11 : 5 < (l0.length : Int)
      ·rw [if_pos c11] at H; have c11b0 : decide (5 < (l0.length : Int)) = true := decide_eq_true c11; have c11b1 : decide (5 < l0.length) = true := decide_eq_true (by omega); clear c11
       by_cases c12 : 6 < (l0.length : Int)
       ·rw [if_pos c12] at H; have c12b0 : decide (6 < (l0.length : Int)) = true := decide_eq_true c12; have c12b1 : decide (6 < l0.length) = true := decide_eq_true (by omega); clear c12
        by_cases c13 : 7 < (l0.length : Int)
        ·rw [if_pos c13] at H; have c13b0 : decide (7 < (l0.length : Int)) = true := decide_eq_true c13; have c13b1 : decide (7 < l0.length) = true := decide_eq_true (by omega); clear c13; have H' := Aside0.mk H; clear H
         go_enter Tryd.func111, Tryd.ntmps111
         go_wp2_with (first | ((with_reducible refine gate_callee (f := 121) rfl ?_); refine goesL_ (some 25) rfl rfl Tryd.func121 (by kernel_rfl) rfl #[.slice A2 l2.length c2, .int .i64 a3] rfl zq_1 ?_; (with_reducible refine (spec_l1Schedule.calls k _ _ l2 a3 t1110001 _ ?side1 ?side2 A5.out).mono ?_); (case side1 => repeat (first | exact HR2.out | (with_reducible refine Kd.C_alloc ?_ _) | (with_reducible refine Kd.C_drewN ?_ _) | (with_reducible refine Kd.C_drew ?_))); (case side2 => exact HC2.out); rintro e w14 ⟨v1110002, rfl, ho0, hb⟩; refine ⟨_, rfl, ?_⟩; have n0_ := Aside0.mk (Kd.R_lower ho0 (below_size zq_0)); have n1_ := Aside0.mk (below_step zq_0 hb); clear HB; have HO1110003 := n0_; have HB := n1_; clear n0_ n1_; (try clear hb); (try clear hb2); (try clear hk); (try clear hi); (try clear ho0); have p1110004 : 0 ≤ (0 : Int) := (by omega); have q1110004 : 0 < (l0.length : Int) := of_decide_eq_true zq_2; obtain ⟨ad1110004, e1110004, hx1110004_0⟩ := Kd.at_int HR0.out 0 p1110004 q1110004; cases e1110004; have qi1110004 : (0 < l0.length) = True := eq_true (by omega); (try rw [show ((0 : Int)).toNat = 0 from rfl] at hx1110004_0); (try rw [Addr.add_zero'] at hx1110004_0); replace hx1110004_0 := (HB.out.cell (World.block_lt_of_cell? w _ hx1110004_0)).trans hx1110004_0; replace p1110004 := eq_true p1110004; replace q1110004 := eq_true q1110004; have p1110005 : 0 ≤ (1 : Int) := (by omega); have q1110005 : 1 < (l0.length : Int) := of_decide_eq_true zq_2; obtain ⟨ad1110005, e1110005, hx1110005_0⟩ := Kd.at_int HR0.out 1 p1110005 q1110005; obtain rfl : ad1110004 = ad1110005 := (by injection e1110005); (try simp only [show (1 : Int).toNat = 1 from rfl, Nat.reduceMul, Nat.reduceEqDiff, Go.Addr.add, ↓reduceIte] at hx1110005_0); have qi1110005 : (1 < l0.length) = True := eq_true (by omega); (try rw [show ((1 : Int)).toNat = 1 from rfl] at hx1110005_0); replace hx1110005_0 := (HB.out.cell (World.block_lt_of_cell? w _ hx1110005_0)).trans hx1110005_0; replace p1110005 := eq_true p1110005; replace q1110005 := eq_true q1110005; have p1110006 : 0 ≤ (2 : Int) := (by omega); have q1110006 : 2 < (l0.length : Int) := of_decide_eq_true zq_2; obtain ⟨ad1110006, e1110006, hx1110006_0⟩ := Kd.at_int HR0.out 2 p1110006 q1110006; obtain rfl : ad1110004 = ad1110006 := (by injection e1110006); (try simp only [show (2 : Int).toNat = 2 from rfl, Nat.reduceMul, Nat.reduceEqDiff, Go.Addr.add, ↓reduceIte] at hx1110006_0); have qi1110006 : (2 < l0.length) = True := eq_true (by omega); (try rw [show ((2 : Int)).toNat = 2 from rfl] at hx1110006_0); replace hx1110006_0 := (HB.out.cell (World.block_lt_of_cell? w _ hx1110006_0)).trans hx1110006_0; replace p1110006 := eq_true p1110006; replace q1110006 := eq_true q1110006; have p1110007 : 0 ≤ (3 : Int) := (by omega); have q1110007 : 3 < (l0.length : Int) := of_decide_eq_true zq_2; obtain ⟨ad1110007, e1110007, hx1110007_0⟩ := Kd.at_int HR0.out 3 p1110007 q1110007; obtain rfl : ad1110004 = ad1110007 := (by injection e1110007); (try simp only [show (3 : Int).toNat = 3 from rfl, Nat.reduceMul, Nat.reduceEqDiff, Go.Addr.add, ↓reduceIte] at hx1110007_0); have qi1110007 : (3 < l0.length) = True := eq_true (by omega); (try rw [show ((3 : Int)).toNat = 3 from rfl] at hx1110007_0); replace hx1110007_0 := (HB.out.cell (World.block_lt_of_cell? w _ hx1110007_0)).trans hx1110007_0; replace p1110007 := eq_true p1110007; replace q1110007 := eq_true q1110007; have p1110008 : 0 ≤ (4 : Int) := (by omega); have q1110008 : 4 < (l0.length : Int) := of_decide_eq_true zq_2; obtain ⟨ad1110008, e1110008, hx1110008_0⟩ := Kd.at_int HR0.out 4 p1110008 q1110008; obtain rfl : ad1110004 = ad1110008 := (by injection e1110008); (try simp only [show (4 : Int).toNat = 4 from rfl, Nat.reduceMul, Nat.reduceEqDiff, Go.Addr.add, ↓reduceIte] at hx1110008_0); have qi1110008 : (4 < l0.length) = True := eq_true (by omega); (try rw [show ((4 : Int)).toNat = 4 from rfl] at hx1110008_0); replace hx1110008_0 := (HB.out.cell (World.block_lt_of_cell? w _ hx1110008_0)).trans hx1110008_0; replace p1110008 := eq_true p1110008; replace q1110008 := eq_true q1110008; have p1110009 : 0 ≤ (5 : Int) := (by omega); have q1110009 : 5 < (l0.length : Int) := of_decide_eq_true zq_2; obtain ⟨ad1110009, e1110009, hx1110009_0⟩ := Kd.at_int HR0.out 5 p1110009 q1110009; obtain rfl : ad1110004 = ad1110009 := (by injection e1110009); (try simp only [show (5 : Int).toNat = 5 from rfl, Nat.reduceMul, Nat.reduceEqDiff, Go.Addr.add, ↓reduceIte] at hx1110009_0); have qi1110009 : (5 < l0.length) = True := eq_true (by omega); (try rw [show ((5 : Int)).toNat = 5 from rfl] at hx1110009_0); replace hx1110009_0 := (HB.out.cell (World.block_lt_of_cell? w _ hx1110009_0)).trans hx1110009_0; replace p1110009 := eq_true p1110009; replace q1110009 := eq_true q1110009; have p1110010 : 0 ≤ (6 : Int) := (by omega); have q1110010 : 6 < (l0.length : Int) := of_decide_eq_true zq_2; obtain ⟨ad1110010, e1110010, hx1110010_0⟩ := Kd.at_int HR0.out 6 p1110010 q1110010; obtain rfl : ad1110004 = ad1110010 := (by injection e1110010); (try simp only [show (6 : Int).toNat = 6 from rfl, Nat.reduceMul, Nat.reduceEqDiff, Go.Addr.add, ↓reduceIte] at hx1110010_0); have qi1110010 : (6 < l0.length) = True := eq_true (by omega); (try rw [show ((6 : Int)).toNat = 6 from rfl] at hx1110010_0); replace hx1110010_0 := (HB.out.cell (World.block_lt_of_cell? w _ hx1110010_0)).trans hx1110010_0; replace p1110010 := eq_true p1110010; replace q1110010 := eq_true q1110010; have p1110011 : 0 ≤ (7 : Int) := (by omega); have q1110011 : 7 < (l0.length : Int) := of_decide_eq_true zq_2; obtain ⟨ad1110011, e1110011, hx1110011_0⟩ := Kd.at_int HR0.out 7 p1110011 q1110011; obtain rfl : ad1110004 = ad1110011 := (by injection e1110011); (try simp only [show (7 : Int).toNat = 7 from rfl, Nat.reduceMul, Nat.reduceEqDiff, Go.Addr.add, ↓reduceIte] at hx1110011_0); have qi1110011 : (7 < l0.length) = True := eq_true (by omega); (try rw [show ((7 : Int)).toNat = 7 from rfl] at hx1110011_0); replace hx1110011_0 := (HB.out.cell (World.block_lt_of_cell? w _ hx1110011_0)).trans hx1110011_0; replace p1110011 := eq_true p1110011; replace q1110011 := eq_true q1110011))
         go_loopg [10, 11, 12, 13, 14, 15, 16, 17, 18] k (fun kq v10 v11 v12 v13 v14 v15 v16 v17 v18 w' => ∃ (x10_1 : Int) (x11_1 : Int) (x12_1 : Int) (x13_1 : Int) (x14_1 : Int) (x15_1 : Int) (x16_1 : Int) (x17_1 : Int) (x18_1 : Int), v10 = .int .u32 x10_1 ∧ v11 = .int .u32 x11_1 ∧ v12 = .int .u32 x12_1 ∧ v13 = .int .u32 x13_1 ∧ v14 = .int .u32 x14_1 ∧ v15 = .int .u32 x15_1 ∧ v16 = .int .u32 x16_1 ∧ v17 = .int .u32 x17_1 ∧ v18 = .int .i64 x18_1 ∧ Aside0 (spec_l1Block.l0 kq l0 l1 t1110001 x10_1 x11_1 x12_1 x13_1 x14_1 x15_1 x16_1 x17_1 x18_1 = some r) ∧ Aside0 (kq ≤ k) ∧ Aside0 (Kd.R (Kd.int .u32) 142 w' w.heap.size (fun _ => True) v1110002 t1110001) ∧ Aside0 (Below w.heap.size w w'))
         case atStart => exact ⟨(rd l0 0), (rd l0 1), (rd l0 2), (rd l0 3), (rd l0 4), (rd l0 5), (rd l0 6), (rd l0 7), (0), zq_6, zq_6, zq_6, zq_6, zq_6, zq_6, zq_6, zq_6, zq_6, H', ⟨Nat.le_refl _⟩, ⟨by (with_reducible repeat (first | apply Kd.R_alloc | apply Kd.R_drewN | apply Kd.R_drew)); exact HO1110003.out⟩, ⟨by repeat (first | (with_reducible first | exact HB.out | apply below_alloc | apply pw_below_drewN | apply below_drew1) | exact HB.out)⟩⟩
         case round =>
          clear H'
          try clear c1
          try clear p1
          try clear q1
          try clear hx1
          try clear qi1
          try clear c2
          try clear p2
          try clear c6
          try clear c6b0
          try clear c6b1
          try clear c7
          try clear c7b0
          try clear c7b1
          try clear c8
          try clear c8b0
          try clear c8b1
          try clear c9
          try clear c9b0
          try clear c9b1
          try clear c10
          try clear c10b0
          try clear c10b1
          try clear c11
          try clear c11b0
          try clear c11b1
          try clear p11
          try clear q11
          try clear hx11
          try clear qi11
          try clear c12
          try clear c12b0
          try clear c12b1
          try clear c13
          try clear c13b0
          try clear c13b1
          try clear hx1110004_0
          try clear hx1110005_0
          try clear hx1110006_0
          try clear hx1110007_0
          try clear hx1110008_0
          try clear hx1110009_0
          try clear hx1110010_0
          try clear hx1110011_0
          try clear p1110004
          try clear p1110005
          try clear p1110006
          try clear p1110007
          try clear p1110008
          try clear p1110009
          try clear p1110010
          try clear p1110011
          try clear q1110004
          try clear q1110005
          try clear q1110006
          try clear q1110007
          try clear q1110008
          try clear q1110009
          try clear q1110010
          try clear q1110011
          obtain ⟨x10_1, x11_1, x12_1, x13_1, x14_1, x15_1, x16_1, x17_1, x18_1, rfl, rfl, rfl, rfl, rfl, rfl, rfl, rfl, rfl, HA, HK1, HO_9, HB⟩ := hrel
          cases gk with
          | zero => exact absurd HA.out (by simp [spec_l1Block.l0])
          | succ k1 =>
           have H := HA.out; clear HA; simp only [spec_l1Block.l0] at H
           by_cases c15 : x18_1 < 64
           ·rw [if_pos c15] at H; have c15b0 : decide (x18_1 < 64) = true := decide_eq_true c15; clear c15; replace H := Option.bind_eq_some_iff.mp H; obtain ⟨t1110023, A160, H⟩ := H; (try dsimp only at H); have A16 := Aside0.mk A160; clear A160; replace H := Option.bind_eq_some_iff.mp H; obtain ⟨t1110024, A170, H⟩ := H; (try dsimp only at H); have A17 := Aside0.mk A170; clear A170; replace H := Option.bind_eq_some_iff.mp H; obtain ⟨t1110025, A180, H⟩ := H; (try dsimp only at H); have A18 := Aside0.mk A180; clear A180
            by_cases c19 : 0 ≤ x18_1
            ·rw [if_pos c19] at H; have c19b0 : decide (0 ≤ x18_1) = true := decide_eq_true c19; clear c19
             by_cases c20 : x18_1 < (l1.length : Int)
             ·rw [if_pos c20] at H; have c20b0 : decide (x18_1 < (l1.length : Int)) = true := decide_eq_true c20; clear c20
              by_cases c21 : x18_1 < (t1110001.length : Int)
              ·rw [if_pos c21] at H; have c21b0 : decide (x18_1 < (t1110001.length : Int)) = true := decide_eq_true c21; clear c21; replace H := Option.bind_eq_some_iff.mp H; obtain ⟨t1110028, A220, H⟩ := H; (try dsimp only at H); have A22 := Aside0.mk A220; clear A220; replace H := Option.bind_eq_some_iff.mp H; obtain ⟨t1110029, A230, H⟩ := H; (try dsimp only at H); have A23 := Aside0.mk A230; clear A230; replace H := Option.bind_eq_some_iff.mp H; obtain ⟨t1110030, A240, H⟩ := H; (try dsimp only at H); have A24 := Aside0.mk A240; clear A240; have H' := Aside0.mk H; clear H
               try go_wp2_with (first | ((with_reducible refine gate_callee (f := 122) rfl ?_); refine goesL_ (some 55) rfl rfl Tryd.func122 (by kernel_rfl) rfl #[.int .u32 x14_1, .int .i64 6] rfl zq_1 ?_; (with_reducible refine (spec_l1Turn.calls x14_1 6 t1110023 _ A16.out).mono ?_); rintro e w' ⟨rfl, ⟨nd, rfl⟩⟩; refine ⟨_, rfl, ?_⟩) | ((with_reducible refine gate_callee (f := 122) rfl ?_); refine goesL_ (some 57) rfl rfl Tryd.func122 (by kernel_rfl) rfl #[.int .u32 x14_1, .int .i64 11] rfl zq_1 ?_; (with_reducible refine (spec_l1Turn.calls x14_1 11 t1110024 _ A17.out).mono ?_); rintro e w' ⟨rfl, ⟨nd, rfl⟩⟩; refine ⟨_, rfl, ?_⟩) | ((with_reducible refine gate_callee (f := 122) rfl ?_); refine goesL_ (some 60) rfl rfl Tryd.func122 (by kernel_rfl) rfl #[.int .u32 x14_1, .int .i64 25] rfl zq_1 ?_; (with_reducible refine (spec_l1Turn.calls x14_1 25 t1110025 _ A18.out).mono ?_); rintro e w' ⟨rfl, ⟨nd, rfl⟩⟩; refine ⟨_, rfl, ?_⟩))
               (try (rw [drewN_self wr]; generalize hq_ : World.drewN wr _ = wr; have n0_ : Aside0 (Kd.R (Kd.int .u32) 142 wr w.heap.size (fun _ => True) v1110002 t1110001) := ⟨by rw [← hq_]; exact (by (with_reducible repeat (first | apply Kd.R_alloc | apply Kd.R_drewN | apply Kd.R_drew)); exact HO_9.out)⟩; have n1_ : Aside0 (Below w.heap.size w wr) := ⟨by rw [← hq_]; exact zq_0⟩; clear HO_9 HB hq_; have HO_9 := n0_; have HB := n1_; clear n0_ n1_)); have n0_ := Aside0.mk (Kd.R_drew HO_9.out); have n1_ := Aside0.mk (below_drew1 HB.out); clear HO_9; clear HB; have HO_9 := n0_; have HB := n1_; clear n0_ n1_; have p1110026 : 0 ≤ (x18_1 : Int) := of_decide_eq_true zq_2; have q1110026 : x18_1 < (l1.length : Int) := of_decide_eq_true zq_2; obtain ⟨ad1110026, e1110026, hx1110026_0⟩ := Kd.at_int HR1.out x18_1 p1110026 q1110026; have hw1110026_0 := hx1110026_0
               cases e1110026
               replace hx1110026_0 := (HB.out.cell (World.block_lt_of_cell? w _ hx1110026_0)).trans hx1110026_0; replace p1110026 := eq_true p1110026; replace q1110026 := eq_true q1110026; obtain ⟨Ao26, co26, eo26⟩ := Kd.R_slice HO_9.out; (first | subst eo26 | (injection eo26 with f1_ f2_ f3_; have f4_ := f1_.symm; have f5_ := f3_.symm; clear f1_ f2_ f3_; subst f4_; subst f5_)); have p1110027 : 0 ≤ (x18_1 : Int) := of_decide_eq_true zq_2; have q1110027 : x18_1 < (t1110001.length : Int) := of_decide_eq_true zq_2; obtain ⟨ad1110027, e1110027, hx1110027_0⟩ := Kd.at_int (Kd.R_reads' HO_9.out).2.2 x18_1 p1110027 q1110027
               cases e1110027
               replace p1110027 := eq_true p1110027; replace q1110027 := eq_true q1110027; refine start_ (n := 23) (S := fun w' => w'.cell? (ad1110026.add (x18_1).toNat) = some (.int .u32 (rd l1 x18_1)) ∧ w'.cell? (ad1110027.add (x18_1).toNat) = some (.int .u32 (rd t1110001 x18_1))) (ds := []) #[false, false, false, false, false, false, false, false, false, false, false, false, false, false, false, false, false, false, false, false, false, false, false] (by kernel_rfl) rfl rfl ⟨((HB.out.cell (World.block_lt_of_cell? w _ hw1110026_0)).trans hw1110026_0), hx1110027_0⟩ (fun hHeld => ?_); refine with_tabW spec_l1Block.tab14 spec_l1Block.bits14 (fun HT_ HW_ => ?_); generalize wr.drew = w25 at HO_9 HB hx1110026_0 hx1110027_0 hHeld ⊢; refine pq_ (i := 0) (N := some 62) HT_.out ?_; refine pq_ (i := 1) (N := some 63) HT_.out ?_; refine pq_ (i := 2) (N := some 64) HT_.out ?_; refine pq_ (i := 3) (N := some 65) HT_.out ?_; refine pq_ (i := 4) (N := some 66) HT_.out ?_; refine pq_ (i := 5) (N := some 67) HT_.out ?_; refine pq_ (i := 6) (N := some 68) HT_.out ?_; refine pq_ (i := 7) (N := some 69) HT_.out ?_; refine pq_ (i := 8) (N := some 70) HT_.out ?_; refine pq_ (i := 9) (N := some 71) HT_.out ?_; refine pq_ (i := 10) (N := some 72) HT_.out ?_; refine pq_ (i := 11) (N := some 73) HT_.out ?_; refine pq_ (i := 12) (N := some 74) HT_.out ?_; refine pq_ (i := 13) (N := some 75) HT_.out ?_; refine pq_ (i := 14) (N := some 76) HT_.out ?_; refine pq_ (i := 17) (N := some 79) HT_.out ?_; refine pq_ (i := 18) (N := some 80) HT_.out ?_; refine pq_ (i := 19) (N := some 81) HT_.out ?_; refine tq_ (i := 15) (N := some 77) HT_.out HW_.out hHeld (hy := by rintro w' ⟨s0, s1⟩; go_simp; with_reducible rfl) (h := ?_); refine pq_ (i := 16) (N := some 78) HT_.out ?_; refine tq_ (i := 20) (N := some 82) HT_.out HW_.out hHeld (hy := by rintro w' ⟨s0, s1⟩; go_simp; with_reducible rfl) (h := ?_); refine pq_ (i := 21) (N := some 83) HT_.out ?_; refine pq_ (i := 22) (N := some 20) HT_.out ?_; refine done_ (done_of HT_.out (by kernel_rfl)) ?_
               try go_wp2_with (first | ((with_reducible refine gate_callee (f := 122) rfl ?_); refine goesL_ (some 85) rfl rfl Tryd.func122 (by kernel_rfl) rfl #[.int .u32 x10_1, .int .i64 2] rfl zq_1 ?_; (with_reducible refine (spec_l1Turn.calls x10_1 2 t1110028 _ A22.out).mono ?_); rintro e w' ⟨rfl, ⟨nd, rfl⟩⟩; refine ⟨_, rfl, ?_⟩) | ((with_reducible refine gate_callee (f := 122) rfl ?_); refine goesL_ (some 87) rfl rfl Tryd.func122 (by kernel_rfl) rfl #[.int .u32 x10_1, .int .i64 13] rfl zq_1 ?_; (with_reducible refine (spec_l1Turn.calls x10_1 13 t1110029 _ A23.out).mono ?_); rintro e w' ⟨rfl, ⟨nd, rfl⟩⟩; refine ⟨_, rfl, ?_⟩) | ((with_reducible refine gate_callee (f := 122) rfl ?_); refine goesL_ (some 90) rfl rfl Tryd.func122 (by kernel_rfl) rfl #[.int .u32 x10_1, .int .i64 22] rfl zq_1 ?_; (with_reducible refine (spec_l1Turn.calls x10_1 22 t1110030 _ A24.out).mono ?_); rintro e w' ⟨rfl, ⟨nd, rfl⟩⟩; refine ⟨_, rfl, ?_⟩))
               go_roundg k1
               case measure => have := HK1.out; omega
               case rel => exact ⟨((((((((((x17_1 + (Go.bits .xor .u32 (Go.bits .xor .u32 t1110023 t1110024) t1110025)) % 4294967296) + (Go.bits .xor .u32 (Go.bits .and .u32 x14_1 x15_1) (Go.bits .and .u32 (Go.bits .xor .u32 IntKind.u32.max x14_1) x16_1))) % 4294967296) + (rd l1 x18_1)) % 4294967296) + (rd t1110001 x18_1)) % 4294967296) + (((Go.bits .xor .u32 (Go.bits .xor .u32 t1110028 t1110029) t1110030) + (Go.bits .xor .u32 (Go.bits .xor .u32 (Go.bits .and .u32 x10_1 x11_1) (Go.bits .and .u32 x10_1 x12_1)) (Go.bits .and .u32 x11_1 x12_1))) % 4294967296)) % 4294967296), (x10_1), (x11_1), (x12_1), ((x13_1 + ((((((((x17_1 + (Go.bits .xor .u32 (Go.bits .xor .u32 t1110023 t1110024) t1110025)) % 4294967296) + (Go.bits .xor .u32 (Go.bits .and .u32 x14_1 x15_1) (Go.bits .and .u32 (Go.bits .xor .u32 IntKind.u32.max x14_1) x16_1))) % 4294967296) + (rd l1 x18_1)) % 4294967296) + (rd t1110001 x18_1)) % 4294967296)) % 4294967296), (x14_1), (x15_1), (x16_1), (wrap64 (x18_1 + 1)), zq_6, zq_6, zq_6, zq_6, zq_6, zq_6, zq_6, zq_6, zq_6, H', ⟨by have := HK1.out; omega⟩, ⟨by (with_reducible repeat (first | apply Kd.R_alloc | apply Kd.R_drewN | apply Kd.R_drew)); exact HO_9.out⟩, ⟨by repeat (first | (with_reducible first | exact HB.out | apply below_alloc | apply pw_below_drewN | apply below_drew1) | exact HB.out)⟩⟩
              ·rw [if_neg c21] at H; exact absurd H (by simp)
             ·rw [if_neg c20] at H; exact absurd H (by simp)
            ·rw [if_neg c19] at H; exact absurd H (by simp)
           ·rw [if_neg c15] at H; have c15b0 : decide (x18_1 < 64) = false := decide_eq_false c15; clear c15
            by_cases c27 : 0 < (l0.length : Int)
            ·rw [if_pos c27] at H; have c27b0 : decide (0 < (l0.length : Int)) = true := decide_eq_true c27; have c27b1 : decide (0 < l0.length) = true := decide_eq_true (by omega); clear c27
             by_cases c28 : 1 < (l0.length : Int)
             ·rw [if_pos c28] at H; have c28b0 : decide (1 < (l0.length : Int)) = true := decide_eq_true c28; have c28b1 : decide (1 < l0.length) = true := decide_eq_true (by omega); clear c28
              by_cases c29 : 2 < (l0.length : Int)
              ·rw [if_pos c29] at H; have c29b0 : decide (2 < (l0.length : Int)) = true := decide_eq_true c29; have c29b1 : decide (2 < l0.length) = true := decide_eq_true (by omega); clear c29
               by_cases c30 : 3 < (l0.length : Int)
               ·rw [if_pos c30] at H; have c30b0 : decide (3 < (l0.length : Int)) = true := decide_eq_true c30; have c30b1 : decide (3 < l0.length) = true := decide_eq_true (by omega); clear c30
                by_cases c31 : 4 < (l0.length : Int)
                ·rw [if_pos c31] at H; have c31b0 : decide (4 < (l0.length : Int)) = true := decide_eq_true c31; have c31b1 : decide (4 < l0.length) = true := decide_eq_true (by omega); clear c31
                 by_cases c32 : 5 < (l0.length : Int)
                 ·rw [if_pos c32] at H; have c32b0 : decide (5 < (l0.length : Int)) = true := decide_eq_true c32; have c32b1 : decide (5 < l0.length) = true := decide_eq_true (by omega); clear c32
                  by_cases c33 : 6 < (l0.length : Int)
                  ·rw [if_pos c33] at H; have c33b0 : decide (6 < (l0.length : Int)) = true := decide_eq_true c33; have c33b1 : decide (6 < l0.length) = true := decide_eq_true (by omega); clear c33
                   by_cases c34 : 7 < (l0.length : Int)
                   ·rw [if_pos c34] at H; have c34b0 : decide (7 < (l0.length : Int)) = true := decide_eq_true c34; have c34b1 : decide (7 < l0.length) = true := decide_eq_true (by omega); clear c34; obtain ⟨y1110020, hy1110020⟩ : ∃ y_ : List Int, y_ = (([((rd l0 0) + x10_1) % 4294967296, ((rd l0 1) + x11_1) % 4294967296, ((rd l0 2) + x12_1) % 4294967296, ((rd l0 3) + x13_1) % 4294967296, ((rd l0 4) + x14_1) % 4294967296, ((rd l0 5) + x15_1) % 4294967296, ((rd l0 6) + x16_1) % 4294967296, ((rd l0 7) + x17_1) % 4294967296] : List Int)) := ⟨_, rfl⟩
                    replace H : (some y1110020) = some r := by first | (rw [hy1110020]; with_reducible exact H) | (have H2_ := (Option.bind_some _ _).symm.trans H; rw [hy1110020]; with_reducible exact H2_) | (have H2_ := (Option.bind_some _ _).symm.trans H; with_reducible exact H2_) | with_reducible exact H | (rw [hy1110020]; exact H) | exact H
                    have Ny1110020 := Aside0.mk hy1110020; clear hy1110020; obtain rfl := Option.some.inj H
                    try go_wp2
                    have n0_ := Aside0.mk (Kd.R_drew HO_9.out); have n1_ := Aside0.mk (below_drew1 HB.out); clear HO_9; clear HB; have HO_9 := n0_; have HB := n1_; clear n0_ n1_; have p1110012 : 0 ≤ (0 : Int) := (by omega)
                    have q1110012 : 0 < (l0.length : Int) := of_decide_eq_true zq_2; obtain ⟨ad1110012, e1110012, hx1110012_0⟩ := Kd.at_int HR0.out 0 p1110012 q1110012; have hw1110012_0 := hx1110012_0; (try rw [show ((0 : Int)).toNat = 0 from rfl] at hw1110012_0); (try rw [show 0 * 1 = 0 from rfl] at hw1110012_0); (try rw [Addr.add_zero'] at hw1110012_0); obtain rfl : ad1110004 = ad1110012 := (by injection e1110012)
                    have qi1110012 : (0 < l0.length) = True := eq_true (by omega); (try rw [show ((0 : Int)).toNat = 0 from rfl] at hx1110012_0); (try rw [Addr.add_zero'] at hx1110012_0); replace hx1110012_0 := (HB.out.cell (World.block_lt_of_cell? w _ hx1110012_0)).trans hx1110012_0; replace p1110012 := eq_true p1110012; replace q1110012 := eq_true q1110012; have p1110013 : 0 ≤ (1 : Int) := (by omega)
                    have q1110013 : 1 < (l0.length : Int) := of_decide_eq_true zq_2; obtain ⟨ad1110013, e1110013, hx1110013_0⟩ := Kd.at_int HR0.out 1 p1110013 q1110013; have hw1110013_0 := hx1110013_0; (try rw [show ((1 : Int)).toNat = 1 from rfl] at hw1110013_0); (try rw [show 1 * 1 = 1 from rfl] at hw1110013_0); (try simp only [Nat.reduceMul, Nat.reduceEqDiff, Go.Addr.add, ↓reduceIte] at hw1110013_0); obtain rfl : ad1110004 = ad1110013 := (by injection e1110013)
                    (try simp only [show (1 : Int).toNat = 1 from rfl, Nat.reduceMul, Nat.reduceEqDiff, Go.Addr.add, ↓reduceIte] at hx1110013_0); have qi1110013 : (1 < l0.length) = True := eq_true (by omega); (try rw [show ((1 : Int)).toNat = 1 from rfl] at hx1110013_0); replace hx1110013_0 := (HB.out.cell (World.block_lt_of_cell? w _ hx1110013_0)).trans hx1110013_0; replace p1110013 := eq_true p1110013; replace q1110013 := eq_true q1110013; have p1110014 : 0 ≤ (2 : Int) := (by omega)
                    have q1110014 : 2 < (l0.length : Int) := of_decide_eq_true zq_2; obtain ⟨ad1110014, e1110014, hx1110014_0⟩ := Kd.at_int HR0.out 2 p1110014 q1110014; have hw1110014_0 := hx1110014_0; (try rw [show ((2 : Int)).toNat = 2 from rfl] at hw1110014_0); (try rw [show 2 * 1 = 2 from rfl] at hw1110014_0); (try simp only [Nat.reduceMul, Nat.reduceEqDiff, Go.Addr.add, ↓reduceIte] at hw1110014_0); obtain rfl : ad1110004 = ad1110014 := (by injection e1110014)
                    (try simp only [show (2 : Int).toNat = 2 from rfl, Nat.reduceMul, Nat.reduceEqDiff, Go.Addr.add, ↓reduceIte] at hx1110014_0); have qi1110014 : (2 < l0.length) = True := eq_true (by omega); (try rw [show ((2 : Int)).toNat = 2 from rfl] at hx1110014_0); replace hx1110014_0 := (HB.out.cell (World.block_lt_of_cell? w _ hx1110014_0)).trans hx1110014_0; replace p1110014 := eq_true p1110014; replace q1110014 := eq_true q1110014; have p1110015 : 0 ≤ (3 : Int) := (by omega)
                    have q1110015 : 3 < (l0.length : Int) := of_decide_eq_true zq_2; obtain ⟨ad1110015, e1110015, hx1110015_0⟩ := Kd.at_int HR0.out 3 p1110015 q1110015; have hw1110015_0 := hx1110015_0; (try rw [show ((3 : Int)).toNat = 3 from rfl] at hw1110015_0); (try rw [show 3 * 1 = 3 from rfl] at hw1110015_0); (try simp only [Nat.reduceMul, Nat.reduceEqDiff, Go.Addr.add, ↓reduceIte] at hw1110015_0); obtain rfl : ad1110004 = ad1110015 := (by injection e1110015)
                    (try simp only [show (3 : Int).toNat = 3 from rfl, Nat.reduceMul, Nat.reduceEqDiff, Go.Addr.add, ↓reduceIte] at hx1110015_0); have qi1110015 : (3 < l0.length) = True := eq_true (by omega); (try rw [show ((3 : Int)).toNat = 3 from rfl] at hx1110015_0); replace hx1110015_0 := (HB.out.cell (World.block_lt_of_cell? w _ hx1110015_0)).trans hx1110015_0; replace p1110015 := eq_true p1110015; replace q1110015 := eq_true q1110015; have p1110016 : 0 ≤ (4 : Int) := (by omega)
                    have q1110016 : 4 < (l0.length : Int) := of_decide_eq_true zq_2; obtain ⟨ad1110016, e1110016, hx1110016_0⟩ := Kd.at_int HR0.out 4 p1110016 q1110016; have hw1110016_0 := hx1110016_0; (try rw [show ((4 : Int)).toNat = 4 from rfl] at hw1110016_0); (try rw [show 4 * 1 = 4 from rfl] at hw1110016_0); (try simp only [Nat.reduceMul, Nat.reduceEqDiff, Go.Addr.add, ↓reduceIte] at hw1110016_0); obtain rfl : ad1110004 = ad1110016 := (by injection e1110016)
                    (try simp only [show (4 : Int).toNat = 4 from rfl, Nat.reduceMul, Nat.reduceEqDiff, Go.Addr.add, ↓reduceIte] at hx1110016_0); have qi1110016 : (4 < l0.length) = True := eq_true (by omega); (try rw [show ((4 : Int)).toNat = 4 from rfl] at hx1110016_0); replace hx1110016_0 := (HB.out.cell (World.block_lt_of_cell? w _ hx1110016_0)).trans hx1110016_0; replace p1110016 := eq_true p1110016; replace q1110016 := eq_true q1110016; have p1110017 : 0 ≤ (5 : Int) := (by omega)
                    have q1110017 : 5 < (l0.length : Int) := of_decide_eq_true zq_2; obtain ⟨ad1110017, e1110017, hx1110017_0⟩ := Kd.at_int HR0.out 5 p1110017 q1110017; have hw1110017_0 := hx1110017_0; (try rw [show ((5 : Int)).toNat = 5 from rfl] at hw1110017_0); (try rw [show 5 * 1 = 5 from rfl] at hw1110017_0); (try simp only [Nat.reduceMul, Nat.reduceEqDiff, Go.Addr.add, ↓reduceIte] at hw1110017_0); obtain rfl : ad1110004 = ad1110017 := (by injection e1110017)
                    (try simp only [show (5 : Int).toNat = 5 from rfl, Nat.reduceMul, Nat.reduceEqDiff, Go.Addr.add, ↓reduceIte] at hx1110017_0); have qi1110017 : (5 < l0.length) = True := eq_true (by omega); (try rw [show ((5 : Int)).toNat = 5 from rfl] at hx1110017_0); replace hx1110017_0 := (HB.out.cell (World.block_lt_of_cell? w _ hx1110017_0)).trans hx1110017_0; replace p1110017 := eq_true p1110017; replace q1110017 := eq_true q1110017; have p1110018 : 0 ≤ (6 : Int) := (by omega)
                    have q1110018 : 6 < (l0.length : Int) := of_decide_eq_true zq_2; obtain ⟨ad1110018, e1110018, hx1110018_0⟩ := Kd.at_int HR0.out 6 p1110018 q1110018; have hw1110018_0 := hx1110018_0; (try rw [show ((6 : Int)).toNat = 6 from rfl] at hw1110018_0); (try rw [show 6 * 1 = 6 from rfl] at hw1110018_0); (try simp only [Nat.reduceMul, Nat.reduceEqDiff, Go.Addr.add, ↓reduceIte] at hw1110018_0); obtain rfl : ad1110004 = ad1110018 := (by injection e1110018)
                    (try simp only [show (6 : Int).toNat = 6 from rfl, Nat.reduceMul, Nat.reduceEqDiff, Go.Addr.add, ↓reduceIte] at hx1110018_0); have qi1110018 : (6 < l0.length) = True := eq_true (by omega); (try rw [show ((6 : Int)).toNat = 6 from rfl] at hx1110018_0); replace hx1110018_0 := (HB.out.cell (World.block_lt_of_cell? w _ hx1110018_0)).trans hx1110018_0; replace p1110018 := eq_true p1110018; replace q1110018 := eq_true q1110018; have p1110019 : 0 ≤ (7 : Int) := (by omega)
                    have q1110019 : 7 < (l0.length : Int) := of_decide_eq_true zq_2; obtain ⟨ad1110019, e1110019, hx1110019_0⟩ := Kd.at_int HR0.out 7 p1110019 q1110019; have hw1110019_0 := hx1110019_0; (try rw [show ((7 : Int)).toNat = 7 from rfl] at hw1110019_0); (try rw [show 7 * 1 = 7 from rfl] at hw1110019_0); (try simp only [Nat.reduceMul, Nat.reduceEqDiff, Go.Addr.add, ↓reduceIte] at hw1110019_0); obtain rfl : ad1110004 = ad1110019 := (by injection e1110019)
                    (try simp only [show (7 : Int).toNat = 7 from rfl, Nat.reduceMul, Nat.reduceEqDiff, Go.Addr.add, ↓reduceIte] at hx1110019_0); have qi1110019 : (7 < l0.length) = True := eq_true (by omega); (try rw [show ((7 : Int)).toNat = 7 from rfl] at hx1110019_0); replace hx1110019_0 := (HB.out.cell (World.block_lt_of_cell? w _ hx1110019_0)).trans hx1110019_0; replace p1110019 := eq_true p1110019; replace q1110019 := eq_true q1110019; refine start_ (n := 42) (S := fun w' => w'.cell? ad1110004 = some (.int .u32 (rd l0 0)) ∧ w'.cell? ⟨ad1110004.block, ad1110004.off + 1, none⟩ = some (.int .u32 (rd l0 1)) ∧ w'.cell? ⟨ad1110004.block, ad1110004.off + 2, none⟩ = some (.int .u32 (rd l0 2)) ∧ w'.cell? ⟨ad1110004.block, ad1110004.off + 3, none⟩ = some (.int .u32 (rd l0 3)) ∧ w'.cell? ⟨ad1110004.block, ad1110004.off + 4, none⟩ = some (.int .u32 (rd l0 4)) ∧ w'.cell? ⟨ad1110004.block, ad1110004.off + 5, none⟩ = some (.int .u32 (rd l0 5)) ∧ w'.cell? ⟨ad1110004.block, ad1110004.off + 6, none⟩ = some (.int .u32 (rd l0 6)) ∧ w'.cell? ⟨ad1110004.block, ad1110004.off + 7, none⟩ = some (.int .u32 (rd l0 7))) (ds := []) #[false, false, false, false, false, false, false, false, false, false, false, false, false, false, false, false, false, false, false, false, false, false, false, false, false, false, false, false, false, false, false, false, false, false, false, false, false, false, false, false, false, false] (by kernel_rfl) rfl rfl ⟨((HB.out.cell (World.block_lt_of_cell? w _ hw1110012_0)).trans hw1110012_0), ((HB.out.cell (World.block_lt_of_cell? w _ hw1110013_0)).trans hw1110013_0), ((HB.out.cell (World.block_lt_of_cell? w _ hw1110014_0)).trans hw1110014_0), ((HB.out.cell (World.block_lt_of_cell? w _ hw1110015_0)).trans hw1110015_0), ((HB.out.cell (World.block_lt_of_cell? w _ hw1110016_0)).trans hw1110016_0), ((HB.out.cell (World.block_lt_of_cell? w _ hw1110017_0)).trans hw1110017_0), ((HB.out.cell (World.block_lt_of_cell? w _ hw1110018_0)).trans hw1110018_0), ((HB.out.cell (World.block_lt_of_cell? w _ hw1110019_0)).trans hw1110019_0)⟩ (fun hHeld => ?_); refine with_tabW spec_l1Block.tab25 spec_l1Block.bits25 (fun HT_ HW_ => ?_); generalize wr.drew = w35 at HO_9 HB hx1110012_0 hx1110013_0 hx1110014_0 hx1110015_0 hx1110016_0 hx1110017_0 hx1110018_0 hx1110019_0 hHeld ⊢; refine pq_ (i := 0) (N := some 117) HT_.out ?_; refine pq_ (i := 1) (N := some 118) HT_.out ?_; refine pq_ (i := 3) (N := some 120) HT_.out ?_; refine pq_ (i := 5) (N := some 122) HT_.out ?_
                    refine pq_ (i := 6) (N := some 123) HT_.out ?_; refine pq_ (i := 8) (N := some 125) HT_.out ?_; refine pq_ (i := 10) (N := some 127) HT_.out ?_; refine pq_ (i := 11) (N := some 128) HT_.out ?_; refine pq_ (i := 13) (N := some 130) HT_.out ?_; refine pq_ (i := 15) (N := some 132) HT_.out ?_; refine pq_ (i := 16) (N := some 133) HT_.out ?_; refine pq_ (i := 18) (N := some 135) HT_.out ?_; refine pq_ (i := 20) (N := some 137) HT_.out ?_; refine pq_ (i := 21) (N := some 138) HT_.out ?_; refine pq_ (i := 23) (N := some 140) HT_.out ?_; refine pq_ (i := 25) (N := some 142) HT_.out ?_; refine pq_ (i := 26) (N := some 143) HT_.out ?_; refine pq_ (i := 28) (N := some 145) HT_.out ?_; refine pq_ (i := 30) (N := some 147) HT_.out ?_; refine pq_ (i := 31) (N := some 148) HT_.out ?_; refine pq_ (i := 33) (N := some 150) HT_.out ?_; refine pq_ (i := 35) (N := some 152) HT_.out ?_; refine pq_ (i := 36) (N := some 153) HT_.out ?_; refine pq_ (i := 38) (N := some 155) HT_.out ?_; refine tq_ (i := 2) (N := some 119) HT_.out HW_.out hHeld (hy := by rintro w' ⟨s0, s1, s2, s3, s4, s5, s6, s7⟩; go_simp; with_reducible rfl) (h := ?_); refine pq_ (i := 4) (N := some 121) HT_.out ?_; refine tq_ (i := 7) (N := some 124) HT_.out HW_.out hHeld (hy := by rintro w' ⟨s0, s1, s2, s3, s4, s5, s6, s7⟩; go_simp; with_reducible rfl) (h := ?_); refine pq_ (i := 9) (N := some 126) HT_.out ?_; refine tq_ (i := 12) (N := some 129) HT_.out HW_.out hHeld (hy := by rintro w' ⟨s0, s1, s2, s3, s4, s5, s6, s7⟩; go_simp; with_reducible rfl) (h := ?_); refine pq_ (i := 14) (N := some 131) HT_.out ?_; refine tq_ (i := 17) (N := some 134) HT_.out HW_.out hHeld (hy := by rintro w' ⟨s0, s1, s2, s3, s4, s5, s6, s7⟩; go_simp; with_reducible rfl) (h := ?_); refine pq_ (i := 19) (N := some 136) HT_.out ?_; refine tq_ (i := 22) (N := some 139) HT_.out HW_.out hHeld (hy := by rintro w' ⟨s0, s1, s2, s3, s4, s5, s6, s7⟩; go_simp; with_reducible rfl) (h := ?_); refine pq_ (i := 24) (N := some 141) HT_.out ?_; refine tq_ (i := 27) (N := some 144) HT_.out HW_.out hHeld (hy := by rintro w' ⟨s0, s1, s2, s3, s4, s5, s6, s7⟩; go_simp; with_reducible rfl) (h := ?_); refine pq_ (i := 29) (N := some 146) HT_.out ?_; refine tq_ (i := 32) (N := some 149) HT_.out HW_.out hHeld (hy := by rintro w' ⟨s0, s1, s2, s3, s4, s5, s6, s7⟩; go_simp; with_reducible rfl) (h := ?_); refine pq_ (i := 34) (N := some 151) HT_.out ?_
                    refine tq_ (i := 37) (N := some 154) HT_.out HW_.out hHeld (hy := by rintro w' ⟨s0, s1, s2, s3, s4, s5, s6, s7⟩; go_simp; with_reducible rfl) (h := ?_); refine pq_ (i := 39) (N := some 156) HT_.out ?_; refine one_ (i := 40) (N := some 157) #[true, true, true, true, true, true, true, true, true, true, true, true, true, true, true, true, true, true, true, true, true, true, true, true, true, true, true, true, true, true, true, true, true, true, true, true, true, true, true, true, true, false] rfl rfl (one_of HT_.out (by kernel_rfl)) (by decide) (fun K hK => ?_)
                    refine Kd.R_lit_step (Kd.int .u32) _ 142 ?hg (N := 157) ?hd (xs := ([((rd l0 0) + x10_1) % 4294967296, ((rd l0 1) + x11_1) % 4294967296, ((rd l0 2) + x12_1) % 4294967296, ((rd l0 3) + x13_1) % 4294967296, ((rd l0 4) + x14_1) % 4294967296, ((rd l0 5) + x15_1) % 4294967296, ((rd l0 6) + x16_1) % 4294967296, ((rd l0 7) + x17_1) % 4294967296] : List Int)) (inner := [.int .u32 (((rd l0 0) + x10_1) % 4294967296), .int .u32 (((rd l0 1) + x11_1) % 4294967296), .int .u32 (((rd l0 2) + x12_1) % 4294967296), .int .u32 (((rd l0 3) + x13_1) % 4294967296), .int .u32 (((rd l0 4) + x14_1) % 4294967296), .int .u32 (((rd l0 5) + x15_1) % 4294967296), .int .u32 (((rd l0 6) + x16_1) % 4294967296), .int .u32 (((rd l0 7) + x17_1) % 4294967296)]) (ok := fun _ => True) (okp := fun _ => True) ?hr ?hp (fun _ hk => hk) trivial (Below.refl _ _) (Nat.le_refl _) (by simp) ?_; (case hd => rfl); (case hg => rfl); (case hr => exact zq_13); (case hp => exact (Reps.one (show Kd.M (Kd.int .u32) _ _ _ (((rd l0 0) + x10_1) % 4294967296) [.int .u32 (((rd l0 0) + x10_1) % 4294967296)] from rfl) (Reps.one (show Kd.M (Kd.int .u32) _ _ _ (((rd l0 1) + x11_1) % 4294967296) [.int .u32 (((rd l0 1) + x11_1) % 4294967296)] from rfl) (Reps.one (show Kd.M (Kd.int .u32) _ _ _ (((rd l0 2) + x12_1) % 4294967296) [.int .u32 (((rd l0 2) + x12_1) % 4294967296)] from rfl) (Reps.one (show Kd.M (Kd.int .u32) _ _ _ (((rd l0 3) + x13_1) % 4294967296) [.int .u32 (((rd l0 3) + x13_1) % 4294967296)] from rfl) (Reps.one (show Kd.M (Kd.int .u32) _ _ _ (((rd l0 4) + x14_1) % 4294967296) [.int .u32 (((rd l0 4) + x14_1) % 4294967296)] from rfl) (Reps.one (show Kd.M (Kd.int .u32) _ _ _ (((rd l0 5) + x15_1) % 4294967296) [.int .u32 (((rd l0 5) + x15_1) % 4294967296)] from rfl) (Reps.one (show Kd.M (Kd.int .u32) _ _ _ (((rd l0 6) + x16_1) % 4294967296) [.int .u32 (((rd l0 6) + x16_1) % 4294967296)] from rfl) (Reps.one (show Kd.M (Kd.int .u32) _ _ _ (((rd l0 7) + x17_1) % 4294967296) [.int .u32 (((rd l0 7) + x17_1) % 4294967296)] from rfl) (Reps.none _ _)))))))))); intro v1110021 w36 ho37 hb hg_ hnew_; clear hg_ hnew_; (first | rw [← Ny1110020.out] at ho37 | (simp only [Int.reduceToNat] at ho37; rw [← Ny1110020.out] at ho37)); have n0_ := Aside0.mk (Kd.R_elder' (by (with_reducible repeat (first | apply Kd.R_alloc | apply Kd.R_drewN | apply Kd.R_drew)); exact HO_9.out) (Kd.R_base ho37) hb)
                    have n1_ := Aside0.mk (Kd.R_lower (Kd.R_new' ho37 (Kd.R_lt (by (with_reducible repeat (first | apply Kd.R_alloc | apply Kd.R_drewN | apply Kd.R_drew)); exact HO_9.out))) (below_size zq_0)); have n2_ := Aside0.mk (below_step zq_0 hb); clear HO_9; clear HB; have HO_9 := n0_; have HO1110022 := n1_; have HB := n2_; clear n0_ n1_ n2_; clear hb ho37; refine hK.out _ _ ⟨((HB.out.cell (World.block_lt_of_cell? w _ hw1110012_0)).trans hw1110012_0), ((HB.out.cell (World.block_lt_of_cell? w _ hw1110013_0)).trans hw1110013_0), ((HB.out.cell (World.block_lt_of_cell? w _ hw1110014_0)).trans hw1110014_0), ((HB.out.cell (World.block_lt_of_cell? w _ hw1110015_0)).trans hw1110015_0), ((HB.out.cell (World.block_lt_of_cell? w _ hw1110016_0)).trans hw1110016_0), ((HB.out.cell (World.block_lt_of_cell? w _ hw1110017_0)).trans hw1110017_0), ((HB.out.cell (World.block_lt_of_cell? w _ hw1110018_0)).trans hw1110018_0), ((HB.out.cell (World.block_lt_of_cell? w _ hw1110019_0)).trans hw1110019_0)⟩ (fun hHeld => ?_); clear hK K; refine norm_ (a' := ?_) ?_ ?_; rotate_left
                    ·show Act.put _ (some 157) _ = _; simp only [Act.put, List.setIfInBounds_toArray, List.set_cons_zero, List.set_cons_succ, i64_w, i32_w]; rfl
                    refine pq_ (i := 41) (N := some 8) HT_.out ?_; refine done_ (done_of HT_.out (by kernel_rfl)) ?_
                    try go_wp2
                    go_ret
                    exact ⟨_, by first | rfl | (simp [errW_none, errW_some] <;> rfl) | (simp [*, errW_none, errW_some] <;> rfl), by (with_reducible repeat (first | apply Kd.R_alloc | apply Kd.R_drewN | apply Kd.R_drew)); exact Kd.R_mono HO1110022.out (fun _ hk => trivial), by repeat (first | (with_reducible first | exact HB.out | apply below_alloc | apply pw_below_drewN | apply below_drew1) | exact HB.out)⟩
                   ·rw [if_neg c34] at H; exact absurd H (by simp)
                  ·rw [if_neg c33] at H; exact absurd H (by simp)
                 ·rw [if_neg c32] at H; exact absurd H (by simp)
                ·rw [if_neg c31] at H; exact absurd H (by simp)
               ·rw [if_neg c30] at H; exact absurd H (by simp)
              ·rw [if_neg c29] at H; exact absurd H (by simp)
             ·rw [if_neg c28] at H; exact absurd H (by simp)
            ·rw [if_neg c27] at H; exact absurd H (by simp)
        ·rw [if_neg c13] at H; exact absurd H (by simp)
       ·rw [if_neg c12] at H; exact absurd H (by simp)
      ·rw [if_neg c11] at H; exact absurd H (by simp)
     ·rw [if_neg c10] at H; exact absurd H (by simp)
    ·rw [if_neg c9] at H; exact absurd H (by simp)
   ·rw [if_neg c8] at H; exact absurd H (by simp)
  ·rw [if_neg c7] at H; exact absurd H (by simp)
 ·rw [if_neg c6] at H; exact absurd H (by simp)
def bits_RotateLeft32.f (a0 : Int) (a1 : Int) : Option (Int) := if 0 ≤ (Go.bits .and .u64 (IntKind.u64.wrap (a1)) 31) then (if 0 ≤ (IntKind.u64.wrap (32 - (Go.bits .and .u64 (IntKind.u64.wrap (a1)) 31))) then (some (Go.bits .or .u32 (shl .u32 a0 (Go.bits .and .u64 (IntKind.u64.wrap (a1)) 31)) (shr .u32 a0 (IntKind.u64.wrap (32 - (Go.bits .and .u64 (IntKind.u64.wrap (a1)) 31)))))) else (none)) else (none)
set_option maxHeartbeats 8000000 in
set_option maxRecDepth 100000 in
theorem bits_RotateLeft32.calls (a0 : Int) (a1 : Int) (r : Int) (w : World) (h : bits_RotateLeft32.f a0 a1 = some r) :
  Calls Tryd.prog 132 #[.int .u32 a0, .int .i64 a1] w fun e w' => e = .returned (.int .u32 r) ∧ Drawn0 w w' := by
 have H : (if 0 ≤ (Go.bits .and .u64 (IntKind.u64.wrap (a1)) 31) then (if 0 ≤ (IntKind.u64.wrap (32 - (Go.bits .and .u64 (IntKind.u64.wrap (a1)) 31))) then (some (Go.bits .or .u32 (shl .u32 a0 (Go.bits .and .u64 (IntKind.u64.wrap (a1)) 31)) (shr .u32 a0 (IntKind.u64.wrap (32 - (Go.bits .and .u64 (IntKind.u64.wrap (a1)) 31)))))) else (none)) else (none)) = some r := h; clear h; obtain ⟨ji3, hji3⟩ : ∃ j_ : Int, (Go.bits .and .u64 (IntKind.u64.wrap (a1)) 31) = j_ := ⟨_, rfl⟩
 replace H : (if 0 ≤ (ji3) then (if 0 ≤ (IntKind.u64.wrap (32 - (ji3))) then (some (Go.bits .or .u32 (shl .u32 a0 (ji3)) (shr .u32 a0 (IntKind.u64.wrap (32 - (ji3)))))) else (none)) else (none)) = some r := by first | (rw [hji3] at H; exact H) | (simp only [hji3] at H ⊢; exact H)
 by_cases c4 : 0 ≤ (ji3)
 ·rw [if_pos c4] at H; have c4b0 := eq_true c4; have c4b1 : decide (0 ≤ (ji3)) = true := decide_eq_true c4; clear c4; obtain ⟨ji5, hji5⟩ : ∃ j_ : Int, (shl .u32 a0 (ji3)) = j_ := ⟨_, rfl⟩
  replace H : (if 0 ≤ (IntKind.u64.wrap (32 - (ji3))) then (some (Go.bits .or .u32 (ji5) (shr .u32 a0 (IntKind.u64.wrap (32 - (ji3)))))) else (none)) = some r := by first | (rw [hji5] at H; exact H) | (simp only [hji5] at H ⊢; exact H)
  have hji5_ : (IntKind.u32.wrap (a0 * 2 ^ min (ji3).toNat 32)) = ji5 := hji5; have hji5z : (ji3) ≤ 32 → (IntKind.u32.wrap (a0 * 2 ^ (ji3).toNat)) = ji5 := shl_small hji5; obtain ⟨ji6, hji6⟩ : ∃ j_ : Int, (IntKind.u64.wrap (32 - (ji3))) = j_ := ⟨_, rfl⟩
  replace H : (if 0 ≤ (ji6) then (some (Go.bits .or .u32 (ji5) (shr .u32 a0 (ji6)))) else (none)) = some r := by first | (rw [hji6] at H; exact H) | (simp only [hji6] at H ⊢; exact H)
  by_cases c7 : 0 ≤ (ji6)
  ·rw [if_pos c7] at H; have c7b0 := eq_true c7; have c7b1 : decide (0 ≤ (ji6)) = true := decide_eq_true c7; clear c7; obtain ⟨ji8, hji8⟩ : ∃ j_ : Int, (shr .u32 a0 (ji6)) = j_ := ⟨_, rfl⟩
   replace H : (some (Go.bits .or .u32 (ji5) (ji8))) = some r := by first | (rw [hji8] at H; exact H) | (simp only [hji8] at H ⊢; exact H)
   have hji8_ : (a0 / 2 ^ min (ji6).toNat 32) = ji8 := hji8; have hji8z : (ji6) ≤ 32 → (a0 / 2 ^ (ji6).toNat) = ji8 := shr_small hji8; obtain rfl := Option.some.inj H
   go_enter Tryd.func132, Tryd.ntmps132
   go_wp2
   go_ret
   exact ⟨by first | rfl | (simp; done) | (simp only [← hji3, ← hji5, ← hji6, ← hji8] <;> (first | rfl | simp)) | (simp [*]; done), by repeat (first | exact Drawn0.refl _ | apply Drawn0.step)⟩
  ·rw [if_neg c7] at H; exact absurd H (by simp)
 ·rw [if_neg c4] at H; exact absurd H (by simp)
def spec_l1K.f  : Option (List Int) := some (([1116352408, 1899447441, 3049323471, 3921009573, 961987163, 1508970993, 2453635748, 2870763221, 3624381080, 310598401, 607225278, 1426881987, 1925078388, 2162078206, 2614888103, 3248222580, 3835390401, 4022224774, 264347078, 604807628, 770255983, 1249150122, 1555081692, 1996064986, 2554220882, 2821834349, 2952996808, 3210313671, 3336571891, 3584528711, 113926993, 338241895, 666307205, 773529912, 1294757372, 1396182291, 1695183700, 1986661051, 2177026350, 2456956037, 2730485921, 2820302411, 3259730800, 3345764771, 3516065817, 3600352804, 4094571909, 275423344, 430227734, 506948616, 659060556, 883997877, 958139571, 1322822218, 1537002063, 1747873779, 1955562222, 2024104815, 2227730452, 2361852424, 2428436474, 2756734187, 3204031479, 3329325298] : List Int))
set_option maxHeartbeats 8000000 in
set_option maxRecDepth 100000 in
theorem spec_l1K.calls  (r : List Int) (w : World) (h : spec_l1K.f  = some r) :
  Calls Tryd.prog 109 #[] w fun e w' => ∃ v0_ : Value, e = .returned (v0_) ∧ Kd.R (Kd.int .u32) 142 w' w.heap.size (fun _ => True) v0_ r ∧ Below w.heap.size w w' := by
 have HB := Aside0.mk (Below.refl w.heap.size w); have H : (some (([1116352408, 1899447441, 3049323471, 3921009573, 961987163, 1508970993, 2453635748, 2870763221, 3624381080, 310598401, 607225278, 1426881987, 1925078388, 2162078206, 2614888103, 3248222580, 3835390401, 4022224774, 264347078, 604807628, 770255983, 1249150122, 1555081692, 1996064986, 2554220882, 2821834349, 2952996808, 3210313671, 3336571891, 3584528711, 113926993, 338241895, 666307205, 773529912, 1294757372, 1396182291, 1695183700, 1986661051, 2177026350, 2456956037, 2730485921, 2820302411, 3259730800, 3345764771, 3516065817, 3600352804, 4094571909, 275423344, 430227734, 506948616, 659060556, 883997877, 958139571, 1322822218, 1537002063, 1747873779, 1955562222, 2024104815, 2227730452, 2361852424, 2428436474, 2756734187, 3204031479, 3329325298] : List Int))) = some r := h; clear h; obtain ⟨y1090001, hy1090001⟩ : ∃ y_ : List Int, y_ = (([1116352408, 1899447441, 3049323471, 3921009573, 961987163, 1508970993, 2453635748, 2870763221, 3624381080, 310598401, 607225278, 1426881987, 1925078388, 2162078206, 2614888103, 3248222580, 3835390401, 4022224774, 264347078, 604807628, 770255983, 1249150122, 1555081692, 1996064986, 2554220882, 2821834349, 2952996808, 3210313671, 3336571891, 3584528711, 113926993, 338241895, 666307205, 773529912, 1294757372, 1396182291, 1695183700, 1986661051, 2177026350, 2456956037, 2730485921, 2820302411, 3259730800, 3345764771, 3516065817, 3600352804, 4094571909, 275423344, 430227734, 506948616, 659060556, 883997877, 958139571, 1322822218, 1537002063, 1747873779, 1955562222, 2024104815, 2227730452, 2361852424, 2428436474, 2756734187, 3204031479, 3329325298] : List Int)) := ⟨_, rfl⟩
 replace H : (some y1090001) = some r := by first | (rw [hy1090001]; with_reducible exact H) | (have H2_ := (Option.bind_some _ _).symm.trans H; rw [hy1090001]; with_reducible exact H2_) | (have H2_ := (Option.bind_some _ _).symm.trans H; with_reducible exact H2_) | with_reducible exact H | (rw [hy1090001]; exact H) | exact H
 have Ny1090001 := Aside0.mk hy1090001; clear hy1090001; obtain rfl := Option.some.inj H
 go_enter Tryd.func109, Tryd.ntmps109
 go_wp2_with (first | ((with_reducible refine gate_dst (N := 1) rfl ?_); refine Kd.R_lit (Kd.int .u32) _ 142 ?hg (N := 1) ?hd (xs := ([1116352408, 1899447441, 3049323471, 3921009573, 961987163, 1508970993, 2453635748, 2870763221, 3624381080, 310598401, 607225278, 1426881987, 1925078388, 2162078206, 2614888103, 3248222580, 3835390401, 4022224774, 264347078, 604807628, 770255983, 1249150122, 1555081692, 1996064986, 2554220882, 2821834349, 2952996808, 3210313671, 3336571891, 3584528711, 113926993, 338241895, 666307205, 773529912, 1294757372, 1396182291, 1695183700, 1986661051, 2177026350, 2456956037, 2730485921, 2820302411, 3259730800, 3345764771, 3516065817, 3600352804, 4094571909, 275423344, 430227734, 506948616, 659060556, 883997877, 958139571, 1322822218, 1537002063, 1747873779, 1955562222, 2024104815, 2227730452, 2361852424, 2428436474, 2756734187, 3204031479, 3329325298] : List Int)) (inner := [.int .u32 1116352408, .int .u32 1899447441, .int .u32 3049323471, .int .u32 3921009573, .int .u32 961987163, .int .u32 1508970993, .int .u32 2453635748, .int .u32 2870763221, .int .u32 3624381080, .int .u32 310598401, .int .u32 607225278, .int .u32 1426881987, .int .u32 1925078388, .int .u32 2162078206, .int .u32 2614888103, .int .u32 3248222580, .int .u32 3835390401, .int .u32 4022224774, .int .u32 264347078, .int .u32 604807628, .int .u32 770255983, .int .u32 1249150122, .int .u32 1555081692, .int .u32 1996064986, .int .u32 2554220882, .int .u32 2821834349, .int .u32 2952996808, .int .u32 3210313671, .int .u32 3336571891, .int .u32 3584528711, .int .u32 113926993, .int .u32 338241895, .int .u32 666307205, .int .u32 773529912, .int .u32 1294757372, .int .u32 1396182291, .int .u32 1695183700, .int .u32 1986661051, .int .u32 2177026350, .int .u32 2456956037, .int .u32 2730485921, .int .u32 2820302411, .int .u32 3259730800, .int .u32 3345764771, .int .u32 3516065817, .int .u32 3600352804, .int .u32 4094571909, .int .u32 275423344, .int .u32 430227734, .int .u32 506948616, .int .u32 659060556, .int .u32 883997877, .int .u32 958139571, .int .u32 1322822218, .int .u32 1537002063, .int .u32 1747873779, .int .u32 1955562222, .int .u32 2024104815, .int .u32 2227730452, .int .u32 2361852424, .int .u32 2428436474, .int .u32 2756734187, .int .u32 3204031479, .int .u32 3329325298]) (ok := fun _ => True) (okp := fun _ => True) ?hr ?hp (fun _ hk => hk) trivial (Below.refl _ _) (Nat.le_refl _) (by simp) ?_; (case hd => rfl); (case hg => rfl); (case hr => exact zq_13); (case hp => exact (Reps.one (show Kd.M (Kd.int .u32) _ _ _ 1116352408 [.int .u32 1116352408] from rfl) (Reps.one (show Kd.M (Kd.int .u32) _ _ _ 1899447441 [.int .u32 1899447441] from rfl) (Reps.one (show Kd.M (Kd.int .u32) _ _ _ 3049323471 [.int .u32 3049323471] from rfl) (Reps.one (show Kd.M (Kd.int .u32) _ _ _ 3921009573 [.int .u32 3921009573] from rfl) (Reps.one (show Kd.M (Kd.int .u32) _ _ _ 961987163 [.int .u32 961987163] from rfl) (Reps.one (show Kd.M (Kd.int .u32) _ _ _ 1508970993 [.int .u32 1508970993] from rfl) (Reps.one (show Kd.M (Kd.int .u32) _ _ _ 2453635748 [.int .u32 2453635748] from rfl) (Reps.one (show Kd.M (Kd.int .u32) _ _ _ 2870763221 [.int .u32 2870763221] from rfl) (Reps.one (show Kd.M (Kd.int .u32) _ _ _ 3624381080 [.int .u32 3624381080] from rfl) (Reps.one (show Kd.M (Kd.int .u32) _ _ _ 310598401 [.int .u32 310598401] from rfl) (Reps.one (show Kd.M (Kd.int .u32) _ _ _ 607225278 [.int .u32 607225278] from rfl) (Reps.one (show Kd.M (Kd.int .u32) _ _ _ 1426881987 [.int .u32 1426881987] from rfl) (Reps.one (show Kd.M (Kd.int .u32) _ _ _ 1925078388 [.int .u32 1925078388] from rfl) (Reps.one (show Kd.M (Kd.int .u32) _ _ _ 2162078206 [.int .u32 2162078206] from rfl) (Reps.one (show Kd.M (Kd.int .u32) _ _ _ 2614888103 [.int .u32 2614888103] from rfl) (Reps.one (show Kd.M (Kd.int .u32) _ _ _ 3248222580 [.int .u32 3248222580] from rfl) (Reps.one (show Kd.M (Kd.int .u32) _ _ _ 3835390401 [.int .u32 3835390401] from rfl) (Reps.one (show Kd.M (Kd.int .u32) _ _ _ 4022224774 [.int .u32 4022224774] from rfl) (Reps.one (show Kd.M (Kd.int .u32) _ _ _ 264347078 [.int .u32 264347078] from rfl) (Reps.one (show Kd.M (Kd.int .u32) _ _ _ 604807628 [.int .u32 604807628] from rfl) (Reps.one (show Kd.M (Kd.int .u32) _ _ _ 770255983 [.int .u32 770255983] from rfl) (Reps.one (show Kd.M (Kd.int .u32) _ _ _ 1249150122 [.int .u32 1249150122] from rfl) (Reps.one (show Kd.M (Kd.int .u32) _ _ _ 1555081692 [.int .u32 1555081692] from rfl) (Reps.one (show Kd.M (Kd.int .u32) _ _ _ 1996064986 [.int .u32 1996064986] from rfl) (Reps.one (show Kd.M (Kd.int .u32) _ _ _ 2554220882 [.int .u32 2554220882] from rfl) (Reps.one (show Kd.M (Kd.int .u32) _ _ _ 2821834349 [.int .u32 2821834349] from rfl) (Reps.one (show Kd.M (Kd.int .u32) _ _ _ 2952996808 [.int .u32 2952996808] from rfl) (Reps.one (show Kd.M (Kd.int .u32) _ _ _ 3210313671 [.int .u32 3210313671] from rfl) (Reps.one (show Kd.M (Kd.int .u32) _ _ _ 3336571891 [.int .u32 3336571891] from rfl) (Reps.one (show Kd.M (Kd.int .u32) _ _ _ 3584528711 [.int .u32 3584528711] from rfl) (Reps.one (show Kd.M (Kd.int .u32) _ _ _ 113926993 [.int .u32 113926993] from rfl) (Reps.one (show Kd.M (Kd.int .u32) _ _ _ 338241895 [.int .u32 338241895] from rfl) (Reps.one (show Kd.M (Kd.int .u32) _ _ _ 666307205 [.int .u32 666307205] from rfl) (Reps.one (show Kd.M (Kd.int .u32) _ _ _ 773529912 [.int .u32 773529912] from rfl) (Reps.one (show Kd.M (Kd.int .u32) _ _ _ 1294757372 [.int .u32 1294757372] from rfl) (Reps.one (show Kd.M (Kd.int .u32) _ _ _ 1396182291 [.int .u32 1396182291] from rfl) (Reps.one (show Kd.M (Kd.int .u32) _ _ _ 1695183700 [.int .u32 1695183700] from rfl) (Reps.one (show Kd.M (Kd.int .u32) _ _ _ 1986661051 [.int .u32 1986661051] from rfl) (Reps.one (show Kd.M (Kd.int .u32) _ _ _ 2177026350 [.int .u32 2177026350] from rfl) (Reps.one (show Kd.M (Kd.int .u32) _ _ _ 2456956037 [.int .u32 2456956037] from rfl) (Reps.one (show Kd.M (Kd.int .u32) _ _ _ 2730485921 [.int .u32 2730485921] from rfl) (Reps.one (show Kd.M (Kd.int .u32) _ _ _ 2820302411 [.int .u32 2820302411] from rfl) (Reps.one (show Kd.M (Kd.int .u32) _ _ _ 3259730800 [.int .u32 3259730800] from rfl) (Reps.one (show Kd.M (Kd.int .u32) _ _ _ 3345764771 [.int .u32 3345764771] from rfl) (Reps.one (show Kd.M (Kd.int .u32) _ _ _ 3516065817 [.int .u32 3516065817] from rfl) (Reps.one (show Kd.M (Kd.int .u32) _ _ _ 3600352804 [.int .u32 3600352804] from rfl) (Reps.one (show Kd.M (Kd.int .u32) _ _ _ 4094571909 [.int .u32 4094571909] from rfl) (Reps.one (show Kd.M (Kd.int .u32) _ _ _ 275423344 [.int .u32 275423344] from rfl) (Reps.one (show Kd.M (Kd.int .u32) _ _ _ 430227734 [.int .u32 430227734] from rfl) (Reps.one (show Kd.M (Kd.int .u32) _ _ _ 506948616 [.int .u32 506948616] from rfl) (Reps.one (show Kd.M (Kd.int .u32) _ _ _ 659060556 [.int .u32 659060556] from rfl) (Reps.one (show Kd.M (Kd.int .u32) _ _ _ 883997877 [.int .u32 883997877] from rfl) (Reps.one (show Kd.M (Kd.int .u32) _ _ _ 958139571 [.int .u32 958139571] from rfl) (Reps.one (show Kd.M (Kd.int .u32) _ _ _ 1322822218 [.int .u32 1322822218] from rfl) (Reps.one (show Kd.M (Kd.int .u32) _ _ _ 1537002063 [.int .u32 1537002063] from rfl) (Reps.one (show Kd.M (Kd.int .u32) _ _ _ 1747873779 [.int .u32 1747873779] from rfl) (Reps.one (show Kd.M (Kd.int .u32) _ _ _ 1955562222 [.int .u32 1955562222] from rfl) (Reps.one (show Kd.M (Kd.int .u32) _ _ _ 2024104815 [.int .u32 2024104815] from rfl) (Reps.one (show Kd.M (Kd.int .u32) _ _ _ 2227730452 [.int .u32 2227730452] from rfl) (Reps.one (show Kd.M (Kd.int .u32) _ _ _ 2361852424 [.int .u32 2361852424] from rfl) (Reps.one (show Kd.M (Kd.int .u32) _ _ _ 2428436474 [.int .u32 2428436474] from rfl) (Reps.one (show Kd.M (Kd.int .u32) _ _ _ 2756734187 [.int .u32 2756734187] from rfl) (Reps.one (show Kd.M (Kd.int .u32) _ _ _ 3204031479 [.int .u32 3204031479] from rfl) (Reps.one (show Kd.M (Kd.int .u32) _ _ _ 3329325298 [.int .u32 3329325298] from rfl) (Reps.none _ _)))))))))))))))))))))))))))))))))))))))))))))))))))))))))))))))))); intro v1090002 w1 ho2 hb hg_ hnew_; clear hg_ hnew_; (first | rw [← Ny1090001.out] at ho2 | (simp only [Int.reduceToNat] at ho2; rw [← Ny1090001.out] at ho2)); have n0_ := Aside0.mk (Kd.R_lower ho2 (below_size zq_0)); have n1_ := Aside0.mk (below_step zq_0 hb); clear HB; have HO1090003 := n0_; have HB := n1_; clear n0_ n1_; clear hb ho2))
 go_ret
 exact ⟨_, by first | rfl | (simp [errW_none, errW_some] <;> rfl) | (simp [*, errW_none, errW_some] <;> rfl), by (with_reducible repeat (first | apply Kd.R_alloc | apply Kd.R_drewN | apply Kd.R_drew)); exact HO1090003.out, by repeat (first | (with_reducible first | exact HB.out | apply below_alloc | apply pw_below_drewN | apply below_drew1) | exact HB.out)⟩
end Go.Proofs.YthnnphinfiobmaaDoor.Z
end
section
namespace Go.Proofs.YthnnphinfiobmaaDoor
open RowKit
set_option linter.all false
theorem ret_bool {a b : Bool} (h : a = b) : Ending.returned (.bool a) = .returned (.bool b) := by rw [h]
theorem ret_str {a b : ByteArray} (h : a = b) : Ending.returned (.string a) = .returned (.string b) := by rw [h]
theorem bcell {W w1 : World} (hb : Below W.heap.size W w1) : (∀ b o, b < W.heap.size → w1.cell? ⟨b, o, none⟩ = W.cell? ⟨b, o, none⟩) ∧ (∀ b o, b < W.heap.size → w1.frozen? ⟨b, o, none⟩ = W.frozen? ⟨b, o, none⟩) :=
 ⟨fun b o h => hb.cell (p := ⟨b, o, none⟩) h, fun b o h => hb.frozen (p := ⟨b, o, none⟩) h⟩
theorem below_new2 {a w : World} (h : Below a.heap.size a w) (o : Obj) : Below a.heap.size a (w.alloc o) := h.alloc h.size o
theorem bdrewN {B : Nat} {a w : World} (h : Below B a w) (n : Nat) : Below B a (w.drewN n) := ⟨h.os, h.tape, h.output, h.size, h.block⟩
theorem lt1 (n : Nat) : n < n + 1 + 1 := by omega
theorem lt2 (n : Nat) : n < n + 1 + 1 + 1 := by omega
theorem lt3 (n : Nat) : n + 1 < n + 1 + 1 + 1 := by omega
attribute [go_sem] lt1 lt2 lt3
theorem cellB {u w1 : World} {p : Addr} {v : Value} (hb : Below u.heap.size u w1) (h : u.cell? p = some v) : w1.cell? p = some v := (hb.cell (World.block_lt_of_cell? _ _ h)).trans h
theorem held4B {u w1 : World} {p q r t : Addr} {a b c d : Value} (hb : Below u.heap.size u w1) (h : u.cell? p = some a ∧ u.cell? q = some b ∧ u.cell? r = some c ∧ u.cell? t = some d) : w1.cell? p = some a ∧ w1.cell? q = some b ∧ w1.cell? r = some c ∧ w1.cell? t = some d := ⟨cellB hb h.1, cellB hb h.2.1, cellB hb h.2.2.1, cellB hb h.2.2.2⟩
theorem below_then {a w w' : World} (h : Below a.heap.size a w) (k : Below w.heap.size w w') : Below a.heap.size a w' := h.trans (k.mono h.size)
theorem str_eq (s t : ByteArray) : (s.toList == t.toList) = decide (s = t) := by
 rw [Bool.eq_iff_iff]; simp only [beq_iff_eq, decide_eq_true_eq]; rw [ByteArray.toList_eq, ByteArray.toList_eq]
 constructor
 ·intro h; exact ByteArray.ext (Array.toList_inj.mp h)
 ·intro h; rw [h]
end Go.Proofs.YthnnphinfiobmaaDoor
end
section
namespace Go.Proofs.YthnnphinfiobmaaDoor.Z
open RowKit YthnnphinfiobmaaDoor YthnnphinfiobmaaDoorW.PrintWords YthnnphinfiobmaaDoorW.PrintLast
set_option linter.all false
theorem w64 {x : Int} (h0 : -9223372036854775808 ≤ x) (h1 : x ≤ 9223372036854775807) : wrap64 x = x := by unfold wrap64; omega
def turn (x n : Int) : Int := Go.bits .or .u32 (shr .u32 x n) (shl .u32 x (32 - n))
theorem wrapU64 {x : Int} (h0 : 0 ≤ x) (h1 : x < 18446744073709551616) : IntKind.u64.wrap x = x := by
 simp [IntKind.wrap, IntKind.bits, IntKind.signed]; omega
theorem l1Turn_f (x n : Int) (h0 : 0 ≤ n) (h1 : n ≤ 32) : spec_l1Turn.f x n = some (turn x n) := by
 unfold spec_l1Turn.f turn; rw [wrapU64 h0 (by omega), w64 (by omega) (by omega), wrapU64 (by omega) (by omega), if_pos h0, if_pos (by omega)]
theorem or_comm32 (a b : Int) : Go.bits .or .u32 a b = Go.bits .or .u32 b a := by
 show IntKind.u32.wrap (((BitVec.ofInt 32 a ||| BitVec.ofInt 32 b).toNat : Nat) : Int) = IntKind.u32.wrap (((BitVec.ofInt 32 b ||| BitVec.ofInt 32 a).toNat : Nat) : Int); rw [BitVec.or_comm]
theorem rot_f (x : Int) (n : Nat) (h : n ∈ [2, 6, 7, 11, 13, 17, 18, 19, 22, 25]) : bits_RotateLeft32.f x (-(n : Int)) = some (turn x n) := by
 have key : ∀ n ∈ [2, 6, 7, 11, 13, 17, 18, 19, 22, 25], Go.bits .and .u64 (IntKind.u64.wrap (-((n : Nat) : Int))) 31 = 32 - (n : Int) ∧ IntKind.u64.wrap (32 - (32 - (n : Int))) = n ∧ 0 ≤ 32 - (n : Int) := by decide
 obtain ⟨k1, k2, k3⟩ := key n h; unfold bits_RotateLeft32.f turn; rw [k1, k2, if_pos k3, if_pos (by omega), or_comm32]
def rdN (l : List Int) (i : Nat) : Int := l.getD i 0
theorem rd_nat (l : List Int) (i : Nat) : rd l (i : Int) = rdN l i := rfl
def wordP (b : List Int) (i : Nat) : Int := Go.bits .or .u32 (Go.bits .or .u32 (Go.bits .or .u32 (((rdN b (4 * i) % 4294967296) * 16777216) % 4294967296) (((rdN b (4 * i + 1) % 4294967296) * 65536) % 4294967296)) (((rdN b (4 * i + 2) % 4294967296) * 256) % 4294967296)) (rdN b (4 * i + 3) % 4294967296)
def nextP (w : List Int) (n : Nat) : Int := ((((((rdN w (n - 16)) + (Go.bits .xor .u32 (Go.bits .xor .u32 (turn (rdN w (n - 15)) 7) (turn (rdN w (n - 15)) 18)) ((rdN w (n - 15)) / 8))) % 4294967296) + (rdN w (n - 7))) % 4294967296) + (Go.bits .xor .u32 (Go.bits .xor .u32 (turn (rdN w (n - 2)) 17) (turn (rdN w (n - 2)) 19)) ((rdN w (n - 2)) / 1024))) % 4294967296
def schedP (b : List Int) : Nat → List Int
 | 0 => []
 | n + 1 => schedP b n ++ [if n < 16 then wordP b n else nextP (schedP b n) n]
theorem schedP_length (b : List Int) : ∀ n, (schedP b n).length = n
 | 0 => rfl
 | n + 1 => by rw [schedP, List.length_append, schedP_length b n]; rfl
def blockAt (m : List Int) (fr : Nat) : List Int := (m.drop fr).take 64
theorem rd_blockAt (m : List Int) (fr j : Nat) (h : j < 64) : rdN (blockAt m fr) j = rdN m (fr + j) := by
 unfold rdN blockAt; rw [List.getD_eq_getElem?_getD, List.getD_eq_getElem?_getD, List.getElem?_take, if_pos h, List.getElem?_drop]
theorem sched_l1 (b : List Int) : ∀ (d n k : Nat), n + d = 64 → 16 ≤ n → d < k → spec_l1Schedule.l1 k (schedP b n) (n : Int) = some (schedP b 64) := by
 intro d
 induction d with
 | zero =>
  intro n k hn h16 hk; obtain ⟨k, rfl⟩ : ∃ j, k = j + 1 := ⟨k - 1, by omega⟩
  obtain rfl : n = 64 := by omega
  simp only [spec_l1Schedule.l1]; rw [if_neg (by omega)]
 | succ d ih =>
  intro n k hn h16 hk; obtain ⟨k, rfl⟩ : ∃ j, k = j + 1 := ⟨k - 1, by omega⟩
  have hl := schedP_length b n; simp only [spec_l1Schedule.l1]; have e15 : wrap64 ((n : Int) - 15) = ((n - 15 : Nat) : Int) := by rw [w64 (by omega) (by omega)]; omega
  have e2 : wrap64 ((n : Int) - 2) = ((n - 2 : Nat) : Int) := by rw [w64 (by omega) (by omega)]; omega
  have e16 : wrap64 ((n : Int) - 16) = ((n - 16 : Nat) : Int) := by rw [w64 (by omega) (by omega)]; omega
  have e7 : wrap64 ((n : Int) - 7) = ((n - 7 : Nat) : Int) := by rw [w64 (by omega) (by omega)]; omega
  have e1 : wrap64 ((n : Int) + 1) = ((n + 1 : Nat) : Int) := by rw [w64 (by omega) (by omega)]; omega
  rw [e15, e2, e16, e7, e1, hl]; clear e15 e2 e16 e7 e1; simp only [rd_nat]; rw [if_pos (by omega), if_pos (by omega), if_pos (by omega), if_pos (by omega), if_pos (by omega)]; rw [l1Turn_f _ _ (by omega) (by omega), l1Turn_f _ _ (by omega) (by omega), l1Turn_f _ _ (by omega) (by omega), l1Turn_f _ _ (by omega) (by omega)]; simp only [Option.bind_some]; rw [if_pos (by omega), if_pos (by omega), if_pos (by omega), if_pos (by omega), if_pos (by omega)]; have hs : schedP b (n + 1) = schedP b n ++ [nextP (schedP b n) n] := by rw [schedP, if_neg (by omega)]
  have := ih (n + 1) k (by omega) (by omega) (by omega); rw [hs] at this; exact this
theorem sched_l0 (m : List Int) (fr : Nat) (hm : fr + 64 ≤ m.length) (hb : m.length ≤ 1099511627776) : ∀ (d n k : Nat), n + d = 16 → d + 50 < k → spec_l1Schedule.l0 k m (fr : Int) (schedP (blockAt m fr) n) (n : Int) = some (schedP (blockAt m fr) 64) := by
 intro d
 induction d with
 | zero =>
  intro n k hn hk; obtain ⟨k, rfl⟩ : ∃ j, k = j + 1 := ⟨k - 1, by omega⟩
  obtain rfl : n = 16 := by omega
  simp only [spec_l1Schedule.l0]; rw [if_neg (by omega)]; exact sched_l1 _ 48 16 k (by omega) (by omega) (by omega)
 | succ d ih =>
  intro n k hn hk; obtain ⟨k, rfl⟩ : ∃ j, k = j + 1 := ⟨k - 1, by omega⟩
  have hl := schedP_length (blockAt m fr) n; simp only [spec_l1Schedule.l0]; have e4 : wrap64 (4 * (n : Int)) = ((4 * n : Nat) : Int) := by rw [w64 (by omega) (by omega)]; omega
  rw [e4]; have f0 : wrap64 ((fr : Int) + ((4 * n : Nat) : Int)) = ((fr + 4 * n : Nat) : Int) := by rw [w64 (by omega) (by omega)]; omega
  rw [f0]; have f1 : wrap64 (((fr + 4 * n : Nat) : Int) + 1) = ((fr + 4 * n + 1 : Nat) : Int) := by rw [w64 (by omega) (by omega)]; omega
  have f2 : wrap64 (((fr + 4 * n : Nat) : Int) + 2) = ((fr + 4 * n + 2 : Nat) : Int) := by rw [w64 (by omega) (by omega)]; omega
  have f3 : wrap64 (((fr + 4 * n : Nat) : Int) + 3) = ((fr + 4 * n + 3 : Nat) : Int) := by rw [w64 (by omega) (by omega)]; omega
  have e1 : wrap64 ((n : Int) + 1) = ((n + 1 : Nat) : Int) := by rw [w64 (by omega) (by omega)]; omega
  rw [f1, f2, f3, e1, hl]; clear f0 f1 f2 f3 e1 e4; simp only [rd_nat]; rw [if_pos (by omega), if_pos (by omega), if_pos (by omega), if_pos (by omega), if_pos (by omega), if_pos (by omega), if_pos (by omega), if_pos (by omega), if_pos (by omega), if_pos (by omega)]; have hs : schedP (blockAt m fr) (n + 1) = schedP (blockAt m fr) n ++ [wordP (blockAt m fr) n] := by rw [schedP, if_pos (by omega)]
  have := ih (n + 1) k (by omega) (by omega); rw [hs, wordP, rd_blockAt _ _ _ (by omega), rd_blockAt _ _ _ (by omega), rd_blockAt _ _ _ (by omega), rd_blockAt _ _ _ (by omega), ← Nat.add_assoc, ← Nat.add_assoc, ← Nat.add_assoc] at this; exact this
theorem l1Schedule_f (m : List Int) (fr k : Nat) (hm : fr + 64 ≤ m.length) (hb : m.length ≤ 1099511627776) (hk : 70 < k) : spec_l1Schedule.f k m (fr : Int) = some (schedP (blockAt m fr) 64) := by
 unfold spec_l1Schedule.f; exact sched_l0 m fr hm hb 16 0 k rfl (by omega)
structure St where
 a : Int
 b : Int
 c : Int
 d : Int
 e : Int
 f : Int
 g : Int
 z : Int
def St.t1 (s : St) (k w : Int) : Int := (((((((s.z + (Go.bits .xor .u32 (Go.bits .xor .u32 (turn s.e 6) (turn s.e 11)) (turn s.e 25))) % 4294967296) + (Go.bits .xor .u32 (Go.bits .and .u32 s.e s.f) (Go.bits .and .u32 (Go.bits .xor .u32 IntKind.u32.max s.e) s.g))) % 4294967296) + k) % 4294967296) + w) % 4294967296
def St.s0 (s : St) : Int := Go.bits .xor .u32 (Go.bits .xor .u32 (turn s.a 2) (turn s.a 13)) (turn s.a 22)
def St.maj (s : St) : Int := Go.bits .xor .u32 (Go.bits .xor .u32 (Go.bits .and .u32 s.a s.b) (Go.bits .and .u32 s.a s.c)) (Go.bits .and .u32 s.b s.c)
def St.rnd (s : St) (k w : Int) : St := ⟨(s.t1 k w + (s.s0 + s.maj) % 4294967296) % 4294967296, s.a, s.b, s.c, (s.d + s.t1 k w) % 4294967296, s.e, s.f, s.g⟩
def kTab : List Int := (spec_l1K.f).getD []
theorem kTab_f : spec_l1K.f = some kTab := rfl
theorem kTab_length : kTab.length = 64 := by decide +kernel
def St.run (s : St) (W : List Int) : Nat → St
 | 0 => s
 | n + 1 => (s.run W n).rnd (rdN kTab n) (rdN W n)
def St.of (h : List Int) : St := ⟨rdN h 0, rdN h 1, rdN h 2, rdN h 3, rdN h 4, rdN h 5, rdN h 6, rdN h 7⟩
def St.list (s : St) : List Int := [s.a, s.b, s.c, s.d, s.e, s.f, s.g, s.z]
def compP (h b : List Int) : List Int :=
 let s := (St.of h).run (schedP b 64) 64
 [(rdN h 0 + s.a) % 4294967296, (rdN h 1 + s.b) % 4294967296, (rdN h 2 + s.c) % 4294967296, (rdN h 3 + s.d) % 4294967296, (rdN h 4 + s.e) % 4294967296, (rdN h 5 + s.f) % 4294967296, (rdN h 6 + s.g) % 4294967296, (rdN h 7 + s.z) % 4294967296]
theorem block_l0 (h W : List Int) (hh : h.length = 8) (hW : W.length = 64) : ∀ (d n k : Nat) (s : St), n + d = 64 → d < k → s = (St.of h).run W n →
  spec_l1Block.l0 k h kTab W s.a s.b s.c s.d s.e s.f s.g s.z (n : Int) = some (
   let s := (St.of h).run W 64
   [(rdN h 0 + s.a) % 4294967296, (rdN h 1 + s.b) % 4294967296, (rdN h 2 + s.c) % 4294967296, (rdN h 3 + s.d) % 4294967296, (rdN h 4 + s.e) % 4294967296, (rdN h 5 + s.f) % 4294967296, (rdN h 6 + s.g) % 4294967296, (rdN h 7 + s.z) % 4294967296]) := by
 intro d
 induction d with
 | zero =>
  intro n k s hn hk hs; obtain ⟨k, rfl⟩ : ∃ j, k = j + 1 := ⟨k - 1, by omega⟩
  obtain rfl : n = 64 := by omega
  simp only [spec_l1Block.l0]; rw [if_neg (by omega), hh]; rw [if_pos (by omega), if_pos (by omega), if_pos (by omega), if_pos (by omega), if_pos (by omega), if_pos (by omega), if_pos (by omega), if_pos (by omega), ← hs]; rfl
 | succ d ih =>
  intro n k s hn hk hs; obtain ⟨k, rfl⟩ : ∃ j, k = j + 1 := ⟨k - 1, by omega⟩
  simp only [spec_l1Block.l0]; have e1 : wrap64 ((n : Int) + 1) = ((n + 1 : Nat) : Int) := by rw [w64 (by omega) (by omega)]; omega
  rw [e1]; clear e1; rw [if_pos (by omega)]; rw [l1Turn_f _ _ (by omega) (by omega), l1Turn_f _ _ (by omega) (by omega), l1Turn_f _ _ (by omega) (by omega), l1Turn_f _ _ (by omega) (by omega), l1Turn_f _ _ (by omega) (by omega), l1Turn_f _ _ (by omega) (by omega)]; simp only [Option.bind_some, rd_nat]; rw [if_pos (by omega), if_pos (by rw [kTab_length]; omega), if_pos (by rw [hW]; omega)]; have hr : s.rnd (rdN kTab n) (rdN W n) = (St.of h).run W (n + 1) := by rw [St.run, ← hs]
  exact ih (n + 1) k (s.rnd (rdN kTab n) (rdN W n)) (by omega) (by omega) hr
theorem l1Block_f (h m : List Int) (fr k : Nat) (hh : h.length = 8) (hm : fr + 64 ≤ m.length) (hb : m.length ≤ 1099511627776) (hk : 70 < k) :
  spec_l1Block.f k h kTab m (fr : Int) = some (compP h (blockAt m fr)) := by
 unfold spec_l1Block.f; rw [l1Schedule_f m fr k hm hb hk]; simp only [Option.bind_some]; rw [hh]; rw [if_pos (by omega), if_pos (by omega), if_pos (by omega), if_pos (by omega), if_pos (by omega), if_pos (by omega), if_pos (by omega), if_pos (by omega)]; exact block_l0 h _ hh (schedP_length _ _) 64 0 k (St.of h) rfl (by omega) rfl
end Go.Proofs.YthnnphinfiobmaaDoor.Z
end
