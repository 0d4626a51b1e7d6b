/- Own texts, joined. -/
import Derived.Test.YtonbmghgbblifaaDoorYFnCodec22
import Derived.Test.YtonbmghgbblifaaDoorYFnCodec21
import Derived.Shelf.Strings.Builder1
import Derived.Shelf.Strings.Builder2
import Derived.Shelf.Strings.BuilderF
import Derived.Shelf.LaysM
import Derived.Shelf.Strconv.Clone
import Derived.Shelf.Strings.Prefix
import Derived.Shelf.Bits.Mul64
import Derived.Shelf.Strings.Repeat
import Derived.Test.YtonbmghgbblifaaDoorProg
import Derived.Deep.DeepCutAuto
section
namespace Go.Proofs.YtonbmghgbblifaaDoor.Z
open Go.RowKit Go.Proofs.YtonbmghgbblifaaDoor Go.Proofs.YtonbmghgbblifaaDoorW.PrintWords Go.Proofs.YtonbmghgbblifaaDoorW.PrintLast
set_option linter.unusedVariables false
set_option linter.unusedSimpArgs false
def nText (s : ByteArray) : ByteArray := (⟨#[78]⟩ : ByteArray) ++ s
theorem catL_n (s : ByteArray) : catL [⟨#[78]⟩, s] = (nText s).data.toList := by simp [catL, nText, ByteArray.data_append]
theorem hashN_any (s : ByteArray) (W w : World) (hW : W = w.alloc (.cells #[.string ⟨#[78]⟩, .string s] 9)) (ht : Tab w) (hs : s.size ≤ 4294967200) :
  Calls Tryd.prog 83 #[.slice (some ⟨w.heap.size, 0, none⟩) 2 2] W fun e w' => e = .returned (hashV (shaL (nText s).data.toList)) ∧ Below w.heap.size w w' := by
 subst hW; have h := hashOf_any w.heap.size [⟨#[78]⟩, s] (w.alloc (.cells #[.string ⟨#[78]⟩, .string s] 9)) (fun j p hj => by
  rw [cell_of_row _ _ _ _ _ _ (heap_alloc_new _ _)]
  match j, hj with
  | 0, hj => simp only [List.getElem?_cons_zero, Option.some.injEq] at hj; subst hj; rfl
  | 1, hj => simp only [List.getElem?_cons_succ, List.getElem?_cons_zero, Option.some.injEq] at hj; subst hj; rfl) (ht.below (by (repeat' (first | exact Below.refl _ _ | (with_reducible assumption) | (with_reducible refine Below.setCell ?_ (by first | (simp; done) | (simp; omega)) _) | refine below_then ?_ (by assumption) | (with_reducible refine below_new2 ?_ _) | (with_reducible refine Below.drew ?_) | (with_reducible refine bdrewN ?_ _))))) (by rw [catL_n, nText, ByteArray.data_append]; simp only [Array.toList_append, List.length_append]; show 1 + s.size ≤ _; omega) (by simp) (by simp)
 rw [catL_n] at h; refine h.mono ?_; rintro e w' ⟨h1, hb⟩; exact ⟨h1, ((Below.refl _ _).alloc (Nat.le_refl _) _).trans (hb.mono (by simp))⟩
def nodeHashV (a b c d : ByteArray) (x : Int) : ByteArray := if (encNode a b c d x).size = 0 then ⟨#[]⟩ else digV (nText (encNode a b c d x)) x
def impl_NodeHash.f (a0_0 a0_1 a0_2 a0_3 : ByteArray) (a1 : Int) : Option ByteArray := some (nodeHashV a0_0 a0_1 a0_2 a0_3 a1)
theorem encNode_size_le (a b c d : ByteArray) (x : Int) : (encNode a b c d x).size ≤ 4000 := by
 unfold encNode
 split
 ·rename_i h
  have hs : ∀ s : ByteArray, (sizedS s).size = 2 + s.size := by intro s; unfold sizedS; rw [ByteArray.size_append, ByteArray.size_append]; rfl
  have hb : ∀ y : Int, (byteS y).size = 1 := fun _ => rfl
  rw [ByteArray.size_append, ByteArray.size_append, ByteArray.size_append, ByteArray.size_append, hs, hs, hb]; unfold nodeOk isW hOk at h; simp only [Bool.and_eq_true, Bool.or_eq_true, decide_eq_true_eq] at h; omega
 ·decide
theorem encNode_wid (a b c d : ByteArray) (x : Int) (h : (encNode a b c d x).size ≠ 0) : widB x = true := by
 unfold encNode at h
 split at h
 ·rename_i hk
  unfold nodeOk isW at hk; simp only [Bool.and_eq_true, decide_eq_true_eq] at hk; unfold widB; rw [decide_eq_true_eq]; omega
 ·exact absurd rfl h
theorem impl_NodeHash.calls (a0_0 a0_1 a0_2 a0_3 : ByteArray) (a1 : Int) (r : ByteArray) (w : World) (h : impl_NodeHash.f a0_0 a0_1 a0_2 a0_3 a1 = some r) (hTab : Tab w := by exact Tab.below (by assumption) (by repeat (first | (with_reducible first | exact HB.out | apply below_alloc | apply pw_below_drewN | apply below_drew1 | refine below_set ?_ (Aside0.out (by assumption))) | exact HB.out))) :
  Calls Tryd.prog 29 #[.agg #[.string a0_0, .string a0_1, .string a0_2, .string a0_3], .int .i64 a1] w fun e w' => e = .returned (.string r) ∧ Below w.heap.size w w' := by
 obtain rfl := Option.some.inj h; clear h; have HT := Lib.hid hTab; clear hTab; have hle := encNode_size_le a0_0 a0_1 a0_2 a0_3 a1
 by_cases h0 : (encNode a0_0 a0_1 a0_2 a0_3 a1).size = 0
 ·have hE : (encNode a0_0 a0_1 a0_2 a0_3 a1).toList.isEmpty = true := by rw [isEmpty_size, decide_eq_true_eq]; exact h0
  have HD : Hid (nodeHashV a0_0 a0_1 a0_2 a0_3 a1 = ⟨#[]⟩) := Lib.hid (by unfold nodeHashV; rw [if_pos h0]); clear h0
  go_enter Tryd.func29, Tryd.ntmps29
  go_wp2_with (go_at_call 27; refine (encodeNode_any _ _ _ _ _ _).mono ?_; rintro e w1 ⟨rfl, hb1'⟩)
  have hb1 : Below w.heap.size w w1 := ((Below.refl _ _).alloc (Nat.le_refl _) _).trans (hb1'.mono (by simp)); clear hb1'
  go_ret
  exact ⟨by rw [HD.out]; rfl, hb1⟩
 ·have hE : (encNode a0_0 a0_1 a0_2 a0_3 a1).toList.isEmpty = false := by rw [isEmpty_size, decide_eq_false_iff_not]; exact h0
  have hw := encNode_wid _ _ _ _ _ h0; have hr : 1 ≤ a1 ∧ a1 ≤ 32 := by unfold widB at hw; exact of_decide_eq_true hw
  have HD : Hid (nodeHashV a0_0 a0_1 a0_2 a0_3 a1 = (shaV (nText (encNode a0_0 a0_1 a0_2 a0_3 a1))).extract 0 a1.toNat) := Lib.hid (by unfold nodeHashV; rw [if_neg h0, digV_yes hw]); clear h0 hw
  go_enter Tryd.func29, Tryd.ntmps29
  go_wp2_with (go_at_call 27; refine (encodeNode_any _ _ _ _ _ _).mono ?_; rintro e w1 ⟨rfl, hb1'⟩)
  have hb1 : Below w.heap.size w w1 := ((Below.refl _ _).alloc (Nat.le_refl _) _).trans (hb1'.mono (by simp)); clear hb1'; refine (hashN_any _ _ w1 rfl (HT.out.below hb1) (by omega)).mono ?_; rintro e w2 ⟨rfl, hb2⟩
  go_wp2_with fail
  refine (text_h _ (shaL_length _) a1 _ hr.1 hr.2).mono ?_; rintro e w3 ⟨rfl, hb3⟩
  go_wp2
  go_ret
  exact ⟨by rw [HD.out]; rfl, (hb1.trans (hb2.mono hb1.size)).trans (hb3.mono (Nat.le_trans hb1.size hb2.size))⟩
end Go.Proofs.YtonbmghgbblifaaDoor.Z
end
section
namespace Go.Proofs
open Go.Shelf
def Tryd.laysM316_ren : Go.Shelf.Ren := ⟨fun | 316 => 152 | n => n, fun | 9 => 9 | 3 => 3 | 4 => 4 | 37 => 47 | 0 => 0 | 127 => 167 | 5 => 5 | n => n, fun | n => n⟩
theorem Tryd.laysM316 : Go.Proofs.LaysM.n316 Tryd.prog Tryd.laysM316_ren := {
 mixed := by kernel_rfl
 f316 := Tryd.func152.trans (congrArg some (by kernel_rfl))
 t0 := Tryd.underlying0
 a0 := Tryd.isAgg0
 z0 := Tryd.sizeOf0
 v0 := Tryd.zeroValue0
 t3 := Tryd.underlying3
 a3 := Tryd.isAgg3
 z3 := Tryd.sizeOf3
 v3 := Tryd.zeroValue3
 t4 := Tryd.underlying4
 a4 := Tryd.isAgg4
 z4 := Tryd.sizeOf4
 v4 := Tryd.zeroValue4
 t9 := Tryd.underlying9
 a9 := Tryd.isAgg9
 z9 := Tryd.sizeOf9
 v9 := Tryd.zeroValue9
 t37 := Tryd.underlying47
 a37 := Tryd.isAgg47
 z37 := Tryd.sizeOf47
 v37 := Tryd.zeroValue47
 t127 := Tryd.underlying167
 a127 := Tryd.isAgg167
 z127 := Tryd.sizeOf167
 v127 := Tryd.zeroValue167
 t5 := Tryd.underlying5
 a5 := Tryd.isAgg5
 z5 := Tryd.sizeOf5
 v5 := Tryd.zeroValue5
 i0 := by kernel_rfl
 i3 := by kernel_rfl
 i4 := by kernel_rfl
 i5 := by kernel_rfl
 i9 := by kernel_rfl
 i37 := by kernel_rfl
 i127 := by kernel_rfl }
open Go.RowKit in
theorem Tryd.stringslite_Clone (s : ByteArray) (w : World) (hlim : s.size ≤ 281474976710656) :
  Calls Tryd.prog 152 #[.string s] w fun e w' => e = .returned (.string s) ∧ Below w.heap.size w w' := Any.stringslite_Clone Tryd.laysM316 s w hlim
def Tryd.lays105_ren : Go.Shelf.Ren := ⟨fun | 105 => 130 | 212 => 147 | 99 => 148 | 165 => 149 | 166 => 122 | 170 => 150 | 169 => 55 | 263 => 155 | 264 => 156 | 206 => 157 | 240 => 143 | 241 => 158 | 276 => 153 | 277 => 167 | n => n, fun | 9 => 9 | 3 => 3 | 4 => 4 | 20 => 20 | 0 => 0 | 46 => 184 | 109 => 206 | 5 => 5 | 72 => 107 | 76 => 177 | 51 => 129 | 146 => 213 | 53 => 200 | 148 => 215 | 70 => 105 | 37 => 47 | 75 => 175 | 127 => 167 | 164 => 211 | 80 => 111 | n => n, fun | n => n⟩
theorem Tryd.lays105 : Go.Proofs.Lays.n105 Tryd.prog Tryd.lays105_ren := {
 mixed := by kernel_rfl
 f99 := Tryd.func148.trans (congrArg some (by kernel_rfl))
 f105 := Tryd.func130.trans (congrArg some (by kernel_rfl))
 f165 := Tryd.func149.trans (congrArg some (by kernel_rfl))
 f166 := Tryd.func122.trans (congrArg some (by kernel_rfl))
 f169 := Tryd.func55.trans (congrArg some (by kernel_rfl))
 f170 := Tryd.func150.trans (congrArg some (by kernel_rfl))
 f206 := Tryd.func157.trans (congrArg some (by kernel_rfl))
 f212 := Tryd.func147.trans (congrArg some (by kernel_rfl))
 f240 := Tryd.func143.trans (congrArg some (by kernel_rfl))
 f241 := Tryd.func158.trans (congrArg some (by kernel_rfl))
 f263 := Tryd.func155.trans (congrArg some (by kernel_rfl))
 f264 := Tryd.func156.trans (congrArg some (by kernel_rfl))
 f276 := Tryd.func153.trans (congrArg some (by kernel_rfl))
 f277 := Tryd.func167.trans (congrArg some (by kernel_rfl))
 t0 := Tryd.underlying0
 a0 := Tryd.isAgg0
 z0 := Tryd.sizeOf0
 v0 := Tryd.zeroValue0
 t3 := Tryd.underlying3
 a3 := Tryd.isAgg3
 z3 := Tryd.sizeOf3
 v3 := Tryd.zeroValue3
 t4 := Tryd.underlying4
 a4 := Tryd.isAgg4
 z4 := Tryd.sizeOf4
 v4 := Tryd.zeroValue4
 t5 := Tryd.underlying5
 a5 := Tryd.isAgg5
 z5 := Tryd.sizeOf5
 v5 := Tryd.zeroValue5
 t9 := Tryd.underlying9
 a9 := Tryd.isAgg9
 z9 := Tryd.sizeOf9
 v9 := Tryd.zeroValue9
 t20 := Tryd.underlying20
 a20 := Tryd.isAgg20
 z20 := Tryd.sizeOf20
 v20 := Tryd.zeroValue20
 t37 := Tryd.underlying47
 a37 := Tryd.isAgg47
 z37 := Tryd.sizeOf47
 v37 := Tryd.zeroValue47
 t46 := Tryd.underlying184
 a46 := Tryd.isAgg184
 z46 := Tryd.sizeOf184
 v46 := Tryd.zeroValue184
 t51 := Tryd.underlying129
 a51 := Tryd.isAgg129
 z51 := Tryd.sizeOf129
 v51 := Tryd.zeroValue129
 t53 := Tryd.underlying200
 a53 := Tryd.isAgg200
 z53 := Tryd.sizeOf200
 v53 := Tryd.zeroValue200
 t70 := Tryd.underlying105
 a70 := Tryd.isAgg105
 z70 := Tryd.sizeOf105
 v70 := Tryd.zeroValue105
 t72 := Tryd.underlying107
 a72 := Tryd.isAgg107
 z72 := Tryd.sizeOf107
 v72 := Tryd.zeroValue107
 t75 := Tryd.underlying175
 a75 := Tryd.isAgg175
 z75 := Tryd.sizeOf175
 v75 := Tryd.zeroValue175
 t76 := Tryd.underlying177
 a76 := Tryd.isAgg177
 z76 := Tryd.sizeOf177
 v76 := Tryd.zeroValue177
 t109 := Tryd.underlying206
 a109 := Tryd.isAgg206
 z109 := Tryd.sizeOf206
 v109 := Tryd.zeroValue206
 t127 := Tryd.underlying167
 a127 := Tryd.isAgg167
 z127 := Tryd.sizeOf167
 v127 := Tryd.zeroValue167
 t146 := Tryd.underlying213
 a146 := Tryd.isAgg213
 z146 := Tryd.sizeOf213
 v146 := Tryd.zeroValue213
 t148 := Tryd.underlying215
 a148 := Tryd.isAgg215
 z148 := Tryd.sizeOf215
 v148 := Tryd.zeroValue215
 t164 := Tryd.underlying211
 a164 := Tryd.isAgg211
 z164 := Tryd.sizeOf211
 v164 := Tryd.zeroValue211 }
theorem Tryd.Builder_Extra_105 : Builder.Extra Tryd.prog Tryd.lays105_ren := {
 sizeBuilder := by kernel_rfl
 liesBuilder := by kernel_rfl
 t5 := Tryd.underlying5
 a5 := Tryd.isAgg5
 z5 := Tryd.sizeOf5
 v5 := Tryd.zeroValue5
 infoByte := by kernel_rfl
 cellsByte := by kernel_rfl
 sizeByte := by kernel_rfl
 neB5 := by decide }
open Go.RowKit Go.Lib in
theorem Tryd.strings_Repeat (s : ByteArray) (c : Nat) (w : World) (hc : c ≤ 9223372036854775807) (hlen : s.size * c ≤ 140737488355328) :
  Calls Tryd.prog 130 #[.string s, .int .i64 c] w fun e w' => e = .returned (.string ⟨(Lib.repeatL s.data.toList c).toArray⟩) ∧ Below w.heap.size w w' := Any.strings_Repeat Tryd.lays105 Tryd.Builder_Extra_105 s c w hc hlen
end Go.Proofs
end
section
namespace Go.Proofs.YtonbmghgbblifaaDoor.Z
open Go.RowKit Go.Proofs.YtonbmghgbblifaaDoorW.PrintWords Go.Proofs.YtonbmghgbblifaaDoorW.PrintLast Go.Proofs.YtonbmghgbblifaaDoorW.PrintMore
attribute [local go_sem] max2_int min2_int max_two min_two max_three min_three max_four min_four
set_option linter.unusedVariables false
set_option linter.unusedSimpArgs false
def strings_trimLeftByte.l0 : Nat → ByteArray → Int → Option (ByteArray)
 | 0, _, _ => none
 | k + 1, x0, x1 => if (x0.size : Int) > 0 then (if 0 < (x0.size : Int) then (if (bt x0 0) = x1 then (if 1 ≤ (x0.size : Int) then (strings_trimLeftByte.l0 k (x0.extract 1 x0.size) x1) else (none)) else (some x0)) else (none)) else (some x0)
def strings_trimLeftByte.f (k : Nat) (a0 : ByteArray) (a1 : Int) : Option (ByteArray) := strings_trimLeftByte.l0 k a0 a1
set_option maxHeartbeats 8000000 in
set_option maxRecDepth 100000 in
theorem strings_trimLeftByte.calls (k : Nat) (a0 : ByteArray) (a1 : Int) (r : ByteArray) (w : World) (h : strings_trimLeftByte.f k a0 a1 = some r) :
  Calls Tryd.prog 159 #[.string a0, .int .u8 a1] w fun e w' => e = .returned (.string r) ∧ Drawn0 w w' := by
 have H : (strings_trimLeftByte.l0 k a0 a1) = some r := h; clear h; have H' := Aside0.mk H; clear H
 go_enter Tryd.func159, Tryd.ntmps159
 go_wp2
 go_loopg [0] k (fun kq v0 w' => ∃ (x0_1 : ByteArray), v0 = .string x0_1 ∧ Aside0 (strings_trimLeftByte.l0 kq x0_1 a1 = some r) ∧ Aside0 (kq ≤ k) ∧ Drawn0 w w')
 case atStart => exact ⟨(a0), (by first | rfl | (simp; done) | (simp [*]; done)), H', ⟨Nat.le_refl _⟩, by repeat (first | exact Drawn0.refl _ | apply Drawn0.step)⟩
 case round =>
  clear H'
  try clear c1
  try clear p2
  obtain ⟨x0_1, rfl, HA, HK1, ⟨m1, rfl⟩⟩ := hrel
  cases gk with
  | zero => exact absurd HA.out (by simp [strings_trimLeftByte.l0])
  | succ k1 =>
   have H := HA.out; clear HA; simp only [strings_trimLeftByte.l0] at H
   by_cases c3 : (x0_1.size : Int) > 0
   ·rw [if_pos c3] at H; have c3b0 : decide (0 < (x0_1.size : Int)) = true := decide_eq_true c3; have c3b1 : decide (0 < x0_1.size) = true := decide_eq_true (by omega); clear c3
    by_cases c4 : 0 < (x0_1.size : Int)
    ·rw [if_pos c4] at H; have c4b0 : decide (0 < (x0_1.size : Int)) = true := decide_eq_true c4; have c4b1 : decide (0 < x0_1.size) = true := decide_eq_true (by omega); clear c4
     by_cases c6 : (bt x0_1 0) = a1
     ·rw [if_pos c6] at H; have c6b0 : ((bt x0_1 0) == a1) = true := beq_iff_eq.mpr c6; have c6b1 : ((bt x0_1 0) != a1) = false := bne_eq_false_iff_eq.mpr c6; clear c6
      by_cases c7 : 1 ≤ (x0_1.size : Int)
      ·rw [if_pos c7] at H; have c7b0 := eq_true c7; have c7b1 : decide (1 ≤ (x0_1.size : Int)) = true := decide_eq_true c7; clear c7; have H' := Aside0.mk H; clear H; have p5 : 0 ≤ (0 : Int) := (by omega)
       have q5 : 0 < x0_1.size := (by have : (0 : Int) < (x0_1.size : Int) := of_decide_eq_true (by first | (with_reducible assumption) | assumption); omega)
       have hx5 : ∀ h : 0 < x0_1.size, ((x0_1[0]'h).toNat : Int) = bt x0_1 0 := bt_at x0_1 0; clear p5; have qi5 : (0 < (x0_1.size : Int)) = True := eq_true (of_decide_eq_true (by first | (with_reducible assumption) | assumption)); replace q5 := eq_true q5
       go_wp2
       go_roundg k1
       case measure => have := HK1.out; omega
       case rel => exact ⟨(x0_1.extract 1 x0_1.size), (by first | rfl | (simp; done) | (simp [*]; done)), H', ⟨by have := HK1.out; omega⟩, by repeat (first | exact Drawn0.refl _ | apply Drawn0.step)⟩
      ·rw [if_neg c7] at H; exact absurd H (by simp)
     ·rw [if_neg c6] at H; have c6b0 : ((bt x0_1 0) == a1) = false := beq_eq_false_iff_ne.mpr c6; have c6b1 : ((bt x0_1 0) != a1) = true := bne_iff_ne.mpr c6; obtain rfl := Option.some.inj H; have p5 : 0 ≤ (0 : Int) := (by omega)
      have q5 : 0 < x0_1.size := (by have : (0 : Int) < (x0_1.size : Int) := of_decide_eq_true (by first | (with_reducible assumption) | assumption); omega)
      have hx5 : ∀ h : 0 < x0_1.size, ((x0_1[0]'h).toNat : Int) = bt x0_1 0 := bt_at x0_1 0; clear p5; have qi5 : (0 < (x0_1.size : Int)) = True := eq_true (of_decide_eq_true (by first | (with_reducible assumption) | assumption)); replace q5 := eq_true q5
      go_wp2
      go_ret
      exact ⟨by first | rfl | (simp; done) | (simp [*]; done), by repeat (first | exact Drawn0.refl _ | apply Drawn0.step)⟩
    ·rw [if_neg c4] at H; exact absurd H (by simp)
   ·rw [if_neg c3] at H; have c3b0 : decide (0 < (x0_1.size : Int)) = false := decide_eq_false c3; have c3b1 : decide (0 < x0_1.size) = false := decide_eq_false (by omega); clear c3; obtain rfl := Option.some.inj H
    go_wp2
    go_ret
    exact ⟨by first | rfl | (simp; done) | (simp [*]; done), by repeat (first | exact Drawn0.refl _ | apply Drawn0.step)⟩
end Go.Proofs.YtonbmghgbblifaaDoor.Z
end
section
namespace Go.Proofs.YtonbmghgbblifaaDoor.Z
open Go.RowKit Go.Proofs.YtonbmghgbblifaaDoorW.PrintWords Go.Proofs.YtonbmghgbblifaaDoorW.PrintLast Go.Proofs.YtonbmghgbblifaaDoorW.PrintMore
attribute [local go_sem] max2_int min2_int max_two min_two max_three min_three max_four min_four
set_option linter.unusedVariables false
set_option linter.unusedSimpArgs false
def strings_trimRightByte.l0 : Nat → ByteArray → Int → Option (ByteArray)
 | 0, _, _ => none
 | k + 1, x0, x1 => if (x0.size : Int) > 0 then (if 0 ≤ (wrap64 ((x0.size : Int) - 1)) then (if (wrap64 ((x0.size : Int) - 1)) < (x0.size : Int) then (if (bt x0 (wrap64 ((x0.size : Int) - 1))) = x1 then (if (wrap64 ((x0.size : Int) - 1)) ≤ (x0.size : Int) then (strings_trimRightByte.l0 k (x0.extract 0 ((wrap64 ((x0.size : Int) - 1)) : Int).toNat) x1) else (none)) else (some x0)) else (none)) else (none)) else (some x0)
def strings_trimRightByte.f (k : Nat) (a0 : ByteArray) (a1 : Int) : Option (ByteArray) := strings_trimRightByte.l0 k a0 a1
set_option maxHeartbeats 8000000 in
set_option maxRecDepth 100000 in
theorem strings_trimRightByte.calls (k : Nat) (a0 : ByteArray) (a1 : Int) (r : ByteArray) (w : World) (h : strings_trimRightByte.f k a0 a1 = some r) :
  Calls Tryd.prog 160 #[.string a0, .int .u8 a1] w fun e w' => e = .returned (.string r) ∧ Drawn0 w w' := by
 have H : (strings_trimRightByte.l0 k a0 a1) = some r := h; clear h; have H' := Aside0.mk H; clear H
 go_enter Tryd.func160, Tryd.ntmps160
 go_wp2
 go_loopg [0] k (fun kq v0 w' => ∃ (x0_1 : ByteArray), v0 = .string x0_1 ∧ Aside0 (strings_trimRightByte.l0 kq x0_1 a1 = some r) ∧ Aside0 (kq ≤ k) ∧ Drawn0 w w')
 case atStart => exact ⟨(a0), (by first | rfl | (simp; done) | (simp [*]; done)), H', ⟨Nat.le_refl _⟩, by repeat (first | exact Drawn0.refl _ | apply Drawn0.step)⟩
 case round =>
  clear H'
  try clear c1
  try clear p2
  obtain ⟨x0_1, rfl, HA, HK1, ⟨m1, rfl⟩⟩ := hrel
  cases gk with
  | zero => exact absurd HA.out (by simp [strings_trimRightByte.l0])
  | succ k1 =>
   have H := HA.out; clear HA; simp only [strings_trimRightByte.l0] at H
   by_cases c3 : (x0_1.size : Int) > 0
   ·rw [if_pos c3] at H; have c3b0 : decide (0 < (x0_1.size : Int)) = true := decide_eq_true c3; have c3b1 : decide (0 < x0_1.size) = true := decide_eq_true (by omega); clear c3; obtain ⟨ji4, hji4⟩ : ∃ j_ : Int, (wrap64 ((x0_1.size : Int) - 1)) = j_ := ⟨_, rfl⟩
    replace H : (if 0 ≤ (ji4) then (if (ji4) < (x0_1.size : Int) then (if (bt x0_1 (ji4)) = a1 then (if (ji4) ≤ (x0_1.size : Int) then (strings_trimRightByte.l0 k1 (x0_1.extract 0 ((ji4) : Int).toNat) a1) else (none)) else (some x0_1)) else (none)) else (none)) = some r := by first | (rw [hji4] at H; exact H) | (simp only [hji4] at H ⊢; exact H)
    have hji4w : (IntKind.i64.wrap ((x0_1.size : Int) - 1)) = ji4 := (i64_w _).trans hji4
    by_cases c5 : 0 ≤ (ji4)
    ·rw [if_pos c5] at H; have c5b0 : decide (0 ≤ (ji4)) = true := decide_eq_true c5; clear c5
     by_cases c6 : (ji4) < (x0_1.size : Int)
     ·rw [if_pos c6] at H; have c6b0 : decide ((ji4) < (x0_1.size : Int)) = true := decide_eq_true c6; clear c6
      by_cases c8 : (bt x0_1 (ji4)) = a1
      ·rw [if_pos c8] at H; have c8b0 : ((bt x0_1 (ji4)) == a1) = true := beq_iff_eq.mpr c8; have c8b1 : ((bt x0_1 (ji4)) != a1) = false := bne_eq_false_iff_eq.mpr c8; clear c8; have c9b0 := eq_true (of_decide_eq_true (by first | (with_reducible assumption) | assumption) : 0 ≤ (ji4))
       by_cases c10 : (ji4) ≤ (x0_1.size : Int)
       ·rw [if_pos c10] at H; have c10b0 := eq_true c10; have c10b1 : decide ((ji4) ≤ (x0_1.size : Int)) = true := decide_eq_true c10; clear c10; have H' := Aside0.mk H; clear H; have p7 : 0 ≤ ((ji4) : Int) := of_decide_eq_true (by first | (with_reducible assumption) | assumption); have q7 : (ji4) < (x0_1.size : Int) := of_decide_eq_true (by first | (with_reducible assumption) | assumption); have hx7 := bt_at x0_1 (ji4); replace p7 := eq_true p7; replace q7 := eq_true q7
        go_wp2
        go_roundg k1
        case measure => have := HK1.out; omega
        case rel => exact ⟨(x0_1.extract 0 ((ji4) : Int).toNat), (by first | rfl | (simp; done) | (simp only [← hji4] <;> (first | rfl | simp)) | (simp [*]; done)), H', ⟨by have := HK1.out; omega⟩, by repeat (first | exact Drawn0.refl _ | apply Drawn0.step)⟩
       ·rw [if_neg c10] at H; exact absurd H (by simp)
      ·rw [if_neg c8] at H; have c8b0 : ((bt x0_1 (ji4)) == a1) = false := beq_eq_false_iff_ne.mpr c8; have c8b1 : ((bt x0_1 (ji4)) != a1) = true := bne_iff_ne.mpr c8; obtain rfl := Option.some.inj H; have p7 : 0 ≤ ((ji4) : Int) := of_decide_eq_true (by first | (with_reducible assumption) | assumption); have q7 : (ji4) < (x0_1.size : Int) := of_decide_eq_true (by first | (with_reducible assumption) | assumption); have hx7 := bt_at x0_1 (ji4); replace p7 := eq_true p7; replace q7 := eq_true q7
       go_wp2
       go_ret
       exact ⟨by first | rfl | (simp; done) | (simp only [← hji4] <;> (first | rfl | simp)) | (simp [*]; done), by repeat (first | exact Drawn0.refl _ | apply Drawn0.step)⟩
     ·rw [if_neg c6] at H; exact absurd H (by simp)
    ·rw [if_neg c5] at H; exact absurd H (by simp)
   ·rw [if_neg c3] at H; have c3b0 : decide (0 < (x0_1.size : Int)) = false := decide_eq_false c3; have c3b1 : decide (0 < x0_1.size) = false := decide_eq_false (by omega); clear c3; obtain rfl := Option.some.inj H
    go_wp2
    go_ret
    exact ⟨by first | rfl | (simp; done) | (simp [*]; done), by repeat (first | exact Drawn0.refl _ | apply Drawn0.step)⟩
end Go.Proofs.YtonbmghgbblifaaDoor.Z
end
section
namespace Go.Proofs.YtonbmghgbblifaaDoor.Z
open Go.RowKit Go.Proofs.YtonbmghgbblifaaDoor Go.Proofs.YtonbmghgbblifaaDoorW.PrintWords Go.Proofs.YtonbmghgbblifaaDoorW.PrintLast
set_option linter.unusedVariables false
set_option linter.unusedSimpArgs false
set_option maxRecDepth 100000
def strings_Clone.f (a0 : ByteArray) : Option ByteArray := if a0.size ≤ 281474976710656 then some a0 else none
theorem strings_Clone.calls (a0 r : ByteArray) (w : World) (h : strings_Clone.f a0 = some r) :
  Calls Tryd.prog 133 #[.string a0] w fun e w' => e = .returned (.string r) ∧ Below w.heap.size w w' := by
 unfold strings_Clone.f at h
 split at h
 ·rename_i hle
  obtain rfl := Option.some.inj h; clear h; have HL := Lib.hid hle; clear hle
  go_enter Tryd.func133, Tryd.ntmps133
  go_wp2_with fail
  refine (Tryd.stringslite_Clone a0 w HL.out).mono ?_; rintro e w1 ⟨rfl, hb1⟩
  go_wp2
  go_ret
  exact ⟨rfl, hb1⟩
 ·exact absurd h (by simp)
def zer (s : ByteArray) : Prop := ∀ x ∈ s.data.toList, x = 0
theorem btg (s : ByteArray) (i : Nat) (h : i < s.size) : bt s (i : Int) = ((s.data.toList[i]'h).toNat : Int) := by
 unfold bt; simp [ByteArray.get!, ByteArray.data, Array.getD, h]; rfl
theorem isE_size (h : ByteArray) : h.toList.isEmpty = decide (h.size = 0) := by
 rw [ByteArray.toList_eq, Bool.eq_iff_iff, List.isEmpty_iff, decide_eq_true_eq, ← List.length_eq_zero_iff]; exact Iff.rfl
theorem toNat_zero (x : UInt8) : ((x.toNat : Int) = 0) ↔ x = 0 := by
 constructor
 ·intro h; apply UInt8.toNat_inj.1; simpa using h
 ·rintro rfl; rfl
theorem trimLeft_f : ∀ (n : Nat) (s : ByteArray) (k : Nat), s.size = n → n < k → n ≤ 4611686018427387904 → ∃ t, strings_trimLeftByte.l0 k s 0 = some t ∧ t.size ≤ n ∧ (t.size = 0 ↔ zer s)
 | n, s, 0, hs, hk, hn => absurd hk (by omega)
 | 0, s, k + 1, hs, hk, hn => by
  refine ⟨s, ?_, by omega, ?_⟩
  ·simp only [strings_trimLeftByte.l0]; rw [if_neg (by omega)]
  ·refine ⟨fun _ x hx => ?_, fun _ => hs⟩; have : s.data.toList.length = 0 := hs; rw [List.length_eq_zero_iff.1 this] at hx; cases hx
 | n + 1, s, k + 1, hs, hk, hn => by
  have hl : s.data.toList.length = n + 1 := hs; obtain ⟨x, l, hxl⟩ : ∃ x l, s.data.toList = x :: l := by
   match hd : s.data.toList, hl with
   | x :: l, _ => exact ⟨x, l, rfl⟩
  have hb : bt s 0 = (x.toNat : Int) := by
   have h := btg s 0 (by omega); simp only [hxl, List.getElem_cons_zero] at h; exact h
  simp only [strings_trimLeftByte.l0]; rw [if_pos (by omega), if_pos (by omega), hb]
  by_cases h0 : x = 0
  ·rw [if_pos ((toNat_zero x).2 h0), if_pos (by omega)]; have hs1 : (s.extract 1 s.size).size = n := by rw [ByteArray.size_extract]; omega
   obtain ⟨t, h1, h2, h3⟩ := trimLeft_f n (s.extract 1 s.size) k hs1 (by omega) (by omega); refine ⟨t, h1, by omega, h3.trans ?_⟩; have e : (s.extract 1 s.size).data.toList = l := by
    simp only [ByteArray.data_extract, Array.toList_extract, List.extract, hxl, List.drop_one, List.tail_cons]; rw [hxl, List.length_cons] at hl; exact List.take_of_length_le (by omega)
   unfold zer; rw [e, hxl]; subst h0; simp
  ·rw [if_neg (fun h => h0 ((toNat_zero x).1 h))]; refine ⟨s, rfl, by omega, ?_⟩
   constructor
   ·intro h; omega
   ·intro h; exact absurd (h x (by rw [hxl]; simp)) h0
theorem trimRight_f : ∀ (n : Nat) (s : ByteArray) (k : Nat), s.size = n → n < k → n ≤ 4611686018427387904 → ∃ t, strings_trimRightByte.l0 k s 0 = some t ∧ t.size ≤ n ∧ (zer t ↔ zer s)
 | n, s, 0, hs, hk, hn => absurd hk (by omega)
 | 0, s, k + 1, hs, hk, hn => by
  refine ⟨s, ?_, by omega, Iff.rfl⟩; simp only [strings_trimRightByte.l0]; rw [if_neg (by omega)]
 | n + 1, s, k + 1, hs, hk, hn => by
  have hw : wrap64 ((s.size : Int) - 1) = (n : Int) := by unfold wrap64; omega
  have hl : s.data.toList.length = n + 1 := hs; have hb := btg s n (by omega); simp only [strings_trimRightByte.l0]; rw [if_pos (by omega), hw, if_pos (by omega), if_pos (by omega), hb]
  by_cases h0 : s.data.toList[n]'(by omega) = 0
  ·rw [if_pos ((toNat_zero _).2 h0), if_pos (by omega)]; have hs1 : (s.extract 0 ((n : Int)).toNat).size = n := by rw [ByteArray.size_extract]; omega
   obtain ⟨t, h1, h2, h3⟩ := trimRight_f n (s.extract 0 ((n : Int)).toNat) k hs1 (by omega) (by omega); refine ⟨t, h1, by omega, h3.trans ?_⟩; have e : s.data.toList = (s.extract 0 ((n : Int)).toNat).data.toList ++ [0] := by
    have h4 : (s.extract 0 ((n : Int)).toNat).data.toList = s.data.toList.take n := by
     simp only [ByteArray.data_extract, Array.toList_extract, List.extract, List.drop_zero, Nat.sub_zero]; rfl
    rw [h4, ← h0]; have h5 := (List.take_append_getElem (l := s.data.toList) (i := n) (by omega))
    rw [h5, List.take_of_length_le (by omega)]
   unfold zer; rw [e]
   constructor
   ·intro h x hx
    rcases List.mem_append.1 hx with h7 | h7
    ·exact h x h7
    ·simpa using h7
   ·intro h x hx; exact h x (List.mem_append_left _ hx)
  ·rw [if_neg (fun h => h0 ((toNat_zero _).1 h))]; exact ⟨s, rfl, by omega, Iff.rfl⟩
theorem tr_any (s t : ByteArray) (k : Nat) (h : Hid (strings_trimRightByte.l0 k s 0 = some t)) (w : World) : Calls Tryd.prog 160 #[.string s, .int .u8 0] w fun e w' => e = .returned (.string t) ∧ ∃ n, w' = w.drewN n :=
 (strings_trimRightByte.calls k s 0 t w h.out).mono fun e w' ⟨h1, ⟨n, h2⟩⟩ => ⟨h1, n, h2⟩
theorem tl_any (s t : ByteArray) (k : Nat) (h : Hid (strings_trimLeftByte.l0 k s 0 = some t)) (w : World) : Calls Tryd.prog 159 #[.string s, .int .u8 0] w fun e w' => e = .returned (.string t) ∧ ∃ n, w' = w.drewN n :=
 (strings_trimLeftByte.calls k s 0 t w h.out).mono fun e w' ⟨h1, ⟨n, h2⟩⟩ => ⟨h1, n, h2⟩
theorem trim_any (s : ByteArray) (hs : s.size ≤ 4611686018427387904) (w : World) :
  Calls Tryd.prog 151 #[.string s, .string ⟨#[0]⟩] w fun e w' => (∃ t : ByteArray, e = .returned (.string t) ∧ (t.size = 0 ↔ zer s)) ∧ Below w.heap.size w w' := by
 have hc : (⟨#[0]⟩ : ByteArray).toList.isEmpty = false := by rw [isE_size]; rfl
 by_cases h0 : s.size = 0
 ·have hE : s.toList.isEmpty = true := by rw [isE_size, decide_eq_true_eq]; exact h0
  have HZ : Hid (s.size = 0 ↔ zer s) := Lib.hid (Iff.intro (fun _ x hx => absurd hx (by
   have : s.data.toList.length = 0 := h0; rw [List.length_eq_zero_iff.1 this]; exact List.not_mem_nil)) (fun _ => h0))
  clear h0 hs
  go_enter Tryd.func151, Tryd.ntmps151
  go_wp2
  go_ret
  exact ⟨⟨s, rfl, HZ.out⟩, by (repeat' (first | exact Below.refl _ _ | (with_reducible assumption) | (with_reducible refine Below.setCell ?_ (by first | (simp; done) | (simp; omega)) _) | refine below_then ?_ (by assumption) | (with_reducible refine below_new2 ?_ _) | (with_reducible refine Below.drew ?_) | (with_reducible refine bdrewN ?_ _)))⟩
 ·have hE : s.toList.isEmpty = false := by rw [isE_size, decide_eq_false_iff_not]; exact h0
  obtain ⟨t, h1, h2, h3⟩ := trimRight_f s.size s (s.size + 1) rfl (by omega) hs; obtain ⟨u, h4, h5, h6⟩ := trimLeft_f t.size t (t.size + 1) rfl (by omega) (by omega); have H1 := Lib.hid h1; have H4 := Lib.hid h4; have H6 := Lib.hid (h6.trans h3); clear h1 h2 h3 h4 h5 h6 h0 hs
  go_enter Tryd.func151, Tryd.ntmps151
  go_wp2_with fail
  go_quiet (first | (go_at_call 160; exact Calls.quiet_of (tr_any _ _ _ H1 _)) | (go_at_call 159; exact Calls.quiet_of (tl_any _ _ _ H4 _)))
  go_wp2
  go_ret
  exact ⟨⟨u, rfl, H6.out⟩, by (repeat' (first | exact Below.refl _ _ | (with_reducible assumption) | (with_reducible refine Below.setCell ?_ (by first | (simp; done) | (simp; omega)) _) | refine below_then ?_ (by assumption) | (with_reducible refine below_new2 ?_ _) | (with_reducible refine Below.drew ?_) | (with_reducible refine bdrewN ?_ _)))⟩
instance (s : ByteArray) : Decidable (zer s) := inferInstanceAs (Decidable (∀ x ∈ s.data.toList, x = 0))
def zerB (s : ByteArray) : Bool := decide (zer s)
def impl_zeros.f (a0 : ByteArray) : Option Bool := if a0.size ≤ 4611686018427387904 then some (zerB a0) else none
theorem impl_zeros.calls (a0 : ByteArray) (r : Bool) (w : World) (h : impl_zeros.f a0 = some r) :
  Calls Tryd.prog 132 #[.string a0] w fun e w' => e = .returned (.bool r) ∧ Below w.heap.size w w' := by
 unfold impl_zeros.f at h
 split at h
 ·rename_i hle
  have hr := Option.some.inj h; have HR := Lib.hid hr; clear h hr; have HL := Lib.hid hle; clear hle
  go_enter Tryd.func132, Tryd.ntmps132
  go_wp2_with fail
  refine (trim_any a0 HL.out w).mono ?_; rintro e w1 ⟨⟨t, rfl, ht⟩, hb1⟩; have HT := Lib.hid ht; clear ht
  go_wp2
  go_ret
  refine ⟨?_, hb1⟩; rw [← HR.out]; have := HT.out; have h7 : t.toList.isEmpty = zerB a0 := by
   unfold zerB; rw [isE_size]; exact decide_eq_decide.2 this
  show Ending.returned (.bool t.toList.isEmpty) = _; rw [h7]
 ·exact absurd h (by simp)
end Go.Proofs.YtonbmghgbblifaaDoor.Z
end
section
namespace Go.Proofs.YtonbmghgbblifaaDoor.Z
open Go.RowKit Go.Proofs.YtonbmghgbblifaaDoorW.PrintWords Go.Proofs.YtonbmghgbblifaaDoorW.PrintLast Go.Proofs.YtonbmghgbblifaaDoorW.PrintMore
attribute [local go_sem] max2_int min2_int max_two min_two max_three min_three max_four min_four
set_option linter.unusedVariables false
set_option linter.unusedSimpArgs false
def impl_lowFirst.f (a0 : ByteArray) : Option (Int) := if 0 < (a0.size : Int) then (if 1 < (a0.size : Int) then (if 2 < (a0.size : Int) then (if 3 < (a0.size : Int) then (some (Go.bits .or .i64 (Go.bits .or .i64 (Go.bits .or .i64 (wrap64 (bt a0 0)) (wrap64 ((wrap64 (bt a0 1)) * 256))) (wrap64 ((wrap64 (bt a0 2)) * 65536))) (wrap64 ((wrap64 (bt a0 3)) * 16777216)))) else (none)) else (none)) else (none)) else (none)
set_option maxHeartbeats 8000000 in
set_option maxRecDepth 100000 in
theorem impl_lowFirst.calls (a0 : ByteArray) (r : Int) (w : World) (h : impl_lowFirst.f a0 = some r) :
  Calls Tryd.prog 131 #[.string a0] w fun e w' => e = .returned (.int .i64 r) ∧ Drawn0 w w' := by
 have H : (if 0 < (a0.size : Int) then (if 1 < (a0.size : Int) then (if 2 < (a0.size : Int) then (if 3 < (a0.size : Int) then (some (Go.bits .or .i64 (Go.bits .or .i64 (Go.bits .or .i64 (wrap64 (bt a0 0)) (wrap64 ((wrap64 (bt a0 1)) * 256))) (wrap64 ((wrap64 (bt a0 2)) * 65536))) (wrap64 ((wrap64 (bt a0 3)) * 16777216)))) else (none)) else (none)) else (none)) else (none)) = some r := h; clear h
 by_cases c2 : 0 < (a0.size : Int)
 ·rw [if_pos c2] at H; have c2b0 : decide (0 < (a0.size : Int)) = true := decide_eq_true c2; have c2b1 : decide (0 < a0.size) = true := decide_eq_true (by omega); clear c2
  by_cases c4 : 1 < (a0.size : Int)
  ·rw [if_pos c4] at H; have c4b0 : decide (1 < (a0.size : Int)) = true := decide_eq_true c4; have c4b1 : decide (1 < a0.size) = true := decide_eq_true (by omega); clear c4
   by_cases c6 : 2 < (a0.size : Int)
   ·rw [if_pos c6] at H; have c6b0 : decide (2 < (a0.size : Int)) = true := decide_eq_true c6; have c6b1 : decide (2 < a0.size) = true := decide_eq_true (by omega); clear c6
    by_cases c8 : 3 < (a0.size : Int)
    ·rw [if_pos c8] at H; have c8b0 : decide (3 < (a0.size : Int)) = true := decide_eq_true c8; have c8b1 : decide (3 < a0.size) = true := decide_eq_true (by omega); clear c8; obtain rfl := Option.some.inj H; have p3 : 0 ≤ (0 : Int) := (by omega)
     have q3 : 0 < a0.size := (by have : (0 : Int) < (a0.size : Int) := of_decide_eq_true (by first | (with_reducible assumption) | assumption); omega)
     have hx3 : ∀ h : 0 < a0.size, ((a0[0]'h).toNat : Int) = bt a0 0 := bt_at a0 0; clear p3; have qi3 : (0 < (a0.size : Int)) = True := eq_true (of_decide_eq_true (by first | (with_reducible assumption) | assumption)); replace q3 := eq_true q3; have p5 : 0 ≤ (1 : Int) := (by omega)
     have q5 : 1 < a0.size := (by have : (1 : Int) < (a0.size : Int) := of_decide_eq_true (by first | (with_reducible assumption) | assumption); omega)
     have hx5 : ∀ h : 1 < a0.size, ((a0[1]'h).toNat : Int) = bt a0 1 := bt_at a0 1; clear p5; have qi5 : (1 < (a0.size : Int)) = True := eq_true (of_decide_eq_true (by first | (with_reducible assumption) | assumption)); replace q5 := eq_true q5; have p7 : 0 ≤ (2 : Int) := (by omega)
     have q7 : 2 < a0.size := (by have : (2 : Int) < (a0.size : Int) := of_decide_eq_true (by first | (with_reducible assumption) | assumption); omega)
     have hx7 : ∀ h : 2 < a0.size, ((a0[2]'h).toNat : Int) = bt a0 2 := bt_at a0 2; clear p7; have qi7 : (2 < (a0.size : Int)) = True := eq_true (of_decide_eq_true (by first | (with_reducible assumption) | assumption)); replace q7 := eq_true q7; have p9 : 0 ≤ (3 : Int) := (by omega)
     have q9 : 3 < a0.size := (by have : (3 : Int) < (a0.size : Int) := of_decide_eq_true (by first | (with_reducible assumption) | assumption); omega)
     have hx9 : ∀ h : 3 < a0.size, ((a0[3]'h).toNat : Int) = bt a0 3 := bt_at a0 3; clear p9; have qi9 : (3 < (a0.size : Int)) = True := eq_true (of_decide_eq_true (by first | (with_reducible assumption) | assumption)); replace q9 := eq_true q9
     go_enter Tryd.func131, Tryd.ntmps131
     go_wp2
     repeat (go_quiet (fail); try go_wp2)
     go_ret
     exact ⟨by first | rfl | (simp; done) | (simp [*]; done), by repeat (first | exact Drawn0.refl _ | apply Drawn0.step)⟩
    ·rw [if_neg c8] at H; exact absurd H (by simp)
   ·rw [if_neg c6] at H; exact absurd H (by simp)
  ·rw [if_neg c4] at H; exact absurd H (by simp)
 ·rw [if_neg c2] at H; exact absurd H (by simp)
end Go.Proofs.YtonbmghgbblifaaDoor.Z
end
section
namespace Go.Proofs.YtonbmghgbblifaaDoor.Z
open Go.RowKit Go.Proofs.YtonbmghgbblifaaDoor Go.Proofs.YtonbmghgbblifaaDoorW.PrintWords Go.Proofs.YtonbmghgbblifaaDoorW.PrintLast
set_option linter.unusedVariables false
set_option linter.unusedSimpArgs false
set_option maxRecDepth 100000
def parts (s : ByteArray) : Nat → List UInt8
 | 0 => []
 | m + 1 => parts s m ++ (s.extract (64 * m) (64 * m + 63)).data.toList
theorem parts_length (s : ByteArray) : ∀ m, 64 * m ≤ s.size → (parts s m).length = 63 * m
 | 0, _ => rfl
 | m + 1, h => by
  have h1 := parts_length s m (by omega); have h2 : (s.extract (64 * m) (64 * m + 63)).data.toList.length = 63 := by
   show (s.extract (64 * m) (64 * m + 63)).size = 63; rw [ByteArray.size_extract]; omega
  rw [parts, List.length_append, h1, h2]; omega
def marked (s : ByteArray) (c : Nat) : Prop := ∀ i, i < c → 0 < i → bt s ((64 * i + 63 : Nat) : Int) = 77
instance (s : ByteArray) (c : Nat) : Decidable (marked s c) := inferInstanceAs (Decidable (∀ i, i < c → 0 < i → bt s ((64 * i + 63 : Nat) : Int) = 77))
def body (s : ByteArray) (c : Nat) : ByteArray := ⟨(parts s c).toArray⟩
theorem markAt (s : ByteArray) (m : Nat) (h : 64 * m + 64 ≤ s.size) : ∀ hh : 63 < (s.extract (m * 64) ((m + 1) * 64)).size, (((s.extract (m * 64) ((m + 1) * 64))[63]'hh).toNat : Int) = bt s ((64 * m + 63 : Nat) : Int) := by
 intro hh; rw [btg s (64 * m + 63) (by omega)]; have e : (s.extract (m * 64) ((m + 1) * 64))[63]'hh = s[m * 64 + 63]'(by omega) := by
  rw [ByteArray.getElem_extract]
 rw [e]; show _ = ((s.data.toList[64 * m + 63]'_).toNat : Int)
 simp only [Nat.mul_comm 64 m]; rfl
theorem partAt (s : ByteArray) (m : Nat) (h : 64 * m + 64 ≤ s.size) : (s.extract (m * 64) ((m + 1) * 64)).extract 0 63 = s.extract (64 * m) (64 * m + 63) := by
 apply ByteArray.ext
 simp only [ByteArray.data_extract, Array.extract_extract]
 congr 1 <;> omega
theorem partSz (s : ByteArray) (m : Nat) (h : 64 * m + 64 ≤ s.size) : ((s.extract (m * 64) ((m + 1) * 64)).extract 0 63).size = 63 := by rw [ByteArray.size_extract, ByteArray.size_extract]; omega
theorem secSz (s : ByteArray) (m : Nat) (h : 64 * m + 64 ≤ s.size) : 63 < (s.extract (m * 64) ((m + 1) * 64)).size := by rw [ByteArray.size_extract]; omega
theorem bldLen (a b m : Nat) (h1 : a = 63 * m) (h2 : b = 63) (h3 : m < 64) : a + b ≤ 140737488355328 := by omega
def rdNode (s : ByteArray) (sector n : Int) : Int × ByteArray × Int × ByteArray × Int :=
 if 1 ≤ n ∧ n ≤ 4000 ∧ (n + 66) / 63 * 64 ≤ s.size ∧ marked s ((n + 66) / 63).toNat ∧ zer ((body s ((n + 66) / 63).toNat).extract (4 + n.toNat) (body s ((n + 66) / 63).toNat).size) then (1, (body s ((n + 66) / 63).toNat).extract 4 (4 + n.toNat), 0, ⟨#[]⟩, wrap64 (sector + (n + 66) / 63)) else (0, ⟨#[]⟩, 0, ⟨#[]⟩, 0)
theorem rd_bad (s : ByteArray) (sec : Int) (n c m : Nat) (hc : c = (n + 66) / 63) (hlt : m < c) (h0 : 0 < m) (hx : bt s ((64 * m + 63 : Nat) : Int) ≠ 77) : rdNode s sec n = (0, ⟨#[]⟩, 0, ⟨#[]⟩, 0) := by
 unfold rdNode; rw [if_neg]; rintro ⟨_, _, _, h4, _⟩; rw [show ((n : Int) + 66) / 63 = (c : Int) by omega] at h4; exact hx (h4 m hlt h0)
theorem exLe {c n k : Nat} (hc : c = (n + 66) / 63) (h : k = 63 * c) : 4 + n ≤ k := by omega
theorem exSz {b : ByteArray} {n m : Nat} (h : b.size = 63 * m) (hm : m ≤ 64) : (b.extract n b.size).size ≤ 4611686018427387904 := by rw [ByteArray.size_extract]; omega
theorem rd_good (s : ByteArray) (sec : Int) (n c : Nat) (bb : ByteArray) (hc : c = (n + 66) / 63) (h1 : 1 ≤ c) (hlo : 1 ≤ (n : Int)) (hhi : (n : Int) ≤ 4000) (hbig : c * 64 ≤ s.size) (hm : marked s c) (hb : body s c = bb) (hz : zerB (bb.extract (4 + n) bb.size) = true) :
  rdNode s sec n = (1, bb.extract 4 (4 + n), 0, ⟨#[]⟩, wrap64 (sec + (c : Int))) := by
 unfold rdNode; have e : ((n : Int) + 66) / 63 = (c : Int) := by omega
 rw [e, Int.toNat_natCast, Int.toNat_natCast, hb, if_pos ⟨by omega, by omega, by omega, hm, of_decide_eq_true hz⟩]
theorem rd_rest (s : ByteArray) (sec : Int) (n c : Nat) (bb : ByteArray) (hc : c = (n + 66) / 63) (hb : body s c = bb) (hz : ¬ zerB (bb.extract (4 + n) bb.size) = true) :
  rdNode s sec n = (0, ⟨#[]⟩, 0, ⟨#[]⟩, 0) := by
 unfold rdNode; have e : ((n : Int) + 66) / 63 = (c : Int) := by omega
 rw [e, Int.toNat_natCast, Int.toNat_natCast, hb, if_neg (fun h => hz (decide_eq_true h.2.2.2.2))]
def impl_readNode.f (a0 : ByteArray) (a1 : Int) : Option (Int × ByteArray × Int × ByteArray × Int) := (impl_lowFirst.f a0).bind fun n => if a0.size ≤ 1099511627776 then some (rdNode a0 a1 n) else none
set_option maxHeartbeats 2000000 in
theorem impl_readNode.calls (a0 : ByteArray) (a1 r1 : Int) (r2 : ByteArray) (r3 : Int) (r4 : ByteArray) (r5 : Int) (w : World) (h : impl_readNode.f a0 a1 = some (r1, r2, r3, r4, r5)) :
  Calls Tryd.prog 93 #[.string a0, .int .i64 a1] w fun e w' => e = .returned (.agg #[.int .i64 r1, .string r2, .int .i64 r3, .string r4, .int .i64 r5]) ∧ Below w.heap.size w w' := by
 unfold impl_readNode.f at h; obtain ⟨n, hn, h⟩ := Option.bind_eq_some_iff.1 h
 split at h
 rotate_left
 ·exact absurd h (by simp)
 rename_i hsz
 have hr := Option.some.inj h; clear h; have HS := Lib.hid hsz; clear hsz; have HN := Lib.hid hn; clear hn; have HR := Lib.hid hr; clear hr
 go_enter Tryd.func93, Tryd.ntmps93
 go_wp2_with fail
 refine (impl_lowFirst.calls a0 n _ HN.out).mono ?_; rintro e w' ⟨rfl, ⟨nd, rfl⟩⟩; obtain ⟨wq, hwq⟩ : ∃ wq, wq = (w.alloc (.cells #[.int .i64 0, .string (⟨#[]⟩ : ByteArray), .int .i64 0, .string (⟨#[]⟩ : ByteArray), .int .i64 0] 61)).drewN nd := ⟨_, rfl⟩
 have hrow : wq.heap[w.heap.size]? = some (.cells #[.int .i64 0, .string (⟨#[]⟩ : ByteArray), .int .i64 0, .string (⟨#[]⟩ : ByteArray), .int .i64 0] 61 (0, 0)) := by rw [hwq]; exact heap_alloc_new _ _
 have hbq : Below w.heap.size w wq := by rw [hwq]; exact bdrewN ((Below.refl _ _).alloc (Nat.le_refl _) _) nd
 have hzq : wq.heap.size = w.heap.size + 1 := by rw [hwq]; simp
 rw [← hwq]; clear hwq
 (have rc0 : wq.cell? ⟨w.heap.size, 0, none⟩ = some (.int .i64 0) := (blk_cell hrow 0).trans rfl; have rc1 : wq.cell? ⟨w.heap.size, 1, none⟩ = some (.string (⟨#[]⟩ : ByteArray)) := (blk_cell hrow 1).trans rfl; have rc2 : wq.cell? ⟨w.heap.size, 2, none⟩ = some (.int .i64 0) := (blk_cell hrow 2).trans rfl; have rc3 : wq.cell? ⟨w.heap.size, 3, none⟩ = some (.string (⟨#[]⟩ : ByteArray)) := (blk_cell hrow 3).trans rfl; have rc4 : wq.cell? ⟨w.heap.size, 4, none⟩ = some (.int .i64 0) := (blk_cell hrow 4).trans rfl; have rf0 := blk_frozen hrow 0; have rf1 := blk_frozen hrow 1; have rf2 := blk_frozen hrow 2; have rf3 := blk_frozen hrow 3; have rf4 := blk_frozen hrow 4)
 by_cases hlo : n < 1
 ·have hz : rdNode a0 a1 n = (0, ⟨#[]⟩, 0, ⟨#[]⟩, 0) := by unfold rdNode; rw [if_neg (by omega)]
  rw [hz] at HR; simp only [Prod.mk.injEq] at HR; obtain ⟨rfl, rfl, rfl, rfl, rfl⟩ := HR.out
  go_wp2_with fail
  refine bodyPost_ret (results_cell_row rfl _ _ w.heap.size 61 #[.int .i64 0, .string (⟨#[]⟩ : ByteArray), .int .i64 0, .string (⟨#[]⟩ : ByteArray), .int .i64 0] (0, 0) _ rfl (by exact blk_put (blk_put (blk_put (blk_put (blk_put hrow 0 _ rfl) 1 _ rfl) 2 _ rfl) 3 _ rfl) 4 _ rfl) Tryd.underlying61 rfl (by kernel_rfl)) rfl ?_; exact ⟨rfl, by (repeat' (first | exact Below.refl _ _ | (with_reducible assumption) | (with_reducible refine Below.setCell ?_ (by first | (simp; done) | (simp; omega)) _) | refine below_then ?_ (by assumption) | (with_reducible refine below_new2 ?_ _) | (with_reducible refine Below.drew ?_) | (with_reducible refine bdrewN ?_ _)))⟩
 by_cases hhi : 4000 < n
 ·have hz : rdNode a0 a1 n = (0, ⟨#[]⟩, 0, ⟨#[]⟩, 0) := by unfold rdNode; rw [if_neg (by omega)]
  rw [hz] at HR; simp only [Prod.mk.injEq] at HR; obtain ⟨rfl, rfl, rfl, rfl, rfl⟩ := HR.out
  go_wp2_with fail
  refine bodyPost_ret (results_cell_row rfl _ _ w.heap.size 61 #[.int .i64 0, .string (⟨#[]⟩ : ByteArray), .int .i64 0, .string (⟨#[]⟩ : ByteArray), .int .i64 0] (0, 0) _ rfl (by exact blk_put (blk_put (blk_put (blk_put (blk_put hrow 0 _ rfl) 1 _ rfl) 2 _ rfl) 3 _ rfl) 4 _ rfl) Tryd.underlying61 rfl (by kernel_rfl)) rfl ?_; exact ⟨rfl, by (repeat' (first | exact Below.refl _ _ | (with_reducible assumption) | (with_reducible refine Below.setCell ?_ (by first | (simp; done) | (simp; omega)) _) | refine below_then ?_ (by assumption) | (with_reducible refine below_new2 ?_ _) | (with_reducible refine Below.drew ?_) | (with_reducible refine bdrewN ?_ _)))⟩
 obtain ⟨n, rfl⟩ : ∃ m : Nat, n = (m : Int) := ⟨n.toNat, by omega⟩
 obtain ⟨c, hc⟩ : ∃ c : Nat, c = (n + 66) / 63 := ⟨_, rfl⟩
 have hcz : (((n : Nat) : Int) + 66) / 63 = (c : Int) := by omega
 have hc1 : 1 ≤ c := by omega
 have hc2 : c ≤ 64 := by omega
 have hsz := HS.out
 by_cases hbig : a0.size < c * 64
 ·have hz : rdNode a0 a1 n = (0, ⟨#[]⟩, 0, ⟨#[]⟩, 0) := by unfold rdNode; rw [hcz, if_neg (by omega)]
  rw [hz] at HR; simp only [Prod.mk.injEq] at HR; obtain ⟨rfl, rfl, rfl, rfl, rfl⟩ := HR.out; clear hcz hsz
  go_wp2_with fail
  refine bodyPost_ret (results_cell_row rfl _ _ w.heap.size 61 #[.int .i64 0, .string (⟨#[]⟩ : ByteArray), .int .i64 0, .string (⟨#[]⟩ : ByteArray), .int .i64 0] (0, 0) _ rfl (by exact blk_put (blk_put (blk_put (blk_put (blk_put hrow 0 _ rfl) 1 _ rfl) 2 _ rfl) 3 _ rfl) 4 _ rfl) Tryd.underlying61 rfl (by kernel_rfl)) rfl ?_; exact ⟨rfl, by (repeat' (first | exact Below.refl _ _ | (with_reducible assumption) | (with_reducible refine Below.setCell ?_ (by first | (simp; done) | (simp; omega)) _) | refine below_then ?_ (by assumption) | (with_reducible refine below_new2 ?_ _) | (with_reducible refine Below.drew ?_) | (with_reducible refine bdrewN ?_ _)))⟩
 have hcz2 : (((n : Nat) : Int) + 4 + 63 - 1) / 63 = (c : Int) := by omega
 have HZ := Lib.hid hcz2; clear hcz2
 go_wp2_with fail
 rw [HZ.out]; have HC := Lib.hid hc; clear hc; clear rc0 rc1 rc2 rc3 rc4 rf0 rf1 rf2 rf3 rf4
 go_loopw [33] (fun i wr => ∃ m : Nat, m ≤ c ∧ i = .int .i64 (m : Int) ∧ marked a0 m ∧ Bld 107 (w.heap.size + 1) (w.heap.size + 1) (parts a0 m) wr ∧ wr.heap[w.heap.size]? = some (.cells #[.int .i64 0, .string (⟨#[]⟩ : ByteArray), .int .i64 0, .string (⟨#[]⟩ : ByteArray), .int .i64 0] 61 (0, 0)) ∧ Below w.heap.size w wr) (fun i _ => c - (intOf i).toNat)
 case atStart =>
  refine ⟨0, by omega, rfl, fun i hi => absurd hi (by omega), ?_, blk_alloc hrow _, hbq.alloc (by omega) _⟩; have h0 := Bld.fresh 107 wq; rw [hzq] at h0; exact h0
 case round =>
  obtain ⟨m, hm, rfl, hmk, hB, hrw, hb⟩ := hrel; have HB := Lib.hid hB; clear hB; have HM := Lib.hid hmk; clear hmk; clear hrow
  (have rc0 : wr.cell? ⟨w.heap.size, 0, none⟩ = some (.int .i64 0) := (blk_cell hrw 0).trans rfl; have rc1 : wr.cell? ⟨w.heap.size, 1, none⟩ = some (.string (⟨#[]⟩ : ByteArray)) := (blk_cell hrw 1).trans rfl; have rc2 : wr.cell? ⟨w.heap.size, 2, none⟩ = some (.int .i64 0) := (blk_cell hrw 2).trans rfl; have rc3 : wr.cell? ⟨w.heap.size, 3, none⟩ = some (.string (⟨#[]⟩ : ByteArray)) := (blk_cell hrw 3).trans rfl; have rc4 : wr.cell? ⟨w.heap.size, 4, none⟩ = some (.int .i64 0) := (blk_cell hrw 4).trans rfl; have rf0 := blk_frozen hrw 0; have rf1 := blk_frozen hrw 1; have rf2 := blk_frozen hrw 2; have rf3 := blk_frozen hrw 3; have rf4 := blk_frozen hrw 4)
  by_cases hlt : m < c
  ·by_cases hm0 : m = 0
   ·subst hm0; have HBASE := Lib.hid HB.out.base; have HPS : Hid (((a0.extract 0 64).extract 0 63).size = 63) := Lib.hid (by rw [ByteArray.size_extract, ByteArray.size_extract]; omega); have HPA : Hid (((a0.extract 0 64).extract 0 63) = a0.extract (64 * 0) (64 * 0 + 63)) := Lib.hid (partAt a0 0 (by omega))
    go_wp2_with fail
    have hbase := HBASE.out; refine (writeString_any 107 liesBuilder (w.heap.size + 1) (w.heap.size + 1) _ _ _ HB.out (by rw [HPS.out]; simp [parts]) (by omega)).mono ?_; rintro e w1 ⟨rfl, hB1, hb1⟩
    go_wp2
    go_roundw
    case rel =>
     refine ⟨1, by omega, by go_num, fun i hi h0 => absurd hi (by omega), ?_, (hb1.block _ (by omega)).trans hrw, hb.trans (hb1.mono (by omega))⟩; rw [HPA.out] at hB1; exact hB1
    case measure => simp [intOf]; omega
   ·have h64 : 64 * m + 64 ≤ a0.size := by omega
    have hm64 : m < 64 := by omega
    have hmpos : 0 < m := by omega
    have H0 := Lib.hid h64; have H1 := Lib.hid hm64; have H2 := Lib.hid hmpos; have HL := Lib.hid hlt; have HBASE := Lib.hid (show w.heap.size + 1 ≤ wr.heap.size from Nat.le_of_lt HB.out.base.2); have HBASE2 := Lib.hid (show w.heap.size < wr.heap.size from Nat.lt_of_succ_lt HB.out.base.2); clear h64 hm64 hmpos
    go_wp2_with fail
    ·have hq : ((((a0.extract (m * 64) ((m + 1) * 64))[63]'(secSz a0 m H0.out)).toNat : Int) != 77) = true := by assumption
     have hz : rdNode a0 a1 n = (0, ⟨#[]⟩, 0, ⟨#[]⟩, 0) := rd_bad a0 a1 n c m HC.out HL.out H2.out (by
      rw [markAt a0 m H0.out] at hq; intro e; rw [e] at hq; exact absurd hq (by decide))
     have HR2 := Lib.hid (hz.symm.trans HR.out); clear HR hz; have H2 := HR2.out; simp only [Prod.mk.injEq] at H2; obtain ⟨rfl, rfl, rfl, rfl, rfl⟩ := H2; refine bodyPost_ret (results_cell_row rfl _ _ w.heap.size 61 #[.int .i64 0, .string (⟨#[]⟩ : ByteArray), .int .i64 0, .string (⟨#[]⟩ : ByteArray), .int .i64 0] (0, 0) _ rfl (by exact blk_put (blk_put (blk_put (blk_put (blk_put hrw 0 _ rfl) 1 _ rfl) 2 _ rfl) 3 _ rfl) 4 _ rfl) Tryd.underlying61 rfl (by kernel_rfl)) rfl ?_; exact ⟨rfl, by (repeat' (first | exact Below.refl _ _ | (with_reducible assumption) | (with_reducible refine Below.setCell ?_ (by first | (simp; done) | (simp; omega)) _) | refine below_then ?_ (by assumption) | (with_reducible refine below_new2 ?_ _) | (with_reducible refine Below.drew ?_) | (with_reducible refine bdrewN ?_ _)))⟩
    ·have hq : ((((a0.extract (m * 64) ((m + 1) * 64))[63]'(secSz a0 m H0.out)).toNat : Int) != 77) = false := by assumption
     rw [markAt a0 m H0.out, bne_eq_false_iff_eq] at hq; have HQ := Lib.hid hq; clear hq; refine (writeString_any 107 liesBuilder (w.heap.size + 1) (w.heap.size + 1) _ _ _ HB.out (bldLen _ _ m (parts_length a0 m (Nat.le_trans (Nat.le_add_right _ 64) H0.out)) (partSz a0 m H0.out) H1.out) HBASE.out).mono ?_; rintro e w1 ⟨rfl, hB1, hb1⟩; rw [partAt a0 m H0.out] at hB1; have HB1 := Lib.hid hB1; clear hB1; have HM2 : Hid (marked a0 (m + 1)) := Lib.hid (by
      intro i hi h0
      rcases Nat.lt_or_ge i m with h | h
      ·exact HM.out i h h0
      ·obtain rfl : i = m := Nat.le_antisymm (Nat.le_of_lt_succ hi) h; exact HQ.out)
     go_wp2
     go_roundw
     case rel => exact ⟨m + 1, HL.out, by first | rfl | go_num, HM2.out, HB1.out, (hb1.block _ (Nat.lt_succ_self _)).trans hrw, hb.trans (hb1.mono (Nat.le_succ _))⟩
     case measure => simp [intOf]; exact Nat.sub_lt_sub_left HL.out (Nat.lt_succ_self m)
  ·obtain rfl : m = c := by omega
   have hm64 : m ≤ 64 := hc2; have HBASE := Lib.hid HB.out.base; have HPL := Lib.hid (parts_length a0 m (by omega)); have HNE : Hid (parts a0 m ≠ []) := Lib.hid (by intro e; have hpl := HPL.out; rw [e] at hpl; simp at hpl; omega)
   go_wp2_with fail
   refine (string_any 107 _ _ _ _ HB.out HNE.out).mono ?_; rintro e w1 ⟨rfl, hb1⟩; have HBS : Hid ((⟨(parts a0 m).toArray⟩ : ByteArray).size = 63 * m) := Lib.hid HPL.out; have HMK : Hid (marked a0 m) := HM; obtain ⟨bb, hbb⟩ : ∃ bb, (⟨(parts a0 m).toArray⟩ : ByteArray) = bb := ⟨_, rfl⟩
   rw [hbb] at HBS ⊢; have HBB : Hid (body a0 m = bb) := Lib.hid hbb; clear hbb; have hle : 4 + n ≤ bb.size := exLe HC.out HBS.out; have hrw1 := (hb1.block _ (Nat.lt_succ_self _)).trans hrw; have hb01 := hb.trans (hb1.mono (Nat.le_succ _)); clear rc0 rc1 rc2 rc3 rc4 rf0 rf1 rf2 rf3 rf4
   go_wp2_with fail
   refine (impl_zeros.calls _ (zerB (bb.extract (4 + n) bb.size)) _ (by unfold impl_zeros.f; rw [if_pos (exSz HBS.out hm64)])).mono ?_; rintro e w2 ⟨rfl, hb2⟩; have hrw2 := (hb2.block _ (blk_lt hrw1)).trans hrw1; have hb02 := hb01.trans (hb2.mono hb01.size); clear hrw hrw1
   (have rc0 : w2.cell? ⟨w.heap.size, 0, none⟩ = some (.int .i64 0) := (blk_cell hrw2 0).trans rfl; have rc1 : w2.cell? ⟨w.heap.size, 1, none⟩ = some (.string (⟨#[]⟩ : ByteArray)) := (blk_cell hrw2 1).trans rfl; have rc2 : w2.cell? ⟨w.heap.size, 2, none⟩ = some (.int .i64 0) := (blk_cell hrw2 2).trans rfl; have rc3 : w2.cell? ⟨w.heap.size, 3, none⟩ = some (.string (⟨#[]⟩ : ByteArray)) := (blk_cell hrw2 3).trans rfl; have rc4 : w2.cell? ⟨w.heap.size, 4, none⟩ = some (.int .i64 0) := (blk_cell hrw2 4).trans rfl; have rf0 := blk_frozen hrw2 0; have rf1 := blk_frozen hrw2 1; have rf2 := blk_frozen hrw2 2; have rf3 := blk_frozen hrw2 3; have rf4 := blk_frozen hrw2 4)
   by_cases hz : zerB (bb.extract (4 + n) bb.size) = true
   ·have hv := rd_good a0 a1 n m bb HC.out hc1 hlo hhi (Nat.not_lt.1 hbig) HMK.out HBB.out hz; have HR2 := Lib.hid (hv.symm.trans HR.out); clear HR hv; have H2 := HR2.out; simp only [Prod.mk.injEq] at H2; obtain ⟨rfl, rfl, rfl, rfl, rfl⟩ := H2; have hle4 : 4 ≤ 4 + n := Nat.le_add_right _ _
    go_wp2_with fail
    refine bodyPost_ret (results_cell_row rfl _ _ w.heap.size 61 #[.int .i64 1, .string (bb.extract 4 (4 + n)), .int .i64 0, .string (⟨#[]⟩ : ByteArray), .int .i64 (wrap64 (a1 + (m : Int)))] (0, 0) _ rfl (by exact blk_put (blk_put (blk_put (blk_put (blk_put hrw2 0 _ rfl) 1 _ rfl) 2 _ rfl) 3 _ rfl) 4 _ rfl) Tryd.underlying61 rfl (by kernel_rfl)) rfl ?_; exact ⟨rfl, by (repeat' (first | exact Below.refl _ _ | (with_reducible assumption) | (with_reducible refine Below.setCell ?_ (by first | (simp; done) | (simp; omega)) _) | refine below_then ?_ (by assumption) | (with_reducible refine below_new2 ?_ _) | (with_reducible refine Below.drew ?_) | (with_reducible refine bdrewN ?_ _)))⟩
   ·have hv := rd_rest a0 a1 n m bb HC.out HBB.out hz; have HR2 := Lib.hid (hv.symm.trans HR.out); clear HR hv; have H2 := HR2.out; simp only [Prod.mk.injEq] at H2; obtain ⟨rfl, rfl, rfl, rfl, rfl⟩ := H2; have hzf : zerB (bb.extract (4 + n) bb.size) = false := Bool.eq_false_iff.2 hz; clear hz
    go_wp2_with fail
    refine bodyPost_ret (results_cell_row rfl _ _ w.heap.size 61 #[.int .i64 0, .string (⟨#[]⟩ : ByteArray), .int .i64 0, .string (⟨#[]⟩ : ByteArray), .int .i64 0] (0, 0) _ rfl (by exact blk_put (blk_put (blk_put (blk_put (blk_put hrw2 0 _ rfl) 1 _ rfl) 2 _ rfl) 3 _ rfl) 4 _ rfl) Tryd.underlying61 rfl (by kernel_rfl)) rfl ?_; exact ⟨rfl, by (repeat' (first | exact Below.refl _ _ | (with_reducible assumption) | (with_reducible refine Below.setCell ?_ (by first | (simp; done) | (simp; omega)) _) | refine below_then ?_ (by assumption) | (with_reducible refine below_new2 ?_ _) | (with_reducible refine Below.drew ?_) | (with_reducible refine bdrewN ?_ _)))⟩
end Go.Proofs.YtonbmghgbblifaaDoor.Z
end
section
namespace Go.Proofs.YtonbmghgbblifaaDoor.Z
open Go.RowKit Go.Proofs.YtonbmghgbblifaaDoorW.PrintWords Go.Proofs.YtonbmghgbblifaaDoorW.PrintLast Go.Proofs.YtonbmghgbblifaaDoorW.PrintMore
attribute [local go_sem] max2_int min2_int max_two min_two max_three min_three max_four min_four
set_option linter.unusedVariables false
set_option linter.unusedSimpArgs false
def impl_readCommit.f (a0 : ByteArray) (a1 : Int) : Option (Int × ByteArray × Int × ByteArray × Int) := (impl_lowFirst.f a0).bind fun t920002 => (if 4 < (a0.size : Int) then (if t920002 < 1 then (some (0, (⟨#[]⟩ : ByteArray), 0, (⟨#[]⟩ : ByteArray), 0)) else (if t920002 > 1000000 then (some (0, (⟨#[]⟩ : ByteArray), 0, (⟨#[]⟩ : ByteArray), 0)) else (if (wrap64 (bt a0 4)) > 32 then (some (0, (⟨#[]⟩ : ByteArray), 0, (⟨#[]⟩ : ByteArray), 0)) else (if 0 ≤ (wrap64 (5 + (wrap64 (bt a0 4)))) then (if (wrap64 (5 + (wrap64 (bt a0 4)))) ≤ 63 then (if 63 ≤ (a0.size : Int) then ((impl_zeros.f (a0.extract ((wrap64 (5 + (wrap64 (bt a0 4)))) : Int).toNat 63)).bind fun t920003 => (if t920003 = true then (if 5 ≤ (wrap64 (5 + (wrap64 (bt a0 4)))) then (if (wrap64 (5 + (wrap64 (bt a0 4)))) ≤ (a0.size : Int) then ((strings_Clone.f (a0.extract 5 ((wrap64 (5 + (wrap64 (bt a0 4)))) : Int).toNat)).bind fun t920004 => (some (2, (⟨#[]⟩ : ByteArray), t920002, t920004, wrap64 (a1 + 1)))) else (none)) else (none)) else (some (0, (⟨#[]⟩ : ByteArray), 0, (⟨#[]⟩ : ByteArray), 0)))) else (none)) else (none)) else (none))))) else (none))
set_option maxHeartbeats 8000000 in
set_option maxRecDepth 100000 in
theorem impl_readCommit.calls (a0 : ByteArray) (a1 : Int) (r1 : Int) (r2 : ByteArray) (r3 : Int) (r4 : ByteArray) (r5 : Int) (w : World) (h : impl_readCommit.f a0 a1 = some (r1, r2, r3, r4, r5)) :
  Calls Tryd.prog 92 #[.string a0, .int .i64 a1] w fun e w' => e = .returned (.agg #[.int .i64 r1, .string r2, .int .i64 r3, .string r4, .int .i64 r5]) ∧ Below w.heap.size w w' := by
 have hu61 := Tryd.underlying61; have HB := Aside0.mk (Below.refl w.heap.size w); have H : ((impl_lowFirst.f a0).bind fun t920002 => (if 4 < (a0.size : Int) then (if t920002 < 1 then (some (0, (⟨#[]⟩ : ByteArray), 0, (⟨#[]⟩ : ByteArray), 0)) else (if t920002 > 1000000 then (some (0, (⟨#[]⟩ : ByteArray), 0, (⟨#[]⟩ : ByteArray), 0)) else (if (wrap64 (bt a0 4)) > 32 then (some (0, (⟨#[]⟩ : ByteArray), 0, (⟨#[]⟩ : ByteArray), 0)) else (if 0 ≤ (wrap64 (5 + (wrap64 (bt a0 4)))) then (if (wrap64 (5 + (wrap64 (bt a0 4)))) ≤ 63 then (if 63 ≤ (a0.size : Int) then ((impl_zeros.f (a0.extract ((wrap64 (5 + (wrap64 (bt a0 4)))) : Int).toNat 63)).bind fun t920003 => (if t920003 = true then (if 5 ≤ (wrap64 (5 + (wrap64 (bt a0 4)))) then (if (wrap64 (5 + (wrap64 (bt a0 4)))) ≤ (a0.size : Int) then ((strings_Clone.f (a0.extract 5 ((wrap64 (5 + (wrap64 (bt a0 4)))) : Int).toNat)).bind fun t920004 => (some (2, (⟨#[]⟩ : ByteArray), t920002, t920004, wrap64 (a1 + 1)))) else (none)) else (none)) else (some (0, (⟨#[]⟩ : ByteArray), 0, (⟨#[]⟩ : ByteArray), 0)))) else (none)) else (none)) else (none))))) else (none))) = some (r1, r2, r3, r4, r5) := h; clear h; replace H := Option.bind_eq_some_iff.mp H; obtain ⟨t920002, A30, H⟩ := H; replace H : (if 4 < (a0.size : Int) then (if t920002 < 1 then (some (0, (⟨#[]⟩ : ByteArray), 0, (⟨#[]⟩ : ByteArray), 0)) else (if t920002 > 1000000 then (some (0, (⟨#[]⟩ : ByteArray), 0, (⟨#[]⟩ : ByteArray), 0)) else (if (wrap64 (bt a0 4)) > 32 then (some (0, (⟨#[]⟩ : ByteArray), 0, (⟨#[]⟩ : ByteArray), 0)) else (if 0 ≤ (wrap64 (5 + (wrap64 (bt a0 4)))) then (if (wrap64 (5 + (wrap64 (bt a0 4)))) ≤ 63 then (if 63 ≤ (a0.size : Int) then ((impl_zeros.f (a0.extract ((wrap64 (5 + (wrap64 (bt a0 4)))) : Int).toNat 63)).bind fun t920003 => (if t920003 = true then (if 5 ≤ (wrap64 (5 + (wrap64 (bt a0 4)))) then (if (wrap64 (5 + (wrap64 (bt a0 4)))) ≤ (a0.size : Int) then ((strings_Clone.f (a0.extract 5 ((wrap64 (5 + (wrap64 (bt a0 4)))) : Int).toNat)).bind fun t920004 => (some (2, (⟨#[]⟩ : ByteArray), t920002, t920004, wrap64 (a1 + 1)))) else (none)) else (none)) else (some (0, (⟨#[]⟩ : ByteArray), 0, (⟨#[]⟩ : ByteArray), 0)))) else (none)) else (none)) else (none))))) else (none)) = some (r1, r2, r3, r4, r5) := H; have A3 := Aside0.mk A30; clear A30
 by_cases c4 : 4 < (a0.size : Int)
 ·rw [if_pos c4] at H; have c4b0 : decide (4 < (a0.size : Int)) = true := decide_eq_true c4; have c4b1 : decide (4 < a0.size) = true := decide_eq_true (by omega); clear c4
  by_cases c6 : t920002 < 1
  ·rw [if_pos c6] at H; have c6b0 : decide (t920002 < 1) = true := decide_eq_true c6; clear c6; simp only [Option.some.injEq, Prod.mk.injEq] at H; obtain ⟨rfl, rfl, rfl, rfl, rfl⟩ := H
   go_enter Tryd.func92, Tryd.ntmps92
   go_wp2_with (first | ((with_reducible refine gate_dst (N := 4) rfl ?_); refine box_event ?hg (N := 4) ?hd (cs := #[.int .i64 0, .string (⟨#[]⟩ : ByteArray), .int .i64 0, .string (⟨#[]⟩ : ByteArray), .int .i64 0]) (t := 61) ?hr ?_; (case hd => rfl); (case hg => rfl); (case hr => first | (go_simp; done) | (go_simp; rfl)); intro gb920001 hg w7 hbox hb; have n0_ := Aside0.mk (below_step (by repeat (first | (with_reducible first | exact HB.out | apply below_alloc | apply pw_below_drewN | apply below_drew1) | exact HB.out)) hb); have n1_ := Aside0.mk (hbox); have n2_ := Aside0.mk ((by rw [hg]; exact (below_size (by repeat (first | (with_reducible first | exact HB.out | apply below_alloc | apply pw_below_drewN | apply below_drew1) | exact HB.out))) : w.heap.size ≤ gb920001)); have n3_ := Aside0.mk ((by rw [hg]; exact (below_size (by repeat (first | (with_reducible first | exact HB.out | apply below_alloc | apply pw_below_drewN | apply below_drew1) | exact HB.out))) : w.heap.size ≤ gb920001)); clear HB; have HB := n0_; have BK920001 := n1_; have GW920001 := n2_; have GE920001 := n3_; clear n0_ n1_ n2_ n3_; clear hb hbox hg) | (go_at_call 131; (with_reducible refine (impl_lowFirst.calls a0 t920002 _ A3.out).mono ?_); rintro e w' ⟨rfl, ⟨nd, rfl⟩⟩; (try first | exact ⟨rfl, _, World.drewN_drewN _ _ _⟩ | exact ⟨rfl, _, Eq.trans (World.drewN_drewN _ _ _) (congrArg (World.drewN _) (Nat.add_assoc _ _ _))⟩); have p5 : 0 ≤ (4 : Int) := (by omega); have q5 : 4 < a0.size := (by have : (4 : Int) < (a0.size : Int) := of_decide_eq_true (by first | (with_reducible assumption) | assumption); omega); have hx5 : ∀ h : 4 < a0.size, ((a0[4]'h).toNat : Int) = bt a0 4 := bt_at a0 4; clear p5; have qi5 : (4 < (a0.size : Int)) = True := eq_true (of_decide_eq_true (by first | (with_reducible assumption) | assumption)); replace q5 := eq_true q5; have hcz8_0 : w7.cell? ⟨gb920001, 0, none⟩ = some (.int .i64 0) := (blk_cell BK920001.out 0).trans rfl; have hcz8_1 : w7.cell? ⟨gb920001, 1, none⟩ = some (.string (⟨#[]⟩ : ByteArray)) := (blk_cell BK920001.out 1).trans rfl; have hcz8_2 : w7.cell? ⟨gb920001, 2, none⟩ = some (.int .i64 0) := (blk_cell BK920001.out 2).trans rfl; have hcz8_3 : w7.cell? ⟨gb920001, 3, none⟩ = some (.string (⟨#[]⟩ : ByteArray)) := (blk_cell BK920001.out 3).trans rfl; have hcz8_4 : w7.cell? ⟨gb920001, 4, none⟩ = some (.int .i64 0) := (blk_cell BK920001.out 4).trans rfl; have hfz8_0 := blk_frozen BK920001.out 0; have hfz8_1 := blk_frozen BK920001.out 1; have hfz8_2 := blk_frozen BK920001.out 2; have hfz8_3 := blk_frozen BK920001.out 3; have hfz8_4 := blk_frozen BK920001.out 4))
   repeat (go_quiet (first | ((with_reducible refine gate_dst (N := 4) rfl ?_); refine box_event ?hg (N := 4) ?hd (cs := #[.int .i64 0, .string (⟨#[]⟩ : ByteArray), .int .i64 0, .string (⟨#[]⟩ : ByteArray), .int .i64 0]) (t := 61) ?hr ?_; (case hd => rfl); (case hg => rfl); (case hr => first | (go_simp; done) | (go_simp; rfl)); intro gb920001 hg w7 hbox hb; have n0_ := Aside0.mk (below_step (by repeat (first | (with_reducible first | exact HB.out | apply below_alloc | apply pw_below_drewN | apply below_drew1) | exact HB.out)) hb); have n1_ := Aside0.mk (hbox); have n2_ := Aside0.mk ((by rw [hg]; exact (below_size (by repeat (first | (with_reducible first | exact HB.out | apply below_alloc | apply pw_below_drewN | apply below_drew1) | exact HB.out))) : w.heap.size ≤ gb920001)); have n3_ := Aside0.mk ((by rw [hg]; exact (below_size (by repeat (first | (with_reducible first | exact HB.out | apply below_alloc | apply pw_below_drewN | apply below_drew1) | exact HB.out))) : w.heap.size ≤ gb920001)); clear HB; have HB := n0_; have BK920001 := n1_; have GW920001 := n2_; have GE920001 := n3_; clear n0_ n1_ n2_ n3_; clear hb hbox hg) | (go_at_call 131; (with_reducible refine (impl_lowFirst.calls a0 t920002 _ A3.out).mono ?_); rintro e w' ⟨rfl, ⟨nd, rfl⟩⟩; (try first | exact ⟨rfl, _, World.drewN_drewN _ _ _⟩ | exact ⟨rfl, _, Eq.trans (World.drewN_drewN _ _ _) (congrArg (World.drewN _) (Nat.add_assoc _ _ _))⟩); have p5 : 0 ≤ (4 : Int) := (by omega); have q5 : 4 < a0.size := (by have : (4 : Int) < (a0.size : Int) := of_decide_eq_true (by first | (with_reducible assumption) | assumption); omega); have hx5 : ∀ h : 4 < a0.size, ((a0[4]'h).toNat : Int) = bt a0 4 := bt_at a0 4; clear p5; have qi5 : (4 < (a0.size : Int)) = True := eq_true (of_decide_eq_true (by first | (with_reducible assumption) | assumption)); replace q5 := eq_true q5; have hcz8_0 : w7.cell? ⟨gb920001, 0, none⟩ = some (.int .i64 0) := (blk_cell BK920001.out 0).trans rfl; have hcz8_1 : w7.cell? ⟨gb920001, 1, none⟩ = some (.string (⟨#[]⟩ : ByteArray)) := (blk_cell BK920001.out 1).trans rfl; have hcz8_2 : w7.cell? ⟨gb920001, 2, none⟩ = some (.int .i64 0) := (blk_cell BK920001.out 2).trans rfl; have hcz8_3 : w7.cell? ⟨gb920001, 3, none⟩ = some (.string (⟨#[]⟩ : ByteArray)) := (blk_cell BK920001.out 3).trans rfl; have hcz8_4 : w7.cell? ⟨gb920001, 4, none⟩ = some (.int .i64 0) := (blk_cell BK920001.out 4).trans rfl; have hfz8_0 := blk_frozen BK920001.out 0; have hfz8_1 := blk_frozen BK920001.out 1; have hfz8_2 := blk_frozen BK920001.out 2; have hfz8_3 := blk_frozen BK920001.out 3; have hfz8_4 := blk_frozen BK920001.out 4)); try go_wp2_with (first | ((with_reducible refine gate_dst (N := 4) rfl ?_); refine box_event ?hg (N := 4) ?hd (cs := #[.int .i64 0, .string (⟨#[]⟩ : ByteArray), .int .i64 0, .string (⟨#[]⟩ : ByteArray), .int .i64 0]) (t := 61) ?hr ?_; (case hd => rfl); (case hg => rfl); (case hr => first | (go_simp; done) | (go_simp; rfl)); intro gb920001 hg w7 hbox hb; have n0_ := Aside0.mk (below_step (by repeat (first | (with_reducible first | exact HB.out | apply below_alloc | apply pw_below_drewN | apply below_drew1) | exact HB.out)) hb); have n1_ := Aside0.mk (hbox); have n2_ := Aside0.mk ((by rw [hg]; exact (below_size (by repeat (first | (with_reducible first | exact HB.out | apply below_alloc | apply pw_below_drewN | apply below_drew1) | exact HB.out))) : w.heap.size ≤ gb920001)); have n3_ := Aside0.mk ((by rw [hg]; exact (below_size (by repeat (first | (with_reducible first | exact HB.out | apply below_alloc | apply pw_below_drewN | apply below_drew1) | exact HB.out))) : w.heap.size ≤ gb920001)); clear HB; have HB := n0_; have BK920001 := n1_; have GW920001 := n2_; have GE920001 := n3_; clear n0_ n1_ n2_ n3_; clear hb hbox hg) | (go_at_call 131; (with_reducible refine (impl_lowFirst.calls a0 t920002 _ A3.out).mono ?_); rintro e w' ⟨rfl, ⟨nd, rfl⟩⟩; (try first | exact ⟨rfl, _, World.drewN_drewN _ _ _⟩ | exact ⟨rfl, _, Eq.trans (World.drewN_drewN _ _ _) (congrArg (World.drewN _) (Nat.add_assoc _ _ _))⟩); have p5 : 0 ≤ (4 : Int) := (by omega); have q5 : 4 < a0.size := (by have : (4 : Int) < (a0.size : Int) := of_decide_eq_true (by first | (with_reducible assumption) | assumption); omega); have hx5 : ∀ h : 4 < a0.size, ((a0[4]'h).toNat : Int) = bt a0 4 := bt_at a0 4; clear p5; have qi5 : (4 < (a0.size : Int)) = True := eq_true (of_decide_eq_true (by first | (with_reducible assumption) | assumption)); replace q5 := eq_true q5; have hcz8_0 : w7.cell? ⟨gb920001, 0, none⟩ = some (.int .i64 0) := (blk_cell BK920001.out 0).trans rfl; have hcz8_1 : w7.cell? ⟨gb920001, 1, none⟩ = some (.string (⟨#[]⟩ : ByteArray)) := (blk_cell BK920001.out 1).trans rfl; have hcz8_2 : w7.cell? ⟨gb920001, 2, none⟩ = some (.int .i64 0) := (blk_cell BK920001.out 2).trans rfl; have hcz8_3 : w7.cell? ⟨gb920001, 3, none⟩ = some (.string (⟨#[]⟩ : ByteArray)) := (blk_cell BK920001.out 3).trans rfl; have hcz8_4 : w7.cell? ⟨gb920001, 4, none⟩ = some (.int .i64 0) := (blk_cell BK920001.out 4).trans rfl; have hfz8_0 := blk_frozen BK920001.out 0; have hfz8_1 := blk_frozen BK920001.out 1; have hfz8_2 := blk_frozen BK920001.out 2; have hfz8_3 := blk_frozen BK920001.out 3; have hfz8_4 := blk_frozen BK920001.out 4)))
   refine bodyPost_ret (results_cell_row rfl _ _ gb920001 61 #[.int .i64 0, .string (⟨#[]⟩ : ByteArray), .int .i64 0, .string (⟨#[]⟩ : ByteArray), .int .i64 0] (0, 0) _ rfl (by (with_reducible repeat (first | refine blk_drewN ?_ _ | refine blk_drew ?_ | refine blk_alloc ?_ _)); refine blk_put (cs := #[.int .i64 0, .string (⟨#[]⟩ : ByteArray), .int .i64 0, .string (⟨#[]⟩ : ByteArray), .int .i64 0]) ?_ 4 _ rfl; (with_reducible repeat (first | refine blk_drewN ?_ _ | refine blk_drew ?_ | refine blk_alloc ?_ _)); refine blk_put (cs := #[.int .i64 0, .string (⟨#[]⟩ : ByteArray), .int .i64 0, .string (⟨#[]⟩ : ByteArray), .int .i64 0]) ?_ 3 _ rfl; (with_reducible repeat (first | refine blk_drewN ?_ _ | refine blk_drew ?_ | refine blk_alloc ?_ _)); refine blk_put (cs := #[.int .i64 0, .string (⟨#[]⟩ : ByteArray), .int .i64 0, .string (⟨#[]⟩ : ByteArray), .int .i64 0]) ?_ 2 _ rfl; (with_reducible repeat (first | refine blk_drewN ?_ _ | refine blk_drew ?_ | refine blk_alloc ?_ _)); refine blk_put (cs := #[.int .i64 0, .string (⟨#[]⟩ : ByteArray), .int .i64 0, .string (⟨#[]⟩ : ByteArray), .int .i64 0]) ?_ 1 _ rfl; (with_reducible repeat (first | refine blk_drewN ?_ _ | refine blk_drew ?_ | refine blk_alloc ?_ _)); refine blk_put (cs := #[.int .i64 0, .string (⟨#[]⟩ : ByteArray), .int .i64 0, .string (⟨#[]⟩ : ByteArray), .int .i64 0]) ?_ 0 _ rfl; (with_reducible repeat (first | refine blk_drewN ?_ _ | refine blk_drew ?_ | refine blk_alloc ?_ _)); exact BK920001.out) Tryd.underlying61 rfl (by kernel_rfl)) rfl ?_; exact ⟨by first | rfl | (simp [errW_none, errW_some] <;> rfl) | (simp [*, errW_none, errW_some] <;> rfl), by repeat (first | (with_reducible first | exact HB.out | apply below_alloc | apply pw_below_drewN | apply below_drew1 | refine below_set ?_ GE920001.out) | exact HB.out)⟩
  ·rw [if_neg c6] at H; have c6b0 : decide (t920002 < 1) = false := decide_eq_false c6; clear c6
   by_cases c9 : t920002 > 1000000
   ·rw [if_pos c9] at H; have c9b0 : decide (1000000 < t920002) = true := decide_eq_true c9; clear c9; simp only [Option.some.injEq, Prod.mk.injEq] at H; obtain ⟨rfl, rfl, rfl, rfl, rfl⟩ := H
    go_enter Tryd.func92, Tryd.ntmps92
    go_wp2_with (first | ((with_reducible refine gate_dst (N := 4) rfl ?_); refine box_event ?hg (N := 4) ?hd (cs := #[.int .i64 0, .string (⟨#[]⟩ : ByteArray), .int .i64 0, .string (⟨#[]⟩ : ByteArray), .int .i64 0]) (t := 61) ?hr ?_; (case hd => rfl); (case hg => rfl); (case hr => first | (go_simp; done) | (go_simp; rfl)); intro gb920001 hg w10 hbox hb; have n0_ := Aside0.mk (below_step (by repeat (first | (with_reducible first | exact HB.out | apply below_alloc | apply pw_below_drewN | apply below_drew1) | exact HB.out)) hb); have n1_ := Aside0.mk (hbox); have n2_ := Aside0.mk ((by rw [hg]; exact (below_size (by repeat (first | (with_reducible first | exact HB.out | apply below_alloc | apply pw_below_drewN | apply below_drew1) | exact HB.out))) : w.heap.size ≤ gb920001)); have n3_ := Aside0.mk ((by rw [hg]; exact (below_size (by repeat (first | (with_reducible first | exact HB.out | apply below_alloc | apply pw_below_drewN | apply below_drew1) | exact HB.out))) : w.heap.size ≤ gb920001)); clear HB; have HB := n0_; have BK920001 := n1_; have GW920001 := n2_; have GE920001 := n3_; clear n0_ n1_ n2_ n3_; clear hb hbox hg) | (go_at_call 131; (with_reducible refine (impl_lowFirst.calls a0 t920002 _ A3.out).mono ?_); rintro e w' ⟨rfl, ⟨nd, rfl⟩⟩; (try first | exact ⟨rfl, _, World.drewN_drewN _ _ _⟩ | exact ⟨rfl, _, Eq.trans (World.drewN_drewN _ _ _) (congrArg (World.drewN _) (Nat.add_assoc _ _ _))⟩); have p5 : 0 ≤ (4 : Int) := (by omega); have q5 : 4 < a0.size := (by have : (4 : Int) < (a0.size : Int) := of_decide_eq_true (by first | (with_reducible assumption) | assumption); omega); have hx5 : ∀ h : 4 < a0.size, ((a0[4]'h).toNat : Int) = bt a0 4 := bt_at a0 4; clear p5; have qi5 : (4 < (a0.size : Int)) = True := eq_true (of_decide_eq_true (by first | (with_reducible assumption) | assumption)); replace q5 := eq_true q5; have hcz11_0 : w10.cell? ⟨gb920001, 0, none⟩ = some (.int .i64 0) := (blk_cell BK920001.out 0).trans rfl; have hcz11_1 : w10.cell? ⟨gb920001, 1, none⟩ = some (.string (⟨#[]⟩ : ByteArray)) := (blk_cell BK920001.out 1).trans rfl; have hcz11_2 : w10.cell? ⟨gb920001, 2, none⟩ = some (.int .i64 0) := (blk_cell BK920001.out 2).trans rfl; have hcz11_3 : w10.cell? ⟨gb920001, 3, none⟩ = some (.string (⟨#[]⟩ : ByteArray)) := (blk_cell BK920001.out 3).trans rfl; have hcz11_4 : w10.cell? ⟨gb920001, 4, none⟩ = some (.int .i64 0) := (blk_cell BK920001.out 4).trans rfl; have hfz11_0 := blk_frozen BK920001.out 0; have hfz11_1 := blk_frozen BK920001.out 1; have hfz11_2 := blk_frozen BK920001.out 2; have hfz11_3 := blk_frozen BK920001.out 3; have hfz11_4 := blk_frozen BK920001.out 4))
    repeat (go_quiet (first | ((with_reducible refine gate_dst (N := 4) rfl ?_); refine box_event ?hg (N := 4) ?hd (cs := #[.int .i64 0, .string (⟨#[]⟩ : ByteArray), .int .i64 0, .string (⟨#[]⟩ : ByteArray), .int .i64 0]) (t := 61) ?hr ?_; (case hd => rfl); (case hg => rfl); (case hr => first | (go_simp; done) | (go_simp; rfl)); intro gb920001 hg w10 hbox hb; have n0_ := Aside0.mk (below_step (by repeat (first | (with_reducible first | exact HB.out | apply below_alloc | apply pw_below_drewN | apply below_drew1) | exact HB.out)) hb); have n1_ := Aside0.mk (hbox); have n2_ := Aside0.mk ((by rw [hg]; exact (below_size (by repeat (first | (with_reducible first | exact HB.out | apply below_alloc | apply pw_below_drewN | apply below_drew1) | exact HB.out))) : w.heap.size ≤ gb920001)); have n3_ := Aside0.mk ((by rw [hg]; exact (below_size (by repeat (first | (with_reducible first | exact HB.out | apply below_alloc | apply pw_below_drewN | apply below_drew1) | exact HB.out))) : w.heap.size ≤ gb920001)); clear HB; have HB := n0_; have BK920001 := n1_; have GW920001 := n2_; have GE920001 := n3_; clear n0_ n1_ n2_ n3_; clear hb hbox hg) | (go_at_call 131; (with_reducible refine (impl_lowFirst.calls a0 t920002 _ A3.out).mono ?_); rintro e w' ⟨rfl, ⟨nd, rfl⟩⟩; (try first | exact ⟨rfl, _, World.drewN_drewN _ _ _⟩ | exact ⟨rfl, _, Eq.trans (World.drewN_drewN _ _ _) (congrArg (World.drewN _) (Nat.add_assoc _ _ _))⟩); have p5 : 0 ≤ (4 : Int) := (by omega); have q5 : 4 < a0.size := (by have : (4 : Int) < (a0.size : Int) := of_decide_eq_true (by first | (with_reducible assumption) | assumption); omega); have hx5 : ∀ h : 4 < a0.size, ((a0[4]'h).toNat : Int) = bt a0 4 := bt_at a0 4; clear p5; have qi5 : (4 < (a0.size : Int)) = True := eq_true (of_decide_eq_true (by first | (with_reducible assumption) | assumption)); replace q5 := eq_true q5; have hcz11_0 : w10.cell? ⟨gb920001, 0, none⟩ = some (.int .i64 0) := (blk_cell BK920001.out 0).trans rfl; have hcz11_1 : w10.cell? ⟨gb920001, 1, none⟩ = some (.string (⟨#[]⟩ : ByteArray)) := (blk_cell BK920001.out 1).trans rfl; have hcz11_2 : w10.cell? ⟨gb920001, 2, none⟩ = some (.int .i64 0) := (blk_cell BK920001.out 2).trans rfl; have hcz11_3 : w10.cell? ⟨gb920001, 3, none⟩ = some (.string (⟨#[]⟩ : ByteArray)) := (blk_cell BK920001.out 3).trans rfl; have hcz11_4 : w10.cell? ⟨gb920001, 4, none⟩ = some (.int .i64 0) := (blk_cell BK920001.out 4).trans rfl; have hfz11_0 := blk_frozen BK920001.out 0; have hfz11_1 := blk_frozen BK920001.out 1; have hfz11_2 := blk_frozen BK920001.out 2; have hfz11_3 := blk_frozen BK920001.out 3; have hfz11_4 := blk_frozen BK920001.out 4)); try go_wp2_with (first | ((with_reducible refine gate_dst (N := 4) rfl ?_); refine box_event ?hg (N := 4) ?hd (cs := #[.int .i64 0, .string (⟨#[]⟩ : ByteArray), .int .i64 0, .string (⟨#[]⟩ : ByteArray), .int .i64 0]) (t := 61) ?hr ?_; (case hd => rfl); (case hg => rfl); (case hr => first | (go_simp; done) | (go_simp; rfl)); intro gb920001 hg w10 hbox hb; have n0_ := Aside0.mk (below_step (by repeat (first | (with_reducible first | exact HB.out | apply below_alloc | apply pw_below_drewN | apply below_drew1) | exact HB.out)) hb); have n1_ := Aside0.mk (hbox); have n2_ := Aside0.mk ((by rw [hg]; exact (below_size (by repeat (first | (with_reducible first | exact HB.out | apply below_alloc | apply pw_below_drewN | apply below_drew1) | exact HB.out))) : w.heap.size ≤ gb920001)); have n3_ := Aside0.mk ((by rw [hg]; exact (below_size (by repeat (first | (with_reducible first | exact HB.out | apply below_alloc | apply pw_below_drewN | apply below_drew1) | exact HB.out))) : w.heap.size ≤ gb920001)); clear HB; have HB := n0_; have BK920001 := n1_; have GW920001 := n2_; have GE920001 := n3_; clear n0_ n1_ n2_ n3_; clear hb hbox hg) | (go_at_call 131; (with_reducible refine (impl_lowFirst.calls a0 t920002 _ A3.out).mono ?_); rintro e w' ⟨rfl, ⟨nd, rfl⟩⟩; (try first | exact ⟨rfl, _, World.drewN_drewN _ _ _⟩ | exact ⟨rfl, _, Eq.trans (World.drewN_drewN _ _ _) (congrArg (World.drewN _) (Nat.add_assoc _ _ _))⟩); have p5 : 0 ≤ (4 : Int) := (by omega); have q5 : 4 < a0.size := (by have : (4 : Int) < (a0.size : Int) := of_decide_eq_true (by first | (with_reducible assumption) | assumption); omega); have hx5 : ∀ h : 4 < a0.size, ((a0[4]'h).toNat : Int) = bt a0 4 := bt_at a0 4; clear p5; have qi5 : (4 < (a0.size : Int)) = True := eq_true (of_decide_eq_true (by first | (with_reducible assumption) | assumption)); replace q5 := eq_true q5; have hcz11_0 : w10.cell? ⟨gb920001, 0, none⟩ = some (.int .i64 0) := (blk_cell BK920001.out 0).trans rfl; have hcz11_1 : w10.cell? ⟨gb920001, 1, none⟩ = some (.string (⟨#[]⟩ : ByteArray)) := (blk_cell BK920001.out 1).trans rfl; have hcz11_2 : w10.cell? ⟨gb920001, 2, none⟩ = some (.int .i64 0) := (blk_cell BK920001.out 2).trans rfl; have hcz11_3 : w10.cell? ⟨gb920001, 3, none⟩ = some (.string (⟨#[]⟩ : ByteArray)) := (blk_cell BK920001.out 3).trans rfl; have hcz11_4 : w10.cell? ⟨gb920001, 4, none⟩ = some (.int .i64 0) := (blk_cell BK920001.out 4).trans rfl; have hfz11_0 := blk_frozen BK920001.out 0; have hfz11_1 := blk_frozen BK920001.out 1; have hfz11_2 := blk_frozen BK920001.out 2; have hfz11_3 := blk_frozen BK920001.out 3; have hfz11_4 := blk_frozen BK920001.out 4)))
    refine bodyPost_ret (results_cell_row rfl _ _ gb920001 61 #[.int .i64 0, .string (⟨#[]⟩ : ByteArray), .int .i64 0, .string (⟨#[]⟩ : ByteArray), .int .i64 0] (0, 0) _ rfl (by (with_reducible repeat (first | refine blk_drewN ?_ _ | refine blk_drew ?_ | refine blk_alloc ?_ _)); refine blk_put (cs := #[.int .i64 0, .string (⟨#[]⟩ : ByteArray), .int .i64 0, .string (⟨#[]⟩ : ByteArray), .int .i64 0]) ?_ 4 _ rfl; (with_reducible repeat (first | refine blk_drewN ?_ _ | refine blk_drew ?_ | refine blk_alloc ?_ _)); refine blk_put (cs := #[.int .i64 0, .string (⟨#[]⟩ : ByteArray), .int .i64 0, .string (⟨#[]⟩ : ByteArray), .int .i64 0]) ?_ 3 _ rfl; (with_reducible repeat (first | refine blk_drewN ?_ _ | refine blk_drew ?_ | refine blk_alloc ?_ _)); refine blk_put (cs := #[.int .i64 0, .string (⟨#[]⟩ : ByteArray), .int .i64 0, .string (⟨#[]⟩ : ByteArray), .int .i64 0]) ?_ 2 _ rfl; (with_reducible repeat (first | refine blk_drewN ?_ _ | refine blk_drew ?_ | refine blk_alloc ?_ _)); refine blk_put (cs := #[.int .i64 0, .string (⟨#[]⟩ : ByteArray), .int .i64 0, .string (⟨#[]⟩ : ByteArray), .int .i64 0]) ?_ 1 _ rfl; (with_reducible repeat (first | refine blk_drewN ?_ _ | refine blk_drew ?_ | refine blk_alloc ?_ _)); refine blk_put (cs := #[.int .i64 0, .string (⟨#[]⟩ : ByteArray), .int .i64 0, .string (⟨#[]⟩ : ByteArray), .int .i64 0]) ?_ 0 _ rfl; (with_reducible repeat (first | refine blk_drewN ?_ _ | refine blk_drew ?_ | refine blk_alloc ?_ _)); exact BK920001.out) Tryd.underlying61 rfl (by kernel_rfl)) rfl ?_; exact ⟨by first | rfl | (simp [errW_none, errW_some] <;> rfl) | (simp [*, errW_none, errW_some] <;> rfl), by repeat (first | (with_reducible first | exact HB.out | apply below_alloc | apply pw_below_drewN | apply below_drew1 | refine below_set ?_ GE920001.out) | exact HB.out)⟩
   ·rw [if_neg c9] at H; have c9b0 : decide (1000000 < t920002) = false := decide_eq_false c9; clear c9
    by_cases c12 : (wrap64 (bt a0 4)) > 32
    ·rw [if_pos c12] at H; have c12b0 : decide (32 < (wrap64 (bt a0 4))) = true := decide_eq_true c12; clear c12; simp only [Option.some.injEq, Prod.mk.injEq] at H; obtain ⟨rfl, rfl, rfl, rfl, rfl⟩ := H
     go_enter Tryd.func92, Tryd.ntmps92
     go_wp2_with (first | ((with_reducible refine gate_dst (N := 4) rfl ?_); refine box_event ?hg (N := 4) ?hd (cs := #[.int .i64 0, .string (⟨#[]⟩ : ByteArray), .int .i64 0, .string (⟨#[]⟩ : ByteArray), .int .i64 0]) (t := 61) ?hr ?_; (case hd => rfl); (case hg => rfl); (case hr => first | (go_simp; done) | (go_simp; rfl)); intro gb920001 hg w13 hbox hb; have n0_ := Aside0.mk (below_step (by repeat (first | (with_reducible first | exact HB.out | apply below_alloc | apply pw_below_drewN | apply below_drew1) | exact HB.out)) hb); have n1_ := Aside0.mk (hbox); have n2_ := Aside0.mk ((by rw [hg]; exact (below_size (by repeat (first | (with_reducible first | exact HB.out | apply below_alloc | apply pw_below_drewN | apply below_drew1) | exact HB.out))) : w.heap.size ≤ gb920001)); have n3_ := Aside0.mk ((by rw [hg]; exact (below_size (by repeat (first | (with_reducible first | exact HB.out | apply below_alloc | apply pw_below_drewN | apply below_drew1) | exact HB.out))) : w.heap.size ≤ gb920001)); clear HB; have HB := n0_; have BK920001 := n1_; have GW920001 := n2_; have GE920001 := n3_; clear n0_ n1_ n2_ n3_; clear hb hbox hg) | (go_at_call 131; (with_reducible refine (impl_lowFirst.calls a0 t920002 _ A3.out).mono ?_); rintro e w' ⟨rfl, ⟨nd, rfl⟩⟩; (try first | exact ⟨rfl, _, World.drewN_drewN _ _ _⟩ | exact ⟨rfl, _, Eq.trans (World.drewN_drewN _ _ _) (congrArg (World.drewN _) (Nat.add_assoc _ _ _))⟩); have p5 : 0 ≤ (4 : Int) := (by omega); have q5 : 4 < a0.size := (by have : (4 : Int) < (a0.size : Int) := of_decide_eq_true (by first | (with_reducible assumption) | assumption); omega); have hx5 : ∀ h : 4 < a0.size, ((a0[4]'h).toNat : Int) = bt a0 4 := bt_at a0 4; clear p5; have qi5 : (4 < (a0.size : Int)) = True := eq_true (of_decide_eq_true (by first | (with_reducible assumption) | assumption)); replace q5 := eq_true q5; have hcz14_0 : w13.cell? ⟨gb920001, 0, none⟩ = some (.int .i64 0) := (blk_cell BK920001.out 0).trans rfl; have hcz14_1 : w13.cell? ⟨gb920001, 1, none⟩ = some (.string (⟨#[]⟩ : ByteArray)) := (blk_cell BK920001.out 1).trans rfl; have hcz14_2 : w13.cell? ⟨gb920001, 2, none⟩ = some (.int .i64 0) := (blk_cell BK920001.out 2).trans rfl; have hcz14_3 : w13.cell? ⟨gb920001, 3, none⟩ = some (.string (⟨#[]⟩ : ByteArray)) := (blk_cell BK920001.out 3).trans rfl; have hcz14_4 : w13.cell? ⟨gb920001, 4, none⟩ = some (.int .i64 0) := (blk_cell BK920001.out 4).trans rfl; have hfz14_0 := blk_frozen BK920001.out 0; have hfz14_1 := blk_frozen BK920001.out 1; have hfz14_2 := blk_frozen BK920001.out 2; have hfz14_3 := blk_frozen BK920001.out 3; have hfz14_4 := blk_frozen BK920001.out 4))
     repeat (go_quiet (first | ((with_reducible refine gate_dst (N := 4) rfl ?_); refine box_event ?hg (N := 4) ?hd (cs := #[.int .i64 0, .string (⟨#[]⟩ : ByteArray), .int .i64 0, .string (⟨#[]⟩ : ByteArray), .int .i64 0]) (t := 61) ?hr ?_; (case hd => rfl); (case hg => rfl); (case hr => first | (go_simp; done) | (go_simp; rfl)); intro gb920001 hg w13 hbox hb; have n0_ := Aside0.mk (below_step (by repeat (first | (with_reducible first | exact HB.out | apply below_alloc | apply pw_below_drewN | apply below_drew1) | exact HB.out)) hb); have n1_ := Aside0.mk (hbox); have n2_ := Aside0.mk ((by rw [hg]; exact (below_size (by repeat (first | (with_reducible first | exact HB.out | apply below_alloc | apply pw_below_drewN | apply below_drew1) | exact HB.out))) : w.heap.size ≤ gb920001)); have n3_ := Aside0.mk ((by rw [hg]; exact (below_size (by repeat (first | (with_reducible first | exact HB.out | apply below_alloc | apply pw_below_drewN | apply below_drew1) | exact HB.out))) : w.heap.size ≤ gb920001)); clear HB; have HB := n0_; have BK920001 := n1_; have GW920001 := n2_; have GE920001 := n3_; clear n0_ n1_ n2_ n3_; clear hb hbox hg) | (go_at_call 131; (with_reducible refine (impl_lowFirst.calls a0 t920002 _ A3.out).mono ?_); rintro e w' ⟨rfl, ⟨nd, rfl⟩⟩; (try first | exact ⟨rfl, _, World.drewN_drewN _ _ _⟩ | exact ⟨rfl, _, Eq.trans (World.drewN_drewN _ _ _) (congrArg (World.drewN _) (Nat.add_assoc _ _ _))⟩); have p5 : 0 ≤ (4 : Int) := (by omega); have q5 : 4 < a0.size := (by have : (4 : Int) < (a0.size : Int) := of_decide_eq_true (by first | (with_reducible assumption) | assumption); omega); have hx5 : ∀ h : 4 < a0.size, ((a0[4]'h).toNat : Int) = bt a0 4 := bt_at a0 4; clear p5; have qi5 : (4 < (a0.size : Int)) = True := eq_true (of_decide_eq_true (by first | (with_reducible assumption) | assumption)); replace q5 := eq_true q5; have hcz14_0 : w13.cell? ⟨gb920001, 0, none⟩ = some (.int .i64 0) := (blk_cell BK920001.out 0).trans rfl; have hcz14_1 : w13.cell? ⟨gb920001, 1, none⟩ = some (.string (⟨#[]⟩ : ByteArray)) := (blk_cell BK920001.out 1).trans rfl; have hcz14_2 : w13.cell? ⟨gb920001, 2, none⟩ = some (.int .i64 0) := (blk_cell BK920001.out 2).trans rfl; have hcz14_3 : w13.cell? ⟨gb920001, 3, none⟩ = some (.string (⟨#[]⟩ : ByteArray)) := (blk_cell BK920001.out 3).trans rfl; have hcz14_4 : w13.cell? ⟨gb920001, 4, none⟩ = some (.int .i64 0) := (blk_cell BK920001.out 4).trans rfl; have hfz14_0 := blk_frozen BK920001.out 0; have hfz14_1 := blk_frozen BK920001.out 1; have hfz14_2 := blk_frozen BK920001.out 2; have hfz14_3 := blk_frozen BK920001.out 3; have hfz14_4 := blk_frozen BK920001.out 4)); try go_wp2_with (first | ((with_reducible refine gate_dst (N := 4) rfl ?_); refine box_event ?hg (N := 4) ?hd (cs := #[.int .i64 0, .string (⟨#[]⟩ : ByteArray), .int .i64 0, .string (⟨#[]⟩ : ByteArray), .int .i64 0]) (t := 61) ?hr ?_; (case hd => rfl); (case hg => rfl); (case hr => first | (go_simp; done) | (go_simp; rfl)); intro gb920001 hg w13 hbox hb; have n0_ := Aside0.mk (below_step (by repeat (first | (with_reducible first | exact HB.out | apply below_alloc | apply pw_below_drewN | apply below_drew1) | exact HB.out)) hb); have n1_ := Aside0.mk (hbox); have n2_ := Aside0.mk ((by rw [hg]; exact (below_size (by repeat (first | (with_reducible first | exact HB.out | apply below_alloc | apply pw_below_drewN | apply below_drew1) | exact HB.out))) : w.heap.size ≤ gb920001)); have n3_ := Aside0.mk ((by rw [hg]; exact (below_size (by repeat (first | (with_reducible first | exact HB.out | apply below_alloc | apply pw_below_drewN | apply below_drew1) | exact HB.out))) : w.heap.size ≤ gb920001)); clear HB; have HB := n0_; have BK920001 := n1_; have GW920001 := n2_; have GE920001 := n3_; clear n0_ n1_ n2_ n3_; clear hb hbox hg) | (go_at_call 131; (with_reducible refine (impl_lowFirst.calls a0 t920002 _ A3.out).mono ?_); rintro e w' ⟨rfl, ⟨nd, rfl⟩⟩; (try first | exact ⟨rfl, _, World.drewN_drewN _ _ _⟩ | exact ⟨rfl, _, Eq.trans (World.drewN_drewN _ _ _) (congrArg (World.drewN _) (Nat.add_assoc _ _ _))⟩); have p5 : 0 ≤ (4 : Int) := (by omega); have q5 : 4 < a0.size := (by have : (4 : Int) < (a0.size : Int) := of_decide_eq_true (by first | (with_reducible assumption) | assumption); omega); have hx5 : ∀ h : 4 < a0.size, ((a0[4]'h).toNat : Int) = bt a0 4 := bt_at a0 4; clear p5; have qi5 : (4 < (a0.size : Int)) = True := eq_true (of_decide_eq_true (by first | (with_reducible assumption) | assumption)); replace q5 := eq_true q5; have hcz14_0 : w13.cell? ⟨gb920001, 0, none⟩ = some (.int .i64 0) := (blk_cell BK920001.out 0).trans rfl; have hcz14_1 : w13.cell? ⟨gb920001, 1, none⟩ = some (.string (⟨#[]⟩ : ByteArray)) := (blk_cell BK920001.out 1).trans rfl; have hcz14_2 : w13.cell? ⟨gb920001, 2, none⟩ = some (.int .i64 0) := (blk_cell BK920001.out 2).trans rfl; have hcz14_3 : w13.cell? ⟨gb920001, 3, none⟩ = some (.string (⟨#[]⟩ : ByteArray)) := (blk_cell BK920001.out 3).trans rfl; have hcz14_4 : w13.cell? ⟨gb920001, 4, none⟩ = some (.int .i64 0) := (blk_cell BK920001.out 4).trans rfl; have hfz14_0 := blk_frozen BK920001.out 0; have hfz14_1 := blk_frozen BK920001.out 1; have hfz14_2 := blk_frozen BK920001.out 2; have hfz14_3 := blk_frozen BK920001.out 3; have hfz14_4 := blk_frozen BK920001.out 4)))
     refine bodyPost_ret (results_cell_row rfl _ _ gb920001 61 #[.int .i64 0, .string (⟨#[]⟩ : ByteArray), .int .i64 0, .string (⟨#[]⟩ : ByteArray), .int .i64 0] (0, 0) _ rfl (by (with_reducible repeat (first | refine blk_drewN ?_ _ | refine blk_drew ?_ | refine blk_alloc ?_ _)); refine blk_put (cs := #[.int .i64 0, .string (⟨#[]⟩ : ByteArray), .int .i64 0, .string (⟨#[]⟩ : ByteArray), .int .i64 0]) ?_ 4 _ rfl; (with_reducible repeat (first | refine blk_drewN ?_ _ | refine blk_drew ?_ | refine blk_alloc ?_ _)); refine blk_put (cs := #[.int .i64 0, .string (⟨#[]⟩ : ByteArray), .int .i64 0, .string (⟨#[]⟩ : ByteArray), .int .i64 0]) ?_ 3 _ rfl; (with_reducible repeat (first | refine blk_drewN ?_ _ | refine blk_drew ?_ | refine blk_alloc ?_ _)); refine blk_put (cs := #[.int .i64 0, .string (⟨#[]⟩ : ByteArray), .int .i64 0, .string (⟨#[]⟩ : ByteArray), .int .i64 0]) ?_ 2 _ rfl; (with_reducible repeat (first | refine blk_drewN ?_ _ | refine blk_drew ?_ | refine blk_alloc ?_ _)); refine blk_put (cs := #[.int .i64 0, .string (⟨#[]⟩ : ByteArray), .int .i64 0, .string (⟨#[]⟩ : ByteArray), .int .i64 0]) ?_ 1 _ rfl; (with_reducible repeat (first | refine blk_drewN ?_ _ | refine blk_drew ?_ | refine blk_alloc ?_ _)); refine blk_put (cs := #[.int .i64 0, .string (⟨#[]⟩ : ByteArray), .int .i64 0, .string (⟨#[]⟩ : ByteArray), .int .i64 0]) ?_ 0 _ rfl; (with_reducible repeat (first | refine blk_drewN ?_ _ | refine blk_drew ?_ | refine blk_alloc ?_ _)); exact BK920001.out) Tryd.underlying61 rfl (by kernel_rfl)) rfl ?_; exact ⟨by first | rfl | (simp [errW_none, errW_some] <;> rfl) | (simp [*, errW_none, errW_some] <;> rfl), by repeat (first | (with_reducible first | exact HB.out | apply below_alloc | apply pw_below_drewN | apply below_drew1 | refine below_set ?_ GE920001.out) | exact HB.out)⟩
    ·rw [if_neg c12] at H; have c12b0 : decide (32 < (wrap64 (bt a0 4))) = false := decide_eq_false c12; clear c12; obtain ⟨ji15, hji15⟩ : ∃ j_ : Int, (wrap64 (5 + (wrap64 (bt a0 4)))) = j_ := ⟨_, rfl⟩
     replace H : (if 0 ≤ (ji15) then (if (ji15) ≤ 63 then (if 63 ≤ (a0.size : Int) then ((impl_zeros.f (a0.extract ((ji15) : Int).toNat 63)).bind fun t920003 => (if t920003 = true then (if 5 ≤ (ji15) then (if (ji15) ≤ (a0.size : Int) then ((strings_Clone.f (a0.extract 5 ((ji15) : Int).toNat)).bind fun t920004 => (some (2, (⟨#[]⟩ : ByteArray), t920002, t920004, wrap64 (a1 + 1)))) else (none)) else (none)) else (some (0, (⟨#[]⟩ : ByteArray), 0, (⟨#[]⟩ : ByteArray), 0)))) else (none)) else (none)) else (none)) = some (r1, r2, r3, r4, r5) := by first | (rw [hji15] at H; exact H) | (simp only [hji15] at H ⊢; exact H)
     (try rw [hji15] at A3); have hji15w : (IntKind.i64.wrap (5 + (wrap64 (bt a0 4)))) = ji15 := (i64_w _).trans hji15
     by_cases c16 : 0 ≤ (ji15)
     ·rw [if_pos c16] at H; have c16b0 := eq_true c16; have c16b1 : decide (0 ≤ (ji15)) = true := decide_eq_true c16; clear c16
      by_cases c17 : (ji15) ≤ 63
      ·rw [if_pos c17] at H; have c17b0 := eq_true c17; have c17b1 : decide ((ji15) ≤ 63) = true := decide_eq_true c17; clear c17
       by_cases c18 : 63 ≤ (a0.size : Int)
       ·rw [if_pos c18] at H; have c18b0 := eq_true c18; have c18b1 : decide (63 ≤ (a0.size : Int)) = true := decide_eq_true c18; clear c18; replace H := Option.bind_eq_some_iff.mp H; obtain ⟨t920003, A190, H⟩ := H; replace H : (if t920003 = true then (if 5 ≤ (ji15) then (if (ji15) ≤ (a0.size : Int) then ((strings_Clone.f (a0.extract 5 ((ji15) : Int).toNat)).bind fun t920004 => (some (2, (⟨#[]⟩ : ByteArray), t920002, t920004, wrap64 (a1 + 1)))) else (none)) else (none)) else (some (0, (⟨#[]⟩ : ByteArray), 0, (⟨#[]⟩ : ByteArray), 0))) = some (r1, r2, r3, r4, r5) := H; have A19 := Aside0.mk A190; clear A190
        by_cases c20 : t920003 = true
        ·subst c20; have H1 : (if 5 ≤ (ji15) then (if (ji15) ≤ (a0.size : Int) then ((strings_Clone.f (a0.extract 5 ((ji15) : Int).toNat)).bind fun t920004 => (some (2, (⟨#[]⟩ : ByteArray), t920002, t920004, wrap64 (a1 + 1)))) else (none)) else (none)) = some (r1, r2, r3, r4, r5) := by rw [if_pos rfl] at H; exact H
         clear H; have H := H1; clear H1
         by_cases c21 : 5 ≤ (ji15)
         ·rw [if_pos c21] at H; have c21b0 := eq_true c21; have c21b1 : decide (5 ≤ (ji15)) = true := decide_eq_true c21; clear c21
          by_cases c22 : (ji15) ≤ (a0.size : Int)
          ·rw [if_pos c22] at H; have c22b0 := eq_true c22; have c22b1 : decide ((ji15) ≤ (a0.size : Int)) = true := decide_eq_true c22; clear c22; replace H := Option.bind_eq_some_iff.mp H; obtain ⟨t920004, A230, H⟩ := H; replace H : (some (2, (⟨#[]⟩ : ByteArray), t920002, t920004, wrap64 (a1 + 1))) = some (r1, r2, r3, r4, r5) := H; have A23 := Aside0.mk A230; clear A230; simp only [Option.some.injEq, Prod.mk.injEq] at H; obtain ⟨rfl, rfl, rfl, rfl, rfl⟩ := H
           go_enter Tryd.func92, Tryd.ntmps92
           go_wp2_with (first | ((with_reducible refine gate_dst (N := 4) rfl ?_); refine box_event ?hg (N := 4) ?hd (cs := #[.int .i64 0, .string (⟨#[]⟩ : ByteArray), .int .i64 0, .string (⟨#[]⟩ : ByteArray), .int .i64 0]) (t := 61) ?hr ?_; (case hd => rfl); (case hg => rfl); (case hr => first | (go_simp; done) | (go_simp; rfl)); intro gb920001 hg w24 hbox hb; have n0_ := Aside0.mk (below_step (by repeat (first | (with_reducible first | exact HB.out | apply below_alloc | apply pw_below_drewN | apply below_drew1) | exact HB.out)) hb); have n1_ := Aside0.mk (hbox); have n2_ := Aside0.mk ((by rw [hg]; exact (below_size (by repeat (first | (with_reducible first | exact HB.out | apply below_alloc | apply pw_below_drewN | apply below_drew1) | exact HB.out))) : w.heap.size ≤ gb920001)); have n3_ := Aside0.mk ((by rw [hg]; exact (below_size (by repeat (first | (with_reducible first | exact HB.out | apply below_alloc | apply pw_below_drewN | apply below_drew1) | exact HB.out))) : w.heap.size ≤ gb920001)); clear HB; have HB := n0_; have BK920001 := n1_; have GW920001 := n2_; have GE920001 := n3_; clear n0_ n1_ n2_ n3_; clear hb hbox hg) | (go_at_call 131; (with_reducible refine (impl_lowFirst.calls a0 t920002 _ A3.out).mono ?_); rintro e w' ⟨rfl, ⟨nd, rfl⟩⟩; (try first | exact ⟨rfl, _, World.drewN_drewN _ _ _⟩ | exact ⟨rfl, _, Eq.trans (World.drewN_drewN _ _ _) (congrArg (World.drewN _) (Nat.add_assoc _ _ _))⟩); have p5 : 0 ≤ (4 : Int) := (by omega); have q5 : 4 < a0.size := (by have : (4 : Int) < (a0.size : Int) := of_decide_eq_true (by first | (with_reducible assumption) | assumption); omega); have hx5 : ∀ h : 4 < a0.size, ((a0[4]'h).toNat : Int) = bt a0 4 := bt_at a0 4; clear p5; have qi5 : (4 < (a0.size : Int)) = True := eq_true (of_decide_eq_true (by first | (with_reducible assumption) | assumption)); replace q5 := eq_true q5) | (go_at_call 132; (with_reducible refine (impl_zeros.calls (a0.extract ((ji15) : Int).toNat 63) true _ A19.out).mono ?_); rintro e w25 ⟨rfl, hb⟩; have n0_ := Aside0.mk (blk_below (g := gb920001) (o := .cells #[.int .i64 0, .string (⟨#[]⟩ : ByteArray), .int .i64 0, .string (⟨#[]⟩ : ByteArray), .int .i64 0] 61 (0, 0)) (by (with_reducible repeat (first | refine blk_drewN ?_ _ | refine blk_drew ?_ | refine blk_alloc ?_ _)); exact BK920001.out) hb); have n1_ := Aside0.mk (below_step (by repeat (first | (with_reducible first | exact HB.out | apply below_alloc | apply pw_below_drewN | apply below_drew1 | refine below_set ?_ GE920001.out) | exact HB.out)) hb); clear BK920001; clear HB; have BK920001 := n0_; have HB := n1_; clear n0_ n1_; (try clear hb); (try clear hb2); (try clear hk); (try clear hi)) | (go_at_call 133; (with_reducible refine (strings_Clone.calls (a0.extract 5 ((ji15) : Int).toNat) t920004 _ A23.out).mono ?_); rintro e w26 ⟨rfl, hb⟩; have n0_ := Aside0.mk (blk_below (g := gb920001) (o := .cells #[.int .i64 0, .string (⟨#[]⟩ : ByteArray), .int .i64 0, .string (⟨#[]⟩ : ByteArray), .int .i64 0] 61 (0, 0)) (by (with_reducible repeat (first | refine blk_drewN ?_ _ | refine blk_drew ?_ | refine blk_alloc ?_ _)); exact BK920001.out) hb); have n1_ := Aside0.mk (below_step (by repeat (first | (with_reducible first | exact HB.out | apply below_alloc | apply pw_below_drewN | apply below_drew1 | refine below_set ?_ GE920001.out) | exact HB.out)) hb); clear BK920001; clear HB; have BK920001 := n0_; have HB := n1_; clear n0_ n1_; (try clear hb); (try clear hb2); (try clear hk); (try clear hi); have hcz27_0 : w26.cell? ⟨gb920001, 0, none⟩ = some (.int .i64 0) := (blk_cell BK920001.out 0).trans rfl; have hcz27_1 : w26.cell? ⟨gb920001, 1, none⟩ = some (.string (⟨#[]⟩ : ByteArray)) := (blk_cell BK920001.out 1).trans rfl; have hcz27_2 : w26.cell? ⟨gb920001, 2, none⟩ = some (.int .i64 0) := (blk_cell BK920001.out 2).trans rfl; have hcz27_3 : w26.cell? ⟨gb920001, 3, none⟩ = some (.string (⟨#[]⟩ : ByteArray)) := (blk_cell BK920001.out 3).trans rfl; have hcz27_4 : w26.cell? ⟨gb920001, 4, none⟩ = some (.int .i64 0) := (blk_cell BK920001.out 4).trans rfl; have hfz27_0 := blk_frozen BK920001.out 0; have hfz27_1 := blk_frozen BK920001.out 1; have hfz27_2 := blk_frozen BK920001.out 2; have hfz27_3 := blk_frozen BK920001.out 3; have hfz27_4 := blk_frozen BK920001.out 4))
           repeat (go_quiet (first | ((with_reducible refine gate_dst (N := 4) rfl ?_); refine box_event ?hg (N := 4) ?hd (cs := #[.int .i64 0, .string (⟨#[]⟩ : ByteArray), .int .i64 0, .string (⟨#[]⟩ : ByteArray), .int .i64 0]) (t := 61) ?hr ?_; (case hd => rfl); (case hg => rfl); (case hr => first | (go_simp; done) | (go_simp; rfl)); intro gb920001 hg w24 hbox hb; have n0_ := Aside0.mk (below_step (by repeat (first | (with_reducible first | exact HB.out | apply below_alloc | apply pw_below_drewN | apply below_drew1) | exact HB.out)) hb); have n1_ := Aside0.mk (hbox); have n2_ := Aside0.mk ((by rw [hg]; exact (below_size (by repeat (first | (with_reducible first | exact HB.out | apply below_alloc | apply pw_below_drewN | apply below_drew1) | exact HB.out))) : w.heap.size ≤ gb920001)); have n3_ := Aside0.mk ((by rw [hg]; exact (below_size (by repeat (first | (with_reducible first | exact HB.out | apply below_alloc | apply pw_below_drewN | apply below_drew1) | exact HB.out))) : w.heap.size ≤ gb920001)); clear HB; have HB := n0_; have BK920001 := n1_; have GW920001 := n2_; have GE920001 := n3_; clear n0_ n1_ n2_ n3_; clear hb hbox hg) | (go_at_call 131; (with_reducible refine (impl_lowFirst.calls a0 t920002 _ A3.out).mono ?_); rintro e w' ⟨rfl, ⟨nd, rfl⟩⟩; (try first | exact ⟨rfl, _, World.drewN_drewN _ _ _⟩ | exact ⟨rfl, _, Eq.trans (World.drewN_drewN _ _ _) (congrArg (World.drewN _) (Nat.add_assoc _ _ _))⟩); have p5 : 0 ≤ (4 : Int) := (by omega); have q5 : 4 < a0.size := (by have : (4 : Int) < (a0.size : Int) := of_decide_eq_true (by first | (with_reducible assumption) | assumption); omega); have hx5 : ∀ h : 4 < a0.size, ((a0[4]'h).toNat : Int) = bt a0 4 := bt_at a0 4; clear p5; have qi5 : (4 < (a0.size : Int)) = True := eq_true (of_decide_eq_true (by first | (with_reducible assumption) | assumption)); replace q5 := eq_true q5) | (go_at_call 132; (with_reducible refine (impl_zeros.calls (a0.extract ((ji15) : Int).toNat 63) true _ A19.out).mono ?_); rintro e w25 ⟨rfl, hb⟩; have n0_ := Aside0.mk (blk_below (g := gb920001) (o := .cells #[.int .i64 0, .string (⟨#[]⟩ : ByteArray), .int .i64 0, .string (⟨#[]⟩ : ByteArray), .int .i64 0] 61 (0, 0)) (by (with_reducible repeat (first | refine blk_drewN ?_ _ | refine blk_drew ?_ | refine blk_alloc ?_ _)); exact BK920001.out) hb); have n1_ := Aside0.mk (below_step (by repeat (first | (with_reducible first | exact HB.out | apply below_alloc | apply pw_below_drewN | apply below_drew1 | refine below_set ?_ GE920001.out) | exact HB.out)) hb); clear BK920001; clear HB; have BK920001 := n0_; have HB := n1_; clear n0_ n1_; (try clear hb); (try clear hb2); (try clear hk); (try clear hi)) | (go_at_call 133; (with_reducible refine (strings_Clone.calls (a0.extract 5 ((ji15) : Int).toNat) t920004 _ A23.out).mono ?_); rintro e w26 ⟨rfl, hb⟩; have n0_ := Aside0.mk (blk_below (g := gb920001) (o := .cells #[.int .i64 0, .string (⟨#[]⟩ : ByteArray), .int .i64 0, .string (⟨#[]⟩ : ByteArray), .int .i64 0] 61 (0, 0)) (by (with_reducible repeat (first | refine blk_drewN ?_ _ | refine blk_drew ?_ | refine blk_alloc ?_ _)); exact BK920001.out) hb); have n1_ := Aside0.mk (below_step (by repeat (first | (with_reducible first | exact HB.out | apply below_alloc | apply pw_below_drewN | apply below_drew1 | refine below_set ?_ GE920001.out) | exact HB.out)) hb); clear BK920001; clear HB; have BK920001 := n0_; have HB := n1_; clear n0_ n1_; (try clear hb); (try clear hb2); (try clear hk); (try clear hi); have hcz27_0 : w26.cell? ⟨gb920001, 0, none⟩ = some (.int .i64 0) := (blk_cell BK920001.out 0).trans rfl; have hcz27_1 : w26.cell? ⟨gb920001, 1, none⟩ = some (.string (⟨#[]⟩ : ByteArray)) := (blk_cell BK920001.out 1).trans rfl; have hcz27_2 : w26.cell? ⟨gb920001, 2, none⟩ = some (.int .i64 0) := (blk_cell BK920001.out 2).trans rfl; have hcz27_3 : w26.cell? ⟨gb920001, 3, none⟩ = some (.string (⟨#[]⟩ : ByteArray)) := (blk_cell BK920001.out 3).trans rfl; have hcz27_4 : w26.cell? ⟨gb920001, 4, none⟩ = some (.int .i64 0) := (blk_cell BK920001.out 4).trans rfl; have hfz27_0 := blk_frozen BK920001.out 0; have hfz27_1 := blk_frozen BK920001.out 1; have hfz27_2 := blk_frozen BK920001.out 2; have hfz27_3 := blk_frozen BK920001.out 3; have hfz27_4 := blk_frozen BK920001.out 4)); try go_wp2_with (first | ((with_reducible refine gate_dst (N := 4) rfl ?_); refine box_event ?hg (N := 4) ?hd (cs := #[.int .i64 0, .string (⟨#[]⟩ : ByteArray), .int .i64 0, .string (⟨#[]⟩ : ByteArray), .int .i64 0]) (t := 61) ?hr ?_; (case hd => rfl); (case hg => rfl); (case hr => first | (go_simp; done) | (go_simp; rfl)); intro gb920001 hg w24 hbox hb; have n0_ := Aside0.mk (below_step (by repeat (first | (with_reducible first | exact HB.out | apply below_alloc | apply pw_below_drewN | apply below_drew1) | exact HB.out)) hb); have n1_ := Aside0.mk (hbox); have n2_ := Aside0.mk ((by rw [hg]; exact (below_size (by repeat (first | (with_reducible first | exact HB.out | apply below_alloc | apply pw_below_drewN | apply below_drew1) | exact HB.out))) : w.heap.size ≤ gb920001)); have n3_ := Aside0.mk ((by rw [hg]; exact (below_size (by repeat (first | (with_reducible first | exact HB.out | apply below_alloc | apply pw_below_drewN | apply below_drew1) | exact HB.out))) : w.heap.size ≤ gb920001)); clear HB; have HB := n0_; have BK920001 := n1_; have GW920001 := n2_; have GE920001 := n3_; clear n0_ n1_ n2_ n3_; clear hb hbox hg) | (go_at_call 131; (with_reducible refine (impl_lowFirst.calls a0 t920002 _ A3.out).mono ?_); rintro e w' ⟨rfl, ⟨nd, rfl⟩⟩; (try first | exact ⟨rfl, _, World.drewN_drewN _ _ _⟩ | exact ⟨rfl, _, Eq.trans (World.drewN_drewN _ _ _) (congrArg (World.drewN _) (Nat.add_assoc _ _ _))⟩); have p5 : 0 ≤ (4 : Int) := (by omega); have q5 : 4 < a0.size := (by have : (4 : Int) < (a0.size : Int) := of_decide_eq_true (by first | (with_reducible assumption) | assumption); omega); have hx5 : ∀ h : 4 < a0.size, ((a0[4]'h).toNat : Int) = bt a0 4 := bt_at a0 4; clear p5; have qi5 : (4 < (a0.size : Int)) = True := eq_true (of_decide_eq_true (by first | (with_reducible assumption) | assumption)); replace q5 := eq_true q5) | (go_at_call 132; (with_reducible refine (impl_zeros.calls (a0.extract ((ji15) : Int).toNat 63) true _ A19.out).mono ?_); rintro e w25 ⟨rfl, hb⟩; have n0_ := Aside0.mk (blk_below (g := gb920001) (o := .cells #[.int .i64 0, .string (⟨#[]⟩ : ByteArray), .int .i64 0, .string (⟨#[]⟩ : ByteArray), .int .i64 0] 61 (0, 0)) (by (with_reducible repeat (first | refine blk_drewN ?_ _ | refine blk_drew ?_ | refine blk_alloc ?_ _)); exact BK920001.out) hb); have n1_ := Aside0.mk (below_step (by repeat (first | (with_reducible first | exact HB.out | apply below_alloc | apply pw_below_drewN | apply below_drew1 | refine below_set ?_ GE920001.out) | exact HB.out)) hb); clear BK920001; clear HB; have BK920001 := n0_; have HB := n1_; clear n0_ n1_; (try clear hb); (try clear hb2); (try clear hk); (try clear hi)) | (go_at_call 133; (with_reducible refine (strings_Clone.calls (a0.extract 5 ((ji15) : Int).toNat) t920004 _ A23.out).mono ?_); rintro e w26 ⟨rfl, hb⟩; have n0_ := Aside0.mk (blk_below (g := gb920001) (o := .cells #[.int .i64 0, .string (⟨#[]⟩ : ByteArray), .int .i64 0, .string (⟨#[]⟩ : ByteArray), .int .i64 0] 61 (0, 0)) (by (with_reducible repeat (first | refine blk_drewN ?_ _ | refine blk_drew ?_ | refine blk_alloc ?_ _)); exact BK920001.out) hb); have n1_ := Aside0.mk (below_step (by repeat (first | (with_reducible first | exact HB.out | apply below_alloc | apply pw_below_drewN | apply below_drew1 | refine below_set ?_ GE920001.out) | exact HB.out)) hb); clear BK920001; clear HB; have BK920001 := n0_; have HB := n1_; clear n0_ n1_; (try clear hb); (try clear hb2); (try clear hk); (try clear hi); have hcz27_0 : w26.cell? ⟨gb920001, 0, none⟩ = some (.int .i64 0) := (blk_cell BK920001.out 0).trans rfl; have hcz27_1 : w26.cell? ⟨gb920001, 1, none⟩ = some (.string (⟨#[]⟩ : ByteArray)) := (blk_cell BK920001.out 1).trans rfl; have hcz27_2 : w26.cell? ⟨gb920001, 2, none⟩ = some (.int .i64 0) := (blk_cell BK920001.out 2).trans rfl; have hcz27_3 : w26.cell? ⟨gb920001, 3, none⟩ = some (.string (⟨#[]⟩ : ByteArray)) := (blk_cell BK920001.out 3).trans rfl; have hcz27_4 : w26.cell? ⟨gb920001, 4, none⟩ = some (.int .i64 0) := (blk_cell BK920001.out 4).trans rfl; have hfz27_0 := blk_frozen BK920001.out 0; have hfz27_1 := blk_frozen BK920001.out 1; have hfz27_2 := blk_frozen BK920001.out 2; have hfz27_3 := blk_frozen BK920001.out 3; have hfz27_4 := blk_frozen BK920001.out 4)))
           refine bodyPost_ret (results_cell_row rfl _ _ gb920001 61 #[.int .i64 2, .string (⟨#[]⟩ : ByteArray), .int .i64 t920002, .string t920004, .int .i64 (wrap64 (a1 + 1))] (0, 0) _ rfl (by (with_reducible repeat (first | refine blk_drewN ?_ _ | refine blk_drew ?_ | refine blk_alloc ?_ _)); refine blk_put (cs := #[.int .i64 2, .string (⟨#[]⟩ : ByteArray), .int .i64 t920002, .string t920004, .int .i64 0]) ?_ 4 _ rfl; (with_reducible repeat (first | refine blk_drewN ?_ _ | refine blk_drew ?_ | refine blk_alloc ?_ _)); refine blk_put (cs := #[.int .i64 2, .string (⟨#[]⟩ : ByteArray), .int .i64 t920002, .string (⟨#[]⟩ : ByteArray), .int .i64 0]) ?_ 3 _ rfl; (with_reducible repeat (first | refine blk_drewN ?_ _ | refine blk_drew ?_ | refine blk_alloc ?_ _)); refine blk_put (cs := #[.int .i64 2, .string (⟨#[]⟩ : ByteArray), .int .i64 0, .string (⟨#[]⟩ : ByteArray), .int .i64 0]) ?_ 2 _ rfl; (with_reducible repeat (first | refine blk_drewN ?_ _ | refine blk_drew ?_ | refine blk_alloc ?_ _)); refine blk_put (cs := #[.int .i64 2, .string (⟨#[]⟩ : ByteArray), .int .i64 0, .string (⟨#[]⟩ : ByteArray), .int .i64 0]) ?_ 1 _ rfl; (with_reducible repeat (first | refine blk_drewN ?_ _ | refine blk_drew ?_ | refine blk_alloc ?_ _)); refine blk_put (cs := #[.int .i64 0, .string (⟨#[]⟩ : ByteArray), .int .i64 0, .string (⟨#[]⟩ : ByteArray), .int .i64 0]) ?_ 0 _ rfl; (with_reducible repeat (first | refine blk_drewN ?_ _ | refine blk_drew ?_ | refine blk_alloc ?_ _)); exact BK920001.out) Tryd.underlying61 rfl (by kernel_rfl)) rfl ?_; exact ⟨by first | rfl | (simp [errW_none, errW_some] <;> rfl) | (simp only [← hji15]; first | rfl | (simp [errW_none, errW_some] <;> rfl)) | (simp [*, errW_none, errW_some] <;> rfl), by repeat (first | (with_reducible first | exact HB.out | apply below_alloc | apply pw_below_drewN | apply below_drew1 | refine below_set ?_ GE920001.out) | exact HB.out)⟩
          ·rw [if_neg c22] at H; exact absurd H (by simp)
         ·rw [if_neg c21] at H; exact absurd H (by simp)
        ·replace c20 := Bool.eq_false_iff.mpr c20; subst c20; have H1 : (some (0, (⟨#[]⟩ : ByteArray), 0, (⟨#[]⟩ : ByteArray), 0)) = some (r1, r2, r3, r4, r5) := by rw [if_neg (show ¬ (false = true) by decide)] at H; exact H
         clear H; have H := H1; clear H1; simp only [Option.some.injEq, Prod.mk.injEq] at H; obtain ⟨rfl, rfl, rfl, rfl, rfl⟩ := H
         go_enter Tryd.func92, Tryd.ntmps92
         go_wp2_with (first | ((with_reducible refine gate_dst (N := 4) rfl ?_); refine box_event ?hg (N := 4) ?hd (cs := #[.int .i64 0, .string (⟨#[]⟩ : ByteArray), .int .i64 0, .string (⟨#[]⟩ : ByteArray), .int .i64 0]) (t := 61) ?hr ?_; (case hd => rfl); (case hg => rfl); (case hr => first | (go_simp; done) | (go_simp; rfl)); intro gb920001 hg w28 hbox hb; have n0_ := Aside0.mk (below_step (by repeat (first | (with_reducible first | exact HB.out | apply below_alloc | apply pw_below_drewN | apply below_drew1) | exact HB.out)) hb); have n1_ := Aside0.mk (hbox); have n2_ := Aside0.mk ((by rw [hg]; exact (below_size (by repeat (first | (with_reducible first | exact HB.out | apply below_alloc | apply pw_below_drewN | apply below_drew1) | exact HB.out))) : w.heap.size ≤ gb920001)); have n3_ := Aside0.mk ((by rw [hg]; exact (below_size (by repeat (first | (with_reducible first | exact HB.out | apply below_alloc | apply pw_below_drewN | apply below_drew1) | exact HB.out))) : w.heap.size ≤ gb920001)); clear HB; have HB := n0_; have BK920001 := n1_; have GW920001 := n2_; have GE920001 := n3_; clear n0_ n1_ n2_ n3_; clear hb hbox hg) | (go_at_call 131; (with_reducible refine (impl_lowFirst.calls a0 t920002 _ A3.out).mono ?_); rintro e w' ⟨rfl, ⟨nd, rfl⟩⟩; (try first | exact ⟨rfl, _, World.drewN_drewN _ _ _⟩ | exact ⟨rfl, _, Eq.trans (World.drewN_drewN _ _ _) (congrArg (World.drewN _) (Nat.add_assoc _ _ _))⟩); have p5 : 0 ≤ (4 : Int) := (by omega); have q5 : 4 < a0.size := (by have : (4 : Int) < (a0.size : Int) := of_decide_eq_true (by first | (with_reducible assumption) | assumption); omega); have hx5 : ∀ h : 4 < a0.size, ((a0[4]'h).toNat : Int) = bt a0 4 := bt_at a0 4; clear p5; have qi5 : (4 < (a0.size : Int)) = True := eq_true (of_decide_eq_true (by first | (with_reducible assumption) | assumption)); replace q5 := eq_true q5) | (go_at_call 132; (with_reducible refine (impl_zeros.calls (a0.extract ((ji15) : Int).toNat 63) false _ A19.out).mono ?_); rintro e w29 ⟨rfl, hb⟩; have n0_ := Aside0.mk (blk_below (g := gb920001) (o := .cells #[.int .i64 0, .string (⟨#[]⟩ : ByteArray), .int .i64 0, .string (⟨#[]⟩ : ByteArray), .int .i64 0] 61 (0, 0)) (by (with_reducible repeat (first | refine blk_drewN ?_ _ | refine blk_drew ?_ | refine blk_alloc ?_ _)); exact BK920001.out) hb); have n1_ := Aside0.mk (below_step (by repeat (first | (with_reducible first | exact HB.out | apply below_alloc | apply pw_below_drewN | apply below_drew1 | refine below_set ?_ GE920001.out) | exact HB.out)) hb); clear BK920001; clear HB; have BK920001 := n0_; have HB := n1_; clear n0_ n1_; (try clear hb); (try clear hb2); (try clear hk); (try clear hi); have hcz30_0 : w29.cell? ⟨gb920001, 0, none⟩ = some (.int .i64 0) := (blk_cell BK920001.out 0).trans rfl; have hcz30_1 : w29.cell? ⟨gb920001, 1, none⟩ = some (.string (⟨#[]⟩ : ByteArray)) := (blk_cell BK920001.out 1).trans rfl; have hcz30_2 : w29.cell? ⟨gb920001, 2, none⟩ = some (.int .i64 0) := (blk_cell BK920001.out 2).trans rfl; have hcz30_3 : w29.cell? ⟨gb920001, 3, none⟩ = some (.string (⟨#[]⟩ : ByteArray)) := (blk_cell BK920001.out 3).trans rfl; have hcz30_4 : w29.cell? ⟨gb920001, 4, none⟩ = some (.int .i64 0) := (blk_cell BK920001.out 4).trans rfl; have hfz30_0 := blk_frozen BK920001.out 0; have hfz30_1 := blk_frozen BK920001.out 1; have hfz30_2 := blk_frozen BK920001.out 2; have hfz30_3 := blk_frozen BK920001.out 3; have hfz30_4 := blk_frozen BK920001.out 4))
         repeat (go_quiet (first | ((with_reducible refine gate_dst (N := 4) rfl ?_); refine box_event ?hg (N := 4) ?hd (cs := #[.int .i64 0, .string (⟨#[]⟩ : ByteArray), .int .i64 0, .string (⟨#[]⟩ : ByteArray), .int .i64 0]) (t := 61) ?hr ?_; (case hd => rfl); (case hg => rfl); (case hr => first | (go_simp; done) | (go_simp; rfl)); intro gb920001 hg w28 hbox hb; have n0_ := Aside0.mk (below_step (by repeat (first | (with_reducible first | exact HB.out | apply below_alloc | apply pw_below_drewN | apply below_drew1) | exact HB.out)) hb); have n1_ := Aside0.mk (hbox); have n2_ := Aside0.mk ((by rw [hg]; exact (below_size (by repeat (first | (with_reducible first | exact HB.out | apply below_alloc | apply pw_below_drewN | apply below_drew1) | exact HB.out))) : w.heap.size ≤ gb920001)); have n3_ := Aside0.mk ((by rw [hg]; exact (below_size (by repeat (first | (with_reducible first | exact HB.out | apply below_alloc | apply pw_below_drewN | apply below_drew1) | exact HB.out))) : w.heap.size ≤ gb920001)); clear HB; have HB := n0_; have BK920001 := n1_; have GW920001 := n2_; have GE920001 := n3_; clear n0_ n1_ n2_ n3_; clear hb hbox hg) | (go_at_call 131; (with_reducible refine (impl_lowFirst.calls a0 t920002 _ A3.out).mono ?_); rintro e w' ⟨rfl, ⟨nd, rfl⟩⟩; (try first | exact ⟨rfl, _, World.drewN_drewN _ _ _⟩ | exact ⟨rfl, _, Eq.trans (World.drewN_drewN _ _ _) (congrArg (World.drewN _) (Nat.add_assoc _ _ _))⟩); have p5 : 0 ≤ (4 : Int) := (by omega); have q5 : 4 < a0.size := (by have : (4 : Int) < (a0.size : Int) := of_decide_eq_true (by first | (with_reducible assumption) | assumption); omega); have hx5 : ∀ h : 4 < a0.size, ((a0[4]'h).toNat : Int) = bt a0 4 := bt_at a0 4; clear p5; have qi5 : (4 < (a0.size : Int)) = True := eq_true (of_decide_eq_true (by first | (with_reducible assumption) | assumption)); replace q5 := eq_true q5) | (go_at_call 132; (with_reducible refine (impl_zeros.calls (a0.extract ((ji15) : Int).toNat 63) false _ A19.out).mono ?_); rintro e w29 ⟨rfl, hb⟩; have n0_ := Aside0.mk (blk_below (g := gb920001) (o := .cells #[.int .i64 0, .string (⟨#[]⟩ : ByteArray), .int .i64 0, .string (⟨#[]⟩ : ByteArray), .int .i64 0] 61 (0, 0)) (by (with_reducible repeat (first | refine blk_drewN ?_ _ | refine blk_drew ?_ | refine blk_alloc ?_ _)); exact BK920001.out) hb); have n1_ := Aside0.mk (below_step (by repeat (first | (with_reducible first | exact HB.out | apply below_alloc | apply pw_below_drewN | apply below_drew1 | refine below_set ?_ GE920001.out) | exact HB.out)) hb); clear BK920001; clear HB; have BK920001 := n0_; have HB := n1_; clear n0_ n1_; (try clear hb); (try clear hb2); (try clear hk); (try clear hi); have hcz30_0 : w29.cell? ⟨gb920001, 0, none⟩ = some (.int .i64 0) := (blk_cell BK920001.out 0).trans rfl; have hcz30_1 : w29.cell? ⟨gb920001, 1, none⟩ = some (.string (⟨#[]⟩ : ByteArray)) := (blk_cell BK920001.out 1).trans rfl; have hcz30_2 : w29.cell? ⟨gb920001, 2, none⟩ = some (.int .i64 0) := (blk_cell BK920001.out 2).trans rfl; have hcz30_3 : w29.cell? ⟨gb920001, 3, none⟩ = some (.string (⟨#[]⟩ : ByteArray)) := (blk_cell BK920001.out 3).trans rfl; have hcz30_4 : w29.cell? ⟨gb920001, 4, none⟩ = some (.int .i64 0) := (blk_cell BK920001.out 4).trans rfl; have hfz30_0 := blk_frozen BK920001.out 0; have hfz30_1 := blk_frozen BK920001.out 1; have hfz30_2 := blk_frozen BK920001.out 2; have hfz30_3 := blk_frozen BK920001.out 3; have hfz30_4 := blk_frozen BK920001.out 4)); try go_wp2_with (first | ((with_reducible refine gate_dst (N := 4) rfl ?_); refine box_event ?hg (N := 4) ?hd (cs := #[.int .i64 0, .string (⟨#[]⟩ : ByteArray), .int .i64 0, .string (⟨#[]⟩ : ByteArray), .int .i64 0]) (t := 61) ?hr ?_; (case hd => rfl); (case hg => rfl); (case hr => first | (go_simp; done) | (go_simp; rfl)); intro gb920001 hg w28 hbox hb; have n0_ := Aside0.mk (below_step (by repeat (first | (with_reducible first | exact HB.out | apply below_alloc | apply pw_below_drewN | apply below_drew1) | exact HB.out)) hb); have n1_ := Aside0.mk (hbox); have n2_ := Aside0.mk ((by rw [hg]; exact (below_size (by repeat (first | (with_reducible first | exact HB.out | apply below_alloc | apply pw_below_drewN | apply below_drew1) | exact HB.out))) : w.heap.size ≤ gb920001)); have n3_ := Aside0.mk ((by rw [hg]; exact (below_size (by repeat (first | (with_reducible first | exact HB.out | apply below_alloc | apply pw_below_drewN | apply below_drew1) | exact HB.out))) : w.heap.size ≤ gb920001)); clear HB; have HB := n0_; have BK920001 := n1_; have GW920001 := n2_; have GE920001 := n3_; clear n0_ n1_ n2_ n3_; clear hb hbox hg) | (go_at_call 131; (with_reducible refine (impl_lowFirst.calls a0 t920002 _ A3.out).mono ?_); rintro e w' ⟨rfl, ⟨nd, rfl⟩⟩; (try first | exact ⟨rfl, _, World.drewN_drewN _ _ _⟩ | exact ⟨rfl, _, Eq.trans (World.drewN_drewN _ _ _) (congrArg (World.drewN _) (Nat.add_assoc _ _ _))⟩); have p5 : 0 ≤ (4 : Int) := (by omega); have q5 : 4 < a0.size := (by have : (4 : Int) < (a0.size : Int) := of_decide_eq_true (by first | (with_reducible assumption) | assumption); omega); have hx5 : ∀ h : 4 < a0.size, ((a0[4]'h).toNat : Int) = bt a0 4 := bt_at a0 4; clear p5; have qi5 : (4 < (a0.size : Int)) = True := eq_true (of_decide_eq_true (by first | (with_reducible assumption) | assumption)); replace q5 := eq_true q5) | (go_at_call 132; (with_reducible refine (impl_zeros.calls (a0.extract ((ji15) : Int).toNat 63) false _ A19.out).mono ?_); rintro e w29 ⟨rfl, hb⟩; have n0_ := Aside0.mk (blk_below (g := gb920001) (o := .cells #[.int .i64 0, .string (⟨#[]⟩ : ByteArray), .int .i64 0, .string (⟨#[]⟩ : ByteArray), .int .i64 0] 61 (0, 0)) (by (with_reducible repeat (first | refine blk_drewN ?_ _ | refine blk_drew ?_ | refine blk_alloc ?_ _)); exact BK920001.out) hb); have n1_ := Aside0.mk (below_step (by repeat (first | (with_reducible first | exact HB.out | apply below_alloc | apply pw_below_drewN | apply below_drew1 | refine below_set ?_ GE920001.out) | exact HB.out)) hb); clear BK920001; clear HB; have BK920001 := n0_; have HB := n1_; clear n0_ n1_; (try clear hb); (try clear hb2); (try clear hk); (try clear hi); have hcz30_0 : w29.cell? ⟨gb920001, 0, none⟩ = some (.int .i64 0) := (blk_cell BK920001.out 0).trans rfl; have hcz30_1 : w29.cell? ⟨gb920001, 1, none⟩ = some (.string (⟨#[]⟩ : ByteArray)) := (blk_cell BK920001.out 1).trans rfl; have hcz30_2 : w29.cell? ⟨gb920001, 2, none⟩ = some (.int .i64 0) := (blk_cell BK920001.out 2).trans rfl; have hcz30_3 : w29.cell? ⟨gb920001, 3, none⟩ = some (.string (⟨#[]⟩ : ByteArray)) := (blk_cell BK920001.out 3).trans rfl; have hcz30_4 : w29.cell? ⟨gb920001, 4, none⟩ = some (.int .i64 0) := (blk_cell BK920001.out 4).trans rfl; have hfz30_0 := blk_frozen BK920001.out 0; have hfz30_1 := blk_frozen BK920001.out 1; have hfz30_2 := blk_frozen BK920001.out 2; have hfz30_3 := blk_frozen BK920001.out 3; have hfz30_4 := blk_frozen BK920001.out 4)))
         refine bodyPost_ret (results_cell_row rfl _ _ gb920001 61 #[.int .i64 0, .string (⟨#[]⟩ : ByteArray), .int .i64 0, .string (⟨#[]⟩ : ByteArray), .int .i64 0] (0, 0) _ rfl (by (with_reducible repeat (first | refine blk_drewN ?_ _ | refine blk_drew ?_ | refine blk_alloc ?_ _)); refine blk_put (cs := #[.int .i64 0, .string (⟨#[]⟩ : ByteArray), .int .i64 0, .string (⟨#[]⟩ : ByteArray), .int .i64 0]) ?_ 4 _ rfl; (with_reducible repeat (first | refine blk_drewN ?_ _ | refine blk_drew ?_ | refine blk_alloc ?_ _)); refine blk_put (cs := #[.int .i64 0, .string (⟨#[]⟩ : ByteArray), .int .i64 0, .string (⟨#[]⟩ : ByteArray), .int .i64 0]) ?_ 3 _ rfl; (with_reducible repeat (first | refine blk_drewN ?_ _ | refine blk_drew ?_ | refine blk_alloc ?_ _)); refine blk_put (cs := #[.int .i64 0, .string (⟨#[]⟩ : ByteArray), .int .i64 0, .string (⟨#[]⟩ : ByteArray), .int .i64 0]) ?_ 2 _ rfl; (with_reducible repeat (first | refine blk_drewN ?_ _ | refine blk_drew ?_ | refine blk_alloc ?_ _)); refine blk_put (cs := #[.int .i64 0, .string (⟨#[]⟩ : ByteArray), .int .i64 0, .string (⟨#[]⟩ : ByteArray), .int .i64 0]) ?_ 1 _ rfl; (with_reducible repeat (first | refine blk_drewN ?_ _ | refine blk_drew ?_ | refine blk_alloc ?_ _)); refine blk_put (cs := #[.int .i64 0, .string (⟨#[]⟩ : ByteArray), .int .i64 0, .string (⟨#[]⟩ : ByteArray), .int .i64 0]) ?_ 0 _ rfl; (with_reducible repeat (first | refine blk_drewN ?_ _ | refine blk_drew ?_ | refine blk_alloc ?_ _)); exact BK920001.out) Tryd.underlying61 rfl (by kernel_rfl)) rfl ?_; exact ⟨by first | rfl | (simp [errW_none, errW_some] <;> rfl) | (simp only [← hji15]; first | rfl | (simp [errW_none, errW_some] <;> rfl)) | (simp [*, errW_none, errW_some] <;> rfl), by repeat (first | (with_reducible first | exact HB.out | apply below_alloc | apply pw_below_drewN | apply below_drew1 | refine below_set ?_ GE920001.out) | exact HB.out)⟩
       ·rw [if_neg c18] at H; exact absurd H (by simp)
      ·rw [if_neg c17] at H; exact absurd H (by simp)
     ·rw [if_neg c16] at H; exact absurd H (by simp)
 ·rw [if_neg c4] at H; exact absurd H (by simp)
end Go.Proofs.YtonbmghgbblifaaDoor.Z
end
section
namespace Go.Proofs.YtonbmghgbblifaaDoor.Z
open Go.RowKit Go.Proofs.YtonbmghgbblifaaDoor Go.Proofs.YtonbmghgbblifaaDoorW.PrintWords Go.Proofs.YtonbmghgbblifaaDoorW.PrintLast
set_option linter.unusedVariables false
set_option linter.unusedSimpArgs false
set_option maxRecDepth 100000
def rec0 : Int × ByteArray × Int × ByteArray × Int := (0, ⟨#[]⟩, 0, ⟨#[]⟩, 0)
def impl_ReadRecord.f (a0 : ByteArray) (a1 : Int) : Option (Int × ByteArray × Int × ByteArray × Int) :=
 if a0.size ≤ 1099511627776 then
  (if a1 < 0 then some rec0 else if a1 > (a0.size : Int) / 64 then some rec0 else
   if ((a0.extract (a1.toNat * 64) a0.size).size : Int) < 64 then some rec0 else
   if bt (a0.extract (a1.toNat * 64) a0.size) 63 = 67 then impl_readCommit.f (a0.extract (a1.toNat * 64) a0.size) a1 else
   if bt (a0.extract (a1.toNat * 64) a0.size) 63 = 83 then impl_readNode.f (a0.extract (a1.toNat * 64) a0.size) a1 else some rec0)
 else none
theorem rec_ok (r1 : Int) (r2 : ByteArray) (r3 : Int) (r4 : ByteArray) (r5 : Int) : (#[Value.int .i64 r1, .string r2, .int .i64 r3, .string r4, .int .i64 r5]).all (·.oneCell') = true := by simp [Value.oneCell']
theorem rec_info (r1 : Int) (r2 : ByteArray) (r3 : Int) (r4 : ByteArray) (r5 : Int) : (Tryd.prog.info? 61).map (·.size) = some (#[Value.int .i64 r1, .string r2, .int .i64 r3, .string r4, .int .i64 r5].size) := by kernel_rfl
set_option maxHeartbeats 2000000 in
theorem impl_ReadRecord.calls (a0 : ByteArray) (a1 r1 : Int) (r2 : ByteArray) (r3 : Int) (r4 : ByteArray) (r5 : Int) (w : World) (h : impl_ReadRecord.f a0 a1 = some (r1, r2, r3, r4, r5)) :
  Calls Tryd.prog 35 #[.string a0, .int .i64 a1] w fun e w' => e = .returned (.agg #[.int .i64 r1, .string r2, .int .i64 r3, .string r4, .int .i64 r5]) ∧ Below w.heap.size w w' := by
 unfold impl_ReadRecord.f at h
 split at h
 rotate_left
 ·cases h
 rename_i hsz
 have H := Lib.hid h; clear h; have HS := Lib.hid hsz; clear hsz
 go_enter Tryd.func35, Tryd.ntmps35
 go_upto_region 1 with fail
 obtain ⟨wq, hwq⟩ : ∃ wq, wq = (w.alloc (.cells #[.int .i64 0, .string (⟨#[]⟩ : ByteArray), .int .i64 0, .string (⟨#[]⟩ : ByteArray), .int .i64 0] 61)) := ⟨_, rfl⟩
 have hrow : wq.heap[w.heap.size]? = some (.cells #[.int .i64 0, .string (⟨#[]⟩ : ByteArray), .int .i64 0, .string (⟨#[]⟩ : ByteArray), .int .i64 0] 61 (0, 0)) := by rw [hwq]; exact heap_alloc_new _ _
 have hbq : Below w.heap.size w wq := by rw [hwq]; exact ((Below.refl _ _).alloc (Nat.le_refl _) _)
 rw [← hwq]; clear hwq; have hsz := HS.out
 by_cases hneg : a1 < 0
 ·have h := H.out; rw [if_pos hneg] at h; have h := Option.some.inj h; simp only [rec0, Prod.mk.injEq] at h; obtain ⟨rfl, rfl, rfl, rfl, rfl⟩ := h; clear H
  (have rc0 : wq.cell? ⟨w.heap.size, 0, none⟩ = some (.int .i64 0) := (blk_cell hrow 0).trans rfl; have rc1 : wq.cell? ⟨w.heap.size, 1, none⟩ = some (.string (⟨#[]⟩ : ByteArray)) := (blk_cell hrow 1).trans rfl; have rc2 : wq.cell? ⟨w.heap.size, 2, none⟩ = some (.int .i64 0) := (blk_cell hrow 2).trans rfl; have rc3 : wq.cell? ⟨w.heap.size, 3, none⟩ = some (.string (⟨#[]⟩ : ByteArray)) := (blk_cell hrow 3).trans rfl; have rc4 : wq.cell? ⟨w.heap.size, 4, none⟩ = some (.int .i64 0) := (blk_cell hrow 4).trans rfl; have rf0 := blk_frozen hrow 0; have rf1 := blk_frozen hrow 1; have rf2 := blk_frozen hrow 2; have rf3 := blk_frozen hrow 3; have rf4 := blk_frozen hrow 4)
  go_wp2_with fail
  refine bodyPost_ret (results_cell_row rfl _ _ w.heap.size 61 #[.int .i64 0, .string (⟨#[]⟩ : ByteArray), .int .i64 0, .string (⟨#[]⟩ : ByteArray), .int .i64 0] (0, 0) _ rfl (by exact blk_put (blk_put (blk_put (blk_put (blk_put hrow 0 _ rfl) 1 _ rfl) 2 _ rfl) 3 _ rfl) 4 _ rfl) Tryd.underlying61 rfl (by kernel_rfl)) rfl ?_; exact ⟨rfl, by (repeat' (first | exact Below.refl _ _ | (with_reducible assumption) | (with_reducible refine Below.setCell ?_ (by first | (simp; done) | (simp; omega)) _) | refine below_then ?_ (by assumption) | (with_reducible refine below_new2 ?_ _) | (with_reducible refine Below.drew ?_) | (with_reducible refine bdrewN ?_ _)))⟩
 by_cases hbig : a1 > (a0.size : Int) / 64
 ·have h := H.out; rw [if_neg hneg, if_pos hbig] at h; have h := Option.some.inj h; simp only [rec0, Prod.mk.injEq] at h; obtain ⟨rfl, rfl, rfl, rfl, rfl⟩ := h; have hb2 : (a0.size : Int) / 64 < a1 := hbig; clear H hbig
  (have rc0 : wq.cell? ⟨w.heap.size, 0, none⟩ = some (.int .i64 0) := (blk_cell hrow 0).trans rfl; have rc1 : wq.cell? ⟨w.heap.size, 1, none⟩ = some (.string (⟨#[]⟩ : ByteArray)) := (blk_cell hrow 1).trans rfl; have rc2 : wq.cell? ⟨w.heap.size, 2, none⟩ = some (.int .i64 0) := (blk_cell hrow 2).trans rfl; have rc3 : wq.cell? ⟨w.heap.size, 3, none⟩ = some (.string (⟨#[]⟩ : ByteArray)) := (blk_cell hrow 3).trans rfl; have rc4 : wq.cell? ⟨w.heap.size, 4, none⟩ = some (.int .i64 0) := (blk_cell hrow 4).trans rfl; have rf0 := blk_frozen hrow 0; have rf1 := blk_frozen hrow 1; have rf2 := blk_frozen hrow 2; have rf3 := blk_frozen hrow 3; have rf4 := blk_frozen hrow 4)
  go_wp2_with fail
  refine bodyPost_ret (results_cell_row rfl _ _ w.heap.size 61 #[.int .i64 0, .string (⟨#[]⟩ : ByteArray), .int .i64 0, .string (⟨#[]⟩ : ByteArray), .int .i64 0] (0, 0) _ rfl (by exact blk_put (blk_put (blk_put (blk_put (blk_put hrow 0 _ rfl) 1 _ rfl) 2 _ rfl) 3 _ rfl) 4 _ rfl) Tryd.underlying61 rfl (by kernel_rfl)) rfl ?_; exact ⟨rfl, by (repeat' (first | exact Below.refl _ _ | (with_reducible assumption) | (with_reducible refine Below.setCell ?_ (by first | (simp; done) | (simp; omega)) _) | refine below_then ?_ (by assumption) | (with_reducible refine below_new2 ?_ _) | (with_reducible refine Below.drew ?_) | (with_reducible refine bdrewN ?_ _)))⟩
 obtain ⟨n, rfl⟩ := Int.eq_ofNat_of_zero_le (show 0 ≤ a1 by omega); have h := H.out; rw [if_neg hneg, if_neg hbig, Int.toNat_natCast] at h; clear H; have hn : n ≤ a0.size / 64 := by omega
 have hF : n * 64 ≤ a0.size := by omega
 have nb : (n : Int) ≤ (a0.size : Int) / 64 := by omega
 have nF : (n : Int) * 64 ≤ (a0.size : Int) := by omega
 clear hbig hneg
 go_upto_region 4 with fail
 obtain ⟨T, hT⟩ : ∃ T, a0.extract (n * 64) a0.size = T := ⟨_, rfl⟩
 have hTs : T.size ≤ a0.size := by rw [← hT, ByteArray.size_extract]; omega
 rw [hT] at h ⊢; clear hT nF nb hF hn
 by_cases h64 : (T.size : Int) < 64
 ·rw [if_pos h64] at h; have h := Option.some.inj h; simp only [rec0, Prod.mk.injEq] at h; obtain ⟨rfl, rfl, rfl, rfl, rfl⟩ := h
  (have rc0 : wq.cell? ⟨w.heap.size, 0, none⟩ = some (.int .i64 0) := (blk_cell hrow 0).trans rfl; have rc1 : wq.cell? ⟨w.heap.size, 1, none⟩ = some (.string (⟨#[]⟩ : ByteArray)) := (blk_cell hrow 1).trans rfl; have rc2 : wq.cell? ⟨w.heap.size, 2, none⟩ = some (.int .i64 0) := (blk_cell hrow 2).trans rfl; have rc3 : wq.cell? ⟨w.heap.size, 3, none⟩ = some (.string (⟨#[]⟩ : ByteArray)) := (blk_cell hrow 3).trans rfl; have rc4 : wq.cell? ⟨w.heap.size, 4, none⟩ = some (.int .i64 0) := (blk_cell hrow 4).trans rfl; have rf0 := blk_frozen hrow 0; have rf1 := blk_frozen hrow 1; have rf2 := blk_frozen hrow 2; have rf3 := blk_frozen hrow 3; have rf4 := blk_frozen hrow 4)
  go_wp2_with fail
  refine bodyPost_ret (results_cell_row rfl _ _ w.heap.size 61 #[.int .i64 0, .string (⟨#[]⟩ : ByteArray), .int .i64 0, .string (⟨#[]⟩ : ByteArray), .int .i64 0] (0, 0) _ rfl (by exact blk_put (blk_put (blk_put (blk_put (blk_put hrow 0 _ rfl) 1 _ rfl) 2 _ rfl) 3 _ rfl) 4 _ rfl) Tryd.underlying61 rfl (by kernel_rfl)) rfl ?_; exact ⟨rfl, by (repeat' (first | exact Below.refl _ _ | (with_reducible assumption) | (with_reducible refine Below.setCell ?_ (by first | (simp; done) | (simp; omega)) _) | refine below_then ?_ (by assumption) | (with_reducible refine below_new2 ?_ _) | (with_reducible refine Below.drew ?_) | (with_reducible refine bdrewN ?_ _)))⟩
 rw [if_neg h64] at h; have h63 : 63 < T.size := by omega
 have hb63 := btg T 63 h63; rw [show (((63 : Nat) : Int)) = 63 from rfl] at hb63; have hI := Lib.hid (rec_info r1 r2 r3 r4 r5); have hO := Lib.hid (rec_ok r1 r2 r3 r4 r5); have HROW := Lib.hid hrow; have hsz5 : (#[.int .i64 0, .string (⟨#[]⟩ : ByteArray), .int .i64 0, .string (⟨#[]⟩ : ByteArray), .int .i64 0] : Array Value).size = (#[Value.int .i64 r1, .string r2, .int .i64 r3, .string r4, .int .i64 r5]).size := rfl; have HSZ := Lib.hid hsz5; have q63 : (0 : Int) ≤ 63 := by omega
 have hbz : w.heap.size < wq.heap.size := (World.block_lt_of_cell? _ ⟨w.heap.size, 0, none⟩ ((blk_cell hrow 0).trans rfl))
 by_cases hC : bt T 63 = 67
 ·rw [if_pos hC] at h; have H := Lib.hid h; clear h; rw [hb63] at hC; have hq : (((T[63]'h63).toNat : Int) == 67) = true := beq_iff_eq.2 (show ((T[63]'h63).toNat : Int) = 67 from hC); clear hb63 hsz5 hC
  go_wp2_with fail
  refine (impl_readCommit.calls T _ r1 r2 r3 r4 r5 _ H.out).mono ?_; rintro e w1 ⟨rfl, hb1⟩; have HR1 := Lib.hid ((hb1.block _ hbz).trans HROW.out)
  go_wp2_with (refine wpList_store_row rfl 61 _ _ rfl w.heap.size _ rfl rfl _ _ HR1.out hI.out HSZ.out hO.out ?_)
  refine bodyPost_ret (results_cell_row rfl _ _ w.heap.size 61 _ (0, 0) _ rfl (setRow_heap _ _ _ _ _ _ HR1.out) Tryd.underlying61 rfl hI.out) rfl ⟨rfl, ?_⟩; have hb := hbq.trans (hb1.mono (Nat.le_of_lt hbz)); exact ⟨hb.os, hb.tape, hb.output, by rw [setRow_size]; exact hb.size, fun k hk => (setRow_other _ _ _ _ (by omega)).trans (hb.block k hk)⟩
 rw [if_neg hC] at h
 by_cases hD : bt T 63 = 83
 ·rw [if_pos hD] at h; have H := Lib.hid h; clear h; rw [hb63] at hC hD; have hq : (((T[63]'h63).toNat : Int) == 67) = false := beq_eq_false_iff_ne.2 (show ¬ ((T[63]'h63).toNat : Int) = 67 from hC); have hq2 : (((T[63]'h63).toNat : Int) == 83) = true := beq_iff_eq.2 (show ((T[63]'h63).toNat : Int) = 83 from hD); clear hb63 hsz5 hC hD
  go_wp2_with fail
  refine (impl_readNode.calls T _ r1 r2 r3 r4 r5 _ H.out).mono ?_; rintro e w1 ⟨rfl, hb1⟩; have HR1 := Lib.hid ((hb1.block _ hbz).trans HROW.out)
  go_wp2_with (refine wpList_store_row rfl 61 _ _ rfl w.heap.size _ rfl rfl _ _ HR1.out hI.out HSZ.out hO.out ?_)
  refine bodyPost_ret (results_cell_row rfl _ _ w.heap.size 61 _ (0, 0) _ rfl (setRow_heap _ _ _ _ _ _ HR1.out) Tryd.underlying61 rfl hI.out) rfl ⟨rfl, ?_⟩; have hb := hbq.trans (hb1.mono (Nat.le_of_lt hbz)); exact ⟨hb.os, hb.tape, hb.output, by rw [setRow_size]; exact hb.size, fun k hk => (setRow_other _ _ _ _ (by omega)).trans (hb.block k hk)⟩
 ·rw [if_neg hD] at h; have h := Option.some.inj h; simp only [rec0, Prod.mk.injEq] at h; obtain ⟨rfl, rfl, rfl, rfl, rfl⟩ := h; rw [hb63] at hC hD; have hq : (((T[63]'h63).toNat : Int) == 67) = false := beq_eq_false_iff_ne.2 (show ¬ ((T[63]'h63).toNat : Int) = 67 from hC); have hq2 : (((T[63]'h63).toNat : Int) == 83) = false := beq_eq_false_iff_ne.2 (show ¬ ((T[63]'h63).toNat : Int) = 83 from hD); clear hb63 hsz5 hC hD hI hO HSZ
  (have rc0 : wq.cell? ⟨w.heap.size, 0, none⟩ = some (.int .i64 0) := (blk_cell hrow 0).trans rfl; have rc1 : wq.cell? ⟨w.heap.size, 1, none⟩ = some (.string (⟨#[]⟩ : ByteArray)) := (blk_cell hrow 1).trans rfl; have rc2 : wq.cell? ⟨w.heap.size, 2, none⟩ = some (.int .i64 0) := (blk_cell hrow 2).trans rfl; have rc3 : wq.cell? ⟨w.heap.size, 3, none⟩ = some (.string (⟨#[]⟩ : ByteArray)) := (blk_cell hrow 3).trans rfl; have rc4 : wq.cell? ⟨w.heap.size, 4, none⟩ = some (.int .i64 0) := (blk_cell hrow 4).trans rfl; have rf0 := blk_frozen hrow 0; have rf1 := blk_frozen hrow 1; have rf2 := blk_frozen hrow 2; have rf3 := blk_frozen hrow 3; have rf4 := blk_frozen hrow 4)
  go_wp2_with fail
  refine bodyPost_ret (results_cell_row rfl _ _ w.heap.size 61 #[.int .i64 0, .string (⟨#[]⟩ : ByteArray), .int .i64 0, .string (⟨#[]⟩ : ByteArray), .int .i64 0] (0, 0) _ rfl (by exact blk_put (blk_put (blk_put (blk_put (blk_put hrow 0 _ rfl) 1 _ rfl) 2 _ rfl) 3 _ rfl) 4 _ rfl) Tryd.underlying61 rfl (by kernel_rfl)) rfl ?_; exact ⟨rfl, by (repeat' (first | exact Below.refl _ _ | (with_reducible assumption) | (with_reducible refine Below.setCell ?_ (by first | (simp; done) | (simp; omega)) _) | refine below_then ?_ (by assumption) | (with_reducible refine below_new2 ?_ _) | (with_reducible refine Below.drew ?_) | (with_reducible refine bdrewN ?_ _)))⟩
end Go.Proofs.YtonbmghgbblifaaDoor.Z
end
section
namespace Go.Proofs.YtonbmghgbblifaaDoor
open Go.RowKit
set_option linter.unusedVariables false
set_option linter.unusedSimpArgs false
def chunk (l : List UInt8) (i : Nat) : List UInt8 := (l.drop (63 * i)).take 63
def secOne (l a b : List UInt8) (i : Nat) : List UInt8 := chunk l i ++ List.replicate (63 - (chunk l i).length) 0 ++ (if i = 0 then a else b)
def secs (l a b : List UInt8) : Nat → List UInt8
 | 0 => []
 | m + 1 => secs l a b m ++ secOne l a b m
theorem chunk_length (l : List UInt8) (i : Nat) : (chunk l i).length = min 63 (l.length - 63 * i) := by simp [chunk]
theorem chunk_le (l : List UInt8) (i : Nat) : (chunk l i).length ≤ 63 := by rw [chunk_length]; omega
theorem secOne_length (l a b : List UInt8) (i : Nat) (ha : a.length ≤ 1) (hb : b.length ≤ 1) : (secOne l a b i).length ≤ 64 := by
 unfold secOne; have h := chunk_le l i; rw [List.length_append, List.length_append, List.length_replicate]
 split <;> omega
theorem secs_length (l a b : List UInt8) (ha : a.length ≤ 1) (hb : b.length ≤ 1) : ∀ m, (secs l a b m).length ≤ 64 * m
 | 0 => by simp [secs]
 | m + 1 => by
  have h1 := secs_length l a b ha hb m; have h2 := secOne_length l a b m ha hb; rw [secs, List.length_append]; omega
def nSec (n : Nat) : Nat := (n + 62) / 63
theorem repeat_zero (n : Nat) : Lib.repeatL [0] n = List.replicate n 0 := by
 have h := Lib.repeatL_replicate 0 1 n
 simpa using h
theorem zeros_any (z : Int) (h0 : 0 ≤ z) (h : z ≤ 63) (w : World) : Calls Tryd.prog 130 #[.string ⟨#[0]⟩, .int .i64 z] w fun e w' => e = .returned (.string ⟨(List.replicate z.toNat 0).toArray⟩) ∧ Below w.heap.size w w' := by
 obtain ⟨n, rfl⟩ : ∃ n : Nat, z = n := ⟨z.toNat, by omega⟩
 have h1 := Tryd.strings_Repeat ⟨#[0]⟩ n w (by omega) (by show 1 * n ≤ _; omega); rw [show (⟨#[0]⟩ : ByteArray).data.toList = [0] from rfl, repeat_zero] at h1; exact h1
theorem ext_chunk (s : ByteArray) (m en : Nat) (h : en = min (63 * m + 63) s.size) : (s.extract (63 * m) en).data.toList = chunk s.data.toList m := by
 have hl : s.data.toList.length = s.size := rfl; unfold chunk; simp only [ByteArray.data_extract, Array.toList_extract, List.extract]; subst h
 rcases Nat.le_total (63 * m + 63) s.size with h | h
 ·rw [Nat.min_eq_left h, show 63 * m + 63 - 63 * m = 63 by omega]
 ·rw [Nat.min_eq_right h, List.take_of_length_le (by rw [List.length_drop]; omega), List.take_of_length_le (by rw [List.length_drop]; omega)]
set_option maxHeartbeats 2000000 in
theorem sectors_any (s : ByteArray) (a b : UInt8) (x y : Int) (hx : x = a.toNat) (hy : y = b.toNat) (h0 : 0 < s.size) (hs : s.size ≤ 1048576) (w : World) :
  Calls Tryd.prog 89 #[.string s, .int .u8 x, .int .u8 y] w fun e w' => e = .returned (.string ⟨(secs s.data.toList [a] [b] (nSec s.size)).toArray⟩) ∧ Below w.heap.size w w' := by
 have hl : s.data.toList.length = s.size := rfl; have HL := Lib.hid hl; clear hl; have HX := Lib.hid hx; clear hx; have HY := Lib.hid hy; clear hy
 go_enter Tryd.func89, Tryd.ntmps89
 go_wp2
 go_loopw [8, 9] (fun k i wr => ∃ m : Nat, 63 * m < s.size + 63 ∧ i = .int .i64 ((63 * m : Nat) : Int) ∧ k = .int .u8 (if m = 0 then x else y) ∧ Bld 107 w.heap.size w.heap.size (secs s.data.toList [a] [b] m) wr ∧ Below w.heap.size w wr) (fun _ i _ => s.size + 63 - (intOf i).toNat)
 case atStart => exact ⟨0, by omega, rfl, rfl, Bld.fresh _ _, by (repeat' (first | exact Below.refl _ _ | (with_reducible assumption) | (with_reducible refine Below.setCell ?_ (by first | (simp; done) | (simp; omega)) _) | refine below_then ?_ (by assumption) | (with_reducible refine below_new2 ?_ _) | (with_reducible refine Below.drew ?_) | (with_reducible refine bdrewN ?_ _)))⟩
 case round =>
  obtain ⟨m, hm, rfl, rfl, hB, hb⟩ := hrel; have hsl := secs_length s.data.toList [a] [b] (by simp) (by simp) m; have HB := Lib.hid hB; clear hB
  by_cases hlt : 63 * m < s.size
  ·obtain ⟨at_, hat⟩ : ∃ at_, at_ = 63 * m := ⟨_, rfl⟩
   rw [← hat] at hlt ⊢; have h64 : 64 * m ≤ 2 * at_ := by omega
   have HAT := Lib.hid hat; clear hat
   go_wp2_with fail
   all_goals
    obtain ⟨en, hen⟩ : ∃ en, (min ((at_ : Int) + 63) (s.size : Int)).toNat = en := ⟨_, rfl⟩
    rw [hen]; have h1 : at_ ≤ en := by omega
    have h2 : en ≤ s.size := by omega
    have h3 : en ≤ at_ + 63 := by omega
    have hpart : (s.extract at_ en).data.toList = chunk s.data.toList m := by
     have := HAT.out; rw [this]; exact ext_chunk s m en (by omega)
    have hps : (s.extract at_ en).size = en - at_ := by rw [ByteArray.size_extract]; omega
    have hcl : (chunk s.data.toList m).length = en - at_ := by rw [← hpart]; exact hps
    have HP := Lib.hid hpart; clear hpart; have HC := Lib.hid hcl; clear hcl; have HE := Lib.hid hen; clear hen; have hz0 := hb.size; refine (writeString_any 107 liesBuilder w.heap.size w.heap.size _ _ _ HB.out (by rw [hps]; omega) hz0).mono ?_; rintro e w1 ⟨rfl, hB1, hb1⟩; have HB1 := Lib.hid hB1; clear hB1; have hz1 := hb1.size
    go_wp2_with fail
    refine (zeros_any _ (by omega) (by omega) _).mono ?_; rintro e w2 ⟨rfl, hb2⟩; have hz2 := hb2.size
    go_wp2_with fail
    refine (writeString_any 107 liesBuilder w.heap.size w.heap.size _ _ _ (HB1.out.below hb2) (by rw [List.length_append]; show _ + (s.extract at_ en).size + (Array.replicate (63 - (en - at_)) (0 : UInt8)).size ≤ _; rw [hps, Array.size_replicate]; omega) (by omega)).mono ?_; rintro e w3 ⟨rfl, hB3, hb3⟩; have HB3 := Lib.hid hB3; clear hB3; have hz3 := hb3.size
    go_wp2_with fail
    refine (writeByte_any 107 liesBuilder w.heap.size w.heap.size _ _ _ (by first | exact HX.out | exact HY.out) _ HB3.out (by rw [List.length_append, List.length_append]; show _ + (s.extract at_ en).size + (Array.replicate (63 - (en - at_)) (0 : UInt8)).size + 1 ≤ _; rw [hps, Array.size_replicate]; omega) (by omega)).mono ?_; rintro e w4 ⟨rfl, hB4, hb4⟩; have HB4 := Lib.hid hB4; clear hB4
    go_wp2
    go_roundw
    case rel =>
     refine ⟨m + 1, by have := HAT.out; omega, ?_, by rw [if_neg (by omega)], ?_, ((hb.trans (hb1.mono (by omega))).trans (hb2.mono (by omega))).trans ((hb3.mono (by omega)).trans (hb4.mono (by omega)))⟩
     ·rw [show 63 * (m + 1) = at_ + 63 by have := HAT.out; omega]; go_num
     ·have h := HB4.out; have e0 : secs s.data.toList [a] [b] (m + 1) = secs s.data.toList [a] [b] m ++ (s.extract at_ en).data.toList ++ (⟨Array.replicate (63 - (en - at_)) 0⟩ : ByteArray).data.toList ++ (if m = 0 then [a] else [b]) := by
       rw [secs, secOne, HP.out, HC.out]; simp [List.append_assoc]
      rw [e0]
      first
       | (rw [if_pos (by assumption)]; exact h)
       | (rw [if_neg (by assumption)]; exact h)
    case measure => simp [intOf]; omega
  ·have hms : m = nSec s.size := by unfold nSec; omega
   subst hms; have hne : secs s.data.toList [a] [b] (nSec s.size) ≠ [] := by
    obtain ⟨k, hk⟩ : ∃ k, nSec s.size = k + 1 := ⟨nSec s.size - 1, by unfold nSec; omega⟩
    rw [hk, secs, secOne]
    split <;> simp
   have hz0 := hb.size; have hge : ¬ ((63 * nSec s.size : Nat) : Int) < s.size := by omega
   obtain ⟨q, hq⟩ : ∃ q, nSec s.size = q := ⟨_, rfl⟩
   rw [hq] at HB hne hge ⊢; have HQ := Lib.hid hq; clear hq
   go_wp2_with fail
   all_goals
    refine (string_any 107 w.heap.size w.heap.size _ _ HB.out hne).mono ?_; rintro e w1 ⟨rfl, hb1⟩
    go_wp2
    go_ret
    exact ⟨by rw [HQ.out]; rfl, hb.trans hb1⟩
end Go.Proofs.YtonbmghgbblifaaDoor
end
section
namespace Go.Proofs.YtonbmghgbblifaaDoor.Z
open Go.RowKit Go.Proofs.YtonbmghgbblifaaDoor
set_option linter.unusedVariables false
set_option linter.unusedSimpArgs false
def rep (n : Nat) (c : UInt8) : ByteArray := ⟨(List.replicate n c).toArray⟩
theorem rep_size (n : Nat) (c : UInt8) : (rep n c).size = n := by simp [rep, ByteArray.size]
theorem rep_add (m n : Nat) (c : UInt8) : rep m c ++ rep n c = rep (m + n) c := by
 apply ByteArray.ext
 simp [rep, ByteArray.data_append]
set_option maxHeartbeats 400000 in
theorem l1Long_nat (c : UInt8) : ∀ (n : Nat), n ≤ 4294967296 → ∀ w, Calls Tryd.prog 75 #[.int .i64 n, .string (rep 1 c)] w fun e w' => e = .returned (.string (rep n c)) ∧ Below w.heap.size w w' := by
 intro n
 induction n using Nat.strongRecOn with | ind n ih =>
 intro hn w; have HI := Lib.hid ih; clear ih
 by_cases h0 : n = 0
 ·subst h0
  go_enter Tryd.func75, Tryd.ntmps75
  go_wp2
  go_loop [5] (fun s => s = .string ⟨#[]⟩) (fun _ => 0)
  case atStart => rfl
  case round =>
   subst hrel
   go_wp2
   go_ret
   exact ⟨rfl, by (repeat' (first | exact Below.refl _ _ | (with_reducible assumption) | (with_reducible refine Below.setCell ?_ (by first | (simp; done) | (simp; omega)) _) | refine below_then ?_ (by assumption) | (with_reducible refine below_new2 ?_ _) | (with_reducible refine Below.drew ?_) | (with_reducible refine bdrewN ?_ _)))⟩
 ·have hb0 : decide (0 < n) = true := by simp; omega
  have hb1 : decide ((0:Int) < (n : Int)) = true := by simp; omega
  have hp : 0 < n := by omega
  clear h0
  go_enter Tryd.func75, Tryd.ntmps75
  go_wp2
  go_loop [5] (fun s => ∃ m : Nat, 1 ≤ m ∧ m ≤ n ∧ s = .string (rep m c)) (fun s => match s with | .string b => n - b.size | _ => 0)
  case atStart => exact ⟨1, by omega, by omega, rfl⟩
  case round =>
   obtain ⟨m, h1, hm, rfl⟩ := hrel; have hsz := rep_size m c
   by_cases hc : m * 2 ≤ n
   ·go_wp2
    go_round
    case rel => exact ⟨m + m, by omega, by omega, by rw [rep_add]⟩
    case measure => simp [rep_size, ← rep_add]; omega
   ·by_cases hl : m < n
    ·have hj : m + (n - m) = n := by omega
     have HJ := Lib.hid hj; clear hj; have hq := rep_size (n - m) c; have hsum : (rep m c).size + (rep (n - m) c).size ≤ 9223372036854775807 := by rw [hsz, hq]; omega
     go_wp2_with fail
     rw [show ((n : Int) - (m : Int)) = ((n - m : Nat) : Int) by omega]; refine (HI.out (n - m) (by omega) (by omega) _).mono ?_; rintro e w1 ⟨rfl, hb⟩
     go_wp2
     go_ret
     exact ⟨by rw [rep_add, HJ.out]; rfl, by (repeat' (first | exact Below.refl _ _ | (with_reducible assumption) | (with_reducible refine Below.setCell ?_ (by first | (simp; done) | (simp; omega)) _) | refine below_then ?_ (by assumption) | (with_reducible refine below_new2 ?_ _) | (with_reducible refine Below.drew ?_) | (with_reducible refine bdrewN ?_ _)))⟩
    ·obtain rfl : m = n := by omega
     go_wp2
     go_ret
     exact ⟨rfl, by (repeat' (first | exact Below.refl _ _ | (with_reducible assumption) | (with_reducible refine Below.setCell ?_ (by first | (simp; done) | (simp; omega)) _) | refine below_then ?_ (by assumption) | (with_reducible refine below_new2 ?_ _) | (with_reducible refine Below.drew ?_) | (with_reducible refine bdrewN ?_ _)))⟩
def spec_l1Long.f (a0 : Int) (a1 : ByteArray) : Option ByteArray :=
 if 0 ≤ a0 ∧ a0 ≤ 4294967296 ∧ a1.size = 1 then some (rep a0.toNat (a1.data.getD 0 0)) else none
theorem one_byte (s : ByteArray) (h : s.size = 1) : s = rep 1 (s.data.getD 0 0) := by
 obtain ⟨⟨l⟩⟩ := s
 match l, h with
 | [c], _ => rfl
theorem spec_l1Long.calls (a0 : Int) (a1 r : ByteArray) (w : World) (h : spec_l1Long.f a0 a1 = some r) :
  Calls Tryd.prog 75 #[.int .i64 a0, .string a1] w fun e w' => e = .returned (.string r) ∧ Below w.heap.size w w' := by
 unfold spec_l1Long.f at h
 split at h
 ·rename_i hc
  obtain ⟨h0, h1, h2⟩ := hc; obtain ⟨n, rfl⟩ := Int.eq_ofNat_of_zero_le h0; obtain rfl := Option.some.inj h; rw [Int.toNat_natCast]; have := l1Long_nat (a1.data.getD 0 0) n (by omega) w; rw [← one_byte a1 h2] at this; exact this
 ·cases h
end Go.Proofs.YtonbmghgbblifaaDoor.Z
end
section
namespace Go.Proofs.YtonbmghgbblifaaDoor.Z
open Go.RowKit Go.Proofs.YtonbmghgbblifaaDoor
set_option linter.unusedVariables false
set_option linter.unusedSimpArgs false
def nodeRecL (e : ByteArray) : List UInt8 := numL e.size 4 true 4 ++ e.data.toList
def nodeRec (e : ByteArray) : ByteArray := ⟨(secs (nodeRecL e) [83] [77] (nSec (nodeRecL e).length)).toArray⟩
def commitRecL (n : Nat) (r : ByteArray) : List UInt8 := numL n 4 true 4 ++ numL r.size 1 true 1 ++ r.data.toList
def commitRec (n : Nat) (r : ByteArray) : ByteArray := ⟨(secs (commitRecL n r) [67] [67] (nSec (commitRecL n r).length)).toArray⟩
def recOk (e : ByteArray) : Bool := decide (1 ≤ e.size ∧ e.size ≤ 4000)
def nodeRecV (a0 : ByteArray) : ByteArray := if recOk a0 then nodeRec a0 else ⟨#[]⟩
theorem nodeRecV_yes {a0 : ByteArray} (h : 1 ≤ a0.size ∧ a0.size ≤ 4000) : nodeRecV a0 = nodeRec a0 := by unfold nodeRecV recOk; rw [decide_eq_true h]; rfl
theorem nodeRecV_no {a0 : ByteArray} (h : ¬ (1 ≤ a0.size ∧ a0.size ≤ 4000)) : nodeRecV a0 = ⟨#[]⟩ := by unfold nodeRecV recOk; rw [decide_eq_false h]; rfl
def impl_NodeRecord.f (a0 : ByteArray) : Option ByteArray := some (nodeRecV a0)
theorem arr_size (l : List UInt8) : (⟨l.toArray⟩ : ByteArray).size = l.length := by simp [ByteArray.size]
set_option maxHeartbeats 1000000 in
theorem impl_NodeRecord.calls (a0 r : ByteArray) (w : World) (h : impl_NodeRecord.f a0 = some r) :
  Calls Tryd.prog 34 #[.string a0] w fun e w' => e = .returned (.string r) ∧ Below w.heap.size w w' := by
 obtain rfl := Option.some.inj h; clear h; have hsz : (a0.toList.isEmpty = true) ↔ a0.size = 0 := by
  rw [ByteArray.toList_eq, List.isEmpty_iff, Array.toList_eq_nil_iff, ← Array.size_eq_zero_iff]; rfl
 by_cases h0 : a0.size = 0
 ·have hE := hsz.2 h0; have hr := nodeRecV_no (a0 := a0) (by omega); have HR := Lib.hid hr; clear hr h0 hsz
  go_enter Tryd.func34, Tryd.ntmps34
  go_wp2
  go_ret
  exact ⟨by rw [HR.out]; rfl, by (repeat' (first | exact Below.refl _ _ | (with_reducible assumption) | (with_reducible refine Below.setCell ?_ (by first | (simp; done) | (simp; omega)) _) | refine below_then ?_ (by assumption) | (with_reducible refine below_new2 ?_ _) | (with_reducible refine Below.drew ?_) | (with_reducible refine bdrewN ?_ _)))⟩
 ·have hE : a0.toList.isEmpty = false := by rw [Bool.eq_false_iff]; exact fun h => h0 (hsz.1 h)
  have h1 : 1 ≤ a0.size := by omega
  clear hsz h0
  by_cases h2 : a0.size ≤ 4000
  ·have hr := nodeRecV_yes (a0 := a0) (by omega); have HR := Lib.hid hr; clear hr; have hL : (nodeRecL a0).length = a0.size + 4 := by unfold nodeRecL; rw [List.length_append, numL_length]; show 4 + a0.data.size = a0.size + 4; show 4 + a0.size = _; omega
   have HL := Lib.hid hL; clear hL
   go_enter Tryd.func34, Tryd.ntmps34
   go_wp2_with fail
   refine (bnumber_any w.heap.size w.heap.size [] a0.size 4 true _ (Bld.fresh _ _) (by omega) (by omega) (by simp) (by simp)).mono ?_; rintro e w1 ⟨rfl, hB1, hb1⟩; have HB1 := Lib.hid hB1; clear hB1; have hz1 := hb1.size; simp only [World.size_alloc] at hz1
   go_wp2_with fail
   refine (btext_any w.heap.size w.heap.size _ a0 _ HB1.out (by rw [List.nil_append, numL_length]; omega) (by omega)).mono ?_; rintro e w2 ⟨rfl, hB2, hb2⟩; have HB2 := Lib.hid hB2; clear hB2; have hz2 := hb2.size
   go_wp2_with fail
   refine (string_any 109 w.heap.size w.heap.size _ _ HB2.out (by intro h; have := congrArg List.length h; rw [List.length_append, List.nil_append, numL_length] at this; simp at this)).mono ?_; rintro e w3 ⟨rfl, hb3⟩; have hz3 := hb3.size
   go_wp2_with fail
   refine (sectors_any _ 83 77 83 77 rfl rfl (by rw [arr_size]; show 0 < (nodeRecL a0).length; rw [HL.out]; omega) (by rw [arr_size]; show (nodeRecL a0).length ≤ _; rw [HL.out]; omega) _).mono ?_; rintro e w4 ⟨rfl, hb4⟩
   go_wp2
   go_ret
   refine ⟨?_, ?_⟩
   ·refine congrArg (fun z => Ending.returned (.string z)) ?_; rw [HR.out]; unfold nodeRec nodeRecL; simp only [List.length_append, List.append_assoc]; rfl
   ·exact ((((Below.refl _ _).alloc (Nat.le_refl _) _).trans hb1).trans hb2).trans (hb3.trans (hb4.mono (by omega)))
  ·have hr := nodeRecV_no (a0 := a0) (by omega); have HR := Lib.hid hr; clear hr
   go_enter Tryd.func34, Tryd.ntmps34
   go_wp2
   go_ret
   exact ⟨by rw [HR.out]; rfl, by (repeat' (first | exact Below.refl _ _ | (with_reducible assumption) | (with_reducible refine Below.setCell ?_ (by first | (simp; done) | (simp; omega)) _) | refine below_then ?_ (by assumption) | (with_reducible refine below_new2 ?_ _) | (with_reducible refine Below.drew ?_) | (with_reducible refine bdrewN ?_ _)))⟩
def comOk (n : Int) (r : ByteArray) : Bool := decide (1 ≤ n ∧ n ≤ 1000000 ∧ r.size ≤ 32)
def commitRecV (a0 : Int) (a1 : ByteArray) : ByteArray := if comOk a0 a1 then commitRec a0.toNat a1 else ⟨#[]⟩
theorem commitRecV_yes {a0 : Int} {a1 : ByteArray} (h : 1 ≤ a0 ∧ a0 ≤ 1000000 ∧ a1.size ≤ 32) : commitRecV a0 a1 = commitRec a0.toNat a1 := by unfold commitRecV comOk; rw [decide_eq_true h]; rfl
theorem commitRecV_no {a0 : Int} {a1 : ByteArray} (h : ¬ (1 ≤ a0 ∧ a0 ≤ 1000000 ∧ a1.size ≤ 32)) : commitRecV a0 a1 = ⟨#[]⟩ := by unfold commitRecV comOk; rw [decide_eq_false h]; rfl
def impl_CommitRecord.f (a0 : Int) (a1 : ByteArray) : Option ByteArray := some (commitRecV a0 a1)
set_option maxHeartbeats 1000000 in
theorem impl_CommitRecord.calls (a0 : Int) (a1 r : ByteArray) (w : World) (h : impl_CommitRecord.f a0 a1 = some r) :
  Calls Tryd.prog 32 #[.int .i64 a0, .string a1] w fun e w' => e = .returned (.string r) ∧ Below w.heap.size w w' := by
 obtain rfl := Option.some.inj h; clear h
 by_cases h0 : 1 ≤ a0 ∧ a0 ≤ 1000000 ∧ a1.size ≤ 32
 ·have hr := commitRecV_yes h0; have HR := Lib.hid hr; clear hr; obtain ⟨n, rfl⟩ := Int.eq_ofNat_of_zero_le (show 0 ≤ a0 by omega); have h1 : 1 ≤ n := by omega
  have h2 : n ≤ 1000000 := by omega
  have h3 : a1.size ≤ 32 := by omega
  clear h0; have hL : (commitRecL n a1).length = a1.size + 5 := by unfold commitRecL; rw [List.length_append, List.length_append, numL_length, numL_length]; show 4 + 1 + a1.size = _; omega
  have HL := Lib.hid hL; clear hL
  go_enter Tryd.func32, Tryd.ntmps32
  go_wp2_with fail
  refine (bnumber_any w.heap.size w.heap.size [] n 4 true _ (Bld.fresh _ _) (by omega) (by omega) (by simp) (by simp)).mono ?_; rintro e w1 ⟨rfl, hB1, hb1⟩; have HB1 := Lib.hid hB1; clear hB1; have hz1 := hb1.size; simp only [World.size_alloc] at hz1
  go_wp2_with fail
  refine (bnumber_any w.heap.size w.heap.size _ a1.size 1 true _ HB1.out (by omega) (by omega) (by rw [List.nil_append, numL_length]; omega) (by omega)).mono ?_; rintro e w2 ⟨rfl, hB2, hb2⟩; have HB2 := Lib.hid hB2; clear hB2; have hz2 := hb2.size
  go_wp2_with fail
  refine (btext_any w.heap.size w.heap.size _ a1 _ HB2.out (by rw [List.nil_append, List.length_append, numL_length, numL_length]; omega) (by omega)).mono ?_; rintro e w3 ⟨rfl, hB3, hb3⟩; have HB3 := Lib.hid hB3; clear hB3; have hz3 := hb3.size
  go_wp2_with fail
  refine (string_any 109 w.heap.size w.heap.size _ _ HB3.out (by intro h; have := congrArg List.length h; rw [List.length_append, List.length_append, List.nil_append, numL_length, numL_length] at this; simp at this)).mono ?_; rintro e w4 ⟨rfl, hb4⟩; have hz4 := hb4.size
  go_wp2_with fail
  refine (sectors_any _ 67 67 67 67 rfl rfl (by rw [arr_size]; show 0 < (commitRecL n a1).length; rw [HL.out]; omega) (by rw [arr_size]; show (commitRecL n a1).length ≤ _; rw [HL.out]; omega) _).mono ?_; rintro e w5 ⟨rfl, hb5⟩
  go_wp2
  go_ret
  refine ⟨?_, ?_⟩
  ·refine congrArg (fun z => Ending.returned (.string z)) ?_; rw [HR.out]; unfold commitRec commitRecL; simp only [List.length_append, List.append_assoc]; rfl
  ·exact ((((Below.refl _ _).alloc (Nat.le_refl _) _).trans hb1).trans (hb2.trans hb3)).trans (hb4.trans (hb5.mono (by omega)))
 ·have hr := commitRecV_no h0; have HR := Lib.hid hr; clear hr
  by_cases h1 : a0 < 1
  ·go_enter Tryd.func32, Tryd.ntmps32
   go_wp2
   go_ret
   exact ⟨by rw [HR.out]; rfl, by (repeat' (first | exact Below.refl _ _ | (with_reducible assumption) | (with_reducible refine Below.setCell ?_ (by first | (simp; done) | (simp; omega)) _) | refine below_then ?_ (by assumption) | (with_reducible refine below_new2 ?_ _) | (with_reducible refine Below.drew ?_) | (with_reducible refine bdrewN ?_ _)))⟩
  ·by_cases h2 : 1000000 < a0
   ·go_enter Tryd.func32, Tryd.ntmps32
    go_wp2
    go_ret
    exact ⟨by rw [HR.out]; rfl, by (repeat' (first | exact Below.refl _ _ | (with_reducible assumption) | (with_reducible refine Below.setCell ?_ (by first | (simp; done) | (simp; omega)) _) | refine below_then ?_ (by assumption) | (with_reducible refine below_new2 ?_ _) | (with_reducible refine Below.drew ?_) | (with_reducible refine bdrewN ?_ _)))⟩
   ·have h3 : 32 < a1.size := by omega
    clear h0
    go_enter Tryd.func32, Tryd.ntmps32
    go_wp2
    go_ret
    exact ⟨by rw [HR.out]; rfl, by (repeat' (first | exact Below.refl _ _ | (with_reducible assumption) | (with_reducible refine Below.setCell ?_ (by first | (simp; done) | (simp; omega)) _) | refine below_then ?_ (by assumption) | (with_reducible refine below_new2 ?_ _) | (with_reducible refine Below.drew ?_) | (with_reducible refine bdrewN ?_ _)))⟩
end Go.Proofs.YtonbmghgbblifaaDoor.Z
end
section
namespace Go.Proofs.YtonbmghgbblifaaDoor.Z
open Go.RowKit Go.Proofs.YtonbmghgbblifaaDoorW.PrintWords Go.Proofs.YtonbmghgbblifaaDoorW.PrintLast Go.Proofs.YtonbmghgbblifaaDoorW.PrintMore
attribute [local go_sem] max2_int min2_int max_two min_two max_three min_three max_four min_four
set_option linter.unusedVariables false
set_option linter.unusedSimpArgs false
def laws_wPick.f (l0 : List Int) (a1 : Int) : Option (Int) := if (l0.length : Int) = 0 then (some a1) else (if 0 ≤ (Int.tmod a1 (l0.length : Int)) then (if (Int.tmod a1 (l0.length : Int)) < (l0.length : Int) then (some (wrap64 (rd l0 (Int.tmod a1 (l0.length : Int))))) else (none)) else (none))
set_option maxHeartbeats 8000000 in
set_option maxRecDepth 100000 in
theorem laws_wPick.calls (A0 : Option Addr) (c0 : Nat) (l0 : List Int) (a1 : Int) (r : Int) (w : World) (hr0 : Kd.C (Kd.int .u8) w A0 l0.length l0) (hc0 : l0.length ≤ c0) (h : laws_wPick.f l0 a1 = some r) :
  Calls Tryd.prog 36 #[.slice A0 l0.length c0, .int .i64 a1] w fun e w' => e = .returned (.int .i64 r) ∧ Drawn0 w w' := by
 have HR0 := Aside0.mk hr0; have HC0 := Aside0.mk hc0; clear hr0 hc0; have H : (if (l0.length : Int) = 0 then (some a1) else (if 0 ≤ (Int.tmod a1 (l0.length : Int)) then (if (Int.tmod a1 (l0.length : Int)) < (l0.length : Int) then (some (wrap64 (rd l0 (Int.tmod a1 (l0.length : Int))))) else (none)) else (none))) = some r := h; clear h
 by_cases c3 : (l0.length : Int) = 0
 ·rw [if_pos c3] at H; have c3b0 : ((l0.length : Int) == 0) = true := beq_iff_eq.mpr c3; have c3b1 : ((l0.length : Int) != 0) = false := bne_eq_false_iff_eq.mpr c3; clear c3; obtain rfl := Option.some.inj H
  go_enter Tryd.func36, Tryd.ntmps36
  go_wp2
  go_ret
  exact ⟨by first | rfl | (simp; done) | (simp [*]; done), by repeat (first | exact Drawn0.refl _ | apply Drawn0.step)⟩
 ·rw [if_neg c3] at H; have c3b0 : ((l0.length : Int) == 0) = false := beq_eq_false_iff_ne.mpr c3; have c3b1 : ((l0.length : Int) != 0) = true := bne_iff_ne.mpr c3; have c3b2 : ¬ (l0 = []) := fun h_ => c3 (by rw [h_]; rfl)
  obtain ⟨ji4, hji4⟩ : ∃ j_ : Int, (Int.tmod a1 (l0.length : Int)) = j_ := ⟨_, rfl⟩
  replace H : (if 0 ≤ (ji4) then (if (ji4) < (l0.length : Int) then (some (wrap64 (rd l0 (ji4)))) else (none)) else (none)) = some r := by first | (rw [hji4] at H; exact H) | (simp only [hji4] at H ⊢; exact H)
  by_cases c5 : 0 ≤ (ji4)
  ·rw [if_pos c5] at H; have c5b0 : decide (0 ≤ (ji4)) = true := decide_eq_true c5; clear c5
   by_cases c6 : (ji4) < (l0.length : Int)
   ·rw [if_pos c6] at H; have c6b0 : decide ((ji4) < (l0.length : Int)) = true := decide_eq_true c6; clear c6; obtain rfl := Option.some.inj H; have p360001 : 0 ≤ ((ji4) : Int) := of_decide_eq_true (by first | (with_reducible assumption) | assumption); have q360001 : (ji4) < (l0.length : Int) := of_decide_eq_true (by first | (with_reducible assumption) | assumption); obtain ⟨ad360001, e360001, hx360001_0⟩ := Kd.at_int HR0.out (ji4) p360001 q360001
    cases e360001
    replace p360001 := eq_true p360001; replace q360001 := eq_true q360001
    go_enter Tryd.func36, Tryd.ntmps36
    go_wp2
    go_ret
    exact ⟨by first | rfl | (simp; done) | (simp only [← hji4] <;> (first | rfl | simp)) | (simp [*]; done), by repeat (first | exact Drawn0.refl _ | apply Drawn0.step)⟩
   ·rw [if_neg c6] at H; exact absurd H (by simp)
  ·rw [if_neg c5] at H; exact absurd H (by simp)
end Go.Proofs.YtonbmghgbblifaaDoor.Z
end
section
namespace Go.Proofs.YtonbmghgbblifaaDoor.Z
open Go.RowKit Go.Proofs.YtonbmghgbblifaaDoorW.PrintWords Go.Proofs.YtonbmghgbblifaaDoorW.PrintLast Go.Proofs.YtonbmghgbblifaaDoorW.PrintMore
attribute [local go_sem] max2_int min2_int max_two min_two max_three min_three max_four min_four
set_option linter.unusedVariables false
set_option linter.unusedSimpArgs false
def spec_l2Byte.f (a0 : Int) : Option (ByteArray) := some (strOfNums (([(a0) % 256] : List Int)))
set_option maxHeartbeats 8000000 in
set_option maxRecDepth 100000 in
theorem spec_l2Byte.calls (a0 : Int) (r : ByteArray) (w : World) (h : spec_l2Byte.f a0 = some r) :
  Calls Tryd.prog 82 #[.int .i64 a0] w fun e w' => e = .returned (.string r) ∧ Below w.heap.size w w' := by
 have HB := Aside0.mk (Below.refl w.heap.size w); have H : (some (strOfNums (([(a0) % 256] : List Int)))) = some r := h; clear h; obtain ⟨y820001, hy820001⟩ : ∃ y_ : List Int, y_ = (([(a0) % 256] : List Int)) := ⟨_, rfl⟩
 replace H : (some (strOfNums y820001)) = some r := by first | (rw [hy820001]; with_reducible exact H) | (have H2_ := (Option.bind_some _ _).symm.trans H; rw [hy820001]; with_reducible exact H2_) | (have H2_ := (Option.bind_some _ _).symm.trans H; with_reducible exact H2_) | with_reducible exact H | (rw [hy820001]; exact H) | exact H
 have Ny820001 := Aside0.mk hy820001; clear hy820001; obtain rfl := Option.some.inj H
 go_enter Tryd.func82, Tryd.ntmps82
 go_wp2_with (first | ((with_reducible refine gate_dst (N := 5) rfl ?_); refine Kd.R_lit (Kd.int .u8) _ 5 ?hg (N := 5) ?hd (xs := ([(a0) % 256] : List Int)) (inner := [.int .u8 ((a0) % 256)]) (ok := fun _ => True) (okp := fun _ => True) ?hr ?hp (fun _ hk => hk) trivial (Below.refl _ _) (Nat.le_refl _) (by simp) ?_; (case hd => rfl); (case hg => rfl); (case hr => first | (go_simp; done) | (go_simp; rfl)); (case hp => exact (Reps.one (show Kd.M (Kd.int .u8) _ _ _ ((a0) % 256) [.int .u8 ((a0) % 256)] from rfl) (Reps.none _ _))); intro v820002 w2 ho3 hb hg_ hnew_; clear hg_ hnew_; (first | rw [← Ny820001.out] at ho3 | (simp only [Int.reduceToNat] at ho3; rw [← Ny820001.out] at ho3)); have n0_ := Aside0.mk (Kd.R_lower ho3 (below_size (by repeat (first | (with_reducible first | exact HB.out | apply below_alloc | apply pw_below_drewN | apply below_drew1) | exact HB.out)))); have n1_ := Aside0.mk (below_step (by repeat (first | (with_reducible first | exact HB.out | apply below_alloc | apply pw_below_drewN | apply below_drew1) | exact HB.out)) hb); clear HB; have HO820003 := n0_; have HB := n1_; clear n0_ n1_; clear hb ho3; have hcv4 := own_string (P := Tryd.prog) Tryd.underlying47 Tryd.underlying5 Tryd.underlying9 (Kd.own_of_R HO820003.out)))
 go_ret
 exact ⟨by first | rfl | (simp [errW_none, errW_some] <;> rfl) | (simp [*, errW_none, errW_some] <;> rfl), by repeat (first | (with_reducible first | exact HB.out | apply below_alloc | apply pw_below_drewN | apply below_drew1) | exact HB.out)⟩
end Go.Proofs.YtonbmghgbblifaaDoor.Z
end
section
namespace Go.Proofs.YtonbmghgbblifaaDoor.Z
open Go.RowKit Go.Proofs.YtonbmghgbblifaaDoorW.PrintWords Go.Proofs.YtonbmghgbblifaaDoorW.PrintLast Go.Proofs.YtonbmghgbblifaaDoorW.PrintMore
attribute [local go_sem] max2_int min2_int max_two min_two max_three min_three max_four min_four
set_option linter.unusedVariables false
set_option linter.unusedSimpArgs false
def spec_l2Four.f (a0 : Int) : Option (ByteArray) := (spec_l2Byte.f (Int.tmod a0 256)).bind fun t910001 => ((spec_l2Byte.f (Int.tmod (wrap64 (Int.tdiv a0 256)) 256)).bind fun t910002 => (if t910001.size + t910002.size ≤ 9223372036854775807 then ((spec_l2Byte.f (Int.tmod (wrap64 (Int.tdiv a0 65536)) 256)).bind fun t910003 => (if (t910001 ++ t910002).size + t910003.size ≤ 9223372036854775807 then ((spec_l2Byte.f (Int.tmod (wrap64 (Int.tdiv a0 16777216)) 256)).bind fun t910004 => (if ((t910001 ++ t910002) ++ t910003).size + t910004.size ≤ 9223372036854775807 then (some (((t910001 ++ t910002) ++ t910003) ++ t910004)) else (none))) else (none))) else (none)))
set_option maxHeartbeats 8000000 in
set_option maxRecDepth 100000 in
theorem spec_l2Four.calls (a0 : Int) (r : ByteArray) (w : World) (h : spec_l2Four.f a0 = some r) :
  Calls Tryd.prog 91 #[.int .i64 a0] w fun e w' => e = .returned (.string r) ∧ Below w.heap.size w w' := by
 have HB := Aside0.mk (Below.refl w.heap.size w); have H : ((spec_l2Byte.f (Int.tmod a0 256)).bind fun t910001 => ((spec_l2Byte.f (Int.tmod (wrap64 (Int.tdiv a0 256)) 256)).bind fun t910002 => (if t910001.size + t910002.size ≤ 9223372036854775807 then ((spec_l2Byte.f (Int.tmod (wrap64 (Int.tdiv a0 65536)) 256)).bind fun t910003 => (if (t910001 ++ t910002).size + t910003.size ≤ 9223372036854775807 then ((spec_l2Byte.f (Int.tmod (wrap64 (Int.tdiv a0 16777216)) 256)).bind fun t910004 => (if ((t910001 ++ t910002) ++ t910003).size + t910004.size ≤ 9223372036854775807 then (some (((t910001 ++ t910002) ++ t910003) ++ t910004)) else (none))) else (none))) else (none)))) = some r := h; clear h; replace H := Option.bind_eq_some_iff.mp H; obtain ⟨t910001, A20, H⟩ := H; replace H : ((spec_l2Byte.f (Int.tmod (wrap64 (Int.tdiv a0 256)) 256)).bind fun t910002 => (if t910001.size + t910002.size ≤ 9223372036854775807 then ((spec_l2Byte.f (Int.tmod (wrap64 (Int.tdiv a0 65536)) 256)).bind fun t910003 => (if (t910001 ++ t910002).size + t910003.size ≤ 9223372036854775807 then ((spec_l2Byte.f (Int.tmod (wrap64 (Int.tdiv a0 16777216)) 256)).bind fun t910004 => (if ((t910001 ++ t910002) ++ t910003).size + t910004.size ≤ 9223372036854775807 then (some (((t910001 ++ t910002) ++ t910003) ++ t910004)) else (none))) else (none))) else (none))) = some r := H; have A2 := Aside0.mk A20; clear A20; replace H := Option.bind_eq_some_iff.mp H; obtain ⟨t910002, A30, H⟩ := H; replace H : (if t910001.size + t910002.size ≤ 9223372036854775807 then ((spec_l2Byte.f (Int.tmod (wrap64 (Int.tdiv a0 65536)) 256)).bind fun t910003 => (if (t910001 ++ t910002).size + t910003.size ≤ 9223372036854775807 then ((spec_l2Byte.f (Int.tmod (wrap64 (Int.tdiv a0 16777216)) 256)).bind fun t910004 => (if ((t910001 ++ t910002) ++ t910003).size + t910004.size ≤ 9223372036854775807 then (some (((t910001 ++ t910002) ++ t910003) ++ t910004)) else (none))) else (none))) else (none)) = some r := H; have A3 := Aside0.mk A30; clear A30
 by_cases c4 : t910001.size + t910002.size ≤ 9223372036854775807
 ·rw [if_pos c4] at H; have c4b0 := eq_true c4; have c4b1 : decide (t910001.size + t910002.size ≤ 9223372036854775807) = true := decide_eq_true c4
  try have c4b2 : (9223372036854775807 < t910001.size + t910002.size) = False := eq_false (Nat.not_lt.2 c4)
  replace H := Option.bind_eq_some_iff.mp H; obtain ⟨t910003, A50, H⟩ := H; replace H : (if (t910001 ++ t910002).size + t910003.size ≤ 9223372036854775807 then ((spec_l2Byte.f (Int.tmod (wrap64 (Int.tdiv a0 16777216)) 256)).bind fun t910004 => (if ((t910001 ++ t910002) ++ t910003).size + t910004.size ≤ 9223372036854775807 then (some (((t910001 ++ t910002) ++ t910003) ++ t910004)) else (none))) else (none)) = some r := H; have A5 := Aside0.mk A50; clear A50
  by_cases c6 : (t910001 ++ t910002).size + t910003.size ≤ 9223372036854775807
  ·rw [if_pos c6] at H; have c6b0 := eq_true c6; have c6b1 : decide ((t910001 ++ t910002).size + t910003.size ≤ 9223372036854775807) = true := decide_eq_true c6
   try have c6b2 : (9223372036854775807 < (t910001 ++ t910002).size + t910003.size) = False := eq_false (Nat.not_lt.2 c6)
   try have c6b4 : (9223372036854775807 < t910001.size + t910002.size + t910003.size) = False := eq_false (by have hh := c6; simp only [ByteArray.size_append, ByteArray.size_extract] at hh; omega)
   try (have c6b3 := c6b2; simp only [ByteArray.size_append, ByteArray.size_extract, Nat.min_self] at c6b3)
   replace H := Option.bind_eq_some_iff.mp H; obtain ⟨t910004, A70, H⟩ := H; replace H : (if ((t910001 ++ t910002) ++ t910003).size + t910004.size ≤ 9223372036854775807 then (some (((t910001 ++ t910002) ++ t910003) ++ t910004)) else (none)) = some r := H; have A7 := Aside0.mk A70; clear A70
   by_cases c8 : ((t910001 ++ t910002) ++ t910003).size + t910004.size ≤ 9223372036854775807
   ·rw [if_pos c8] at H; have c8b0 := eq_true c8; have c8b1 : decide (((t910001 ++ t910002) ++ t910003).size + t910004.size ≤ 9223372036854775807) = true := decide_eq_true c8
    try have c8b2 : (9223372036854775807 < ((t910001 ++ t910002) ++ t910003).size + t910004.size) = False := eq_false (Nat.not_lt.2 c8)
    try have c8b4 : (9223372036854775807 < (t910001.size + t910002.size) + t910003.size + t910004.size) = False := eq_false (by have hh := c8; simp only [ByteArray.size_append, ByteArray.size_extract] at hh; omega)
    try (have c8b3 := c8b2; simp only [ByteArray.size_append, ByteArray.size_extract, Nat.min_self] at c8b3)
    obtain rfl := Option.some.inj H
    go_enter Tryd.func91, Tryd.ntmps91
    go_wp2_with (first | ((with_reducible refine gate_callee (f := 82) rfl ?_); refine goesL_ (some 5) rfl rfl Tryd.func82 (by kernel_rfl) rfl #[.int .i64 (Int.tmod a0 256)] rfl (by (try simp only [List.map_toArray, List.map_cons, List.map_nil]); first | done | rfl | (simp only [List.length_drop, List.length_take]; rfl)) ?_; (with_reducible refine (spec_l2Byte.calls (Int.tmod a0 256) t910001 _ A2.out).mono ?_); rintro e w9 ⟨rfl, hb⟩; refine ⟨_, rfl, ?_⟩; have n0_ := Aside0.mk (below_step (by repeat (first | (with_reducible first | exact HB.out | apply below_alloc | apply pw_below_drewN | apply below_drew1) | exact HB.out)) hb); clear HB; have HB := n0_; clear n0_; (try clear hb); (try clear hb2); (try clear hk); (try clear hi)) | ((with_reducible refine gate_callee (f := 82) rfl ?_); refine goesL_ (some 9) rfl rfl Tryd.func82 (by kernel_rfl) rfl #[.int .i64 (Int.tmod (wrap64 (Int.tdiv a0 256)) 256)] rfl (by (try simp only [List.map_toArray, List.map_cons, List.map_nil]); first | done | rfl | (simp only [List.length_drop, List.length_take]; rfl)) ?_; (with_reducible refine (spec_l2Byte.calls (Int.tmod (wrap64 (Int.tdiv a0 256)) 256) t910002 _ A3.out).mono ?_); rintro e w10 ⟨rfl, hb⟩; refine ⟨_, rfl, ?_⟩; have n0_ := Aside0.mk (below_step (by repeat (first | (with_reducible first | exact HB.out | apply below_alloc | apply pw_below_drewN | apply below_drew1) | exact HB.out)) hb); clear HB; have HB := n0_; clear n0_; (try clear hb); (try clear hb2); (try clear hk); (try clear hi)) | ((with_reducible refine gate_callee (f := 82) rfl ?_); refine goesL_ (some 14) rfl rfl Tryd.func82 (by kernel_rfl) rfl #[.int .i64 (Int.tmod (wrap64 (Int.tdiv a0 65536)) 256)] rfl (by (try simp only [List.map_toArray, List.map_cons, List.map_nil]); first | done | rfl | (simp only [List.length_drop, List.length_take]; rfl)) ?_; (with_reducible refine (spec_l2Byte.calls (Int.tmod (wrap64 (Int.tdiv a0 65536)) 256) t910003 _ A5.out).mono ?_); rintro e w11 ⟨rfl, hb⟩; refine ⟨_, rfl, ?_⟩; have n0_ := Aside0.mk (below_step (by repeat (first | (with_reducible first | exact HB.out | apply below_alloc | apply pw_below_drewN | apply below_drew1) | exact HB.out)) hb); clear HB; have HB := n0_; clear n0_; (try clear hb); (try clear hb2); (try clear hk); (try clear hi)) | ((with_reducible refine gate_callee (f := 82) rfl ?_); refine goesL_ (some 19) rfl rfl Tryd.func82 (by kernel_rfl) rfl #[.int .i64 (Int.tmod (wrap64 (Int.tdiv a0 16777216)) 256)] rfl (by (try simp only [List.map_toArray, List.map_cons, List.map_nil]); first | done | rfl | (simp only [List.length_drop, List.length_take]; rfl)) ?_; (with_reducible refine (spec_l2Byte.calls (Int.tmod (wrap64 (Int.tdiv a0 16777216)) 256) t910004 _ A7.out).mono ?_); rintro e w12 ⟨rfl, hb⟩; refine ⟨_, rfl, ?_⟩; have n0_ := Aside0.mk (below_step (by repeat (first | (with_reducible first | exact HB.out | apply below_alloc | apply pw_below_drewN | apply below_drew1) | exact HB.out)) hb); clear HB; have HB := n0_; clear n0_; (try clear hb); (try clear hb2); (try clear hk); (try clear hi)))
    go_ret
    exact ⟨by first | rfl | (simp [errW_none, errW_some] <;> rfl) | (simp [*, errW_none, errW_some] <;> rfl), by repeat (first | (with_reducible first | exact HB.out | apply below_alloc | apply pw_below_drewN | apply below_drew1) | exact HB.out)⟩
   ·rw [if_neg c8] at H; exact absurd H (by simp)
  ·rw [if_neg c6] at H; exact absurd H (by simp)
 ·rw [if_neg c4] at H; exact absurd H (by simp)
end Go.Proofs.YtonbmghgbblifaaDoor.Z
end
section
namespace Go.Proofs.YtonbmghgbblifaaDoor.Z
open Go.RowKit Go.Proofs.YtonbmghgbblifaaDoorW.PrintWords Go.Proofs.YtonbmghgbblifaaDoorW.PrintLast Go.Proofs.YtonbmghgbblifaaDoorW.PrintMore
attribute [local go_sem] max2_int min2_int max_two min_two max_three min_three max_four min_four
set_option linter.unusedVariables false
set_option linter.unusedSimpArgs false
def spec_l2Marked.l0 : Nat → ByteArray → ByteArray → ByteArray → ByteArray → Int → Option (ByteArray)
 | 0, _, _, _, _, _ => none
 | k + 1, x0, x1, x2, x7, x8 => if x8 < (x0.size : Int) then (if (wrap64 (x8 + 63)) ≤ (x0.size : Int) then (if 0 ≤ x8 then (if x8 ≤ (wrap64 (x8 + 63)) then (if x8 = 0 then (if x7.size + (x0.extract (x8 : Int).toNat ((wrap64 (x8 + 63)) : Int).toNat).size ≤ 9223372036854775807 then (if (x7 ++ (x0.extract (x8 : Int).toNat ((wrap64 (x8 + 63)) : Int).toNat)).size + x1.size ≤ 9223372036854775807 then (spec_l2Marked.l0 k x0 x1 x2 ((x7 ++ (x0.extract (x8 : Int).toNat ((wrap64 (x8 + 63)) : Int).toNat)) ++ x1) (wrap64 (x8 + 63))) else (none)) else (none)) else (if x7.size + (x0.extract (x8 : Int).toNat ((wrap64 (x8 + 63)) : Int).toNat).size ≤ 9223372036854775807 then (if (x7 ++ (x0.extract (x8 : Int).toNat ((wrap64 (x8 + 63)) : Int).toNat)).size + x2.size ≤ 9223372036854775807 then (spec_l2Marked.l0 k x0 x1 x2 ((x7 ++ (x0.extract (x8 : Int).toNat ((wrap64 (x8 + 63)) : Int).toNat)) ++ x2) (wrap64 (x8 + 63))) else (none)) else (none))) else (none)) else (none)) else (if 0 ≤ x8 then (if x8 ≤ (x0.size : Int) then ((spec_l1Long.f (wrap64 ((wrap64 (x8 + 63)) - (x0.size : Int))) (⟨#[0]⟩ : ByteArray)).bind fun t900001 => (if (x0.extract (x8 : Int).toNat x0.size).size + t900001.size ≤ 9223372036854775807 then (if x8 = 0 then (if x7.size + ((x0.extract (x8 : Int).toNat x0.size) ++ t900001).size ≤ 9223372036854775807 then (if (x7 ++ ((x0.extract (x8 : Int).toNat x0.size) ++ t900001)).size + x1.size ≤ 9223372036854775807 then (spec_l2Marked.l0 k x0 x1 x2 ((x7 ++ ((x0.extract (x8 : Int).toNat x0.size) ++ t900001)) ++ x1) (wrap64 (x8 + 63))) else (none)) else (none)) else (if x7.size + ((x0.extract (x8 : Int).toNat x0.size) ++ t900001).size ≤ 9223372036854775807 then (if (x7 ++ ((x0.extract (x8 : Int).toNat x0.size) ++ t900001)).size + x2.size ≤ 9223372036854775807 then (spec_l2Marked.l0 k x0 x1 x2 ((x7 ++ ((x0.extract (x8 : Int).toNat x0.size) ++ t900001)) ++ x2) (wrap64 (x8 + 63))) else (none)) else (none))) else (none))) else (none)) else (none))) else (some x7)
def spec_l2Marked.f (k : Nat) (a0 : ByteArray) (a1 : ByteArray) (a2 : ByteArray) : Option (ByteArray) := spec_l2Marked.l0 k a0 a1 a2 (⟨#[]⟩ : ByteArray) 0
def spec_l2Marked.T9 : Bool × List (List Nat × List Nat) := (true, [([], []), ([], []), ([0, 1], [0, 1]), ([], []), ([], []), ([4], [4]), ([3, 5], [3, 5]), ([6], [6]), ([2, 7], [2, 7]), ([8, 7, 0, 1, 2, 3, 4, 5, 6, 7, 8], [8])])
def spec_l2Marked.B9 : List Nat := [0, 0, 3, 0, 0, 16, 56, 120, 255, 511]
theorem spec_l2Marked.tab9 : rtab .any (opsOf Tryd.f90 9) = spec_l2Marked.T9 := by kernel_rfl
theorem spec_l2Marked.bits9 : waitsOk spec_l2Marked.T9.2 spec_l2Marked.B9 = true := by kernel_rfl
set_option maxHeartbeats 8000000 in
set_option maxRecDepth 100000 in
theorem spec_l2Marked.calls (k : Nat) (a0 : ByteArray) (a1 : ByteArray) (a2 : ByteArray) (r : ByteArray) (w : World) (h : spec_l2Marked.f k a0 a1 a2 = some r) :
  Calls Tryd.prog 90 #[.string a0, .string a1, .string a2] w fun e w' => e = .returned (.string r) ∧ Below w.heap.size w w' := by
 have HB := Aside0.mk (Below.refl w.heap.size w); have H : (spec_l2Marked.l0 k a0 a1 a2 (⟨#[]⟩ : ByteArray) 0) = some r := h; clear h; have H' := Aside0.mk H; clear H
 go_enter Tryd.func90, Tryd.ntmps90
 go_wp2
 go_loopg [7, 8] k (fun kq v7 v8 w' => ∃ (x7_1 : ByteArray) (x8_1 : Int), v7 = .string x7_1 ∧ v8 = .int .i64 x8_1 ∧ Aside0 (spec_l2Marked.l0 kq a0 a1 a2 x7_1 x8_1 = some r) ∧ Aside0 (kq ≤ k) ∧ Aside0 (Below w.heap.size w w'))
 case atStart => exact ⟨((⟨#[]⟩ : ByteArray)), (0), (by first | rfl | (simp; done) | (simp [*]; done)), (by first | rfl | (simp; done) | (simp [*]; done)), H', ⟨Nat.le_refl _⟩, ⟨by repeat (first | (with_reducible first | exact HB.out | apply below_alloc | apply pw_below_drewN | apply below_drew1) | exact HB.out)⟩⟩
 case round =>
  clear H'
  try clear p2
  obtain ⟨x7_1, x8_1, rfl, rfl, HA, HK1, HB⟩ := hrel
  cases gk with
  | zero => exact absurd HA.out (by simp [spec_l2Marked.l0])
  | succ k1 =>
   have H := HA.out; clear HA; simp only [spec_l2Marked.l0] at H
   by_cases c4 : x8_1 < (a0.size : Int)
   ·rw [if_pos c4] at H; have c4b0 : decide (x8_1 < (a0.size : Int)) = true := decide_eq_true c4; clear c4
    by_cases c5 : (wrap64 (x8_1 + 63)) ≤ (a0.size : Int)
    ·rw [if_pos c5] at H; have c5b0 : decide ((wrap64 (x8_1 + 63)) ≤ (a0.size : Int)) = true := decide_eq_true c5; clear c5
     by_cases c6 : 0 ≤ x8_1
     ·rw [if_pos c6] at H; have c6b0 := eq_true c6; have c6b1 : decide (0 ≤ x8_1) = true := decide_eq_true c6; clear c6
      by_cases c7 : x8_1 ≤ (wrap64 (x8_1 + 63))
      ·rw [if_pos c7] at H; have c7b0 := eq_true c7; have c7b1 : decide (x8_1 ≤ (wrap64 (x8_1 + 63))) = true := decide_eq_true c7; have c8b0 := eq_true (of_decide_eq_true (by first | (with_reducible assumption) | assumption) : (wrap64 (x8_1 + 63)) ≤ (a0.size : Int))
       by_cases c9 : x8_1 = 0
       ·rw [if_pos c9] at H; have c9b0 : (x8_1 == 0) = true := beq_iff_eq.mpr c9; have c9b1 : (x8_1 != 0) = false := bne_eq_false_iff_eq.mpr c9; clear c9
        by_cases c10 : x7_1.size + (a0.extract (x8_1 : Int).toNat ((wrap64 (x8_1 + 63)) : Int).toNat).size ≤ 9223372036854775807
        ·rw [if_pos c10] at H; have c10b0 := eq_true c10; have c10b1 : decide (x7_1.size + (a0.extract (x8_1 : Int).toNat ((wrap64 (x8_1 + 63)) : Int).toNat).size ≤ 9223372036854775807) = true := decide_eq_true c10
         try have c10b2 : (9223372036854775807 < x7_1.size + (a0.extract (x8_1 : Int).toNat ((wrap64 (x8_1 + 63)) : Int).toNat).size) = False := eq_false (Nat.not_lt.2 c10)
         try have c10b4 : (9223372036854775807 < x7_1.size + (((wrap64 (x8_1 + 63)) : Int).toNat - x8_1.toNat)) = False := eq_false (by have hh := c10; simp only [ByteArray.size_append, ByteArray.size_extract] at hh; (try have k_c6 := of_eq_true c6b0); (try have k_c7 := of_eq_true c7b0); omega)
         try (have c10b3 := c10b2; simp only [ByteArray.size_append, ByteArray.size_extract, Nat.min_self] at c10b3)
         by_cases c11 : (x7_1 ++ (a0.extract (x8_1 : Int).toNat ((wrap64 (x8_1 + 63)) : Int).toNat)).size + a1.size ≤ 9223372036854775807
         ·rw [if_pos c11] at H; have c11b0 := eq_true c11; have c11b1 : decide ((x7_1 ++ (a0.extract (x8_1 : Int).toNat ((wrap64 (x8_1 + 63)) : Int).toNat)).size + a1.size ≤ 9223372036854775807) = true := decide_eq_true c11
          try have c11b2 : (9223372036854775807 < (x7_1 ++ (a0.extract (x8_1 : Int).toNat ((wrap64 (x8_1 + 63)) : Int).toNat)).size + a1.size) = False := eq_false (Nat.not_lt.2 c11)
          try have c11b4 : (9223372036854775807 < x7_1.size + (((wrap64 (x8_1 + 63)) : Int).toNat - x8_1.toNat) + a1.size) = False := eq_false (by have hh := c11; simp only [ByteArray.size_append, ByteArray.size_extract] at hh; (try have k_c6 := of_eq_true c6b0); (try have k_c7 := of_eq_true c7b0); (try have k_c10 := of_eq_true c10b0); omega)
          try (have c11b3 := c11b2; simp only [ByteArray.size_append, ByteArray.size_extract, Nat.min_self] at c11b3)
          have H' := Aside0.mk H; clear H
          go_wp2
          go_roundg k1
          case measure => have := HK1.out; omega
          case rel => exact ⟨((x7_1 ++ (a0.extract (x8_1 : Int).toNat ((wrap64 (x8_1 + 63)) : Int).toNat)) ++ a1), (wrap64 (x8_1 + 63)), (by first | rfl | (simp; done) | (simp [*]; done)), (by first | rfl | (simp; done) | (simp [*]; done)), H', ⟨by have := HK1.out; omega⟩, ⟨by repeat (first | (with_reducible first | exact HB.out | apply below_alloc | apply pw_below_drewN | apply below_drew1) | exact HB.out)⟩⟩
         ·rw [if_neg c11] at H; exact absurd H (by simp)
        ·rw [if_neg c10] at H; exact absurd H (by simp)
       ·rw [if_neg c9] at H; have c9b0 : (x8_1 == 0) = false := beq_eq_false_iff_ne.mpr c9; have c9b1 : (x8_1 != 0) = true := bne_iff_ne.mpr c9
        by_cases c12 : x7_1.size + (a0.extract (x8_1 : Int).toNat ((wrap64 (x8_1 + 63)) : Int).toNat).size ≤ 9223372036854775807
        ·rw [if_pos c12] at H; have c12b0 := eq_true c12; have c12b1 : decide (x7_1.size + (a0.extract (x8_1 : Int).toNat ((wrap64 (x8_1 + 63)) : Int).toNat).size ≤ 9223372036854775807) = true := decide_eq_true c12
         try have c12b2 : (9223372036854775807 < x7_1.size + (a0.extract (x8_1 : Int).toNat ((wrap64 (x8_1 + 63)) : Int).toNat).size) = False := eq_false (Nat.not_lt.2 c12)
         try have c12b4 : (9223372036854775807 < x7_1.size + (((wrap64 (x8_1 + 63)) : Int).toNat - x8_1.toNat)) = False := eq_false (by have hh := c12; simp only [ByteArray.size_append, ByteArray.size_extract] at hh; (try have k_c6 := of_eq_true c6b0); (try have k_c7 := of_eq_true c7b0); (try have k_c10 := of_eq_true c10b0); (try have k_c11 := of_eq_true c11b0); omega)
         try (have c12b3 := c12b2; simp only [ByteArray.size_append, ByteArray.size_extract, Nat.min_self] at c12b3)
         by_cases c13 : (x7_1 ++ (a0.extract (x8_1 : Int).toNat ((wrap64 (x8_1 + 63)) : Int).toNat)).size + a2.size ≤ 9223372036854775807
         ·rw [if_pos c13] at H; have c13b0 := eq_true c13; have c13b1 : decide ((x7_1 ++ (a0.extract (x8_1 : Int).toNat ((wrap64 (x8_1 + 63)) : Int).toNat)).size + a2.size ≤ 9223372036854775807) = true := decide_eq_true c13
          try have c13b2 : (9223372036854775807 < (x7_1 ++ (a0.extract (x8_1 : Int).toNat ((wrap64 (x8_1 + 63)) : Int).toNat)).size + a2.size) = False := eq_false (Nat.not_lt.2 c13)
          try have c13b4 : (9223372036854775807 < x7_1.size + (((wrap64 (x8_1 + 63)) : Int).toNat - x8_1.toNat) + a2.size) = False := eq_false (by have hh := c13; simp only [ByteArray.size_append, ByteArray.size_extract] at hh; (try have k_c6 := of_eq_true c6b0); (try have k_c7 := of_eq_true c7b0); (try have k_c10 := of_eq_true c10b0); (try have k_c11 := of_eq_true c11b0); (try have k_c12 := of_eq_true c12b0); omega)
          try (have c13b3 := c13b2; simp only [ByteArray.size_append, ByteArray.size_extract, Nat.min_self] at c13b3)
          have H' := Aside0.mk H; clear H
          go_wp2
          go_roundg k1
          case measure => have := HK1.out; omega
          case rel => exact ⟨((x7_1 ++ (a0.extract (x8_1 : Int).toNat ((wrap64 (x8_1 + 63)) : Int).toNat)) ++ a2), (wrap64 (x8_1 + 63)), (by first | rfl | (simp; done) | (simp [*]; done)), (by first | rfl | (simp; done) | (simp [*]; done)), H', ⟨by have := HK1.out; omega⟩, ⟨by repeat (first | (with_reducible first | exact HB.out | apply below_alloc | apply pw_below_drewN | apply below_drew1) | exact HB.out)⟩⟩
         ·rw [if_neg c13] at H; exact absurd H (by simp)
        ·rw [if_neg c12] at H; exact absurd H (by simp)
      ·rw [if_neg c7] at H; exact absurd H (by simp)
     ·rw [if_neg c6] at H; exact absurd H (by simp)
    ·rw [if_neg c5] at H; have c5b0 : decide ((wrap64 (x8_1 + 63)) ≤ (a0.size : Int)) = false := decide_eq_false c5; clear c5
     by_cases c14 : 0 ≤ x8_1
     ·rw [if_pos c14] at H; have c14b0 := eq_true c14; have c14b1 : decide (0 ≤ x8_1) = true := decide_eq_true c14; clear c14
      by_cases c15 : x8_1 ≤ (a0.size : Int)
      ·rw [if_pos c15] at H; have c15b0 := eq_true c15; have c15b1 : decide (x8_1 ≤ (a0.size : Int)) = true := decide_eq_true c15; clear c15; replace H := Option.bind_eq_some_iff.mp H; obtain ⟨t900001, A160, H⟩ := H; replace H : (if (a0.extract (x8_1 : Int).toNat a0.size).size + t900001.size ≤ 9223372036854775807 then (if x8_1 = 0 then (if x7_1.size + ((a0.extract (x8_1 : Int).toNat a0.size) ++ t900001).size ≤ 9223372036854775807 then (if (x7_1 ++ ((a0.extract (x8_1 : Int).toNat a0.size) ++ t900001)).size + a1.size ≤ 9223372036854775807 then (spec_l2Marked.l0 k1 a0 a1 a2 ((x7_1 ++ ((a0.extract (x8_1 : Int).toNat a0.size) ++ t900001)) ++ a1) (wrap64 (x8_1 + 63))) else (none)) else (none)) else (if x7_1.size + ((a0.extract (x8_1 : Int).toNat a0.size) ++ t900001).size ≤ 9223372036854775807 then (if (x7_1 ++ ((a0.extract (x8_1 : Int).toNat a0.size) ++ t900001)).size + a2.size ≤ 9223372036854775807 then (spec_l2Marked.l0 k1 a0 a1 a2 ((x7_1 ++ ((a0.extract (x8_1 : Int).toNat a0.size) ++ t900001)) ++ a2) (wrap64 (x8_1 + 63))) else (none)) else (none))) else (none)) = some r := H; have A16 := Aside0.mk A160; clear A160
       by_cases c17 : (a0.extract (x8_1 : Int).toNat a0.size).size + t900001.size ≤ 9223372036854775807
       ·rw [if_pos c17] at H; have c17b0 := eq_true c17; have c17b1 : decide ((a0.extract (x8_1 : Int).toNat a0.size).size + t900001.size ≤ 9223372036854775807) = true := decide_eq_true c17
        try have c17b2 : (9223372036854775807 < (a0.extract (x8_1 : Int).toNat a0.size).size + t900001.size) = False := eq_false (Nat.not_lt.2 c17)
        try have c17b4 : (9223372036854775807 < a0.size - x8_1.toNat + t900001.size) = False := eq_false (by have hh := c17; simp only [ByteArray.size_append, ByteArray.size_extract] at hh; (try have k_c6 := of_eq_true c6b0); (try have k_c7 := of_eq_true c7b0); (try have k_c10 := of_eq_true c10b0); (try have k_c11 := of_eq_true c11b0); (try have k_c12 := of_eq_true c12b0); (try have k_c13 := of_eq_true c13b0); (try have k_c14 := of_eq_true c14b0); (try have k_c15 := of_eq_true c15b0); omega)
        try (have c17b3 := c17b2; simp only [ByteArray.size_append, ByteArray.size_extract, Nat.min_self] at c17b3)
        by_cases c18 : x8_1 = 0
        ·rw [if_pos c18] at H; have c18b0 : (x8_1 == 0) = true := beq_iff_eq.mpr c18; have c18b1 : (x8_1 != 0) = false := bne_eq_false_iff_eq.mpr c18; clear c18
         by_cases c19 : x7_1.size + ((a0.extract (x8_1 : Int).toNat a0.size) ++ t900001).size ≤ 9223372036854775807
         ·rw [if_pos c19] at H; have c19b0 := eq_true c19; have c19b1 : decide (x7_1.size + ((a0.extract (x8_1 : Int).toNat a0.size) ++ t900001).size ≤ 9223372036854775807) = true := decide_eq_true c19
          try have c19b2 : (9223372036854775807 < x7_1.size + ((a0.extract (x8_1 : Int).toNat a0.size) ++ t900001).size) = False := eq_false (Nat.not_lt.2 c19)
          try have c19b4 : (9223372036854775807 < x7_1.size + ((a0.size - x8_1.toNat) + t900001.size)) = False := eq_false (by have hh := c19; simp only [ByteArray.size_append, ByteArray.size_extract] at hh; (try have k_c6 := of_eq_true c6b0); (try have k_c7 := of_eq_true c7b0); (try have k_c10 := of_eq_true c10b0); (try have k_c11 := of_eq_true c11b0); (try have k_c12 := of_eq_true c12b0); (try have k_c13 := of_eq_true c13b0); (try have k_c14 := of_eq_true c14b0); (try have k_c15 := of_eq_true c15b0); (try have k_c17 := of_eq_true c17b0); omega)
          try (have c19b3 := c19b2; simp only [ByteArray.size_append, ByteArray.size_extract, Nat.min_self] at c19b3)
          by_cases c20 : (x7_1 ++ ((a0.extract (x8_1 : Int).toNat a0.size) ++ t900001)).size + a1.size ≤ 9223372036854775807
          ·rw [if_pos c20] at H; have c20b0 := eq_true c20; have c20b1 : decide ((x7_1 ++ ((a0.extract (x8_1 : Int).toNat a0.size) ++ t900001)).size + a1.size ≤ 9223372036854775807) = true := decide_eq_true c20
           try have c20b2 : (9223372036854775807 < (x7_1 ++ ((a0.extract (x8_1 : Int).toNat a0.size) ++ t900001)).size + a1.size) = False := eq_false (Nat.not_lt.2 c20)
           try have c20b4 : (9223372036854775807 < x7_1.size + ((a0.size - x8_1.toNat) + t900001.size) + a1.size) = False := eq_false (by have hh := c20; simp only [ByteArray.size_append, ByteArray.size_extract] at hh; (try have k_c6 := of_eq_true c6b0); (try have k_c7 := of_eq_true c7b0); (try have k_c10 := of_eq_true c10b0); (try have k_c11 := of_eq_true c11b0); (try have k_c12 := of_eq_true c12b0); (try have k_c13 := of_eq_true c13b0); (try have k_c14 := of_eq_true c14b0); (try have k_c15 := of_eq_true c15b0); (try have k_c17 := of_eq_true c17b0); (try have k_c19 := of_eq_true c19b0); omega)
           try (have c20b3 := c20b2; simp only [ByteArray.size_append, ByteArray.size_extract, Nat.min_self] at c20b3)
           have H' := Aside0.mk H; clear H
           try go_wp2
           have n0_ := Aside0.mk (below_drew1 HB.out); clear HB; have HB := n0_; clear n0_; refine start_ (n := 10) (S := fun w' => True) (ds := []) #[false, false, false, false, false, false, false, false, false, false] (by kernel_rfl) rfl rfl trivial (fun hHeld => ?_); refine with_tabW spec_l2Marked.tab9 spec_l2Marked.bits9 (fun HT_ HW_ => ?_); generalize wr.drew = w21 at HB hHeld ⊢; refine pure_ (i := 0) (N := some 27) (v := ?_) (a' := ?_) #[true, false, false, false, false, false, false, false, false, false] rfl rfl (any_of HT_.out (by kernel_rfl)) (fun _ _ _ h => h) (Or.inl ⟨by rfl, ?_⟩) ?_ ?_; rotate_left
           ·intro w'; go_simp
            with_reducible rfl
           rotate_left
           ·simp only [Act.put, List.setIfInBounds_toArray, List.set_cons_zero, List.set_cons_succ, i64_w, i32_w]; rfl
           refine pure_ (i := 1) (N := some 28) (v := ?_) (a' := ?_) #[true, true, false, false, false, false, false, false, false, false] rfl rfl (any_of HT_.out (by kernel_rfl)) (fun _ _ _ h => h) (Or.inl ⟨by rfl, ?_⟩) ?_ ?_; rotate_left
           ·intro w'; go_simp
            with_reducible rfl
           rotate_left
           ·simp only [Act.put, List.setIfInBounds_toArray, List.set_cons_zero, List.set_cons_succ, i64_w, i32_w]; rfl
           refine pure_ (i := 2) (N := some 29) (v := ?_) (a' := ?_) #[true, true, true, false, false, false, false, false, false, false] rfl rfl (any_of HT_.out (by kernel_rfl)) (fun _ _ _ h => h) (Or.inl ⟨by rfl, ?_⟩) ?_ ?_; rotate_left
           ·intro w'; go_simp
            with_reducible rfl
           rotate_left
           ·simp only [Act.put, List.setIfInBounds_toArray, List.set_cons_zero, List.set_cons_succ, i64_w, i32_w]; rfl
           refine pure_ (i := 3) (N := some 30) (v := ?_) (a' := ?_) #[true, true, true, true, false, false, false, false, false, false] rfl rfl (any_of HT_.out (by kernel_rfl)) (fun _ _ _ h => h) (Or.inl ⟨by rfl, ?_⟩) ?_ ?_; rotate_left
           ·intro w'; go_simp
            with_reducible rfl
           rotate_left
           ·simp only [Act.put, List.setIfInBounds_toArray, List.set_cons_zero, List.set_cons_succ, i64_w, i32_w]; rfl
           refine pure_ (i := 4) (N := some 31) (v := ?_) (a' := ?_) #[true, true, true, true, true, false, false, false, false, false] rfl rfl (any_of HT_.out (by kernel_rfl)) (fun _ _ _ h => h) (Or.inl ⟨by rfl, ?_⟩) ?_ ?_; rotate_left
           ·intro w'; go_simp
            with_reducible rfl
           rotate_left
           ·simp only [Act.put, List.setIfInBounds_toArray, List.set_cons_zero, List.set_cons_succ, i64_w, i32_w]; rfl
           refine pure_ (i := 5) (N := some 32) (v := ?_) (a' := ?_) #[true, true, true, true, true, true, false, false, false, false] rfl rfl (any_of HT_.out (by kernel_rfl)) (fun _ _ _ h => h) (Or.inl ⟨by rfl, ?_⟩) ?_ ?_; rotate_left
           ·intro w'; go_simp
            with_reducible rfl
           rotate_left
           ·simp only [Act.put, List.setIfInBounds_toArray, List.set_cons_zero, List.set_cons_succ, i64_w, i32_w]; rfl
           refine pure_ (i := 6) (N := some 33) (v := ?_) (a' := ?_) #[true, true, true, true, true, true, true, false, false, false] rfl rfl (any_of HT_.out (by kernel_rfl)) (fun _ _ _ h => h) (Or.inl ⟨by rfl, ?_⟩) ?_ ?_; rotate_left
           ·intro w'; go_simp
            with_reducible rfl
           rotate_left
           ·simp only [Act.put, List.setIfInBounds_toArray, List.set_cons_zero, List.set_cons_succ, i64_w, i32_w]; rfl
           refine one_ (i := 7) (N := some 34) #[true, true, true, true, true, true, true, true, false, false] rfl rfl (one_of HT_.out (by kernel_rfl)) (by decide) (fun K hK => ?_); refine goes_ Tryd.func75 (by kernel_rfl) rfl #[.int .i64 (wrap64 ((wrap64 (x8_1 + 63)) - (a0.size : Int))), .string (⟨#[0]⟩ : ByteArray)] (by rfl) rfl rfl (by (try simp only [List.map_toArray, List.map_cons, List.map_nil]); first | done | rfl | (simp only [List.length_drop, List.length_take]; rfl)) ?_
           with_reducible refine (spec_l1Long.calls (wrap64 ((wrap64 (x8_1 + 63)) - (a0.size : Int))) (⟨#[0]⟩ : ByteArray) t900001 _ A16.out).mono ?_
           rintro e w22 ⟨rfl, hb⟩; refine ⟨_, rfl, ?_⟩; have n0_ := Aside0.mk (below_step (by repeat (first | (with_reducible first | exact HB.out | apply below_alloc | apply pw_below_drewN | apply below_drew1) | exact HB.out)) hb); clear HB; have HB := n0_; clear n0_; (try clear hb); (try clear hb2); (try clear hk); (try clear hi); refine hK.out _ _ trivial (fun hHeld => ?_); clear hK K; refine norm_ (a' := ?_) ?_ ?_; rotate_left
           ·show Act.put _ (some 34) _ = _; simp only [Act.put, List.setIfInBounds_toArray, List.set_cons_zero, List.set_cons_succ, i64_w, i32_w]; rfl
           refine pure_ (i := 8) (N := some 35) (v := ?_) (a' := ?_) #[true, true, true, true, true, true, true, true, true, false] rfl rfl (any_of HT_.out (by kernel_rfl)) (fun _ _ _ h => h) (Or.inl ⟨by rfl, ?_⟩) ?_ ?_; rotate_left
           ·intro w'; go_simp
            with_reducible rfl
           rotate_left
           ·simp only [Act.put, List.setIfInBounds_toArray, List.set_cons_zero, List.set_cons_succ, i64_w, i32_w]; rfl
           refine pure_ (i := 9) (N := some 10) (v := ?_) (a' := ?_) #[true, true, true, true, true, true, true, true, true, true] rfl rfl (any_of HT_.out (by kernel_rfl)) (fun _ _ _ h => h) (Or.inl ⟨by rfl, ?_⟩) ?_ ?_; rotate_left
           ·intro w'; go_simp
            with_reducible rfl
           rotate_left
           ·simp only [Act.put, List.setIfInBounds_toArray, List.set_cons_zero, List.set_cons_succ, i64_w, i32_w]; rfl
           refine done_ (done_of HT_.out (by kernel_rfl)) ?_
           try go_wp2
           go_roundg k1
           case measure => have := HK1.out; omega
           case rel => exact ⟨((x7_1 ++ ((a0.extract (x8_1 : Int).toNat a0.size) ++ t900001)) ++ a1), (wrap64 (x8_1 + 63)), (by first | rfl | (simp; done) | (simp [*]; done)), (by first | rfl | (simp; done) | (simp [*]; done)), H', ⟨by have := HK1.out; omega⟩, ⟨by repeat (first | (with_reducible first | exact HB.out | apply below_alloc | apply pw_below_drewN | apply below_drew1) | exact HB.out)⟩⟩
          ·rw [if_neg c20] at H; exact absurd H (by simp)
         ·rw [if_neg c19] at H; exact absurd H (by simp)
        ·rw [if_neg c18] at H; have c18b0 : (x8_1 == 0) = false := beq_eq_false_iff_ne.mpr c18; have c18b1 : (x8_1 != 0) = true := bne_iff_ne.mpr c18
         by_cases c23 : x7_1.size + ((a0.extract (x8_1 : Int).toNat a0.size) ++ t900001).size ≤ 9223372036854775807
         ·rw [if_pos c23] at H; have c23b0 := eq_true c23; have c23b1 : decide (x7_1.size + ((a0.extract (x8_1 : Int).toNat a0.size) ++ t900001).size ≤ 9223372036854775807) = true := decide_eq_true c23
          try have c23b2 : (9223372036854775807 < x7_1.size + ((a0.extract (x8_1 : Int).toNat a0.size) ++ t900001).size) = False := eq_false (Nat.not_lt.2 c23)
          try have c23b4 : (9223372036854775807 < x7_1.size + ((a0.size - x8_1.toNat) + t900001.size)) = False := eq_false (by have hh := c23; simp only [ByteArray.size_append, ByteArray.size_extract] at hh; (try have k_c6 := of_eq_true c6b0); (try have k_c7 := of_eq_true c7b0); (try have k_c10 := of_eq_true c10b0); (try have k_c11 := of_eq_true c11b0); (try have k_c12 := of_eq_true c12b0); (try have k_c13 := of_eq_true c13b0); (try have k_c14 := of_eq_true c14b0); (try have k_c15 := of_eq_true c15b0); (try have k_c17 := of_eq_true c17b0); (try have k_c19 := of_eq_true c19b0); (try have k_c20 := of_eq_true c20b0); omega)
          try (have c23b3 := c23b2; simp only [ByteArray.size_append, ByteArray.size_extract, Nat.min_self] at c23b3)
          by_cases c24 : (x7_1 ++ ((a0.extract (x8_1 : Int).toNat a0.size) ++ t900001)).size + a2.size ≤ 9223372036854775807
          ·rw [if_pos c24] at H; have c24b0 := eq_true c24; have c24b1 : decide ((x7_1 ++ ((a0.extract (x8_1 : Int).toNat a0.size) ++ t900001)).size + a2.size ≤ 9223372036854775807) = true := decide_eq_true c24
           try have c24b2 : (9223372036854775807 < (x7_1 ++ ((a0.extract (x8_1 : Int).toNat a0.size) ++ t900001)).size + a2.size) = False := eq_false (Nat.not_lt.2 c24)
           try have c24b4 : (9223372036854775807 < x7_1.size + ((a0.size - x8_1.toNat) + t900001.size) + a2.size) = False := eq_false (by have hh := c24; simp only [ByteArray.size_append, ByteArray.size_extract] at hh; (try have k_c6 := of_eq_true c6b0); (try have k_c7 := of_eq_true c7b0); (try have k_c10 := of_eq_true c10b0); (try have k_c11 := of_eq_true c11b0); (try have k_c12 := of_eq_true c12b0); (try have k_c13 := of_eq_true c13b0); (try have k_c14 := of_eq_true c14b0); (try have k_c15 := of_eq_true c15b0); (try have k_c17 := of_eq_true c17b0); (try have k_c19 := of_eq_true c19b0); (try have k_c20 := of_eq_true c20b0); (try have k_c23 := of_eq_true c23b0); omega)
           try (have c24b3 := c24b2; simp only [ByteArray.size_append, ByteArray.size_extract, Nat.min_self] at c24b3)
           have H' := Aside0.mk H; clear H
           try go_wp2
           have n0_ := Aside0.mk (below_drew1 HB.out); clear HB; have HB := n0_; clear n0_; refine start_ (n := 10) (S := fun w' => True) (ds := []) #[false, false, false, false, false, false, false, false, false, false] (by kernel_rfl) rfl rfl trivial (fun hHeld => ?_); refine with_tabW spec_l2Marked.tab9 spec_l2Marked.bits9 (fun HT_ HW_ => ?_); generalize wr.drew = w25 at HB hHeld ⊢; refine pure_ (i := 0) (N := some 27) (v := ?_) (a' := ?_) #[true, false, false, false, false, false, false, false, false, false] rfl rfl (any_of HT_.out (by kernel_rfl)) (fun _ _ _ h => h) (Or.inl ⟨by rfl, ?_⟩) ?_ ?_; rotate_left
           ·intro w'; go_simp
            with_reducible rfl
           rotate_left
           ·simp only [Act.put, List.setIfInBounds_toArray, List.set_cons_zero, List.set_cons_succ, i64_w, i32_w]; rfl
           refine pure_ (i := 1) (N := some 28) (v := ?_) (a' := ?_) #[true, true, false, false, false, false, false, false, false, false] rfl rfl (any_of HT_.out (by kernel_rfl)) (fun _ _ _ h => h) (Or.inl ⟨by rfl, ?_⟩) ?_ ?_; rotate_left
           ·intro w'; go_simp
            with_reducible rfl
           rotate_left
           ·simp only [Act.put, List.setIfInBounds_toArray, List.set_cons_zero, List.set_cons_succ, i64_w, i32_w]; rfl
           refine pure_ (i := 2) (N := some 29) (v := ?_) (a' := ?_) #[true, true, true, false, false, false, false, false, false, false] rfl rfl (any_of HT_.out (by kernel_rfl)) (fun _ _ _ h => h) (Or.inl ⟨by rfl, ?_⟩) ?_ ?_; rotate_left
           ·intro w'; go_simp
            with_reducible rfl
           rotate_left
           ·simp only [Act.put, List.setIfInBounds_toArray, List.set_cons_zero, List.set_cons_succ, i64_w, i32_w]; rfl
           refine pure_ (i := 3) (N := some 30) (v := ?_) (a' := ?_) #[true, true, true, true, false, false, false, false, false, false] rfl rfl (any_of HT_.out (by kernel_rfl)) (fun _ _ _ h => h) (Or.inl ⟨by rfl, ?_⟩) ?_ ?_; rotate_left
           ·intro w'; go_simp
            with_reducible rfl
           rotate_left
           ·simp only [Act.put, List.setIfInBounds_toArray, List.set_cons_zero, List.set_cons_succ, i64_w, i32_w]; rfl
           refine pure_ (i := 4) (N := some 31) (v := ?_) (a' := ?_) #[true, true, true, true, true, false, false, false, false, false] rfl rfl (any_of HT_.out (by kernel_rfl)) (fun _ _ _ h => h) (Or.inl ⟨by rfl, ?_⟩) ?_ ?_; rotate_left
           ·intro w'; go_simp
            with_reducible rfl
           rotate_left
           ·simp only [Act.put, List.setIfInBounds_toArray, List.set_cons_zero, List.set_cons_succ, i64_w, i32_w]; rfl
           refine pure_ (i := 5) (N := some 32) (v := ?_) (a' := ?_) #[true, true, true, true, true, true, false, false, false, false] rfl rfl (any_of HT_.out (by kernel_rfl)) (fun _ _ _ h => h) (Or.inl ⟨by rfl, ?_⟩) ?_ ?_; rotate_left
           ·intro w'; go_simp
            with_reducible rfl
           rotate_left
           ·simp only [Act.put, List.setIfInBounds_toArray, List.set_cons_zero, List.set_cons_succ, i64_w, i32_w]; rfl
           refine pure_ (i := 6) (N := some 33) (v := ?_) (a' := ?_) #[true, true, true, true, true, true, true, false, false, false] rfl rfl (any_of HT_.out (by kernel_rfl)) (fun _ _ _ h => h) (Or.inl ⟨by rfl, ?_⟩) ?_ ?_; rotate_left
           ·intro w'; go_simp
            with_reducible rfl
           rotate_left
           ·simp only [Act.put, List.setIfInBounds_toArray, List.set_cons_zero, List.set_cons_succ, i64_w, i32_w]; rfl
           refine one_ (i := 7) (N := some 34) #[true, true, true, true, true, true, true, true, false, false] rfl rfl (one_of HT_.out (by kernel_rfl)) (by decide) (fun K hK => ?_); refine goes_ Tryd.func75 (by kernel_rfl) rfl #[.int .i64 (wrap64 ((wrap64 (x8_1 + 63)) - (a0.size : Int))), .string (⟨#[0]⟩ : ByteArray)] (by rfl) rfl rfl (by (try simp only [List.map_toArray, List.map_cons, List.map_nil]); first | done | rfl | (simp only [List.length_drop, List.length_take]; rfl)) ?_
           with_reducible refine (spec_l1Long.calls (wrap64 ((wrap64 (x8_1 + 63)) - (a0.size : Int))) (⟨#[0]⟩ : ByteArray) t900001 _ A16.out).mono ?_
           rintro e w26 ⟨rfl, hb⟩; refine ⟨_, rfl, ?_⟩; have n0_ := Aside0.mk (below_step (by repeat (first | (with_reducible first | exact HB.out | apply below_alloc | apply pw_below_drewN | apply below_drew1) | exact HB.out)) hb); clear HB; have HB := n0_; clear n0_; (try clear hb); (try clear hb2); (try clear hk); (try clear hi); refine hK.out _ _ trivial (fun hHeld => ?_); clear hK K; refine norm_ (a' := ?_) ?_ ?_; rotate_left
           ·show Act.put _ (some 34) _ = _; simp only [Act.put, List.setIfInBounds_toArray, List.set_cons_zero, List.set_cons_succ, i64_w, i32_w]; rfl
           refine pure_ (i := 8) (N := some 35) (v := ?_) (a' := ?_) #[true, true, true, true, true, true, true, true, true, false] rfl rfl (any_of HT_.out (by kernel_rfl)) (fun _ _ _ h => h) (Or.inl ⟨by rfl, ?_⟩) ?_ ?_; rotate_left
           ·intro w'; go_simp
            with_reducible rfl
           rotate_left
           ·simp only [Act.put, List.setIfInBounds_toArray, List.set_cons_zero, List.set_cons_succ, i64_w, i32_w]; rfl
           refine pure_ (i := 9) (N := some 10) (v := ?_) (a' := ?_) #[true, true, true, true, true, true, true, true, true, true] rfl rfl (any_of HT_.out (by kernel_rfl)) (fun _ _ _ h => h) (Or.inl ⟨by rfl, ?_⟩) ?_ ?_; rotate_left
           ·intro w'; go_simp
            with_reducible rfl
           rotate_left
           ·simp only [Act.put, List.setIfInBounds_toArray, List.set_cons_zero, List.set_cons_succ, i64_w, i32_w]; rfl
           refine done_ (done_of HT_.out (by kernel_rfl)) ?_
           try go_wp2
           go_roundg k1
           case measure => have := HK1.out; omega
           case rel => exact ⟨((x7_1 ++ ((a0.extract (x8_1 : Int).toNat a0.size) ++ t900001)) ++ a2), (wrap64 (x8_1 + 63)), (by first | rfl | (simp; done) | (simp [*]; done)), (by first | rfl | (simp; done) | (simp [*]; done)), H', ⟨by have := HK1.out; omega⟩, ⟨by repeat (first | (with_reducible first | exact HB.out | apply below_alloc | apply pw_below_drewN | apply below_drew1) | exact HB.out)⟩⟩
          ·rw [if_neg c24] at H; exact absurd H (by simp)
         ·rw [if_neg c23] at H; exact absurd H (by simp)
       ·rw [if_neg c17] at H; exact absurd H (by simp)
      ·rw [if_neg c15] at H; exact absurd H (by simp)
     ·rw [if_neg c14] at H; exact absurd H (by simp)
   ·rw [if_neg c4] at H; have c4b0 : decide (x8_1 < (a0.size : Int)) = false := decide_eq_false c4; clear c4; obtain rfl := Option.some.inj H
    go_wp2
    go_ret
    exact ⟨by first | rfl | (simp [errW_none, errW_some] <;> rfl) | (simp [*, errW_none, errW_some] <;> rfl), by repeat (first | (with_reducible first | exact HB.out | apply below_alloc | apply pw_below_drewN | apply below_drew1) | exact HB.out)⟩
end Go.Proofs.YtonbmghgbblifaaDoor.Z
end
section
namespace Go.Proofs.YtonbmghgbblifaaDoor.Z
open Go.RowKit Go.Proofs.YtonbmghgbblifaaDoorW.PrintWords Go.Proofs.YtonbmghgbblifaaDoorW.PrintLast Go.Proofs.YtonbmghgbblifaaDoorW.PrintMore
attribute [local go_sem] max2_int min2_int max_two min_two max_three min_three max_four min_four
set_option linter.unusedVariables false
set_option linter.unusedSimpArgs false
def spec_CommitRecord.j0 : Nat → Int → ByteArray → Bool → Option (ByteArray)
 | 0, _, _, _ => none
 | k + 1, x0, x1, x15 => if x15 = true then (some (⟨#[]⟩ : ByteArray)) else ((spec_l2Four.f x0).bind fun t330001 => ((spec_l2Byte.f (x1.size : Int)).bind fun t330002 => (if t330001.size + t330002.size ≤ 9223372036854775807 then (if (t330001 ++ t330002).size + x1.size ≤ 9223372036854775807 then ((spec_l2Marked.f k ((t330001 ++ t330002) ++ x1) (⟨#[67]⟩ : ByteArray) (⟨#[]⟩ : ByteArray)).bind fun t330003 => (some t330003)) else (none)) else (none))))
def spec_CommitRecord.f (k : Nat) (a0 : Int) (a1 : ByteArray) : Option (ByteArray) := if a0 < 1 then (spec_CommitRecord.j0 k a0 a1 true) else (if a0 > 1000000 then (spec_CommitRecord.j0 k a0 a1 true) else (spec_CommitRecord.j0 k a0 a1 (decide ((a1.size : Int) > 32))))
set_option maxHeartbeats 8000000 in
set_option maxRecDepth 100000 in
theorem spec_CommitRecord.calls (k : Nat) (a0 : Int) (a1 : ByteArray) (r : ByteArray) (w : World) (h : spec_CommitRecord.f k a0 a1 = some r) :
  Calls Tryd.prog 33 #[.int .i64 a0, .string a1] w fun e w' => e = .returned (.string r) ∧ Below w.heap.size w w' := by
 have HB := Aside0.mk (Below.refl w.heap.size w); have H : (if a0 < 1 then (spec_CommitRecord.j0 k a0 a1 true) else (if a0 > 1000000 then (spec_CommitRecord.j0 k a0 a1 true) else (spec_CommitRecord.j0 k a0 a1 (decide ((a1.size : Int) > 32))))) = some r := h; clear h; have HC3 := Aside0.mk H; clear H
 go_enter Tryd.func33, Tryd.ntmps33
 go_upto_region 1 with (fail)
 go_cut [15] (fun v15 wc => ∃ (kq : Nat) (x15_2 : Bool), v15 = .bool x15_2 ∧ Aside0 (spec_CommitRecord.j0 kq a0 a1 x15_2 = some r) ∧ Aside0 (kq ≤ k) ∧ Aside0 (Below w.heap.size w wc))
 case first =>
  have H := HC3.out; clear HC3
  by_cases c4 : a0 < 1
  ·rw [if_pos c4] at H; have c4b0 : decide (a0 < 1) = true := decide_eq_true c4; clear c4; (first | rw [c4b0] | (simp only [i64_w, i32_w]; rw [c4b0]) | skip); have H' := Aside0.mk H; clear H
   go_wp2
   go_meet
   case rel => exact ⟨_, (true), (by first | rfl | (simp; done) | (simp [*]; done)), H', ⟨by first | omega | exact Nat.le_refl _⟩, ⟨by repeat (first | (with_reducible first | exact HB.out | apply below_alloc | apply pw_below_drewN | apply below_drew1) | exact HB.out)⟩⟩
  ·rw [if_neg c4] at H; have c4b0 : decide (a0 < 1) = false := decide_eq_false c4; clear c4; (first | rw [c4b0] | (simp only [i64_w, i32_w]; rw [c4b0]) | skip)
   by_cases c5 : a0 > 1000000
   ·rw [if_pos c5] at H; have c5b0 : decide (1000000 < a0) = true := decide_eq_true c5; clear c5; have H' := Aside0.mk H; clear H
    go_wp2
    go_meet
    case rel => exact ⟨_, (true), (by first | rfl | (simp; done) | (simp [*]; done)), H', ⟨by first | omega | exact Nat.le_refl _⟩, ⟨by repeat (first | (with_reducible first | exact HB.out | apply below_alloc | apply pw_below_drewN | apply below_drew1) | exact HB.out)⟩⟩
   ·rw [if_neg c5] at H; have c5b0 : decide (1000000 < a0) = false := decide_eq_false c5; clear c5; have H' := Aside0.mk H; clear H
    go_wp2
    go_meet
    case rel => exact ⟨_, (decide ((a1.size : Int) > 32)), (by first | rfl | (simp; done) | (simp [*]; done)), H', ⟨by first | omega | exact Nat.le_refl _⟩, ⟨by repeat (first | (with_reducible first | exact HB.out | apply below_alloc | apply pw_below_drewN | apply below_drew1) | exact HB.out)⟩⟩
 case rest =>
  clear HC3
  try clear p2
  try clear c3
  try clear c4
  try clear c4b0
  try clear c5
  try clear c5b0
  obtain ⟨kq, x15_2, rfl, HA, HJ2, HB⟩ := hcut
  cases kq with
  | zero => exact absurd HA.out (by simp [spec_CommitRecord.j0])
  | succ kj2 =>
   have H := HA.out; clear HA; simp only [spec_CommitRecord.j0] at H
   by_cases c6 : x15_2 = true
   ·subst c6; have H1 : (some (⟨#[]⟩ : ByteArray)) = some r := by rw [if_pos rfl] at H; exact H
    clear H; have H := H1; clear H1; obtain rfl := Option.some.inj H
    go_wp2
    go_ret
    exact ⟨by first | rfl | (simp [errW_none, errW_some] <;> rfl) | (simp [*, errW_none, errW_some] <;> rfl), by repeat (first | (with_reducible first | exact HB.out | apply below_alloc | apply pw_below_drewN | apply below_drew1) | exact HB.out)⟩
   ·replace c6 := Bool.eq_false_iff.mpr c6; subst c6; have H1 : ((spec_l2Four.f a0).bind fun t330001 => ((spec_l2Byte.f (a1.size : Int)).bind fun t330002 => (if t330001.size + t330002.size ≤ 9223372036854775807 then (if (t330001 ++ t330002).size + a1.size ≤ 9223372036854775807 then ((spec_l2Marked.f kj2 ((t330001 ++ t330002) ++ a1) (⟨#[67]⟩ : ByteArray) (⟨#[]⟩ : ByteArray)).bind fun t330003 => (some t330003)) else (none)) else (none)))) = some r := by rw [if_neg (show ¬ (false = true) by decide)] at H; exact H
    clear H; have H := H1; clear H1; replace H := Option.bind_eq_some_iff.mp H; obtain ⟨t330001, A70, H⟩ := H; replace H : ((spec_l2Byte.f (a1.size : Int)).bind fun t330002 => (if t330001.size + t330002.size ≤ 9223372036854775807 then (if (t330001 ++ t330002).size + a1.size ≤ 9223372036854775807 then ((spec_l2Marked.f kj2 ((t330001 ++ t330002) ++ a1) (⟨#[67]⟩ : ByteArray) (⟨#[]⟩ : ByteArray)).bind fun t330003 => (some t330003)) else (none)) else (none))) = some r := H; have A7 := Aside0.mk A70; clear A70; replace H := Option.bind_eq_some_iff.mp H; obtain ⟨t330002, A80, H⟩ := H; replace H : (if t330001.size + t330002.size ≤ 9223372036854775807 then (if (t330001 ++ t330002).size + a1.size ≤ 9223372036854775807 then ((spec_l2Marked.f kj2 ((t330001 ++ t330002) ++ a1) (⟨#[67]⟩ : ByteArray) (⟨#[]⟩ : ByteArray)).bind fun t330003 => (some t330003)) else (none)) else (none)) = some r := H; have A8 := Aside0.mk A80; clear A80
    by_cases c9 : t330001.size + t330002.size ≤ 9223372036854775807
    ·rw [if_pos c9] at H; have c9b0 := eq_true c9; have c9b1 : decide (t330001.size + t330002.size ≤ 9223372036854775807) = true := decide_eq_true c9
     try have c9b2 : (9223372036854775807 < t330001.size + t330002.size) = False := eq_false (Nat.not_lt.2 c9)
     by_cases c10 : (t330001 ++ t330002).size + a1.size ≤ 9223372036854775807
     ·rw [if_pos c10] at H; have c10b0 := eq_true c10; have c10b1 : decide ((t330001 ++ t330002).size + a1.size ≤ 9223372036854775807) = true := decide_eq_true c10
      try have c10b2 : (9223372036854775807 < (t330001 ++ t330002).size + a1.size) = False := eq_false (Nat.not_lt.2 c10)
      try have c10b4 : (9223372036854775807 < t330001.size + t330002.size + a1.size) = False := eq_false (by have hh := c10; simp only [ByteArray.size_append, ByteArray.size_extract] at hh; omega)
      try (have c10b3 := c10b2; simp only [ByteArray.size_append, ByteArray.size_extract, Nat.min_self] at c10b3)
      replace H := Option.bind_eq_some_iff.mp H; obtain ⟨t330003, A110, H⟩ := H; replace H : (some t330003) = some r := H; have A11 := Aside0.mk A110; clear A110; obtain rfl := Option.some.inj H
      go_wp2_with (first | ((with_reducible refine gate_callee (f := 91) rfl ?_); refine goesL_ (some 17) rfl rfl Tryd.func91 (by kernel_rfl) rfl #[.int .i64 a0] rfl (by (try simp only [List.map_toArray, List.map_cons, List.map_nil]); first | done | rfl | (simp only [List.length_drop, List.length_take]; rfl)) ?_; (with_reducible refine (spec_l2Four.calls a0 t330001 _ A7.out).mono ?_); rintro e w12 ⟨rfl, hb⟩; refine ⟨_, rfl, ?_⟩; have n0_ := Aside0.mk (below_step (by repeat (first | (with_reducible first | exact HB.out | apply below_alloc | apply pw_below_drewN | apply below_drew1) | exact HB.out)) hb); clear HB; have HB := n0_; clear n0_; (try clear hb); (try clear hb2); (try clear hk); (try clear hi)) | ((with_reducible refine gate_callee (f := 82) rfl ?_); refine goesL_ (some 20) rfl rfl Tryd.func82 (by kernel_rfl) rfl #[.int .i64 (a1.size : Int)] rfl (by (try simp only [List.map_toArray, List.map_cons, List.map_nil]); first | done | rfl | (simp only [List.length_drop, List.length_take]; rfl)) ?_; (with_reducible refine (spec_l2Byte.calls (a1.size : Int) t330002 _ A8.out).mono ?_); rintro e w13 ⟨rfl, hb⟩; refine ⟨_, rfl, ?_⟩; have n0_ := Aside0.mk (below_step (by repeat (first | (with_reducible first | exact HB.out | apply below_alloc | apply pw_below_drewN | apply below_drew1) | exact HB.out)) hb); clear HB; have HB := n0_; clear n0_; (try clear hb); (try clear hb2); (try clear hk); (try clear hi)) | ((with_reducible refine gate_callee (f := 90) rfl ?_); refine goesL_ (some 24) rfl rfl Tryd.func90 (by kernel_rfl) rfl #[.string ((t330001 ++ t330002) ++ a1), .string (⟨#[67]⟩ : ByteArray), .string (⟨#[]⟩ : ByteArray)] rfl (by (try simp only [List.map_toArray, List.map_cons, List.map_nil]); first | done | rfl | (simp only [List.length_drop, List.length_take]; rfl)) ?_; (with_reducible refine (spec_l2Marked.calls kj2 ((t330001 ++ t330002) ++ a1) (⟨#[67]⟩ : ByteArray) (⟨#[]⟩ : ByteArray) t330003 _ A11.out).mono ?_); rintro e w14 ⟨rfl, hb⟩; refine ⟨_, rfl, ?_⟩; have n0_ := Aside0.mk (below_step (by repeat (first | (with_reducible first | exact HB.out | apply below_alloc | apply pw_below_drewN | apply below_drew1) | exact HB.out)) hb); clear HB; have HB := n0_; clear n0_; (try clear hb); (try clear hb2); (try clear hk); (try clear hi)))
      go_ret
      exact ⟨by first | rfl | (simp [errW_none, errW_some] <;> rfl) | (simp [*, errW_none, errW_some] <;> rfl), by repeat (first | (with_reducible first | exact HB.out | apply below_alloc | apply pw_below_drewN | apply below_drew1) | exact HB.out)⟩
     ·rw [if_neg c10] at H; exact absurd H (by simp)
    ·rw [if_neg c9] at H; exact absurd H (by simp)
end Go.Proofs.YtonbmghgbblifaaDoor.Z
end
section
namespace Go.Proofs.YtonbmghgbblifaaDoor.Z
open Go.RowKit Go.Proofs.YtonbmghgbblifaaDoorW.PrintWords Go.Proofs.YtonbmghgbblifaaDoorW.PrintLast Go.Proofs.YtonbmghgbblifaaDoorW.PrintMore
attribute [local go_sem] max2_int min2_int max_two min_two max_three min_three max_four min_four
set_option linter.unusedVariables false
set_option linter.unusedSimpArgs false
def spec_l1Width.f (a0 : Int) : Option (Bool) := if a0 ≥ 1 then (some (decide (a0 ≤ 32))) else (some false)
set_option maxHeartbeats 8000000 in
set_option maxRecDepth 100000 in
theorem spec_l1Width.calls (a0 : Int) (r : Bool) (w : World) (h : spec_l1Width.f a0 = some r) :
  Calls Tryd.prog 63 #[.int .i64 a0] w fun e w' => e = .returned (.bool r) ∧ Drawn0 w w' := by
 have H : (if a0 ≥ 1 then (some (decide (a0 ≤ 32))) else (some false)) = some r := h; clear h
 by_cases c2 : a0 ≥ 1
 ·rw [if_pos c2] at H; have c2b0 : decide (1 ≤ a0) = true := decide_eq_true c2; clear c2; obtain rfl := Option.some.inj H
  go_enter Tryd.func63, Tryd.ntmps63
  go_wp2
  go_ret
  exact ⟨by first | rfl | (simp; done) | (simp [*]; done), by repeat (first | exact Drawn0.refl _ | apply Drawn0.step)⟩
 ·rw [if_neg c2] at H; have c2b0 : decide (1 ≤ a0) = false := decide_eq_false c2; clear c2; obtain rfl := Option.some.inj H
  go_enter Tryd.func63, Tryd.ntmps63
  go_wp2
  go_ret
  exact ⟨by first | rfl | (simp; done) | (simp [*]; done), by repeat (first | exact Drawn0.refl _ | apply Drawn0.step)⟩
end Go.Proofs.YtonbmghgbblifaaDoor.Z
end
section
namespace Go.Proofs.YtonbmghgbblifaaDoor.Z
open Go.RowKit Go.Proofs.YtonbmghgbblifaaDoorW.PrintWords Go.Proofs.YtonbmghgbblifaaDoorW.PrintLast Go.Proofs.YtonbmghgbblifaaDoorW.PrintMore
attribute [local go_sem] max2_int min2_int max_two min_two max_three min_three max_four min_four
set_option linter.unusedVariables false
set_option linter.unusedSimpArgs false
def spec_Digest.f (k : Nat) (a0 : ByteArray) (a1 : Int) : Option (ByteArray) := (spec_l1Width.f a1).bind fun t310001 => (if t310001 = true then ((spec_Sha256.f k a0).bind fun t310002 => (if 0 ≤ a1 then (if a1 ≤ (t310002.size : Int) then (some (t310002.extract 0 (a1 : Int).toNat)) else (none)) else (none))) else (some (⟨#[]⟩ : ByteArray)))
set_option maxHeartbeats 8000000 in
set_option maxRecDepth 100000 in
theorem spec_Digest.calls (k : Nat) (a0 : ByteArray) (a1 : Int) (r : ByteArray) (w : World) (h : spec_Digest.f k a0 a1 = some r) :
  Calls Tryd.prog 31 #[.string a0, .int .i64 a1] w fun e w' => e = .returned (.string r) ∧ Below w.heap.size w w' := by
 have HB := Aside0.mk (Below.refl w.heap.size w); have H : ((spec_l1Width.f a1).bind fun t310001 => (if t310001 = true then ((spec_Sha256.f k a0).bind fun t310002 => (if 0 ≤ a1 then (if a1 ≤ (t310002.size : Int) then (some (t310002.extract 0 (a1 : Int).toNat)) else (none)) else (none))) else (some (⟨#[]⟩ : ByteArray)))) = some r := h; clear h; replace H := Option.bind_eq_some_iff.mp H; obtain ⟨t310001, A30, H⟩ := H; replace H : (if t310001 = true then ((spec_Sha256.f k a0).bind fun t310002 => (if 0 ≤ a1 then (if a1 ≤ (t310002.size : Int) then (some (t310002.extract 0 (a1 : Int).toNat)) else (none)) else (none))) else (some (⟨#[]⟩ : ByteArray))) = some r := H; have A3 := Aside0.mk A30; clear A30
 by_cases c4 : t310001 = true
 ·subst c4; have H1 : ((spec_Sha256.f k a0).bind fun t310002 => (if 0 ≤ a1 then (if a1 ≤ (t310002.size : Int) then (some (t310002.extract 0 (a1 : Int).toNat)) else (none)) else (none))) = some r := by rw [if_pos rfl] at H; exact H
  clear H; have H := H1; clear H1; replace H := Option.bind_eq_some_iff.mp H; obtain ⟨t310002, A50, H⟩ := H; replace H : (if 0 ≤ a1 then (if a1 ≤ (t310002.size : Int) then (some (t310002.extract 0 (a1 : Int).toNat)) else (none)) else (none)) = some r := H; have A5 := Aside0.mk A50; clear A50
  by_cases c6 : 0 ≤ a1
  ·rw [if_pos c6] at H; have c6b0 := eq_true c6; have c6b1 : decide (0 ≤ a1) = true := decide_eq_true c6; clear c6
   by_cases c7 : a1 ≤ (t310002.size : Int)
   ·rw [if_pos c7] at H; have c7b0 := eq_true c7; have c7b1 : decide (a1 ≤ (t310002.size : Int)) = true := decide_eq_true c7; clear c7; obtain rfl := Option.some.inj H
    go_enter Tryd.func31, Tryd.ntmps31
    go_wp2_with (first | ((with_reducible refine gate_callee (f := 63) rfl ?_); refine goesL_ (some 6) rfl rfl Tryd.func63 (by kernel_rfl) rfl #[.int .i64 a1] rfl (by (try simp only [List.map_toArray, List.map_cons, List.map_nil]); first | done | rfl | (simp only [List.length_drop, List.length_take]; rfl)) ?_; (with_reducible refine (spec_l1Width.calls a1 true _ A3.out).mono ?_); rintro e w' ⟨rfl, ⟨nd, rfl⟩⟩; refine ⟨_, rfl, ?_⟩) | ((with_reducible refine gate_callee (f := 88) rfl ?_); refine goesL_ (some 9) rfl rfl Tryd.func88 (by kernel_rfl) rfl #[.string a0] rfl (by (try simp only [List.map_toArray, List.map_cons, List.map_nil]); first | done | rfl | (simp only [List.length_drop, List.length_take]; rfl)) ?_; (with_reducible refine (spec_Sha256.calls k a0 t310002 _ A5.out).mono ?_); rintro e w8 ⟨rfl, hb⟩; refine ⟨_, rfl, ?_⟩; have n0_ := Aside0.mk (below_step (by repeat (first | (with_reducible first | exact HB.out | apply below_alloc | apply pw_below_drewN | apply below_drew1) | exact HB.out)) hb); clear HB; have HB := n0_; clear n0_; (try clear hb); (try clear hb2); (try clear hk); (try clear hi)))
    go_ret
    exact ⟨by first | rfl | (simp [errW_none, errW_some] <;> rfl) | (simp [*, errW_none, errW_some] <;> rfl), by repeat (first | (with_reducible first | exact HB.out | apply below_alloc | apply pw_below_drewN | apply below_drew1) | exact HB.out)⟩
   ·rw [if_neg c7] at H; exact absurd H (by simp)
  ·rw [if_neg c6] at H; exact absurd H (by simp)
 ·replace c4 := Bool.eq_false_iff.mpr c4; subst c4; have H1 : (some (⟨#[]⟩ : ByteArray)) = some r := by rw [if_neg (show ¬ (false = true) by decide)] at H; exact H
  clear H; have H := H1; clear H1; obtain rfl := Option.some.inj H
  go_enter Tryd.func31, Tryd.ntmps31
  go_wp2_with (first | ((with_reducible refine gate_callee (f := 63) rfl ?_); refine goesL_ (some 6) rfl rfl Tryd.func63 (by kernel_rfl) rfl #[.int .i64 a1] rfl (by (try simp only [List.map_toArray, List.map_cons, List.map_nil]); first | done | rfl | (simp only [List.length_drop, List.length_take]; rfl)) ?_; (with_reducible refine (spec_l1Width.calls a1 false _ A3.out).mono ?_); rintro e w' ⟨rfl, ⟨nd, rfl⟩⟩; refine ⟨_, rfl, ?_⟩))
  go_ret
  exact ⟨by first | rfl | (simp [errW_none, errW_some] <;> rfl) | (simp [*, errW_none, errW_some] <;> rfl), by repeat (first | (with_reducible first | exact HB.out | apply below_alloc | apply pw_below_drewN | apply below_drew1) | exact HB.out)⟩
end Go.Proofs.YtonbmghgbblifaaDoor.Z
end
section
namespace Go.Proofs.YtonbmghgbblifaaDoor.Z
open Go.RowKit Go.Proofs.YtonbmghgbblifaaDoorW.PrintWords Go.Proofs.YtonbmghgbblifaaDoorW.PrintLast Go.Proofs.YtonbmghgbblifaaDoorW.PrintMore
attribute [local go_sem] max2_int min2_int max_two min_two max_three min_three max_four min_four
set_option linter.unusedVariables false
set_option linter.unusedSimpArgs false
def spec_l1Take.j0 : Nat → List Int → Int → Int → Bool → Option (Int × Int)
 | 0, _, _, _, _ => none
 | k + 1, x0, x1, x2, x17 => if x17 = true then (some (0, wrap64 (x1 + 1))) else (if x1 < (x0.length : Int) then (if x2 ≤ 256 then (if 0 ≤ x1 then (if x2 = 0 then (none) else (some (Int.tmod (wrap64 (rd x0 x1)) x2, wrap64 (x1 + 1)))) else (none)) else (if (x0.length : Int) = 0 then (none) else (if 0 ≤ (Int.tmod x1 (x0.length : Int)) then (if (Int.tmod x1 (x0.length : Int)) < (x0.length : Int) then (if 0 ≤ (Int.tmod (wrap64 ((wrap64 (x1 * 7)) + 3)) (x0.length : Int)) then (if (Int.tmod (wrap64 ((wrap64 (x1 * 7)) + 3)) (x0.length : Int)) < (x0.length : Int) then (if x2 = 0 then (none) else (some (Int.tmod (Go.bits .xor .i64 (wrap64 ((wrap64 ((wrap64 ((wrap64 ((wrap64 (rd x0 (Int.tmod x1 (x0.length : Int)))) * 131)) + (wrap64 ((wrap64 (rd x0 (Int.tmod (wrap64 ((wrap64 (x1 * 7)) + 3)) (x0.length : Int)))) * 1117)))) + (wrap64 (x1 * 29)))) + (wrap64 ((wrap64 (Int.tdiv x1 (x0.length : Int))) * 53)))) (wrap64 (Int.tdiv (wrap64 ((wrap64 ((wrap64 ((wrap64 ((wrap64 (rd x0 (Int.tmod x1 (x0.length : Int)))) * 131)) + (wrap64 ((wrap64 (rd x0 (Int.tmod (wrap64 ((wrap64 (x1 * 7)) + 3)) (x0.length : Int)))) * 1117)))) + (wrap64 (x1 * 29)))) + (wrap64 ((wrap64 (Int.tdiv x1 (x0.length : Int))) * 53)))) 64))) x2, wrap64 (x1 + 1)))) else (none)) else (none)) else (none)) else (none)))) else (if (x0.length : Int) = 0 then (none) else (if 0 ≤ (Int.tmod x1 (x0.length : Int)) then (if (Int.tmod x1 (x0.length : Int)) < (x0.length : Int) then (if 0 ≤ (Int.tmod (wrap64 ((wrap64 (x1 * 7)) + 3)) (x0.length : Int)) then (if (Int.tmod (wrap64 ((wrap64 (x1 * 7)) + 3)) (x0.length : Int)) < (x0.length : Int) then (if x2 = 0 then (none) else (some (Int.tmod (Go.bits .xor .i64 (wrap64 ((wrap64 ((wrap64 ((wrap64 ((wrap64 (rd x0 (Int.tmod x1 (x0.length : Int)))) * 131)) + (wrap64 ((wrap64 (rd x0 (Int.tmod (wrap64 ((wrap64 (x1 * 7)) + 3)) (x0.length : Int)))) * 1117)))) + (wrap64 (x1 * 29)))) + (wrap64 ((wrap64 (Int.tdiv x1 (x0.length : Int))) * 53)))) (wrap64 (Int.tdiv (wrap64 ((wrap64 ((wrap64 ((wrap64 ((wrap64 (rd x0 (Int.tmod x1 (x0.length : Int)))) * 131)) + (wrap64 ((wrap64 (rd x0 (Int.tmod (wrap64 ((wrap64 (x1 * 7)) + 3)) (x0.length : Int)))) * 1117)))) + (wrap64 (x1 * 29)))) + (wrap64 ((wrap64 (Int.tdiv x1 (x0.length : Int))) * 53)))) 64))) x2, wrap64 (x1 + 1)))) else (none)) else (none)) else (none)) else (none))))
def spec_l1Take.f (k : Nat) (l0 : List Int) (a1 : Int) (a2 : Int) : Option (Int × Int) := if a2 < 1 then (spec_l1Take.j0 k l0 a1 a2 true) else (spec_l1Take.j0 k l0 a1 a2 ((l0.length : Int) == 0))
set_option maxHeartbeats 8000000 in
set_option maxRecDepth 100000 in
theorem spec_l1Take.calls (k : Nat) (A0 : Option Addr) (c0 : Nat) (l0 : List Int) (a1 : Int) (a2 : Int) (r1 : Int) (r2 : Int) (w : World) (hr0 : Kd.C (Kd.int .u8) w A0 l0.length l0) (hc0 : l0.length ≤ c0) (h : spec_l1Take.f k l0 a1 a2 = some (r1, r2)) :
  Calls Tryd.prog 71 #[.slice A0 l0.length c0, .int .i64 a1, .int .i64 a2] w fun e w' => e = .returned (.tuple #[.int .i64 r1, .int .i64 r2]) ∧ Drawn0 w w' := by
 have HR0 := Aside0.mk hr0; have HC0 := Aside0.mk hc0; clear hr0 hc0; have H : (if a2 < 1 then (spec_l1Take.j0 k l0 a1 a2 true) else (spec_l1Take.j0 k l0 a1 a2 ((l0.length : Int) == 0))) = some (r1, r2) := h; clear h; have HC4 := Aside0.mk H; clear H
 go_enter Tryd.func71, Tryd.ntmps71
 go_upto_region 1 with (fail)
 go_cut [17] (fun v17 wc => ∃ (kq : Nat) (x17_3 : Bool), v17 = .bool x17_3 ∧ Aside0 (spec_l1Take.j0 kq l0 a1 a2 x17_3 = some (r1, r2)) ∧ Aside0 (kq ≤ k) ∧ Drawn0 w wc)
 case first =>
  have H := HC4.out; clear HC4
  by_cases c5 : a2 < 1
  ·rw [if_pos c5] at H; have c5b0 : decide (a2 < 1) = true := decide_eq_true c5; clear c5; (first | rw [c5b0] | (simp only [i64_w, i32_w]; rw [c5b0]) | skip); have H' := Aside0.mk H; clear H
   go_wp2
   go_meet
   case rel => exact ⟨_, (true), (by first | rfl | (simp; done) | (simp [*]; done)), H', ⟨by first | omega | exact Nat.le_refl _⟩, by repeat (first | exact Drawn0.refl _ | apply Drawn0.step)⟩
  ·rw [if_neg c5] at H; have c5b0 : decide (a2 < 1) = false := decide_eq_false c5; clear c5; (first | rw [c5b0] | (simp only [i64_w, i32_w]; rw [c5b0]) | skip); have H' := Aside0.mk H; clear H
   go_wp2
   go_meet
   case rel => exact ⟨_, (((l0.length : Int) == 0)), (by first | rfl | (simp; done) | (simp [*]; done)), H', ⟨by first | omega | exact Nat.le_refl _⟩, by repeat (first | exact Drawn0.refl _ | apply Drawn0.step)⟩
 case rest =>
  clear HC4
  try clear p2
  try clear c5
  try clear c5b0
  obtain ⟨kq, x17_3, rfl, HA, HJ3, ⟨mc3, rfl⟩⟩ := hcut
  cases kq with
  | zero => exact absurd HA.out (by simp [spec_l1Take.j0])
  | succ kj3 =>
   have H := HA.out; clear HA; simp only [spec_l1Take.j0] at H
   by_cases c6 : x17_3 = true
   ·subst c6; have H1 : (some (0, wrap64 (a1 + 1))) = some (r1, r2) := by rw [if_pos rfl] at H; exact H
    clear H; have H := H1; clear H1; simp only [Option.some.injEq, Prod.mk.injEq] at H; obtain ⟨rfl, rfl⟩ := H
    go_wp2
    go_ret2
    exact ⟨by first | rfl | (simp; done) | (simp [*]; done), by repeat (first | exact Drawn0.refl _ | apply Drawn0.step)⟩
   ·replace c6 := Bool.eq_false_iff.mpr c6; subst c6; have H1 : (if a1 < (l0.length : Int) then (if a2 ≤ 256 then (if 0 ≤ a1 then (if a2 = 0 then (none) else (some (Int.tmod (wrap64 (rd l0 a1)) a2, wrap64 (a1 + 1)))) else (none)) else (if (l0.length : Int) = 0 then (none) else (if 0 ≤ (Int.tmod a1 (l0.length : Int)) then (if (Int.tmod a1 (l0.length : Int)) < (l0.length : Int) then (if 0 ≤ (Int.tmod (wrap64 ((wrap64 (a1 * 7)) + 3)) (l0.length : Int)) then (if (Int.tmod (wrap64 ((wrap64 (a1 * 7)) + 3)) (l0.length : Int)) < (l0.length : Int) then (if a2 = 0 then (none) else (some (Int.tmod (Go.bits .xor .i64 (wrap64 ((wrap64 ((wrap64 ((wrap64 ((wrap64 (rd l0 (Int.tmod a1 (l0.length : Int)))) * 131)) + (wrap64 ((wrap64 (rd l0 (Int.tmod (wrap64 ((wrap64 (a1 * 7)) + 3)) (l0.length : Int)))) * 1117)))) + (wrap64 (a1 * 29)))) + (wrap64 ((wrap64 (Int.tdiv a1 (l0.length : Int))) * 53)))) (wrap64 (Int.tdiv (wrap64 ((wrap64 ((wrap64 ((wrap64 ((wrap64 (rd l0 (Int.tmod a1 (l0.length : Int)))) * 131)) + (wrap64 ((wrap64 (rd l0 (Int.tmod (wrap64 ((wrap64 (a1 * 7)) + 3)) (l0.length : Int)))) * 1117)))) + (wrap64 (a1 * 29)))) + (wrap64 ((wrap64 (Int.tdiv a1 (l0.length : Int))) * 53)))) 64))) a2, wrap64 (a1 + 1)))) else (none)) else (none)) else (none)) else (none)))) else (if (l0.length : Int) = 0 then (none) else (if 0 ≤ (Int.tmod a1 (l0.length : Int)) then (if (Int.tmod a1 (l0.length : Int)) < (l0.length : Int) then (if 0 ≤ (Int.tmod (wrap64 ((wrap64 (a1 * 7)) + 3)) (l0.length : Int)) then (if (Int.tmod (wrap64 ((wrap64 (a1 * 7)) + 3)) (l0.length : Int)) < (l0.length : Int) then (if a2 = 0 then (none) else (some (Int.tmod (Go.bits .xor .i64 (wrap64 ((wrap64 ((wrap64 ((wrap64 ((wrap64 (rd l0 (Int.tmod a1 (l0.length : Int)))) * 131)) + (wrap64 ((wrap64 (rd l0 (Int.tmod (wrap64 ((wrap64 (a1 * 7)) + 3)) (l0.length : Int)))) * 1117)))) + (wrap64 (a1 * 29)))) + (wrap64 ((wrap64 (Int.tdiv a1 (l0.length : Int))) * 53)))) (wrap64 (Int.tdiv (wrap64 ((wrap64 ((wrap64 ((wrap64 ((wrap64 (rd l0 (Int.tmod a1 (l0.length : Int)))) * 131)) + (wrap64 ((wrap64 (rd l0 (Int.tmod (wrap64 ((wrap64 (a1 * 7)) + 3)) (l0.length : Int)))) * 1117)))) + (wrap64 (a1 * 29)))) + (wrap64 ((wrap64 (Int.tdiv a1 (l0.length : Int))) * 53)))) 64))) a2, wrap64 (a1 + 1)))) else (none)) else (none)) else (none)) else (none)))) = some (r1, r2) := by rw [if_neg (show ¬ (false = true) by decide)] at H; exact H
    clear H; have H := H1; clear H1
    by_cases c7 : a1 < (l0.length : Int)
    ·rw [if_pos c7] at H; have c7b0 : decide (a1 < (l0.length : Int)) = true := decide_eq_true c7; clear c7
     by_cases c8 : a2 ≤ 256
     ·rw [if_pos c8] at H; have c8b0 : decide (a2 ≤ 256) = true := decide_eq_true c8; clear c8
      by_cases c9 : 0 ≤ a1
      ·rw [if_pos c9] at H; have c9b0 : decide (0 ≤ a1) = true := decide_eq_true c9; clear c9
       by_cases c10 : a2 = 0
       ·rw [if_pos c10] at H; exact absurd H (by simp)
       ·rw [if_neg c10] at H; have c10b0 : (a2 == 0) = false := beq_eq_false_iff_ne.mpr c10; have c10b1 : (a2 != 0) = true := bne_iff_ne.mpr c10; simp only [Option.some.injEq, Prod.mk.injEq] at H; obtain ⟨rfl, rfl⟩ := H; have p710001 : 0 ≤ (a1 : Int) := of_decide_eq_true (by first | (with_reducible assumption) | assumption); have q710001 : a1 < (l0.length : Int) := of_decide_eq_true (by first | (with_reducible assumption) | assumption); obtain ⟨ad710001, e710001, hx710001_0⟩ := Kd.at_int HR0.out a1 p710001 q710001
        cases e710001
        replace p710001 := eq_true p710001; replace q710001 := eq_true q710001
        go_wp2
        go_ret2
        exact ⟨by first | rfl | (simp; done) | (simp [*]; done), by repeat (first | exact Drawn0.refl _ | apply Drawn0.step)⟩
      ·rw [if_neg c9] at H; exact absurd H (by simp)
     ·rw [if_neg c8] at H; have c8b0 : decide (a2 ≤ 256) = false := decide_eq_false c8; clear c8
      by_cases c11 : (l0.length : Int) = 0
      ·rw [if_pos c11] at H; exact absurd H (by simp)
      ·rw [if_neg c11] at H; have c11b0 : ((l0.length : Int) == 0) = false := beq_eq_false_iff_ne.mpr c11; have c11b1 : ((l0.length : Int) != 0) = true := bne_iff_ne.mpr c11; have c11b2 : ¬ (l0 = []) := fun h_ => c11 (by rw [h_]; rfl)
       obtain ⟨ji12, hji12⟩ : ∃ j_ : Int, (Int.tmod a1 (l0.length : Int)) = j_ := ⟨_, rfl⟩
       replace H : (if 0 ≤ (ji12) then (if (ji12) < (l0.length : Int) then (if 0 ≤ (Int.tmod (wrap64 ((wrap64 (a1 * 7)) + 3)) (l0.length : Int)) then (if (Int.tmod (wrap64 ((wrap64 (a1 * 7)) + 3)) (l0.length : Int)) < (l0.length : Int) then (if a2 = 0 then (none) else (some (Int.tmod (Go.bits .xor .i64 (wrap64 ((wrap64 ((wrap64 ((wrap64 ((wrap64 (rd l0 (ji12))) * 131)) + (wrap64 ((wrap64 (rd l0 (Int.tmod (wrap64 ((wrap64 (a1 * 7)) + 3)) (l0.length : Int)))) * 1117)))) + (wrap64 (a1 * 29)))) + (wrap64 ((wrap64 (Int.tdiv a1 (l0.length : Int))) * 53)))) (wrap64 (Int.tdiv (wrap64 ((wrap64 ((wrap64 ((wrap64 ((wrap64 (rd l0 (ji12))) * 131)) + (wrap64 ((wrap64 (rd l0 (Int.tmod (wrap64 ((wrap64 (a1 * 7)) + 3)) (l0.length : Int)))) * 1117)))) + (wrap64 (a1 * 29)))) + (wrap64 ((wrap64 (Int.tdiv a1 (l0.length : Int))) * 53)))) 64))) a2, wrap64 (a1 + 1)))) else (none)) else (none)) else (none)) else (none)) = some (r1, r2) := by first | (rw [hji12] at H; exact H) | (simp only [hji12] at H ⊢; exact H)
       by_cases c13 : 0 ≤ (ji12)
       ·rw [if_pos c13] at H; have c13b0 : decide (0 ≤ (ji12)) = true := decide_eq_true c13; clear c13
        by_cases c14 : (ji12) < (l0.length : Int)
        ·rw [if_pos c14] at H; have c14b0 : decide ((ji12) < (l0.length : Int)) = true := decide_eq_true c14; clear c14; obtain ⟨ji15, hji15⟩ : ∃ j_ : Int, (Int.tmod (wrap64 ((wrap64 (a1 * 7)) + 3)) (l0.length : Int)) = j_ := ⟨_, rfl⟩
         replace H : (if 0 ≤ (ji15) then (if (ji15) < (l0.length : Int) then (if a2 = 0 then (none) else (some (Int.tmod (Go.bits .xor .i64 (wrap64 ((wrap64 ((wrap64 ((wrap64 ((wrap64 (rd l0 (ji12))) * 131)) + (wrap64 ((wrap64 (rd l0 (ji15))) * 1117)))) + (wrap64 (a1 * 29)))) + (wrap64 ((wrap64 (Int.tdiv a1 (l0.length : Int))) * 53)))) (wrap64 (Int.tdiv (wrap64 ((wrap64 ((wrap64 ((wrap64 ((wrap64 (rd l0 (ji12))) * 131)) + (wrap64 ((wrap64 (rd l0 (ji15))) * 1117)))) + (wrap64 (a1 * 29)))) + (wrap64 ((wrap64 (Int.tdiv a1 (l0.length : Int))) * 53)))) 64))) a2, wrap64 (a1 + 1)))) else (none)) else (none)) = some (r1, r2) := by first | (rw [hji15] at H; exact H) | (simp only [hji15] at H ⊢; exact H)
         by_cases c16 : 0 ≤ (ji15)
         ·rw [if_pos c16] at H; have c16b0 : decide (0 ≤ (ji15)) = true := decide_eq_true c16; clear c16
          by_cases c17 : (ji15) < (l0.length : Int)
          ·rw [if_pos c17] at H; have c17b0 : decide ((ji15) < (l0.length : Int)) = true := decide_eq_true c17; clear c17
           by_cases c18 : a2 = 0
           ·rw [if_pos c18] at H; exact absurd H (by simp)
           ·rw [if_neg c18] at H; have c18b0 : (a2 == 0) = false := beq_eq_false_iff_ne.mpr c18; have c18b1 : (a2 != 0) = true := bne_iff_ne.mpr c18; simp only [Option.some.injEq, Prod.mk.injEq] at H; obtain ⟨rfl, rfl⟩ := H; have p710002 : 0 ≤ ((ji12) : Int) := of_decide_eq_true (by first | (with_reducible assumption) | assumption); have q710002 : (ji12) < (l0.length : Int) := of_decide_eq_true (by first | (with_reducible assumption) | assumption); obtain ⟨ad710002, e710002, hx710002_0⟩ := Kd.at_int HR0.out (ji12) p710002 q710002
            cases e710002
            replace p710002 := eq_true p710002; replace q710002 := eq_true q710002; have p710003 : 0 ≤ ((ji15) : Int) := of_decide_eq_true (by first | (with_reducible assumption) | assumption); have q710003 : (ji15) < (l0.length : Int) := of_decide_eq_true (by first | (with_reducible assumption) | assumption); obtain ⟨ad710003, e710003, hx710003_0⟩ := Kd.at_int HR0.out (ji15) p710003 q710003; obtain rfl : ad710002 = ad710003 := (by injection e710003)
            replace p710003 := eq_true p710003; replace q710003 := eq_true q710003
            go_wp2
            go_ret2
            exact ⟨by first | rfl | (simp; done) | (simp only [← hji12, ← hji15] <;> (first | rfl | simp)) | (simp [*]; done), by repeat (first | exact Drawn0.refl _ | apply Drawn0.step)⟩
          ·rw [if_neg c17] at H; exact absurd H (by simp)
         ·rw [if_neg c16] at H; exact absurd H (by simp)
        ·rw [if_neg c14] at H; exact absurd H (by simp)
       ·rw [if_neg c13] at H; exact absurd H (by simp)
    ·rw [if_neg c7] at H; have c7b0 : decide (a1 < (l0.length : Int)) = false := decide_eq_false c7; clear c7
     by_cases c19 : (l0.length : Int) = 0
     ·rw [if_pos c19] at H; exact absurd H (by simp)
     ·rw [if_neg c19] at H; have c19b0 : ((l0.length : Int) == 0) = false := beq_eq_false_iff_ne.mpr c19; have c19b1 : ((l0.length : Int) != 0) = true := bne_iff_ne.mpr c19; have c19b2 : ¬ (l0 = []) := fun h_ => c19 (by rw [h_]; rfl)
      obtain ⟨ji20, hji20⟩ : ∃ j_ : Int, (Int.tmod a1 (l0.length : Int)) = j_ := ⟨_, rfl⟩
      replace H : (if 0 ≤ (ji20) then (if (ji20) < (l0.length : Int) then (if 0 ≤ (Int.tmod (wrap64 ((wrap64 (a1 * 7)) + 3)) (l0.length : Int)) then (if (Int.tmod (wrap64 ((wrap64 (a1 * 7)) + 3)) (l0.length : Int)) < (l0.length : Int) then (if a2 = 0 then (none) else (some (Int.tmod (Go.bits .xor .i64 (wrap64 ((wrap64 ((wrap64 ((wrap64 ((wrap64 (rd l0 (ji20))) * 131)) + (wrap64 ((wrap64 (rd l0 (Int.tmod (wrap64 ((wrap64 (a1 * 7)) + 3)) (l0.length : Int)))) * 1117)))) + (wrap64 (a1 * 29)))) + (wrap64 ((wrap64 (Int.tdiv a1 (l0.length : Int))) * 53)))) (wrap64 (Int.tdiv (wrap64 ((wrap64 ((wrap64 ((wrap64 ((wrap64 (rd l0 (ji20))) * 131)) + (wrap64 ((wrap64 (rd l0 (Int.tmod (wrap64 ((wrap64 (a1 * 7)) + 3)) (l0.length : Int)))) * 1117)))) + (wrap64 (a1 * 29)))) + (wrap64 ((wrap64 (Int.tdiv a1 (l0.length : Int))) * 53)))) 64))) a2, wrap64 (a1 + 1)))) else (none)) else (none)) else (none)) else (none)) = some (r1, r2) := by first | (rw [hji20] at H; exact H) | (simp only [hji20] at H ⊢; exact H)
      by_cases c21 : 0 ≤ (ji20)
      ·rw [if_pos c21] at H; have c21b0 : decide (0 ≤ (ji20)) = true := decide_eq_true c21; clear c21
       by_cases c22 : (ji20) < (l0.length : Int)
       ·rw [if_pos c22] at H; have c22b0 : decide ((ji20) < (l0.length : Int)) = true := decide_eq_true c22; clear c22; obtain ⟨ji23, hji23⟩ : ∃ j_ : Int, (Int.tmod (wrap64 ((wrap64 (a1 * 7)) + 3)) (l0.length : Int)) = j_ := ⟨_, rfl⟩
        replace H : (if 0 ≤ (ji23) then (if (ji23) < (l0.length : Int) then (if a2 = 0 then (none) else (some (Int.tmod (Go.bits .xor .i64 (wrap64 ((wrap64 ((wrap64 ((wrap64 ((wrap64 (rd l0 (ji20))) * 131)) + (wrap64 ((wrap64 (rd l0 (ji23))) * 1117)))) + (wrap64 (a1 * 29)))) + (wrap64 ((wrap64 (Int.tdiv a1 (l0.length : Int))) * 53)))) (wrap64 (Int.tdiv (wrap64 ((wrap64 ((wrap64 ((wrap64 ((wrap64 (rd l0 (ji20))) * 131)) + (wrap64 ((wrap64 (rd l0 (ji23))) * 1117)))) + (wrap64 (a1 * 29)))) + (wrap64 ((wrap64 (Int.tdiv a1 (l0.length : Int))) * 53)))) 64))) a2, wrap64 (a1 + 1)))) else (none)) else (none)) = some (r1, r2) := by first | (rw [hji23] at H; exact H) | (simp only [hji23] at H ⊢; exact H)
        by_cases c24 : 0 ≤ (ji23)
        ·rw [if_pos c24] at H; have c24b0 : decide (0 ≤ (ji23)) = true := decide_eq_true c24; clear c24
         by_cases c25 : (ji23) < (l0.length : Int)
         ·rw [if_pos c25] at H; have c25b0 : decide ((ji23) < (l0.length : Int)) = true := decide_eq_true c25; clear c25
          by_cases c26 : a2 = 0
          ·rw [if_pos c26] at H; exact absurd H (by simp)
          ·rw [if_neg c26] at H; have c26b0 : (a2 == 0) = false := beq_eq_false_iff_ne.mpr c26; have c26b1 : (a2 != 0) = true := bne_iff_ne.mpr c26; simp only [Option.some.injEq, Prod.mk.injEq] at H; obtain ⟨rfl, rfl⟩ := H; have p710004 : 0 ≤ ((ji20) : Int) := of_decide_eq_true (by first | (with_reducible assumption) | assumption); have q710004 : (ji20) < (l0.length : Int) := of_decide_eq_true (by first | (with_reducible assumption) | assumption); obtain ⟨ad710004, e710004, hx710004_0⟩ := Kd.at_int HR0.out (ji20) p710004 q710004
           cases e710004
           replace p710004 := eq_true p710004; replace q710004 := eq_true q710004; have p710005 : 0 ≤ ((ji23) : Int) := of_decide_eq_true (by first | (with_reducible assumption) | assumption); have q710005 : (ji23) < (l0.length : Int) := of_decide_eq_true (by first | (with_reducible assumption) | assumption); obtain ⟨ad710005, e710005, hx710005_0⟩ := Kd.at_int HR0.out (ji23) p710005 q710005; obtain rfl : ad710004 = ad710005 := (by injection e710005)
           replace p710005 := eq_true p710005; replace q710005 := eq_true q710005
           go_wp2
           go_ret2
           exact ⟨by first | rfl | (simp; done) | (simp only [← hji20, ← hji23] <;> (first | rfl | simp)) | (simp [*]; done), by repeat (first | exact Drawn0.refl _ | apply Drawn0.step)⟩
         ·rw [if_neg c25] at H; exact absurd H (by simp)
        ·rw [if_neg c24] at H; exact absurd H (by simp)
       ·rw [if_neg c22] at H; exact absurd H (by simp)
      ·rw [if_neg c21] at H; exact absurd H (by simp)
end Go.Proofs.YtonbmghgbblifaaDoor.Z
end
section
namespace Go.Proofs.YtonbmghgbblifaaDoor.Z
open Go.RowKit Go.Proofs.YtonbmghgbblifaaDoorW.PrintWords Go.Proofs.YtonbmghgbblifaaDoorW.PrintLast Go.Proofs.YtonbmghgbblifaaDoorW.PrintMore
attribute [local go_sem] max2_int min2_int max_two min_two max_three min_three max_four min_four
set_option linter.unusedVariables false
set_option linter.unusedSimpArgs false
def spec_l2DrawHash.f (k : Nat) (l0 : List Int) (a1 : Int) (a2 : Int) : Option (ByteArray × Int) := (spec_l1Take.f k l0 a1 64).bind fun bt740001 => (if bt740001.1 < 20 then (some ((⟨#[]⟩ : ByteArray), bt740001.2)) else ((spec_l2Byte.f bt740001.1).bind fun t740003 => ((spec_Digest.f k t740003 a2).bind fun t740004 => (some (t740004, bt740001.2)))))
set_option maxHeartbeats 8000000 in
set_option maxRecDepth 100000 in
theorem spec_l2DrawHash.calls (k : Nat) (A0 : Option Addr) (c0 : Nat) (l0 : List Int) (a1 : Int) (a2 : Int) (r1 : ByteArray) (r2 : Int) (w : World) (hr0 : Kd.C (Kd.int .u8) w A0 l0.length l0) (hc0 : l0.length ≤ c0) (h : spec_l2DrawHash.f k l0 a1 a2 = some (r1, r2)) :
  Calls Tryd.prog 74 #[.slice A0 l0.length c0, .int .i64 a1, .int .i64 a2] w fun e w' => e = .returned (.tuple #[.string r1, .int .i64 r2]) ∧ Below w.heap.size w w' := by
 have HR0 := Aside0.mk hr0; have HC0 := Aside0.mk hc0; clear hr0 hc0; have HB := Aside0.mk (Below.refl w.heap.size w); have H : ((spec_l1Take.f k l0 a1 64).bind fun bt740001 => (if bt740001.1 < 20 then (some ((⟨#[]⟩ : ByteArray), bt740001.2)) else ((spec_l2Byte.f bt740001.1).bind fun t740003 => ((spec_Digest.f k t740003 a2).bind fun t740004 => (some (t740004, bt740001.2)))))) = some (r1, r2) := h; clear h; replace H := Option.bind_eq_some_iff.mp H; obtain ⟨⟨t740001, t740002⟩, A40, H⟩ := H; replace H : (if t740001 < 20 then (some ((⟨#[]⟩ : ByteArray), t740002)) else ((spec_l2Byte.f t740001).bind fun t740003 => ((spec_Digest.f k t740003 a2).bind fun t740004 => (some (t740004, t740002))))) = some (r1, r2) := H; have A4 := Aside0.mk A40; clear A40
 by_cases c5 : t740001 < 20
 ·rw [if_pos c5] at H; have c5b0 : decide (t740001 < 20) = true := decide_eq_true c5; clear c5; simp only [Option.some.injEq, Prod.mk.injEq] at H; obtain ⟨rfl, rfl⟩ := H
  go_enter Tryd.func74, Tryd.ntmps74
  go_wp2_with (first | ((with_reducible refine gate_callee (f := 71) rfl ?_); refine goesL_ (some 12) rfl rfl Tryd.func71 (by kernel_rfl) rfl #[.slice A0 l0.length c0, .int .i64 a1, .int .i64 64] rfl (by (try simp only [List.map_toArray, List.map_cons, List.map_nil]); first | done | rfl | (simp only [List.length_drop, List.length_take]; rfl)) ?_; (with_reducible refine (spec_l1Take.calls k _ _ l0 a1 64 t740001 t740002 _ ?side1 ?side2 A4.out).mono ?_); (case side1 => repeat (first | exact HR0.out | (with_reducible refine Kd.C_alloc ?_ _) | (with_reducible refine Kd.C_drewN ?_ _) | (with_reducible refine Kd.C_drew ?_))); (case side2 => exact HC0.out); rintro e w' ⟨rfl, ⟨nd, rfl⟩⟩; refine ⟨_, rfl, ?_⟩))
  go_ret2
  exact ⟨by first | rfl | (simp [errW_none, errW_some] <;> rfl) | (simp [*, errW_none, errW_some] <;> rfl), by repeat (first | (with_reducible first | exact HB.out | apply below_alloc | apply pw_below_drewN | apply below_drew1) | exact HB.out)⟩
 ·rw [if_neg c5] at H; have c5b0 : decide (t740001 < 20) = false := decide_eq_false c5; clear c5; replace H := Option.bind_eq_some_iff.mp H; obtain ⟨t740003, A60, H⟩ := H; replace H : ((spec_Digest.f k t740003 a2).bind fun t740004 => (some (t740004, t740002))) = some (r1, r2) := H; have A6 := Aside0.mk A60; clear A60; replace H := Option.bind_eq_some_iff.mp H; obtain ⟨t740004, A70, H⟩ := H; replace H : (some (t740004, t740002)) = some (r1, r2) := H; have A7 := Aside0.mk A70; clear A70; simp only [Option.some.injEq, Prod.mk.injEq] at H; obtain ⟨rfl, rfl⟩ := H
  go_enter Tryd.func74, Tryd.ntmps74
  go_wp2_with (first | ((with_reducible refine gate_callee (f := 71) rfl ?_); refine goesL_ (some 12) rfl rfl Tryd.func71 (by kernel_rfl) rfl #[.slice A0 l0.length c0, .int .i64 a1, .int .i64 64] rfl (by (try simp only [List.map_toArray, List.map_cons, List.map_nil]); first | done | rfl | (simp only [List.length_drop, List.length_take]; rfl)) ?_; (with_reducible refine (spec_l1Take.calls k _ _ l0 a1 64 t740001 t740002 _ ?side1 ?side2 A4.out).mono ?_); (case side1 => repeat (first | exact HR0.out | (with_reducible refine Kd.C_alloc ?_ _) | (with_reducible refine Kd.C_drewN ?_ _) | (with_reducible refine Kd.C_drew ?_))); (case side2 => exact HC0.out); rintro e w' ⟨rfl, ⟨nd, rfl⟩⟩; refine ⟨_, rfl, ?_⟩) | ((with_reducible refine gate_callee (f := 82) rfl ?_); refine goesL_ (some 19) rfl rfl Tryd.func82 (by kernel_rfl) rfl #[.int .i64 t740001] rfl (by (try simp only [List.map_toArray, List.map_cons, List.map_nil]); first | done | rfl | (simp only [List.length_drop, List.length_take]; rfl)) ?_; (with_reducible refine (spec_l2Byte.calls t740001 t740003 _ A6.out).mono ?_); rintro e w8 ⟨rfl, hb⟩; refine ⟨_, rfl, ?_⟩; have n0_ := Aside0.mk (below_step (by repeat (first | (with_reducible first | exact HB.out | apply below_alloc | apply pw_below_drewN | apply below_drew1) | exact HB.out)) hb); clear HB; have HB := n0_; clear n0_; (try clear hb); (try clear hb2); (try clear hk); (try clear hi)) | ((with_reducible refine gate_callee (f := 31) rfl ?_); refine goesL_ (some 21) rfl rfl Tryd.func31 (by kernel_rfl) rfl #[.string t740003, .int .i64 a2] rfl (by (try simp only [List.map_toArray, List.map_cons, List.map_nil]); first | done | rfl | (simp only [List.length_drop, List.length_take]; rfl)) ?_; (with_reducible refine (spec_Digest.calls k t740003 a2 t740004 _ A7.out).mono ?_); rintro e w9 ⟨rfl, hb⟩; refine ⟨_, rfl, ?_⟩; have n0_ := Aside0.mk (below_step (by repeat (first | (with_reducible first | exact HB.out | apply below_alloc | apply pw_below_drewN | apply below_drew1) | exact HB.out)) hb); clear HB; have HB := n0_; clear n0_; (try clear hb); (try clear hb2); (try clear hk); (try clear hi)))
  go_ret2
  exact ⟨by first | rfl | (simp [errW_none, errW_some] <;> rfl) | (simp [*, errW_none, errW_some] <;> rfl), by repeat (first | (with_reducible first | exact HB.out | apply below_alloc | apply pw_below_drewN | apply below_drew1) | exact HB.out)⟩
end Go.Proofs.YtonbmghgbblifaaDoor.Z
end
