/- Own texts, joined. -/
import Derived.Test.YtaepebkeijmjgaaRows
import Derived.WalkKit
import Derived.WalkSpells
import Derived.WalkLawsBesides
import Derived.Deep.Light
import Derived.Lib.Hide
import Derived.Handy
import Derived.Deep.QuietTactic
import Derived.BigQuiet
import Derived.Deep.AppendSrc
import Derived.Deep.Upon
import Derived.Lib.ConvBytes
import Derived.Laws.MakeOwn
import Derived.Deep.Draws
import Derived.ArgAppend
import Derived.Below
import Derived.Deep.AppendLies
import Derived.Deep.CutBlock
import Derived.Deep.DeepCutAuto
import Derived.Deep.LoopGhost
import Derived.Deep.OwnRows
import Derived.Deep.RegionHeld3
import Derived.KernelRfl
import Derived.Laws.BitsLemmas
import Derived.Laws.BytesArg
import Derived.Laws.IdiomCopy
import Derived.Laws.OwnMore
import Derived.Laws.Rows
import Derived.Laws.Slices
import Derived.Lib.AppendStr
import Derived.Maps.AppendAt
import Derived.OrdersHeld
import Derived.OwnWalk
import Derived.RowKit
import Derived.RowKit3
import Derived.Tactics
import Derived.Test.YtaepebkeijmjgaaProg
import Derived.Test.YtaepebkeijmjgaaYFnCrash2
import Derived.Test.YtaepebkeijmjgaaYFnCrash3
import Derived.Test.YtaepebkeijmjgaaYFnCrash10
import Derived.Test.YtaepebkeijmjgaaYFnCrash11
import Derived.Test.YtaepebkeijmjgaaYFnCrash4
import Derived.Test.YtaepebkeijmjgaaYFnCrash9
import Derived.Test.YtaepebkeijmjgaaYFnCrash13
import Derived.Test.YtaepebkeijmjgaaYFnCrash14
import Derived.Test.YtaepebkeijmjgaaYFnCrash15
import Derived.Test.YtaepebkeijmjgaaYFnCrash16
import Derived.Test.YtaepebkeijmjgaaYFnCrash5
import Derived.Test.YtaepebkeijmjgaaYFnCrash1
import Derived.Test.YtaepebkeijmjgaaYFnCrash19
import Derived.Test.YtaepebkeijmjgaaYFnCrash8
import Derived.Test.YtaepebkeijmjgaaYFnCrash18
import Derived.Test.YtaepebkeijmjgaaYFnCrash17
import Derived.Test.YtaepebkeijmjgaaYFnCrash20
import Derived.Test.YtaepebkeijmjgaaYFnCrash6
import Derived.Test.YtaepebkeijmjgaaYFnCrash12
import Derived.Test.YtaepebkeijmjgaaYFnCrash0
import Derived.Test.YtaepebkeijmjgaaYFnCrash7
import Derived.WideLaws
import Derived.Lib.Builder
import Derived.Lib.UnsafeStr
import Derived.Lib.Walk
import Derived.Laws.Externs
import Derived.StillTailTactics
section
namespace Go.Proofs.Ytaepebkeijmjgaa
open Go.RowKit
set_option linter.unusedVariables false
set_option linter.unusedSimpArgs false
theorem ret_bool {a b : Bool} (h : a = b) : Ending.returned (.bool a) = .returned (.bool b) := by rw [h]
theorem ret_str {a b : ByteArray} (h : a = b) : Ending.returned (.string a) = .returned (.string b) := by rw [h]
theorem bcell {W w1 : World} (hb : Below W.heap.size W w1) : (∀ b o, b < W.heap.size → w1.cell? ⟨b, o, none⟩ = W.cell? ⟨b, o, none⟩) ∧ (∀ b o, b < W.heap.size → w1.frozen? ⟨b, o, none⟩ = W.frozen? ⟨b, o, none⟩) :=
 ⟨fun b o h => hb.cell (p := ⟨b, o, none⟩) h, fun b o h => hb.frozen (p := ⟨b, o, none⟩) h⟩
theorem bcell2 {B : Nat} {W w1 : World} (hb : Below B W w1) : (∀ b o, b < B → w1.cell? ⟨b, o, none⟩ = W.cell? ⟨b, o, none⟩) ∧ (∀ b o, b < B → w1.frozen? ⟨b, o, none⟩ = W.frozen? ⟨b, o, none⟩) :=
 ⟨fun b o h => hb.cell (p := ⟨b, o, none⟩) h, fun b o h => hb.frozen (p := ⟨b, o, none⟩) h⟩
theorem below_new2 {a w : World} (h : Below a.heap.size a w) (o : Obj) : Below a.heap.size a (w.alloc o) := h.alloc h.size o
theorem bdrewN {B : Nat} {a w : World} (h : Below B a w) (n : Nat) : Below B a (w.drewN n) := ⟨h.os, h.tape, h.output, h.size, h.block⟩
theorem lt1 (n : Nat) : n < n + 1 + 1 := by omega
theorem lt2 (n : Nat) : n < n + 1 + 1 + 1 := by omega
theorem lt3 (n : Nat) : n + 1 < n + 1 + 1 + 1 := by omega
attribute [go_sem] lt1 lt2 lt3
theorem cellB {u w1 : World} {p : Addr} {v : Value} (hb : Below u.heap.size u w1) (h : u.cell? p = some v) : w1.cell? p = some v := (hb.cell (World.block_lt_of_cell? _ _ h)).trans h
theorem held4B {u w1 : World} {p q r t : Addr} {a b c d : Value} (hb : Below u.heap.size u w1) (h : u.cell? p = some a ∧ u.cell? q = some b ∧ u.cell? r = some c ∧ u.cell? t = some d) : w1.cell? p = some a ∧ w1.cell? q = some b ∧ w1.cell? r = some c ∧ w1.cell? t = some d := ⟨cellB hb h.1, cellB hb h.2.1, cellB hb h.2.2.1, cellB hb h.2.2.2⟩
theorem below_then {a w w' : World} (h : Below a.heap.size a w) (k : Below w.heap.size w w') : Below a.heap.size a w' := h.trans (k.mono h.size)
end Go.Proofs.Ytaepebkeijmjgaa
end
section
namespace Go.Proofs.Ytaepebkeijmjgaa
open Go.RowKit
set_option linter.unusedVariables false
set_option linter.unusedSimpArgs false
def hasPre (s p : ByteArray) : Bool := decide (p.size ≤ s.size) && ((s.extract 0 p.size).toList == p.toList)
def diskOk (s n : ByteArray) (c : Int) : Bool := decide (0 ≤ c) && decide (c ≤ 1048576) && decide ((n.size : Int) ≤ c) && hasPre n s
set_option maxHeartbeats 400000 in
theorem diskValid_any (s n : ByteArray) (c : Int) (w : World) :
  Calls Try.prog 13 #[.agg #[.string s, .string n, .int .i64 c]] w fun e w' => e = .returned (.bool (diskOk s n c)) ∧ Below w.heap.size w w' := by
 go_enter Try.func13, Try.ntmps13
 go_wp2
 all_goals
  go_ret
  refine ⟨ret_bool ?_, by (repeat' (first | exact Below.refl _ _ | (with_reducible assumption) | (with_reducible refine Below.setCell ?_ (by first | (simp; done) | (simp; omega)) _) | refine below_then ?_ (by assumption) | (with_reducible refine below_new2 ?_ _) | (with_reducible refine Below.drew ?_) | (with_reducible refine bdrewN ?_ _)))⟩
  go_light
  unfold diskOk hasPre
  grind
def vDsk (d : ByteArray × ByteArray × Int) : Value := .agg #[.string d.1, .string d.2.1, .int .i64 d.2.2]
def vDskCode (r : (ByteArray × ByteArray × Int) × Int) : Value := .tuple #[vDsk r.1, .int .i64 r.2]
attribute [go_sem] vDsk vDskCode
def noDsk : ByteArray × ByteArray × Int := (⟨#[]⟩, ⟨#[]⟩, 0)
end Go.Proofs.Ytaepebkeijmjgaa
end
section
namespace Go.Proofs.Ytaepebkeijmjgaa
set_option linter.unusedVariables false
set_option linter.unusedSimpArgs false
def crKept (f : Nat) (pk : List Int) (i : Nat) : Bool :=
 decide (i / 64 - f / 64 < pk.length) && decide (((i - max (i / 64 * 64) f : Nat) : Int) < pk.getD (i / 64 - f / 64) 0)
def crOut (n : List UInt8) (f : Nat) (pk : List Int) : Nat → List UInt8
 | 0 => n.take f
 | k + 1 => crOut n f pk k ++ [if crKept f pk (f + k) then n.getD (f + k) 0 else 0]
def crEnd (f : Nat) (pk : List Int) : Nat → Nat
 | 0 => f
 | k + 1 => if crKept f pk (f + k) then f + k + 1 else crEnd f pk k
theorem crOut_length (n : List UInt8) (f : Nat) (pk : List Int) (hf : f ≤ n.length) : ∀ k, (crOut n f pk k).length = f + k
 | 0 => by simp [crOut]; omega
 | k + 1 => by simp [crOut, crOut_length n f pk hf k]; omega
theorem crEnd_le (f : Nat) (pk : List Int) : ∀ k, crEnd f pk k ≤ f + k
 | 0 => by simp [crEnd]
 | k + 1 => by
  have := crEnd_le f pk k; unfold crEnd; split <;> omega
theorem crEnd_ge (f : Nat) (pk : List Int) : ∀ k, f ≤ crEnd f pk k
 | 0 => by simp [crEnd]
 | k + 1 => by
  have := crEnd_ge f pk k; unfold crEnd; split <;> omega
theorem crOut_zeros (n : List UInt8) (f : Nat) (pk : List Int) (hf : f ≤ n.length) : ∀ k, crOut n f pk k = (crOut n f pk k).take (crEnd f pk k) ++ List.replicate (f + k - crEnd f pk k) 0
 | 0 => by
  have := crOut_length n f pk hf 0; simp only [crEnd]; rw [List.take_of_length_le (by omega)]; simp
 | k + 1 => by
  have hl := crOut_length n f pk hf k; have he := crEnd_le f pk k
  by_cases h : crKept f pk (f + k)
  ·simp only [crEnd, crOut, h, if_true]; rw [List.take_of_length_le (by simp [hl])]; simp; omega
  ·have h' : crKept f pk (f + k) = false := by simpa using h
   simp only [crEnd, crOut, h', Bool.false_eq_true, if_false]; rw [List.take_append_of_le_length (by omega)]; rw [show f + (k + 1) - crEnd f pk k = (f + k - crEnd f pk k) + 1 by omega, List.replicate_succ', ← List.append_assoc, ← crOut_zeros n f pk hf k]
def crash (n : List UInt8) (f : Nat) (pk : List Int) : List UInt8 := (crOut n f pk (n.length - f)).take (crEnd f pk (n.length - f))
theorem cr_yes (n : List UInt8) (f : Nat) (pk : List Int) (hf : f ≤ n.length) (a : Nat) : ∀ m, f + a + m ≤ n.length → (∀ i, i < m → crKept f pk (f + a + i) = true) →
  crOut n f pk (a + m) = crOut n f pk a ++ (n.drop (f + a)).take m ∧ (0 < m → crEnd f pk (a + m) = f + a + m)
 | 0, _, _ => by simp
 | m + 1, hm, h => by
  obtain ⟨ih, _⟩ := cr_yes n f pk hf a m (by omega) (fun i hi => h i (by omega)); have hk : crKept f pk (f + (a + m)) = true := by rw [← Nat.add_assoc]; exact h m (by omega)
  constructor
  ·show crOut n f pk (a + m) ++ [if crKept f pk (f + (a + m)) then n.getD (f + (a + m)) 0 else 0] = _; rw [hk, ih, List.append_assoc]
   congr 1
   have hl : m < (n.drop (f + a)).length := by rw [List.length_drop]; omega
   rw [List.take_succ_eq_append_getElem hl]
   congr 1
   rw [List.getElem_drop, if_pos rfl, List.getD_eq_getElem?_getD, List.getElem?_eq_getElem (by omega)]; simp [Nat.add_assoc]
  ·intro _; show (if crKept f pk (f + (a + m)) then f + (a + m) + 1 else _) = _; rw [hk]; simp; omega
theorem cr_no (n : List UInt8) (f : Nat) (pk : List Int) (hf : f ≤ n.length) (a : Nat) : ∀ m, (∀ i, i < m → crKept f pk (f + a + i) = false) →
  crEnd f pk (a + m) = crEnd f pk a ∧ (crOut n f pk (a + m)).take (crEnd f pk (a + m)) = (crOut n f pk a).take (crEnd f pk a)
 | 0, _ => by simp
 | m + 1, h => by
  obtain ⟨ih1, ih2⟩ := cr_no n f pk hf a m (fun i hi => h i (by omega)); have hk : crKept f pk (f + (a + m)) = false := by rw [← Nat.add_assoc]; exact h m (by omega)
  have he : crEnd f pk (a + m + 1) = crEnd f pk (a + m) := by
   show (if crKept f pk (f + (a + m)) then f + (a + m) + 1 else _) = _; rw [hk]; rfl
  have hle := crEnd_le f pk (a + m); refine ⟨by rw [← Nat.add_assoc, he, ih1], ?_⟩; rw [← Nat.add_assoc, he, ← ih2]; show ((crOut n f pk (a + m)) ++ [_]).take _ = _; rw [List.take_append_of_le_length (by rw [crOut_length n f pk hf]; omega)]
def crStop (n : Nat) (a : Nat) : Nat := min ((a / 64 + 1) * 64) n
def crMany (n : Nat) (pk : List Int) (a j : Nat) : Nat := min (max (pk.getD j 0) 0).toNat (crStop n a - a)
def crAt (f n j : Nat) : Nat := if j = 0 then f else min ((f / 64 + j) * 64) n
theorem crAt_succ (f n j : Nat) (hf : f ≤ n) (h : crAt f n j < n) : crStop n (crAt f n j) = crAt f n (j + 1) := by
 unfold crAt crStop at *
 by_cases hj : j = 0
 ·subst hj; simp
 ·simp only [hj, if_false] at h ⊢; have : min ((f / 64 + j) * 64) n = (f / 64 + j) * 64 := by omega
  rw [this]; simp; rw [Nat.add_assoc]
theorem crAt_ge (f n j : Nat) (hf : f ≤ n) : f ≤ crAt f n j := by
 unfold crAt; split <;> omega
theorem crAt_le (f n j : Nat) (hf : f ≤ n) : crAt f n j ≤ n := by
 unfold crAt; split <;> omega
theorem kept_in (f n : Nat) (pk : List Int) (j : Nat) (hf : f ≤ n) (hj : j < pk.length) (h : crAt f n j < n) (i : Nat) (h1 : crAt f n j ≤ i) (h2 : i < crAt f n (j + 1)) :
  crKept f pk i = decide (i - crAt f n j < crMany n pk (crAt f n j) j) := by
 have hs := crAt_succ f n j hf h; have hdiv : i / 64 = f / 64 + j := by
  rw [← hs] at h2; unfold crStop at h2; unfold crAt at h h1 h2
  by_cases hj0 : j = 0
  ·subst hj0; simp at h h1 h2; omega
  ·simp only [hj0, if_false] at h h1 h2; have e : min ((f / 64 + j) * 64) n = (f / 64 + j) * 64 := by omega
   rw [e] at h1 h2; omega
 have hbeg : max (i / 64 * 64) f = crAt f n j := by
  rw [hdiv]; unfold crAt at h h1 ⊢
  by_cases hj0 : j = 0
  ·subst hj0; simp at h h1 ⊢; omega
  ·simp only [hj0, if_false] at h h1 ⊢; omega
 unfold crKept; rw [hbeg, hdiv, show f / 64 + j - f / 64 = j by omega]; have hm : i - crAt f n j < crMany n pk (crAt f n j) j ↔ ((i - crAt f n j : Nat) : Int) < pk.getD j 0 := by
  unfold crMany; rw [hs]; omega
 simp only [hj, decide_true, Bool.true_and]; rw [Bool.eq_iff_iff]; simp only [decide_eq_true_eq]; exact hm.symm
theorem kept_out (f n : Nat) (pk : List Int) (j : Nat) (hf : f ≤ n) (hj : pk.length ≤ j) (i : Nat) (h1 : crAt f n j ≤ i) (h2 : i < n) : crKept f pk i = false := by
 unfold crKept; have : pk.length ≤ i / 64 - f / 64 := by
  unfold crAt at h1
  by_cases hj0 : j = 0
  ·omega
  ·simp only [hj0, if_false] at h1; have : (f / 64 + j) * 64 ≤ i := by omega
   omega
 simp; omega
def crGot (n : List UInt8) (f : Nat) (pk : List Int) (j : Nat) : List UInt8 := (crOut n f pk (crAt f n.length j - f)).take (crEnd f pk (crAt f n.length j - f))
theorem crGot_zero (n : List UInt8) (f : Nat) (pk : List Int) (hf : f ≤ n.length) : crGot n f pk 0 = n.take f := by
 simp only [crGot, crAt, if_true, Nat.sub_self, crOut, crEnd]; rw [List.take_take]; simp
theorem crGot_le (n : List UInt8) (f : Nat) (pk : List Int) (hf : f ≤ n.length) (j : Nat) : (crGot n f pk j).length ≤ crAt f n.length j := by
 have h1 := crEnd_le f pk (crAt f n.length j - f); have h2 := crAt_ge f n.length j hf; unfold crGot; rw [List.length_take]; omega
theorem crGot_some (n : List UInt8) (f : Nat) (pk : List Int) (hf : f ≤ n.length) (j : Nat) (hj : j < pk.length) (h : crAt f n.length j < n.length) (hm : 0 < crMany n.length pk (crAt f n.length j) j) :
  crGot n f pk (j + 1) = crGot n f pk j ++ List.replicate (crAt f n.length j - (crGot n f pk j).length) 0 ++ (n.drop (crAt f n.length j)).take (crMany n.length pk (crAt f n.length j) j) := by
 have hs := crAt_succ f n.length j hf h; have h1 := crAt_ge f n.length j hf; have h2 := crAt_le f n.length (j + 1) hf; have hin := fun i a b => kept_in f n.length pk j hf hj h i a b
 have hmle : crAt f n.length j + crMany n.length pk (crAt f n.length j) j ≤ crAt f n.length (j + 1) := by unfold crMany; rw [hs]; rw [← hs]; unfold crStop at *; omega
 generalize hM : crMany n.length pk (crAt f n.length j) j = m at *; obtain ⟨a, ha⟩ : ∃ a, crAt f n.length j = f + a := ⟨_, (Nat.add_sub_cancel' h1).symm⟩
 obtain ⟨c, hc⟩ : ∃ c, crAt f n.length (j + 1) = f + a + m + c := ⟨crAt f n.length (j + 1) - (f + a + m), by omega⟩
 have y := cr_yes n f pk hf a m (by omega) (fun i hi => by rw [hin _ (by omega) (by omega)]; simp; omega); have z := cr_no n f pk hf (a + m) c (fun i hi => by rw [hin _ (by omega) (by omega)]; simp; omega); have hL := crOut_length n f pk hf (a + m); have hE := crEnd_le f pk a; have hG : (crGot n f pk j).length = crEnd f pk a := by
  unfold crGot; rw [ha, show f + a - f = a by omega, List.length_take, crOut_length n f pk hf]; omega
 have e1 : crGot n f pk (j + 1) = crOut n f pk (a + m) := by
  unfold crGot; rw [hc, show f + a + m + c - f = a + m + c by omega, z.2, y.2 hm, List.take_of_length_le (by omega)]
 rw [e1, y.1, hG, ha]
 congr 1
 have zz := crOut_zeros n f pk hf a; rw [zz]
 congr 1
 unfold crGot; rw [ha, show f + a - f = a by omega]
theorem crGot_none (n : List UInt8) (f : Nat) (pk : List Int) (hf : f ≤ n.length) (j : Nat) (hj : j < pk.length) (h : crAt f n.length j < n.length) (hm : crMany n.length pk (crAt f n.length j) j = 0) :
  crGot n f pk (j + 1) = crGot n f pk j := by
 have hs := crAt_succ f n.length j hf h; have h1 := crAt_ge f n.length j hf; have hin := fun i a b => kept_in f n.length pk j hf hj h i a b
 have hle : crAt f n.length j ≤ crAt f n.length (j + 1) := by rw [← hs]; unfold crStop; omega
 obtain ⟨a, ha⟩ : ∃ a, crAt f n.length j = f + a := ⟨_, (Nat.add_sub_cancel' h1).symm⟩
 obtain ⟨c, hc⟩ : ∃ c, crAt f n.length (j + 1) = f + a + c := ⟨crAt f n.length (j + 1) - (f + a), by omega⟩
 have z := cr_no n f pk hf a c (fun i hi => by rw [hin _ (by omega) (by omega), hm]; simp); unfold crGot; rw [hc, ha, show f + a + c - f = a + c by omega, show f + a - f = a by omega, z.2]
theorem crGot_all (n : List UInt8) (f : Nat) (pk : List Int) (hf : f ≤ n.length) (j : Nat) (h : ¬ (crAt f n.length j < n.length ∧ j < pk.length)) : crGot n f pk j = crash n f pk := by
 have h1 := crAt_ge f n.length j hf; have h2 := crAt_le f n.length j hf
 by_cases hn : crAt f n.length j < n.length
 ·have hj : pk.length ≤ j := by omega
  obtain ⟨a, ha⟩ : ∃ a, crAt f n.length j = f + a := ⟨_, (Nat.add_sub_cancel' h1).symm⟩
  obtain ⟨c, hc⟩ : ∃ c, n.length = f + a + c := ⟨n.length - (f + a), by omega⟩
  have z := cr_no n f pk hf a c (fun i hi => kept_out f n.length pk j hf hj _ (by omega) (by omega)); unfold crGot crash; rw [ha, hc, show f + a + c - f = a + c by omega, show f + a - f = a by omega, z.2]
 ·have : crAt f n.length j = n.length := by omega
  unfold crGot crash; rw [this]
end Go.Proofs.Ytaepebkeijmjgaa
end
section
namespace Go.Proofs.Ytaepebkeijmjgaa
open Go.RowKit
set_option linter.unusedVariables false
set_option linter.unusedSimpArgs false
theorem diskOk_pre {s n : ByteArray} {c : Int} (h : diskOk s n c = true) : s.size ≤ n.size ∧ n.data.toList.take s.size = s.data.toList := by
 unfold diskOk hasPre at h; simp only [Bool.and_eq_true, decide_eq_true_eq, beq_iff_eq] at h; obtain ⟨_, h1, h2⟩ := h; refine ⟨h1, ?_⟩; rw [ByteArray.toList_eq, ByteArray.toList_eq] at h2; rw [← h2]; simp
def pCrash (s n : ByteArray) (c : Int) (pk : List Int) : ByteArray × ByteArray × Int :=
 if diskOk s n c = true then (⟨(crash n.data.toList s.size pk).toArray⟩, ⟨(crash n.data.toList s.size pk).toArray⟩, c) else noDsk
theorem infoU8 : (Try.prog.info? 5).map (fun i => (i.zero, i.size, i.bytes)) = some (some (.int .u8 0), 1, 1) := by kernel_rfl
end Go.Proofs.Ytaepebkeijmjgaa
end
section
namespace Go.Proofs.Ytaepebkeijmjgaa
open Go.RowKit
set_option linter.unusedVariables false
set_option linter.unusedSimpArgs false
def Own (w : World) (base size : Nat) (v : Value) (n : Nat) (xs : List Value) : Prop :=
 xs.length = n * size ∧ ((v = .slice none 0 0 ∧ n = 0) ∨ ∃ g cap, v = .slice (some ⟨g, 0, none⟩) n cap ∧ base ≤ g ∧ g < w.heap.size ∧ n ≤ cap ∧ cap ≤ maxLen ∧ (∀ j, j < n * size → w.cell? ⟨g, j, none⟩ = xs[j]?) ∧ ∀ j, j < cap * size → (w.cell? ⟨g, j, none⟩).isSome = true ∧ w.frozen? ⟨g, j, none⟩ = false)
theorem Own.nil (w : World) (base size : Nat) : Own w base size (.slice none 0 0) 0 [] := ⟨by simp, .inl ⟨rfl, rfl⟩⟩
section
variable {w w1 : World} {base size : Nat} {v : Value} {n : Nat} {xs : List Value}
theorem Own.len (h : Own w base size v n xs) : xs.length = n * size := h.1
theorem Own.form (h : Own w base size v n xs) : ∃ A c, v = .slice A n c := by
 rcases h.2 with ⟨rfl, rfl⟩ | ⟨g, cap, rfl, _⟩
 ·exact ⟨none, 0, rfl⟩
 ·exact ⟨_, cap, rfl⟩
theorem Own.at (h : Own w base size v n xs) (hn : 0 < n) : ∃ g cap, v = .slice (some ⟨g, 0, none⟩) n cap ∧ base ≤ g ∧ g < w.heap.size ∧ n ≤ cap ∧ (∀ j, j < n * size → w.cell? ⟨g, j, none⟩ = xs[j]?) ∧ ∀ j, j < n * size → w.frozen? ⟨g, j, none⟩ = false := by
 rcases h.2 with ⟨_, rfl⟩ | ⟨g, cap, rfl, h1, h2, h3, h4, h5, h6⟩
 ·omega
 ·exact ⟨g, cap, rfl, h1, h2, h3, h5, fun j hj => (h6 j (Nat.lt_of_lt_of_le hj (Nat.mul_le_mul_right _ h3))).2⟩
theorem Own.keep (h : Own w base size v n xs) (hs : w.heap.size ≤ w1.heap.size) (hb : ∀ k, v.ownBlock = some k → w1.heap[k]? = w.heap[k]?) : Own w1 base size v n xs := by
 refine ⟨h.1, ?_⟩
 rcases h.2 with h2 | ⟨g, cap, rfl, h1, h2, h3, h4, h5, h6⟩
 ·exact .inl h2
 ·have e := hb g rfl; refine .inr ⟨g, cap, rfl, h1, by omega, h3, h4, fun j hj => ?_, fun j hj => ?_⟩
  ·rw [World.cell?_of_block (a := ⟨g, j, none⟩) e]; exact h5 j hj
  ·rw [World.cell?_of_block (a := ⟨g, j, none⟩) e, World.frozen?_of_block (a := ⟨g, j, none⟩) e]; exact h6 j hj
theorem Own.lt (h : Own w base size v n xs) (k : Nat) (hk : v.ownBlock = some k) : base ≤ k ∧ k < w.heap.size := by
 rcases h.2 with ⟨rfl, _⟩ | ⟨g, cap, rfl, h1, h2, _⟩
 ·simp [Value.ownBlock] at hk
 ·simp [Value.ownBlock] at hk; omega
theorem Own.below (h : Own w base size v n xs) (hb : Below w.heap.size w w1) : Own w1 base size v n xs :=
 h.keep hb.size fun k hk => hb.block k (h.lt k hk).2
theorem Own.alloc (h : Own w base size v n xs) (o : Obj) : Own (w.alloc o) base size v n xs :=
 h.below ((Below.refl _ _).alloc (Nat.le_refl _) o)
theorem Own.drew (h : Own w base size v n xs) : Own w.drew base size v n xs := h.below (Below.refl _ _).drew
theorem Own.drewN (h : Own w base size v n xs) (k : Nat) : Own (w.drewN k) base size v n xs := h.keep (Nat.le_refl _) fun _ _ => rfl
theorem Own.set (h : Own w base size v n xs) {p : Addr} (hp : v.ownBlock ≠ some p.block) (u : Value) : Own (w.setCell p u) base size v n xs :=
 h.keep (by simp) fun k hk => Below.heap_setCell w p u k (fun e => hp (by rw [hk, e]))
theorem Own.grown (h : Own w base size v n xs) {row : Option Nat} (hg : w.grownBy w1 row) (hne : ∀ k, v.ownBlock = some k → some k ≠ row) : Own w1 base size v n xs :=
 h.keep hg.size fun k hk => hg.block k (h.lt k hk).2 (hne k hk)
theorem Own.lower (h : Own w base size v n xs) {b : Nat} (hb : b ≤ base) : Own w b size v n xs := by
 refine ⟨h.1, ?_⟩
 rcases h.2 with h2 | ⟨g, cap, rfl, h1, h2⟩
 ·exact .inl h2
 ·exact .inr ⟨g, cap, rfl, by omega, h2⟩
theorem below_of_grown {B : Nat} {w0 : World} (h : Below B w0 w) (hv : Own w base size v n xs) (hB : B ≤ base) (hB2 : B ≤ w.heap.size) (hg : w.grownBy w1 v.ownBlock) : Below B w0 w1 :=
 h.grown hg hB2 fun k hk => Nat.le_trans hB (hv.lt k hk).1
end
theorem tape_setCells : ∀ (w : World) (g o : Nat) (vs : List Value), (w.setCells g o vs).tape = w.tape
 | _, _, _, [] => rfl
 | w, g, o, v :: r => by rw [World.setCells, tape_setCells (w.setCell ⟨g, o, none⟩ v) g (o + 1) r]; rfl
section
variable {P : Program} {w : World}
theorem run_app (base : Nat) (t tx ty e : TypeId) (i : TypeInfo) (z : Value) (size bytes : Nat) (ht : P.underlying t = some (.slice e)) (hi : P.info? e = some i) (hz : i.zero = some z)
  (hsize : i.size = size) (hby : i.bytes = bytes) (hzs : z.cells.size = size)
  {v : Value} {n : Nat} {xs : List Value} (hown : Own w base size v n xs) {x : Value} {m : Nat} {news : List Value} (hs : Src P size tx x m news w)
  (h63 : n + m ≤ maxLen) (hbytes : (n + m) * bytes ≤ 140737488355328) (hbase : base ≤ w.heap.size) :
  ∃ v' w', (Builtin.append_ #[t, tx] ty #[v, x]).run P w = .ok v' w' ∧ Own w' base size v' (n + m) (xs ++ news) ∧ w.grownBy w' v.ownBlock ∧ (v'.ownBlock = v.ownBlock ∨ ∀ k, v'.ownBlock = some k → w.heap.size ≤ k) := by
 subst hsize; subst hby; have hsmall : ((n + m : Nat) : Int) ≤ 9223372036854775807 := by simp only [maxLen] at h63; omega
 have hlen : (xs ++ news).length = (n + m) * i.size := by rw [List.length_append, hown.1, hs.newsLen, Nat.add_mul]
 have grow : ∀ (bs : Option Addr) (sc : Nat), v = .slice bs n sc → sc < n + m → (Builtin.firstCells i.size n (.slice bs n sc)).run P w.drew = .ok xs.toArray w.drew →
   ∃ v' w', (Builtin.append_ #[t, tx] ty #[v, x]).run P w = .ok v' w' ∧ Own w' base i.size v' (n + m) (xs ++ news) ∧ w.grownBy w' v.ownBlock ∧ (v'.ownBlock = v.ownBlock ∨ ∀ k, v'.ownBlock = some k → w.heap.size ≤ k) := by
  rintro bs sc rfl hlt hold; have hrun := run_append_grow_src (P := P) w t tx ty e i z ht hi hz bs n sc xs hold x m news hs hlt hsmall (growslice_fits hlt hbytes); have hge := grownCap_ge w (n + m) sc e; have hcm := grownCap_le_maxLen w (n + m) sc e h63; refine ⟨_, _, hrun, ⟨hlen, .inr ⟨w.heap.size, _, rfl, hbase, by simp, hge, hcm, fun j hj => ?_, fun j hj => ?_⟩⟩, ⟨rfl, rfl, rfl, by simp, fun k hk _ => Below.heap_alloc w.drew _ k hk⟩, .inr fun k hk => by simp [Value.ownBlock] at hk; omega⟩
  ·have e1 := World.cell?_alloc_new w.drew (((xs ++ news).toArray ++ Builtin.zeroCells z.cells (grownCap w (n + m) sc e - (n + m)))) e j; refine Eq.trans e1 ?_; rw [Array.getElem?_append_left (by simp only [List.size_toArray]; omega), List.getElem?_toArray]
  ·have e1 := World.cell?_alloc_new w.drew (((xs ++ news).toArray ++ Builtin.zeroCells z.cells (grownCap w (n + m) sc e - (n + m)))) e j; have hsz : ((xs ++ news).toArray ++ Builtin.zeroCells z.cells (grownCap w (n + m) sc e - (n + m))).size = grownCap w (n + m) sc e * i.size := by
    rw [Array.size_append, List.size_toArray, hlen, size_zeroCells, hzs, ← Nat.add_mul]
    congr 1
    omega
   refine ⟨?_, World.frozen?_alloc_new w.drew _ _ j⟩; have e2 : ∀ o, o = some ((((xs ++ news).toArray ++ Builtin.zeroCells z.cells (grownCap w (n + m) sc e - (n + m))))[j]'(by rw [hsz]; exact hj)) → o.isSome = true := fun o h => by rw [h]; rfl
   exact e2 _ (Eq.trans e1 (Array.getElem?_eq_getElem (by rw [hsz]; exact hj)))
 rcases hown.2 with ⟨rfl, rfl⟩ | ⟨g, cap, rfl, h1, h2, h3, h4, h5, h6⟩
 ·have hx : xs = [] := List.eq_nil_of_length_eq_zero (by simpa using hown.1); subst hx
  by_cases hm : m = 0
  ·subst hm; have hn : news = [] := List.eq_nil_of_length_eq_zero (by simpa using hs.newsLen); subst hn; exact ⟨_, w, run_append_nothing w t tx ty e i ht hi none 0 0 (Nat.le_refl _) x hs, Own.nil w base i.size, ⟨rfl, rfl, rfl, Nat.le_refl _, fun _ _ _ => rfl⟩, .inl rfl⟩
  ·exact grow none 0 rfl (by omega) (run_firstCells_none w.drew i.size 0 0 0)
 ·by_cases hroom : n + m ≤ cap
  ·have hfit : (n + m) * i.size ≤ cap * i.size := Nat.mul_le_mul_right _ hroom; have hnl := hs.newsLen; have hmul : (n + m) * i.size = n * i.size + m * i.size := Nat.add_mul ..; have hrun := run_append_room_src (P := P) w t tx ty e i ht hi g 0 n cap x m news hs hroom (fun j hj => by rw [Nat.zero_add]; exact (h6 _ (by omega)).1) (fun j hj => by rw [Nat.zero_add]; exact (h6 _ (by omega)).2); rw [Nat.zero_add] at hrun; have hk := World.keptBut_setCells g (may := fun p => p.block = g) news (n * i.size) w (fun _ _ => rfl); refine ⟨_, _, hrun, ⟨hlen, .inr ⟨g, cap, rfl, h1, Nat.lt_of_lt_of_le h2 hk.size, hroom, h4, fun j hj => ?_, fun j hj => ⟨?_, (World.frozen?_setCells g _ _ _ _).trans (h6 j hj).2⟩⟩⟩, ?_, .inl rfl⟩
   ·by_cases hjn : j < n * i.size
    ·rw [World.cell?_setCells_out g _ _ _ _ (fun _ _ => Or.inl hjn), List.getElem?_append_left (by rw [hown.1]; exact hjn)]; exact h5 j hjn
    ·have hin := World.cell?_setCells_in g news (n * i.size) w (fun j hj => (h6 _ (by omega)).1) (j - n * i.size) (by omega); rw [show n * i.size + (j - n * i.size) = j by omega] at hin; rw [hin, List.getElem?_append_right (by rw [hown.1]; omega), hown.1, List.getElem?_eq_getElem]
   ·by_cases hjn : n * i.size ≤ j ∧ j < n * i.size + news.length
    ·have hin := World.cell?_setCells_in g news (n * i.size) w (fun j hj => (h6 _ (by omega)).1) (j - n * i.size) (by omega); rw [show n * i.size + (j - n * i.size) = j by omega] at hin; rw [hin]; rfl
    ·rw [World.cell?_setCells_out g _ _ _ _ (fun _ _ => by show j < _ ∨ _ ≤ j; omega)]; exact (h6 j hj).1
   ·refine ⟨World.os_setCells _ _ _ _, tape_setCells _ _ _ _, World.output_setCells _ _ _ _, hk.size, fun k hk1 hk2 => World.heap_setCells_other w g _ news hk1 (fun e => hk2 (by simp [Value.ownBlock, e]))⟩
  ·refine grow _ cap rfl (by omega) ?_; refine run_firstCells_some w.drew i.size n ⟨g, 0, none⟩ n cap xs hown.1 (fun j u hu => ?_); rw [Addr.add_lit, Nat.zero_add]; exact (h5 j (by have := (List.getElem?_eq_some_iff.1 hu).1; rw [hown.1] at this; exact this)).trans hu
theorem wpList_app (base : Nat) {ops : Array Oper} {rest : List Oper} {o : Oper} {a : Act} {Q : Exit → Act → World → Prop} (hgd : o.guard = none) (s x : Operand) (t tx : TypeId)
  (ho : o.op = .call { callee := .builtin .append, args := #[s, x], argTypes := #[t, tx] }) (e : TypeId) (z : Value) (size bytes : Nat) (ht : P.underlying t = some (.slice e))
  (hinfo : (P.info? e).map (fun i => (i.zero, i.size, i.bytes)) = some (some z, size, bytes)) (hzs : z.cells.size = size)
  {v : Value} {n : Nat} {xs : List Value} (hv : a.eval s = v) (hown : Own w base size v n xs) (xv : Value) (m : Nat) (news : List Value) (hx : a.eval x = xv) (hs : Src P size tx xv m news w)
  (h63 : n + m ≤ maxLen) (hbytes : (n + m) * bytes ≤ 140737488355328) (hbase : base ≤ w.heap.size)
  (hK : ∀ v' w', Own w' base size v' (n + m) (xs ++ news) → w.grownBy w' v.ownBlock → (v'.ownBlock = v.ownBlock ∨ ∀ k, v'.ownBlock = some k → w.heap.size ≤ k) → wpList P ops Q rest (a.put o.dst v') w') : wpList P ops Q (o :: rest) a w := by
 obtain ⟨i, hi, hz, hsize, hby⟩ := info_parts hinfo; refine wpList_plain hgd fun K hK' => ?_
 obtain ⟨v', w', hr, h2, h3, h4⟩ := run_app (P := P) (w := w) base t tx o.type e i z size bytes ht hi hz hsize hby hzs hown hs h63 hbytes hbase; unfold Oper.wp execOp; simp only [ho, resolve, invoke, builtin, Sem.run_bind, Sem.run_pure, Result.andThen_ok, List.map_toArray, List.map_cons, List.map_nil, hv, hx, hr]; exact hK' _ _ (hK v' w' h2 h3 h4)
theorem src_one (w0 : World) (tx e' e : TypeId) (hk : P.underlying tx = some (.slice e')) (u : Value) (h1 : u.oneCell' = true) :
  Src P 1 tx (.slice (some ⟨w0.heap.size, 0, none⟩) 1 1) 1 [u] (w0.alloc (.cells #[u] e)) :=
 Src.ofSlice _ hk _ 1 1 [u] rfl (fun j u' hu => by
  match j, hu with
  | 0, hu => simp at hu; subst hu; simp [Addr.add]) (by simpa using h1)
theorem Own.bytes (w : World) (base : Nat) (e : TypeId) (s : ByteArray) (hb : base ≤ w.heap.size) (hs : s.size ≤ maxLen) :
  Own (Lib.bytesWorld w e s) base 1 (.slice (some ⟨w.heap.size, 0, none⟩) s.size (grownCap w s.size 0 e)) s.size (byteCells s) := by
 have hge := grownCap_ge w s.size 0 e; have hsz : (Lib.bytesCells w e s).size = grownCap w s.size 0 e := by
  have : s.data.size = s.size := rfl; simp [Lib.bytesCells, this]; omega
 refine ⟨by rw [byteCells_length]; omega, .inr ⟨w.heap.size, _, rfl, hb, by rw [Lib.bytesWorld_size]; omega, hge, grownCap_le_maxLen w s.size 0 e hs, fun j hj => ?_, fun j hj => ?_⟩⟩
 ·have hj' : j < s.size := by omega
  have hj2 : j < s.data.toList.length := by rw [Array.length_toList]; exact hj'
  rw [Lib.bytesWorld_cell w e s j hj']; simp only [byteCells, List.getElem?_map, List.getElem?_eq_getElem hj2, List.getD_eq_getElem?_getD, Option.map_some, Option.getD_some]
 ·have h1 := Lib.bytesWorld_at_new w e s
  constructor
  ·simp [World.cell?, h1, hsz]; omega
  ·simp [World.frozen?, h1, hsz]; omega
theorem bytes_grown (w : World) (e : TypeId) (s : ByteArray) {B : Nat} {w0 : World} (h : Below B w0 w) (hB : B ≤ w.heap.size) : Below B w0 (Lib.bytesWorld w e s) :=
 h.trans ⟨rfl, rfl, rfl, by rw [Lib.bytesWorld_size]; omega, fun k hk => Lib.bytesWorld_at_old w e s k (by omega)⟩
def bcs (l : List UInt8) : List Value := l.map fun b => Value.int .u8 b.toNat
theorem bcs_append (l k : List UInt8) : bcs (l ++ k) = bcs l ++ bcs k := by simp [bcs]
theorem bcs_get (l : List UInt8) (j : Nat) (h : j < l.length) : (bcs l)[j]? = some (.int .u8 l[j].toNat) := by simp [bcs, h]
theorem byteCells_bcs (s : ByteArray) : byteCells s = bcs s.data.toList := rfl
def OwnB (w : World) (base : Nat) (v : Value) (l : List UInt8) : Prop := Own w base 1 v l.length (bcs l)
theorem strOfNums_bcs (l : List UInt8) : strOfNums (l.map fun b => (b.toNat : Int)) = ⟨l.toArray⟩ := by
 unfold strOfNums
 congr 1
 apply Array.ext'
 simp only [List.toArray, List.map_map]
 induction l with
 | nil => rfl
 | cons b l ih => simp only [List.map_cons, Function.comp]; rw [show UInt8.ofNat ((b.toNat : Int)).toNat = b by simp]; simpa using ih
theorem OwnB.str {base : Nat} {v : Value} {l : List UInt8} (h : OwnB w base v l) (src dst e : TypeId) (hs : P.underlying src = some (.slice e)) (he : P.underlying e = some (.int .u8)) (hd : P.underlying dst = some .string) :
  (convert src dst v).run P w = .ok (.string ⟨l.toArray⟩) w := by
 rcases h.2 with ⟨rfl, hn⟩ | ⟨g, cap, rfl, h1, h2, h3, h4, h5, h6⟩
 ·obtain rfl : l = [] := List.eq_nil_of_length_eq_zero hn; exact run_convert_bytes_nil w src e hs he 0 0 dst hd
 ·rw [← strOfNums_bcs]; refine run_convert_bytes_arg w src e hs he g 0 l.length cap _ (by simp) (fun i hi => ?_) dst hd; rw [Nat.zero_add, h5 i (by omega), bcs_get l i hi]; simp [List.getD_eq_getElem?_getD, hi]
section
variable {ops : Array Oper} {rest : List Oper} {o : Oper} {a : Act} {Q : Exit → Act → World → Prop}
theorem gate_dst {N : Nat} (h : o.dst = some N) (k : wpList P ops Q (o :: rest) a w) : wpList P ops Q (o :: rest) a w := k
theorem wpList_convert (hgd : o.guard = none) (src dst : TypeId) (x : Operand) (ho : o.op = .convert src dst x) {v u : Value} {w1 : World} (hx : a.eval x = v) (hr : (convert src dst v).run P w = .ok u w1)
  (hK : wpList P ops Q rest (a.put o.dst u) w1) : wpList P ops Q (o :: rest) a w := by
 refine wpList_plain hgd fun K hK' => ?_
 unfold Oper.wp execOp; simp only [ho, hx, Sem.run_bind, Sem.run_pure, hr, Result.andThen_ok]; exact hK' _ _ hK
theorem wpList_bytes (base : Nat) (hgd : o.guard = none) (src dst e : TypeId) (x : Operand) (ho : o.op = .convert src dst x) {ud : TypeDesc} (hs : P.underlying src = some ud) (hd : P.underlying dst = some (.slice e)) (he : P.underlying e = some (.int .u8))
  (s : ByteArray) (hx : a.eval x = .string s) (hb : base ≤ w.heap.size) (hl : s.size ≤ maxLen)
  (hK : ∀ v w1, OwnB w1 base v s.data.toList → (∀ k, v.ownBlock = some k → w.heap.size ≤ k) → Below w.heap.size w w1 → wpList P ops Q rest (a.put o.dst v) w1) : wpList P ops Q (o :: rest) a w := by
 refine wpList_convert hgd src dst x ho hx (Lib.run_convert_string_bytes w src dst e s hs hd he) ?_; refine hK _ _ ?_ (fun k hk => by simp [Value.ownBlock] at hk; omega) (bytes_grown w e s (Below.refl _ _) (Nat.le_refl _)); have := Own.bytes w base e s hb hl; rw [byteCells_bcs] at this; unfold OwnB; rw [show s.data.toList.length = s.size from by rw [Array.length_toList]; rfl]; exact this
theorem wpList_appB1 (base : Nat) (hgd : o.guard = none) (s x : Operand) (t e : TypeId) (ho : o.op = .call { callee := .builtin .append, args := #[s, x], argTypes := #[t, t] }) (ht : P.underlying t = some (.slice e))
  (hinfo : (P.info? e).map (fun i => (i.zero, i.size, i.bytes)) = some (some (.int .u8 0), 1, 1)) {v : Value} {l : List UInt8} (hv : a.eval s = v) (b : UInt8) {w0 : World} (hx : a.eval x = .slice (some ⟨w0.heap.size, 0, none⟩) 1 1)
  (hw : w = w0.alloc (.cells #[.int .u8 b.toNat] e)) (hown : OwnB w0 base v l) (hl : l.length + 1 ≤ 140737488355328) (hbase : base ≤ w0.heap.size)
  (hK : ∀ v' w', OwnB w' base v' (l ++ [b]) → Below base w0 w' → wpList P ops Q rest (a.put o.dst v') w') : wpList P ops Q (o :: rest) a w := by
 subst hw; have h2 := hown.alloc (.cells #[.int .u8 b.toNat] e); refine wpList_app base hgd s x t t ho e (.int .u8 0) 1 1 ht hinfo rfl hv h2 _ 1 [.int .u8 b.toNat] hx (src_one w0 t e e ht _ rfl) (by unfold maxLen; omega) (by omega) (by simp; omega) ?_; intro v' w' h3 hg _; refine hK v' w' ?_ (below_of_grown ((Below.refl _ _).alloc hbase _) h2 (Nat.le_refl _) (by simp; omega) hg); unfold OwnB; rw [bcs_append, List.length_append]; exact h3
theorem wpList_appBs (base : Nat) (hgd : o.guard = none) (s x : Operand) (t tx e : TypeId) (ho : o.op = .call { callee := .builtin .append, args := #[s, x], argTypes := #[t, tx] }) (ht : P.underlying t = some (.slice e)) (htx : P.underlying tx = some .string)
  (hinfo : (P.info? e).map (fun i => (i.zero, i.size, i.bytes)) = some (some (.int .u8 0), 1, 1)) {v : Value} {l : List UInt8} (hv : a.eval s = v) (u : ByteArray) (hx : a.eval x = .string u)
  (hown : OwnB w base v l) (hl : l.length + u.size ≤ 140737488355328) (hbase : base ≤ w.heap.size)
  (hK : ∀ v' w', OwnB w' base v' (l ++ u.data.toList) → Below base w w' → wpList P ops Q rest (a.put o.dst v') w') : wpList P ops Q (o :: rest) a w := by
 refine wpList_app base hgd s x t tx ho e (.int .u8 0) 1 1 ht hinfo rfl hv hown _ u.size (byteCells u) hx (Src.ofString w htx u) (by unfold maxLen; omega) (by omega) hbase ?_; intro v' w' h3 hg _; refine hK v' w' ?_ (below_of_grown (Below.refl _ _) hown (Nat.le_refl _) hbase hg); unfold OwnB; rw [bcs_append, List.length_append, show u.data.toList.length = u.size from by rw [Array.length_toList]; rfl]; exact h3
end
end
theorem Own.cell {w : World} {base size g n cap : Nat} {xs : List Value} (h : Own w base size (.slice (some ⟨g, 0, none⟩) n cap) n xs) (k : Nat) (hk : k < n * size) :
  w.cell? ⟨g, k, none⟩ = xs[k]? ∧ (w.cell? ⟨g, k, none⟩).isSome = true ∧ w.frozen? ⟨g, k, none⟩ = false := by
 obtain ⟨h0, h⟩ := h
 rcases h with ⟨h, rfl⟩ | ⟨g', cap', hv, h1, h2, h3, h4, h5, h6⟩
 ·cases h
 ·cases hv
  have hk' := Nat.lt_of_lt_of_le hk (Nat.mul_le_mul_right size h3); exact ⟨h5 k hk, (h6 k hk').1, (h6 k hk').2⟩
def lenOf : Value → Nat | .slice _ n _ => n | _ => 0
@[simp] theorem lenOf_slice (a : Option Addr) (n c : Nat) : lenOf (.slice a n c) = n := rfl
def Rd (w : World) (size : Nat) (v : Value) (n : Nat) (xs : List Value) : Prop :=
 xs.length = n * size ∧ ∃ A c, v = .slice A n c ∧ n ≤ c ∧ (0 < n → ∃ b off, A = some ⟨b, off, none⟩ ∧ b < w.heap.size ∧ ∀ j, j < n * size → w.cell? ⟨b, off + j, none⟩ = xs[j]?)
theorem Own.rd {w : World} {base size : Nat} {v : Value} {n : Nat} {xs : List Value} (h : Own w base size v n xs) : Rd w size v n xs := by
 refine ⟨h.1, ?_⟩
 rcases h.2 with ⟨rfl, rfl⟩ | ⟨g, cap, rfl, h1, h2, h3, h4, h5, h6⟩
 ·exact ⟨none, 0, rfl, Nat.le_refl _, fun h => absurd h (Nat.lt_irrefl 0)⟩
 ·exact ⟨_, cap, rfl, h3, fun _ => ⟨g, 0, rfl, h2, fun j hj => by rw [Nat.zero_add]; exact h5 j hj⟩⟩
theorem Rd.below {w w1 : World} {size : Nat} {v : Value} {n : Nat} {xs : List Value} (h : Rd w size v n xs) {B : Nat} (hb : Below B w w1) (hB : w.heap.size ≤ B) : Rd w1 size v n xs := by
 obtain ⟨h1, A, c, hv, h2, h3⟩ := h; refine ⟨h1, A, c, hv, h2, fun hn => ?_⟩; obtain ⟨b, off, hA, hlt, hc⟩ := h3 hn; exact ⟨b, off, hA, Nat.lt_of_lt_of_le hlt hb.size, fun j hj => by rw [hb.cell (p := ⟨b, off + j, none⟩) (by show b < B; omega)]; exact hc j hj⟩
end Go.Proofs.Ytaepebkeijmjgaa
end
section
namespace Go.Proofs.Ytaepebkeijmjgaa.Z
open Go.RowKit Go.Proofs.YtaepebkeijmjgaaW.PrintWords Go.Proofs.YtaepebkeijmjgaaW.PrintLast Go.Proofs.YtaepebkeijmjgaaW.PrintMore
attribute [local go_sem] max2_int min2_int max_two min_two max_three min_three max_four min_four
set_option linter.unusedVariables false
set_option linter.unusedSimpArgs false
def errW : Option Int → Value
 | none => .nilIface
 | some c => .iface 0 (.int .i64 c)
theorem errW_none : errW none = .nilIface := rfl
theorem errW_some (c : Int) : errW (some c) = .iface 0 (.int .i64 c) := rfl
theorem info3 : (Try.prog.info? 3).map (fun i => (i.zero, i.size, i.bytes)) = some (some (.int .i64 0), 1, 8) := by kernel_rfl
theorem info5 : (Try.prog.info? 5).map (fun i => (i.zero, i.size, i.bytes)) = some (some (.int .u8 0), 1, 1) := by kernel_rfl
theorem info59 : (Try.prog.info? 59).map (fun i => (i.zero, i.size, i.bytes)) = some (some (.int .u32 0), 1, 4) := by kernel_rfl
structure S47 where
 f0 : ByteArray
 f1 : ByteArray
 f2 : ByteArray
 f3 : ByteArray
structure S24 where
 f0 : ByteArray
 f1 : ByteArray
 f2 : Int
end Go.Proofs.Ytaepebkeijmjgaa.Z
end
section
namespace Go.Proofs.Ytaepebkeijmjgaa
open Go.RowKit
set_option linter.unusedVariables false
set_option linter.unusedSimpArgs false
theorem pw_cellF {w w1 : World} (h : Below w.heap.size w w1) {a : Addr} {v : Value} (hc : w.cell? a = some v) : w1.cell? a = some v := (h.cell (World.block_lt_of_cell? w a hc)).trans hc
set_option maxHeartbeats 1000000 in
theorem implDiskCrash_row (s n : ByteArray) (c : Int) (A : Option Addr) (cc : Nat) (pk : List Int) (w : World) (hcell : 0 < pk.length → ∃ ad, A = some ad ∧ ∀ j, j < pk.length → w.cell? (ad.add j) = some (.int .i64 (pk.getD j 0))) (hcc : pk.length ≤ cc) (hp : pk.length ≤ 4294967296) (hn : n.size ≤ 4294967296) :
  Calls Try.prog 7 #[.agg #[.string s, .string n, .int .i64 c], .slice A pk.length cc] w fun e w' => e = .returned (vDsk (pCrash s n c pk)) ∧ Below w.heap.size w w' := by
 by_cases hok : diskOk s n c = true
 ·obtain ⟨hle, htake⟩ := diskOk_pre hok; have hres : pCrash s n c pk = (⟨(crash n.data.toList s.size pk).toArray⟩, ⟨(crash n.data.toList s.size pk).toArray⟩, c) := by unfold pCrash; rw [if_pos hok]
  have HRES := Lib.hid hres; clear hres; have HT := Lib.hid htake; clear htake; have HCell := Lib.hid hcell; clear hcell; obtain ⟨nl, hnl⟩ : ∃ nl, nl = n.data.toList := ⟨_, rfl⟩
  have hnlen : Hid (nl.length = n.size) := Lib.hid (by rw [hnl]; simp); have hf : Hid (s.size ≤ nl.length) := Lib.hid (by rw [hnl]; simpa using hle); rw [← hnl] at HT HRES; have HNL := Lib.hid hnl; clear hnl
  go_enter Try.func7, Try.ntmps7
  go_wp2_with (first | (go_at_call 13; refine (diskValid_any _ _ _ _).mono ?_; rintro e wa ⟨rfl, hb_wa⟩; obtain ⟨hc_wa, hf_wa⟩ := bcell hb_wa; have hz_wa := hb_wa.size; (try simp only [World.size_alloc, World.size_setCell, World.size_drew] at hz_wa); (try simp only [World.size_alloc, World.size_setCell, World.size_drew] at hc_wa); (try simp only [World.size_alloc, World.size_setCell, World.size_drew] at hf_wa); (try have q_w_0_wa : w.heap.size < wa.heap.size := by omega); (try have q_w_1_wa : w.heap.size + 1 < wa.heap.size := by omega)) | ((with_reducible refine gate_dst (N := 16) rfl ?_); refine wpList_bytes wa.heap.size rfl 9 22 5 _ rfl Try.underlying9 Try.underlying22 Try.underlying5 s rfl (by first | assumption | (simp; omega) | omega) (by unfold maxLen; omega) ?_; rintro v_wb wb ho_wb hv_wb hb_wb; obtain ⟨hc_wb, hf_wb⟩ := bcell hb_wb; have hz_wb := hb_wb.size; (try simp only [World.size_alloc, World.size_setCell, World.size_drew] at hz_wb); (try simp only [World.size_alloc, World.size_setCell, World.size_drew] at hc_wb); (try simp only [World.size_alloc, World.size_setCell, World.size_drew] at hf_wb); (try have q_w_0_wb : w.heap.size < wb.heap.size := by omega); (try have q_w_1_wb : w.heap.size + 1 < wb.heap.size := by omega)))
  go_loopw [5, 6, 7] (fun v e i wr => ∃ j : Nat, j ≤ pk.length ∧ i = .int .i64 j ∧ e = .int .i64 (crAt s.size n.size j : Nat) ∧ OwnB wr wa.heap.size v (crGot nl s.size pk j) ∧ Below wa.heap.size wa wr) (fun _ _ i _ => pk.length - (intOf i).toNat)
  case atStart => exact ⟨0, Nat.zero_le _, rfl, rfl, by rw [crGot_zero _ _ _ hf.out, HT.out]; exact ho_wb, hb_wb⟩
  case round =>
   obtain ⟨j, hj1, rfl, rfl, hO, hB⟩ := hrel; obtain ⟨A5, c5, rfl⟩ := hO.form; obtain ⟨hc_wr, hf_wr⟩ := bcell2 hB; have hz_wr := hB.size; have q1 : w.heap.size < wr.heap.size := by omega
   have q2 : w.heap.size + 1 < wr.heap.size := by omega
   have HO := Lib.hid hO; clear hO; have hge := crAt_ge s.size n.size j hle; have hle2 := crAt_le s.size n.size j hle; have HGL : Hid ((crGot nl s.size pk j).length ≤ crAt s.size n.size j) := Lib.hid (by have := crGot_le nl s.size pk hf.out j; rw [hnlen.out] at this; exact this)
   by_cases hlt : crAt s.size n.size j < n.size
   ·by_cases hjp : j < pk.length
    ·obtain ⟨ad, rfl, hcells⟩ := HCell.out (by omega); obtain ⟨x, hx⟩ : ∃ x, x = pk.getD j 0 := ⟨_, rfl⟩
     have hr1 : wr.cell? (ad.add j) = some (.int .i64 x) := by
      have h0 := hcells j hjp; rw [← hx] at h0; exact pw_cellF hB (pw_cellF hb_wa (pw_cellF (below_new2 (below_new2 (Below.refl _ _) _) _) h0))
     clear hcells; have HX := Lib.hid hx; clear hx; have hsucc := Lib.hid (crAt_succ s.size n.size j hle hlt); have hsome := fun hm => crGot_some nl s.size pk hf.out j hjp (by rw [hnlen.out]; exact hlt) hm
     have hnone := fun hm => crGot_none nl s.size pk hf.out j hjp (by rw [hnlen.out]; exact hlt) hm
     rw [hnlen.out] at hsome hnone; have HSome := Lib.hid hsome; have HNone := Lib.hid hnone; clear hsome hnone; obtain ⟨at_, hat⟩ : ∃ a, a = crAt s.size n.size j := ⟨_, rfl⟩
     obtain ⟨en, hen⟩ : ∃ a, a = crStop n.size at_ := ⟨_, rfl⟩
     obtain ⟨m, hm⟩ : ∃ a, a = crMany n.size pk at_ j := ⟨_, rfl⟩
     rw [← hat] at hlt hge hle2 HGL hsucc HSome HNone ⊢; rw [← hen] at hsucc; rw [← hm] at HSome HNone; have hS : (if (n.size : Int) < ((at_ : Int) / 64 + 1) * 64 then (n.size : Int) else ((at_ : Int) / 64 + 1) * 64) = (en : Int) := by
      rw [hen]; unfold crStop; split <;> omega
     have hS2 : min (((at_ : Int) / 64 + 1) * 64) (n.size : Int) = (en : Int) := by
      rw [hen]; unfold crStop; omega
     have h1 : at_ ≤ en := by rw [hen]; unfold crStop; omega
     have hM : (m : Int) = min (max x 0) (en - at_) := by rw [hm]; unfold crMany; rw [← HX.out, ← hen]; omega
     have hme : at_ + m ≤ en := by rw [hm, hen]; unfold crMany crStop; omega
     have hen2 : en ≤ n.size := by rw [hen]; unfold crStop; omega
     have HEN := Lib.hid hen; have HMM := Lib.hid hm; have HAT := Lib.hid hat; clear hen hm hat
     by_cases hx0 : x ≤ 0
     ·have hm0 : m = 0 := by omega
      have hn1 : ¬ (en : Int) - at_ < 0 := by omega
      have hmm : min (max x 0) ((en : Int) - at_) = 0 := by omega
      clear hM; have HM0 := Lib.hid hm0; clear hm0; have hrel2 : Hid (OwnB wr wa.heap.size (.slice A5 (crGot nl s.size pk j).length c5) (crGot nl s.size pk (j + 1))) := Lib.hid (by rw [HNone.out HM0.out]; exact HO.out); have hcase : x < 0 ∨ x = 0 := by omega
      rcases hcase with hx1 | rfl
      all_goals
       go_wp2_with fail
       refine ⟨⟨j + 1, by omega, by go_num, by rw [hsucc.out], hrel2.out, hB⟩, by simp [intOf]; omega⟩
     ·have hpos : 0 < m := by omega
      have hmm : min (max x 0) ((en : Int) - at_) = (m : Int) := by omega
      have hmm2 : min (max x 0) (m : Int) = (m : Int) := by omega
      have hmm3 : min (m : Int) ((en : Int) - at_) = (m : Int) := by omega
      have hcase : ((en : Int) - at_ < x ∧ (en : Int) - at_ = m) ∨ (¬ (en : Int) - at_ < x ∧ x = m) := by omega
      clear hM; have HG2 := Lib.hid (HSome.out hpos); have hext : Hid ((n.extract at_ (at_ + m)).data.toList = (nl.drop at_).take m) := Lib.hid (by rw [HNL.out]; simp); have hxs : (n.extract at_ (at_ + m)).size = m := by simp; omega
      have HXS := Lib.hid hxs; clear hxs; obtain ⟨gl, hgl⟩ : ∃ gl, gl = crGot nl s.size pk j := ⟨_, rfl⟩
      rw [← hgl] at HG2 HO HGL ⊢; clear hgl HNone HSome
      rcases hcase with ⟨hx1, hm1⟩ | ⟨hx1, rfl⟩
      all_goals
       go_wp2_with fail
       obtain ⟨wo, rfl⟩ : ∃ wo : World, wo = wr := ⟨_, rfl⟩
       go_loopw [5] (fun v w2 => ∃ l : List UInt8, OwnB w2 wa.heap.size v l ∧ Hid (∃ i, l = gl ++ List.replicate i 0) ∧ Hid (l.length ≤ at_) ∧ Below wa.heap.size wa w2) (fun v _ => at_ - lenOf v)
       case atStart => exact ⟨gl, HO.out, Lib.hid ⟨0, by simp⟩, HGL, hB⟩
       case round =>
        obtain ⟨l, hO2, hl2, hll, hB2⟩ := hrel; obtain ⟨A6, c6, rfl⟩ := hO2.form; obtain ⟨hc_w2, hf_w2⟩ := bcell2 hB2; have hz_w2 := hB2.size; have q3 : w.heap.size < wr.heap.size := by omega
        have q4 : w.heap.size + 1 < wr.heap.size := by omega
        have HO2 := Lib.hid hO2; clear hO2
        by_cases hl : l.length < at_
        ·go_wp2_with ((with_reducible refine gate_dst (N := 58) rfl ?_); refine wpList_appB1 (w0 := wr) wa.heap.size rfl _ _ 22 5 rfl Try.underlying22 infoU8 rfl 0 rfl rfl HO2.out (by omega) (by omega) ?_; rintro v' wd ho_wd hb_wd)
         obtain ⟨A7, c7, rfl⟩ := ho_wd.form
         go_roundw
         case rel => exact ⟨l ++ [0], ho_wd, Lib.hid (by obtain ⟨i, hi⟩ := hl2.out; exact ⟨i + 1, by rw [hi, List.replicate_succ', List.append_assoc]⟩), Lib.hid (by simp; omega), hB2.trans (hb_wd.mono (by omega))⟩
         case measure => simp; omega
        ·have hfin : Hid (l = gl ++ List.replicate (at_ - gl.length) 0) := Lib.hid (by
          obtain ⟨i, hi⟩ := hl2.out; have h3 := hll.out; have h4 := HGL.out; have h5 : l.length = gl.length + i := by rw [hi]; simp
          rw [hi]; congr 2; omega)
         go_wp2_with ((with_reducible refine gate_dst (N := 67) rfl ?_); refine wpList_appBs wa.heap.size rfl _ _ 22 9 5 rfl Try.underlying22 Try.underlying9 infoU8 rfl (n.extract at_ (at_ + m)) rfl HO2.out (by rw [HXS.out]; have := hll.out; omega) (by omega) ?_; rintro v' wd ho_wd hb_wd)
         have hfinal : OwnB wd wa.heap.size v' (crGot nl s.size pk (j + 1)) := by rw [HG2.out, ← hext.out, ← hfin.out]; exact ho_wd
         refine ⟨⟨j + 1, by omega, by go_num, by rw [hsucc.out], hfinal, hB2.trans (hb_wd.mono (by omega))⟩, by simp [intOf]; omega⟩
    ·have HC := crGot_all nl s.size pk hf.out j (by rw [hnlen.out]; omega); have hBW : Below w.heap.size w wr := (below_then (below_new2 (below_new2 (Below.refl _ _) _) _) hb_wa).trans (hB.mono (by omega)); rw [HC] at HO ⊢; clear HC HGL
     go_wp2_with (first | ((with_reducible refine gate_dst (N := 70) rfl ?_); refine wpList_convert rfl 22 9 _ rfl rfl (OwnB.str HO.out 22 9 5 Try.underlying22 Try.underlying5 Try.underlying9) ?_) | ((with_reducible refine gate_dst (N := 72) rfl ?_); refine wpList_convert rfl 22 9 _ rfl rfl (OwnB.str HO.out 22 9 5 Try.underlying22 Try.underlying5 Try.underlying9) ?_))
     refine bodyPost_ret (v := .agg #[.string ⟨(crash nl s.size pk).toArray⟩, .string ⟨(crash nl s.size pk).toArray⟩, .int .i64 c]) (by simp [results, Try.results7, go_sem, hc_wr, hc_wa, q_w_0_wa, q_w_1_wa]; try rfl) rfl ⟨?_, ?_⟩
     ·unfold vDsk; rw [HRES.out]
     ·refine Below.setCell (Below.setCell (Below.setCell hBW ?_ _) ?_ _) ?_ _ <;> simp
   ·have HC := crGot_all nl s.size pk hf.out j (by rw [hnlen.out]; omega); have hBW : Below w.heap.size w wr := (below_then (below_new2 (below_new2 (Below.refl _ _) _) _) hb_wa).trans (hB.mono (by omega)); rw [HC] at HO ⊢; clear HC HGL
    go_wp2_with (first | ((with_reducible refine gate_dst (N := 70) rfl ?_); refine wpList_convert rfl 22 9 _ rfl rfl (OwnB.str HO.out 22 9 5 Try.underlying22 Try.underlying5 Try.underlying9) ?_) | ((with_reducible refine gate_dst (N := 72) rfl ?_); refine wpList_convert rfl 22 9 _ rfl rfl (OwnB.str HO.out 22 9 5 Try.underlying22 Try.underlying5 Try.underlying9) ?_))
    refine bodyPost_ret (v := .agg #[.string ⟨(crash nl s.size pk).toArray⟩, .string ⟨(crash nl s.size pk).toArray⟩, .int .i64 c]) (by simp [results, Try.results7, go_sem, hc_wr, hc_wa, q_w_0_wa, q_w_1_wa]; try rfl) rfl ⟨?_, ?_⟩
    ·unfold vDsk; rw [HRES.out]
    ·refine Below.setCell (Below.setCell (Below.setCell hBW ?_ _) ?_ _) ?_ _ <;> simp
 ·have hres : pCrash s n c pk = noDsk := by unfold pCrash; rw [if_neg hok]
  rw [hres]; clear hcell hres
  go_enter Try.func7, Try.ntmps7
  go_wp2_with (go_at_call 13; refine (diskValid_any _ _ _ _).mono ?_; rintro e wa ⟨rfl, hb_wa⟩; obtain ⟨hc_wa, hf_wa⟩ := bcell hb_wa; have hz_wa := hb_wa.size; (try simp only [World.size_alloc, World.size_setCell, World.size_drew] at hz_wa); (try simp only [World.size_alloc, World.size_setCell, World.size_drew] at hc_wa); (try simp only [World.size_alloc, World.size_setCell, World.size_drew] at hf_wa); (try have q_w_0_wa : w.heap.size < wa.heap.size := by omega); (try have q_w_1_wa : w.heap.size + 1 < wa.heap.size := by omega))
  refine bodyPost_ret (v := .agg #[.string (⟨#[]⟩ : ByteArray), .string (⟨#[]⟩ : ByteArray), .int .i64 0]) (by simp [results, Try.results7, go_sem, hc_wa, q_w_0_wa, q_w_1_wa]; try rfl) rfl ⟨?_, ?_⟩
  ·rfl
  ·(repeat' (first | exact Below.refl _ _ | (with_reducible assumption) | (with_reducible refine Below.setCell ?_ (by first | (simp; done) | (simp; omega)) _) | refine below_then ?_ (by assumption) | (with_reducible refine below_new2 ?_ _) | (with_reducible refine Below.drew ?_) | (with_reducible refine bdrewN ?_ _)))
namespace Z
open Go.Proofs.YtaepebkeijmjgaaW.PrintWords
def impl_DiskCrash.f (a0_0 a0_1 : ByteArray) (a0_2 : Int) (l1 : List Int) : Option (ByteArray × ByteArray × Int) := if l1.length ≤ 4294967296 ∧ a0_1.size ≤ 4294967296 then some (pCrash a0_0 a0_1 a0_2 l1) else none
theorem impl_DiskCrash.calls (a0_0 a0_1 : ByteArray) (a0_2 : Int) (A1 : Option Addr) (c1 : Nat) (l1 : List Int) (r1 r2 : ByteArray) (r3 : Int) (w : World) (hr1 : Kd.C (Kd.int .i64) w A1 l1.length l1) (hc1 : l1.length ≤ c1) (h : impl_DiskCrash.f a0_0 a0_1 a0_2 l1 = some (r1, r2, r3)) :
  Calls Try.prog 7 #[.agg #[.string a0_0, .string a0_1, .int .i64 a0_2], .slice A1 l1.length c1] w fun e w' => e = .returned (.agg #[.string r1, .string r2, .int .i64 r3]) ∧ Below w.heap.size w w' := by
 unfold impl_DiskCrash.f at h
 split at h
 ·rename_i hz
  have hr := Option.some.inj h; refine (implDiskCrash_row a0_0 a0_1 a0_2 A1 c1 l1 w (fun hn => ?_) hc1 hz.1 hz.2).mono ?_
  ·obtain ⟨ad, e, hc⟩ := hr1.2.2 hn; refine ⟨ad, e, fun j hj => ?_⟩; obtain ⟨c, hl, hp, hcell⟩ := hc j _ (List.getElem?_eq_getElem hj); have hcc : c = [.int .i64 l1[j]] := hp; have := hcell 0 (.int .i64 l1[j]) (by rw [hcc]; rfl); rw [show j * (Kd.int .i64).sz + 0 = j from Nat.mul_one j] at this; rw [List.getD_eq_getElem?_getD, List.getElem?_eq_getElem hj]; exact this
  ·rintro e w' ⟨rfl, hb⟩; refine ⟨?_, hb⟩; rw [hr]; rfl
 ·cases h
end Z
end Go.Proofs.Ytaepebkeijmjgaa
end
section
namespace Go.Proofs.Ytaepebkeijmjgaa.Z
open Go.RowKit Go.Proofs.YtaepebkeijmjgaaW.PrintWords Go.Proofs.YtaepebkeijmjgaaW.PrintLast Go.Proofs.YtaepebkeijmjgaaW.PrintMore
attribute [local go_sem] max2_int min2_int max_two min_two max_three min_three max_four min_four
set_option linter.unusedVariables false
set_option linter.unusedSimpArgs false
def stringslite_HasPrefix.f (a0 : ByteArray) (a1 : ByteArray) : Option (Bool) := if (a0.size : Int) ≥ (a1.size : Int) then (if 0 ≤ (a1.size : Int) then (if (a1.size : Int) ≤ (a0.size : Int) then (some ((a0.extract 0 ((a1.size : Int) : Int).toNat).toList == a1.toList)) else (none)) else (none)) else (some false)
set_option maxHeartbeats 8000000 in
set_option maxRecDepth 100000 in
theorem stringslite_HasPrefix.calls (a0 : ByteArray) (a1 : ByteArray) (r : Bool) (w : World) (h : stringslite_HasPrefix.f a0 a1 = some r) :
  Calls Try.prog 17 #[.string a0, .string a1] w fun e w' => e = .returned (.bool r) ∧ Drawn0 w w' := by
 have H : (if (a0.size : Int) ≥ (a1.size : Int) then (if 0 ≤ (a1.size : Int) then (if (a1.size : Int) ≤ (a0.size : Int) then (some ((a0.extract 0 ((a1.size : Int) : Int).toNat).toList == a1.toList)) else (none)) else (none)) else (some false)) = some r := h; clear h
 by_cases c3 : (a0.size : Int) ≥ (a1.size : Int)
 ·rw [if_pos c3] at H; have c3b0 : decide ((a1.size : Int) ≤ (a0.size : Int)) = true := decide_eq_true c3; have c3b1 : decide (a1.size ≤ a0.size) = true := decide_eq_true (Int.ofNat_le.mp c3); clear c3
  by_cases c4 : 0 ≤ (a1.size : Int)
  ·rw [if_pos c4] at H; have c4b0 := eq_true c4; have c4b1 : decide (0 ≤ (a1.size : Int)) = true := decide_eq_true c4; clear c4
   by_cases c5 : (a1.size : Int) ≤ (a0.size : Int)
   ·rw [if_pos c5] at H; have c5b0 := eq_true c5; have c5b1 : decide ((a1.size : Int) ≤ (a0.size : Int)) = true := decide_eq_true c5; clear c5; obtain rfl := Option.some.inj H
    go_enter Try.func17, Try.ntmps17
    go_wp2
    go_ret
    exact ⟨by first | rfl | (simp; done) | (simp [*]; done), by repeat (first | exact Drawn0.refl _ | apply Drawn0.step)⟩
   ·rw [if_neg c5] at H; exact absurd H (by simp)
  ·rw [if_neg c4] at H; exact absurd H (by simp)
 ·rw [if_neg c3] at H; have c3b0 : decide ((a1.size : Int) ≤ (a0.size : Int)) = false := decide_eq_false c3; have c3b1 : decide (a1.size ≤ a0.size) = false := decide_eq_false (fun h => c3 (Int.ofNat_le.mpr h)); clear c3; obtain rfl := Option.some.inj H
  go_enter Try.func17, Try.ntmps17
  go_wp2
  go_ret
  exact ⟨by first | rfl | (simp; done) | (simp [*]; done), by repeat (first | exact Drawn0.refl _ | apply Drawn0.step)⟩
end Go.Proofs.Ytaepebkeijmjgaa.Z
end
section
namespace Go.Proofs.Ytaepebkeijmjgaa.Z
open Go.RowKit Go.Proofs.YtaepebkeijmjgaaW.PrintWords Go.Proofs.YtaepebkeijmjgaaW.PrintLast Go.Proofs.YtaepebkeijmjgaaW.PrintMore
attribute [local go_sem] max2_int min2_int max_two min_two max_three min_three max_four min_four
set_option linter.unusedVariables false
set_option linter.unusedSimpArgs false
def strings_HasPrefix.f (a0 : ByteArray) (a1 : ByteArray) : Option (Bool) := (stringslite_HasPrefix.f a0 a1).bind fun t150001 => (some t150001)
set_option maxHeartbeats 8000000 in
set_option maxRecDepth 100000 in
theorem strings_HasPrefix.calls (a0 : ByteArray) (a1 : ByteArray) (r : Bool) (w : World) (h : strings_HasPrefix.f a0 a1 = some r) :
  Calls Try.prog 15 #[.string a0, .string a1] w fun e w' => e = .returned (.bool r) ∧ Drawn0 w w' := by
 have H : ((stringslite_HasPrefix.f a0 a1).bind fun t150001 => (some t150001)) = some r := h; clear h; replace H := Option.bind_eq_some_iff.mp H; obtain ⟨t150001, A30, H⟩ := H; replace H : (some t150001) = some r := H; have A3 := Aside0.mk A30; clear A30; obtain rfl := Option.some.inj H
 go_enter Try.func15, Try.ntmps15
 go_wp2_with (first | ((with_reducible refine gate_callee (f := 17) rfl ?_); refine goesL_ (some 7) rfl rfl Try.func17 (by kernel_rfl) rfl #[.string a0, .string a1] rfl (by (try simp only [List.map_toArray, List.map_cons, List.map_nil]); first | done | rfl | (simp only [List.length_drop, List.length_take]; rfl)) ?_; (with_reducible refine (stringslite_HasPrefix.calls a0 a1 t150001 _ A3.out).mono ?_); rintro e w' ⟨rfl, ⟨nd, rfl⟩⟩; refine ⟨_, rfl, ?_⟩))
 go_ret
 exact ⟨by first | rfl | (simp; done) | (simp [*]; done), by repeat (first | exact Drawn0.refl _ | apply Drawn0.step)⟩
end Go.Proofs.Ytaepebkeijmjgaa.Z
end
section
namespace Go.Proofs.Ytaepebkeijmjgaa.Z
open Go.RowKit Go.Proofs.YtaepebkeijmjgaaW.PrintWords Go.Proofs.YtaepebkeijmjgaaW.PrintLast Go.Proofs.YtaepebkeijmjgaaW.PrintMore
attribute [local go_sem] max2_int min2_int max_two min_two max_three min_three max_four min_four
set_option linter.unusedVariables false
set_option linter.unusedSimpArgs false
def impl_Disk_valid.f (a0_0 : ByteArray) (a0_1 : ByteArray) (a0_2 : Int) : Option (Bool) := if a0_2 ≥ 0 then (if a0_2 ≤ 1048576 then (if (a0_1.size : Int) ≤ a0_2 then ((strings_HasPrefix.f a0_1 a0_0).bind fun t130002 => (some t130002)) else (some false)) else (some false)) else (some false)
set_option maxHeartbeats 8000000 in
set_option maxRecDepth 100000 in
theorem impl_Disk_valid.calls (a0_0 : ByteArray) (a0_1 : ByteArray) (a0_2 : Int) (r : Bool) (w : World) (h : impl_Disk_valid.f a0_0 a0_1 a0_2 = some r) :
  Calls Try.prog 13 #[.agg #[.string a0_0, .string a0_1, .int .i64 a0_2]] w fun e w' => e = .returned (.bool r) ∧ Below w.heap.size w w' := by
 have hu24 := Try.underlying24; have HB := Aside0.mk (Below.refl w.heap.size w); have H : (if a0_2 ≥ 0 then (if a0_2 ≤ 1048576 then (if (a0_1.size : Int) ≤ a0_2 then ((strings_HasPrefix.f a0_1 a0_0).bind fun t130002 => (some t130002)) else (some false)) else (some false)) else (some false)) = some r := h; clear h
 by_cases c2 : a0_2 ≥ 0
 ·rw [if_pos c2] at H; have c2b0 : decide (0 ≤ a0_2) = true := decide_eq_true c2; clear c2
  by_cases c3 : a0_2 ≤ 1048576
  ·rw [if_pos c3] at H; have c3b0 : decide (a0_2 ≤ 1048576) = true := decide_eq_true c3; clear c3
   by_cases c4 : (a0_1.size : Int) ≤ a0_2
   ·rw [if_pos c4] at H; have c4b0 : decide ((a0_1.size : Int) ≤ a0_2) = true := decide_eq_true c4; clear c4; replace H := Option.bind_eq_some_iff.mp H; obtain ⟨t130002, A50, H⟩ := H; replace H : (some t130002) = some r := H; have A5 := Aside0.mk A50; clear A50; obtain rfl := Option.some.inj H
    go_enter Try.func13, Try.ntmps13
    go_wp2_with (first | ((with_reducible refine gate_dst (N := 1) rfl ?_); (try (refine gate_guard (by rfl) ?_; dsimp only)); refine box_event ?hg (N := 1) ?hd (cs := #[.string a0_0, .string a0_1, .int .i64 a0_2]) (t := 24) ?hr ?_; (case hd => rfl); (case hg => rfl); (case hr => first | (go_simp; done) | (go_simp; rfl)); intro gb130001 hg w6 hbox hb; have n0_ := Aside0.mk (below_step (by repeat (first | (with_reducible first | exact HB.out | apply below_alloc | apply pw_below_drewN | apply below_drew1) | exact HB.out)) hb); have n1_ := Aside0.mk (hbox); have n2_ := Aside0.mk ((by rw [hg]; exact (below_size (by repeat (first | (with_reducible first | exact HB.out | apply below_alloc | apply pw_below_drewN | apply below_drew1) | exact HB.out))) : w.heap.size ≤ gb130001)); have n3_ := Aside0.mk ((by rw [hg]; exact (below_size (by repeat (first | (with_reducible first | exact HB.out | apply below_alloc | apply pw_below_drewN | apply below_drew1) | exact HB.out))) : w.heap.size ≤ gb130001)); clear HB; have HB := n0_; have BK130001 := n1_; have GW130001 := n2_; have GE130001 := n3_; clear n0_ n1_ n2_ n3_; clear hb hbox hg; have hcz7_0 : w6.cell? ⟨gb130001, 0, none⟩ = some (.string a0_0) := (blk_cell BK130001.out 0).trans rfl; have hcz7_1 : w6.cell? ⟨gb130001, 1, none⟩ = some (.string a0_1) := (blk_cell BK130001.out 1).trans rfl; have hcz7_2 : w6.cell? ⟨gb130001, 2, none⟩ = some (.int .i64 a0_2) := (blk_cell BK130001.out 2).trans rfl; have hfz7_0 := blk_frozen BK130001.out 0; have hfz7_1 := blk_frozen BK130001.out 1; have hfz7_2 := blk_frozen BK130001.out 2) | (go_at_call 15; (with_reducible refine (strings_HasPrefix.calls a0_1 a0_0 t130002 _ A5.out).mono ?_); rintro e w' ⟨rfl, ⟨nd, rfl⟩⟩))
    go_ret
    exact ⟨by first | rfl | (simp [errW_none, errW_some] <;> rfl) | (simp [*, errW_none, errW_some] <;> rfl), by repeat (first | (with_reducible first | exact HB.out | apply below_alloc | apply pw_below_drewN | apply below_drew1 | refine below_set ?_ GE130001.out) | exact HB.out)⟩
   ·rw [if_neg c4] at H; have c4b0 : decide ((a0_1.size : Int) ≤ a0_2) = false := decide_eq_false c4; clear c4; obtain rfl := Option.some.inj H
    go_enter Try.func13, Try.ntmps13
    go_wp2_with (first | ((with_reducible refine gate_dst (N := 1) rfl ?_); (try (refine gate_guard (by rfl) ?_; dsimp only)); refine box_event ?hg (N := 1) ?hd (cs := #[.string a0_0, .string a0_1, .int .i64 a0_2]) (t := 24) ?hr ?_; (case hd => rfl); (case hg => rfl); (case hr => first | (go_simp; done) | (go_simp; rfl)); intro gb130001 hg w8 hbox hb; have n0_ := Aside0.mk (below_step (by repeat (first | (with_reducible first | exact HB.out | apply below_alloc | apply pw_below_drewN | apply below_drew1) | exact HB.out)) hb); have n1_ := Aside0.mk (hbox); have n2_ := Aside0.mk ((by rw [hg]; exact (below_size (by repeat (first | (with_reducible first | exact HB.out | apply below_alloc | apply pw_below_drewN | apply below_drew1) | exact HB.out))) : w.heap.size ≤ gb130001)); have n3_ := Aside0.mk ((by rw [hg]; exact (below_size (by repeat (first | (with_reducible first | exact HB.out | apply below_alloc | apply pw_below_drewN | apply below_drew1) | exact HB.out))) : w.heap.size ≤ gb130001)); clear HB; have HB := n0_; have BK130001 := n1_; have GW130001 := n2_; have GE130001 := n3_; clear n0_ n1_ n2_ n3_; clear hb hbox hg; have hcz9_0 : w8.cell? ⟨gb130001, 0, none⟩ = some (.string a0_0) := (blk_cell BK130001.out 0).trans rfl; have hcz9_1 : w8.cell? ⟨gb130001, 1, none⟩ = some (.string a0_1) := (blk_cell BK130001.out 1).trans rfl; have hcz9_2 : w8.cell? ⟨gb130001, 2, none⟩ = some (.int .i64 a0_2) := (blk_cell BK130001.out 2).trans rfl; have hfz9_0 := blk_frozen BK130001.out 0; have hfz9_1 := blk_frozen BK130001.out 1; have hfz9_2 := blk_frozen BK130001.out 2))
    go_ret
    exact ⟨by first | rfl | (simp [errW_none, errW_some] <;> rfl) | (simp [*, errW_none, errW_some] <;> rfl), by repeat (first | (with_reducible first | exact HB.out | apply below_alloc | apply pw_below_drewN | apply below_drew1 | refine below_set ?_ GE130001.out) | exact HB.out)⟩
  ·rw [if_neg c3] at H; have c3b0 : decide (a0_2 ≤ 1048576) = false := decide_eq_false c3; clear c3; obtain rfl := Option.some.inj H
   go_enter Try.func13, Try.ntmps13
   go_wp2_with (first | ((with_reducible refine gate_dst (N := 1) rfl ?_); (try (refine gate_guard (by rfl) ?_; dsimp only)); refine box_event ?hg (N := 1) ?hd (cs := #[.string a0_0, .string a0_1, .int .i64 a0_2]) (t := 24) ?hr ?_; (case hd => rfl); (case hg => rfl); (case hr => first | (go_simp; done) | (go_simp; rfl)); intro gb130001 hg w10 hbox hb; have n0_ := Aside0.mk (below_step (by repeat (first | (with_reducible first | exact HB.out | apply below_alloc | apply pw_below_drewN | apply below_drew1) | exact HB.out)) hb); have n1_ := Aside0.mk (hbox); have n2_ := Aside0.mk ((by rw [hg]; exact (below_size (by repeat (first | (with_reducible first | exact HB.out | apply below_alloc | apply pw_below_drewN | apply below_drew1) | exact HB.out))) : w.heap.size ≤ gb130001)); have n3_ := Aside0.mk ((by rw [hg]; exact (below_size (by repeat (first | (with_reducible first | exact HB.out | apply below_alloc | apply pw_below_drewN | apply below_drew1) | exact HB.out))) : w.heap.size ≤ gb130001)); clear HB; have HB := n0_; have BK130001 := n1_; have GW130001 := n2_; have GE130001 := n3_; clear n0_ n1_ n2_ n3_; clear hb hbox hg; have hcz11_0 : w10.cell? ⟨gb130001, 0, none⟩ = some (.string a0_0) := (blk_cell BK130001.out 0).trans rfl; have hcz11_1 : w10.cell? ⟨gb130001, 1, none⟩ = some (.string a0_1) := (blk_cell BK130001.out 1).trans rfl; have hcz11_2 : w10.cell? ⟨gb130001, 2, none⟩ = some (.int .i64 a0_2) := (blk_cell BK130001.out 2).trans rfl; have hfz11_0 := blk_frozen BK130001.out 0; have hfz11_1 := blk_frozen BK130001.out 1; have hfz11_2 := blk_frozen BK130001.out 2))
   go_ret
   exact ⟨by first | rfl | (simp [errW_none, errW_some] <;> rfl) | (simp [*, errW_none, errW_some] <;> rfl), by repeat (first | (with_reducible first | exact HB.out | apply below_alloc | apply pw_below_drewN | apply below_drew1 | refine below_set ?_ GE130001.out) | exact HB.out)⟩
 ·rw [if_neg c2] at H; have c2b0 : decide (0 ≤ a0_2) = false := decide_eq_false c2; clear c2; obtain rfl := Option.some.inj H
  go_enter Try.func13, Try.ntmps13
  go_wp2_with (first | ((with_reducible refine gate_dst (N := 1) rfl ?_); (try (refine gate_guard (by rfl) ?_; dsimp only)); refine box_event ?hg (N := 1) ?hd (cs := #[.string a0_0, .string a0_1, .int .i64 a0_2]) (t := 24) ?hr ?_; (case hd => rfl); (case hg => rfl); (case hr => first | (go_simp; done) | (go_simp; rfl)); intro gb130001 hg w12 hbox hb; have n0_ := Aside0.mk (below_step (by repeat (first | (with_reducible first | exact HB.out | apply below_alloc | apply pw_below_drewN | apply below_drew1) | exact HB.out)) hb); have n1_ := Aside0.mk (hbox); have n2_ := Aside0.mk ((by rw [hg]; exact (below_size (by repeat (first | (with_reducible first | exact HB.out | apply below_alloc | apply pw_below_drewN | apply below_drew1) | exact HB.out))) : w.heap.size ≤ gb130001)); have n3_ := Aside0.mk ((by rw [hg]; exact (below_size (by repeat (first | (with_reducible first | exact HB.out | apply below_alloc | apply pw_below_drewN | apply below_drew1) | exact HB.out))) : w.heap.size ≤ gb130001)); clear HB; have HB := n0_; have BK130001 := n1_; have GW130001 := n2_; have GE130001 := n3_; clear n0_ n1_ n2_ n3_; clear hb hbox hg; have hcz13_0 : w12.cell? ⟨gb130001, 0, none⟩ = some (.string a0_0) := (blk_cell BK130001.out 0).trans rfl; have hcz13_1 : w12.cell? ⟨gb130001, 1, none⟩ = some (.string a0_1) := (blk_cell BK130001.out 1).trans rfl; have hcz13_2 : w12.cell? ⟨gb130001, 2, none⟩ = some (.int .i64 a0_2) := (blk_cell BK130001.out 2).trans rfl; have hfz13_0 := blk_frozen BK130001.out 0; have hfz13_1 := blk_frozen BK130001.out 1; have hfz13_2 := blk_frozen BK130001.out 2))
  go_ret
  exact ⟨by first | rfl | (simp [errW_none, errW_some] <;> rfl) | (simp [*, errW_none, errW_some] <;> rfl), by repeat (first | (with_reducible first | exact HB.out | apply below_alloc | apply pw_below_drewN | apply below_drew1 | refine below_set ?_ GE130001.out) | exact HB.out)⟩
end Go.Proofs.Ytaepebkeijmjgaa.Z
end
section
namespace Go.Proofs.Ytaepebkeijmjgaa.Z
open Go.RowKit Go.Proofs.YtaepebkeijmjgaaW.PrintWords Go.Proofs.YtaepebkeijmjgaaW.PrintLast Go.Proofs.YtaepebkeijmjgaaW.PrintMore
attribute [local go_sem] max2_int min2_int max_two min_two max_three min_three max_four min_four
set_option linter.unusedVariables false
set_option linter.unusedSimpArgs false
def impl_DiskCut.f (a0_0 : ByteArray) (a0_1 : ByteArray) (a0_2 : Int) (a1 : Int) : Option (ByteArray × ByteArray × Int × Int) := (impl_Disk_valid.f a0_0 a0_1 a0_2).bind fun t80003 => (if t80003 = true then (if a1 < 0 then (some ((⟨#[]⟩ : ByteArray), (⟨#[]⟩ : ByteArray), 0, 9)) else (if a1 > (a0_1.size : Int) then (some ((⟨#[]⟩ : ByteArray), (⟨#[]⟩ : ByteArray), 0, 9)) else (if 0 ≤ a1 then (if a1 ≤ (a0_1.size : Int) then (some (a0_1.extract 0 (a1 : Int).toNat, a0_1.extract 0 (a1 : Int).toNat, a0_2, 0)) else (none)) else (none)))) else (some ((⟨#[]⟩ : ByteArray), (⟨#[]⟩ : ByteArray), 0, 9)))
def impl_DiskCut.T3 : Bool × List (List Nat × List Nat) := (true, [([], []), ([0], [0]), ([], []), ([1, 2], [1, 2]), ([], []), ([4], [4]), ([], []), ([5, 6], [5, 6]), ([], []), ([8], [8]), ([3, 7, 9], [3, 7, 9]), ([10, 0, 1, 2, 3, 4, 5, 6, 7, 8, 9, 10], [10]), ([11, 0, 1, 2, 3, 4, 5, 6, 7, 8, 9, 10, 11], [])])
def impl_DiskCut.B3 : List Nat := [0, 1, 0, 7, 0, 16, 0, 112, 0, 256, 1023, 2047, 4095]
theorem impl_DiskCut.tab3 : rtab .any (opsOf Try.f8 3) = impl_DiskCut.T3 := by kernel_rfl
theorem impl_DiskCut.bits3 : waitsOk impl_DiskCut.T3.2 impl_DiskCut.B3 = true := by kernel_rfl
set_option maxHeartbeats 8000000 in
set_option maxRecDepth 100000 in
theorem impl_DiskCut.calls (a0_0 : ByteArray) (a0_1 : ByteArray) (a0_2 : Int) (a1 : Int) (r1 : ByteArray) (r2 : ByteArray) (r3 : Int) (r4 : Int) (w : World) (h : impl_DiskCut.f a0_0 a0_1 a0_2 a1 = some (r1, r2, r3, r4)) :
  Calls Try.prog 8 #[.agg #[.string a0_0, .string a0_1, .int .i64 a0_2], .int .i64 a1] w fun e w' => e = .returned (.tuple #[.agg #[.string r1, .string r2, .int .i64 r3], .int .i64 r4]) ∧ Below w.heap.size w w' := by
 have hu24 := Try.underlying24; have HB := Aside0.mk (Below.refl w.heap.size w); have H : ((impl_Disk_valid.f a0_0 a0_1 a0_2).bind fun t80003 => (if t80003 = true then (if a1 < 0 then (some ((⟨#[]⟩ : ByteArray), (⟨#[]⟩ : ByteArray), 0, 9)) else (if a1 > (a0_1.size : Int) then (some ((⟨#[]⟩ : ByteArray), (⟨#[]⟩ : ByteArray), 0, 9)) else (if 0 ≤ a1 then (if a1 ≤ (a0_1.size : Int) then (some (a0_1.extract 0 (a1 : Int).toNat, a0_1.extract 0 (a1 : Int).toNat, a0_2, 0)) else (none)) else (none)))) else (some ((⟨#[]⟩ : ByteArray), (⟨#[]⟩ : ByteArray), 0, 9)))) = some (r1, r2, r3, r4) := h; clear h; replace H := Option.bind_eq_some_iff.mp H; obtain ⟨t80003, A30, H⟩ := H; replace H : (if t80003 = true then (if a1 < 0 then (some ((⟨#[]⟩ : ByteArray), (⟨#[]⟩ : ByteArray), 0, 9)) else (if a1 > (a0_1.size : Int) then (some ((⟨#[]⟩ : ByteArray), (⟨#[]⟩ : ByteArray), 0, 9)) else (if 0 ≤ a1 then (if a1 ≤ (a0_1.size : Int) then (some (a0_1.extract 0 (a1 : Int).toNat, a0_1.extract 0 (a1 : Int).toNat, a0_2, 0)) else (none)) else (none)))) else (some ((⟨#[]⟩ : ByteArray), (⟨#[]⟩ : ByteArray), 0, 9))) = some (r1, r2, r3, r4) := H; have A3 := Aside0.mk A30; clear A30
 by_cases c4 : t80003 = true
 ·subst c4; have H1 : (if a1 < 0 then (some ((⟨#[]⟩ : ByteArray), (⟨#[]⟩ : ByteArray), 0, 9)) else (if a1 > (a0_1.size : Int) then (some ((⟨#[]⟩ : ByteArray), (⟨#[]⟩ : ByteArray), 0, 9)) else (if 0 ≤ a1 then (if a1 ≤ (a0_1.size : Int) then (some (a0_1.extract 0 (a1 : Int).toNat, a0_1.extract 0 (a1 : Int).toNat, a0_2, 0)) else (none)) else (none)))) = some (r1, r2, r3, r4) := by rw [if_pos rfl] at H; exact H
  clear H; have H := H1; clear H1
  by_cases c5 : a1 < 0
  ·rw [if_pos c5] at H; have c5b0 : decide (a1 < 0) = true := decide_eq_true c5; clear c5; simp only [Option.some.injEq, Prod.mk.injEq] at H; obtain ⟨rfl, rfl, rfl, rfl⟩ := H
   go_enter Try.func8, Try.ntmps8
   go_wp2_with (first | ((with_reducible refine gate_dst (N := 2) rfl ?_); (try (refine gate_guard (by rfl) ?_; dsimp only)); refine box_event ?hg (N := 2) ?hd (cs := #[.string a0_0, .string a0_1, .int .i64 a0_2]) (t := 24) ?hr ?_; (case hd => rfl); (case hg => rfl); (case hr => first | (go_simp; done) | (go_simp; rfl)); intro gb80001 hg w6 hbox hb; have n0_ := Aside0.mk (below_step (by repeat (first | (with_reducible first | exact HB.out | apply below_alloc | apply pw_below_drewN | apply below_drew1) | exact HB.out)) hb); have n1_ := Aside0.mk (hbox); have n2_ := Aside0.mk ((by rw [hg]; exact (below_size (by repeat (first | (with_reducible first | exact HB.out | apply below_alloc | apply pw_below_drewN | apply below_drew1) | exact HB.out))) : w.heap.size ≤ gb80001)); have n3_ := Aside0.mk ((by rw [hg]; exact (below_size (by repeat (first | (with_reducible first | exact HB.out | apply below_alloc | apply pw_below_drewN | apply below_drew1) | exact HB.out))) : w.heap.size ≤ gb80001)); clear HB; have HB := n0_; have BK80001 := n1_; have GW80001 := n2_; have GE80001 := n3_; clear n0_ n1_ n2_ n3_; clear hb hbox hg) | ((with_reducible refine gate_dst (N := 4) rfl ?_); (try (refine gate_guard (by rfl) ?_; dsimp only)); refine box_event ?hg (N := 4) ?hd (cs := #[.string (⟨#[]⟩ : ByteArray), .string (⟨#[]⟩ : ByteArray), .int .i64 0]) (t := 24) ?hr ?_; (case hd => rfl); (case hg => rfl); (case hr => first | (go_simp; done) | (go_simp; rfl)); intro gb80002 hg w7 hbox hb; have n0_ := Aside0.mk (blk_below (g := gb80001) (o := .cells #[.string a0_0, .string a0_1, .int .i64 a0_2] 24 (0, 0)) (by (with_reducible repeat (first | refine blk_drewN ?_ _ | refine blk_drew ?_ | refine blk_alloc ?_ _)); exact BK80001.out) hb); have n1_ := Aside0.mk (below_step (by repeat (first | (with_reducible first | exact HB.out | apply below_alloc | apply pw_below_drewN | apply below_drew1 | refine below_set ?_ GE80001.out) | exact HB.out)) hb); have n2_ := Aside0.mk (hbox); have n3_ := Aside0.mk ((by rw [hg]; exact (below_size (by repeat (first | (with_reducible first | exact HB.out | apply below_alloc | apply pw_below_drewN | apply below_drew1 | refine below_set ?_ GE80001.out) | exact HB.out))) : w.heap.size ≤ gb80002)); have n4_ := Aside0.mk ((by rw [hg]; exact (below_size (by repeat (first | (with_reducible first | exact HB.out | apply below_alloc | apply pw_below_drewN | apply below_drew1 | refine below_set ?_ GE80001.out) | exact HB.out))) : w.heap.size ≤ gb80002)); have n5_ := Aside0.mk ((by rw [hg]; exact Nat.ne_of_lt (blk_lt (g := gb80001) (o := .cells #[.string a0_0, .string a0_1, .int .i64 a0_2] 24 (0, 0)) (by (with_reducible repeat (first | refine blk_drewN ?_ _ | refine blk_drew ?_ | refine blk_alloc ?_ _)); exact BK80001.out)) : gb80001 ≠ gb80002)); have n6_ := Aside0.mk ((by rw [hg]; exact Nat.ne_of_gt (blk_lt (g := gb80001) (o := .cells #[.string a0_0, .string a0_1, .int .i64 a0_2] 24 (0, 0)) (by (with_reducible repeat (first | refine blk_drewN ?_ _ | refine blk_drew ?_ | refine blk_alloc ?_ _)); exact BK80001.out)) : gb80002 ≠ gb80001)); clear BK80001; clear HB; have BK80001 := n0_; have HB := n1_; have BK80002 := n2_; have GW80002 := n3_; have GE80002 := n4_; have NB80001_80002 := n5_; have NB80002_80001 := n6_; clear n0_ n1_ n2_ n3_ n4_ n5_ n6_; clear hb hbox hg; have hnb8 := NB80001_80002.out; have hnc8 := NB80002_80001.out; have hcz9_0 : w7.cell? ⟨gb80001, 0, none⟩ = some (.string a0_0) := (blk_cell BK80001.out 0).trans rfl; have hcz9_1 : w7.cell? ⟨gb80001, 1, none⟩ = some (.string a0_1) := (blk_cell BK80001.out 1).trans rfl; have hcz9_2 : w7.cell? ⟨gb80001, 2, none⟩ = some (.int .i64 a0_2) := (blk_cell BK80001.out 2).trans rfl; have hfz9_0 := blk_frozen BK80001.out 0; have hfz9_1 := blk_frozen BK80001.out 1; have hfz9_2 := blk_frozen BK80001.out 2) | ((with_reducible refine gate_callee (f := 13) rfl ?_); refine goesL_ (some 7) rfl rfl Try.func13 (by kernel_rfl) rfl #[.agg #[.string a0_0, .string a0_1, .int .i64 a0_2]] rfl (by (try simp only [List.map_toArray, List.map_cons, List.map_nil]); first | done | rfl | (simp only [List.length_drop, List.length_take]; rfl)) ?_; (with_reducible refine (impl_Disk_valid.calls a0_0 a0_1 a0_2 true _ A3.out).mono ?_); rintro e w10 ⟨rfl, hb⟩; refine ⟨_, rfl, ?_⟩; have n0_ := Aside0.mk (blk_below (g := gb80001) (o := .cells #[.string a0_0, .string a0_1, .int .i64 a0_2] 24 (0, 0)) (by (with_reducible repeat (first | refine blk_drewN ?_ _ | refine blk_drew ?_ | refine blk_alloc ?_ _)); exact BK80001.out) hb); have n1_ := Aside0.mk (blk_below (g := gb80002) (o := .cells #[.string (⟨#[]⟩ : ByteArray), .string (⟨#[]⟩ : ByteArray), .int .i64 0] 24 (0, 0)) (by (with_reducible repeat (first | refine blk_drewN ?_ _ | refine blk_drew ?_ | refine blk_alloc ?_ _)); exact BK80002.out) hb); have n2_ := Aside0.mk (below_step (by repeat (first | (with_reducible first | exact HB.out | apply below_alloc | apply pw_below_drewN | apply below_drew1 | refine below_set ?_ GE80001.out | refine below_set ?_ GE80002.out) | exact HB.out)) hb); clear BK80001; clear BK80002; clear HB; have BK80001 := n0_; have BK80002 := n1_; have HB := n2_; clear n0_ n1_ n2_; (try clear hb); (try clear hb2); (try clear hk); (try clear hi); have hcz11_0 : w10.cell? ⟨gb80002, 0, none⟩ = some (.string (⟨#[]⟩ : ByteArray)) := (blk_cell BK80002.out 0).trans rfl; have hcz11_1 : w10.cell? ⟨gb80002, 1, none⟩ = some (.string (⟨#[]⟩ : ByteArray)) := (blk_cell BK80002.out 1).trans rfl; have hcz11_2 : w10.cell? ⟨gb80002, 2, none⟩ = some (.int .i64 0) := (blk_cell BK80002.out 2).trans rfl; have hfz11_0 := blk_frozen BK80002.out 0; have hfz11_1 := blk_frozen BK80002.out 1; have hfz11_2 := blk_frozen BK80002.out 2))
   refine bodyPost_ret (results_ct rfl _ _ gb80002 24 #[.string (⟨#[]⟩ : ByteArray), .string (⟨#[]⟩ : ByteArray), .int .i64 0] (0, 0) _ rfl (by (with_reducible repeat (first | refine blk_drewN ?_ _ | refine blk_drew ?_ | refine blk_alloc ?_ _)); refine blk_put (cs := #[.string (⟨#[]⟩ : ByteArray), .string (⟨#[]⟩ : ByteArray), .int .i64 0]) ?_ 2 _ rfl; (with_reducible repeat (first | refine blk_drewN ?_ _ | refine blk_drew ?_ | refine blk_alloc ?_ _)); refine blk_put (cs := #[.string (⟨#[]⟩ : ByteArray), .string (⟨#[]⟩ : ByteArray), .int .i64 0]) ?_ 1 _ rfl; (with_reducible repeat (first | refine blk_drewN ?_ _ | refine blk_drew ?_ | refine blk_alloc ?_ _)); refine blk_put (cs := #[.string (⟨#[]⟩ : ByteArray), .string (⟨#[]⟩ : ByteArray), .int .i64 0]) ?_ 0 _ rfl; (with_reducible repeat (first | refine blk_drewN ?_ _ | refine blk_drew ?_ | refine blk_alloc ?_ _)); exact BK80002.out) Try.underlying24 rfl (by kernel_rfl)) rfl ?_; exact ⟨by first | rfl | (simp [errW_none, errW_some] <;> rfl) | (simp [*, errW_none, errW_some] <;> rfl), by repeat (first | (with_reducible first | exact HB.out | apply below_alloc | apply pw_below_drewN | apply below_drew1 | refine below_set ?_ GE80001.out | refine below_set ?_ GE80002.out) | exact HB.out)⟩
  ·rw [if_neg c5] at H; have c5b0 : decide (a1 < 0) = false := decide_eq_false c5; clear c5
   by_cases c12 : a1 > (a0_1.size : Int)
   ·rw [if_pos c12] at H; have c12b0 : decide ((a0_1.size : Int) < a1) = true := decide_eq_true c12; clear c12; simp only [Option.some.injEq, Prod.mk.injEq] at H; obtain ⟨rfl, rfl, rfl, rfl⟩ := H
    go_enter Try.func8, Try.ntmps8
    go_wp2_with (first | ((with_reducible refine gate_dst (N := 2) rfl ?_); (try (refine gate_guard (by rfl) ?_; dsimp only)); refine box_event ?hg (N := 2) ?hd (cs := #[.string a0_0, .string a0_1, .int .i64 a0_2]) (t := 24) ?hr ?_; (case hd => rfl); (case hg => rfl); (case hr => first | (go_simp; done) | (go_simp; rfl)); intro gb80001 hg w13 hbox hb; have n0_ := Aside0.mk (below_step (by repeat (first | (with_reducible first | exact HB.out | apply below_alloc | apply pw_below_drewN | apply below_drew1) | exact HB.out)) hb); have n1_ := Aside0.mk (hbox); have n2_ := Aside0.mk ((by rw [hg]; exact (below_size (by repeat (first | (with_reducible first | exact HB.out | apply below_alloc | apply pw_below_drewN | apply below_drew1) | exact HB.out))) : w.heap.size ≤ gb80001)); have n3_ := Aside0.mk ((by rw [hg]; exact (below_size (by repeat (first | (with_reducible first | exact HB.out | apply below_alloc | apply pw_below_drewN | apply below_drew1) | exact HB.out))) : w.heap.size ≤ gb80001)); clear HB; have HB := n0_; have BK80001 := n1_; have GW80001 := n2_; have GE80001 := n3_; clear n0_ n1_ n2_ n3_; clear hb hbox hg) | ((with_reducible refine gate_dst (N := 4) rfl ?_); (try (refine gate_guard (by rfl) ?_; dsimp only)); refine box_event ?hg (N := 4) ?hd (cs := #[.string (⟨#[]⟩ : ByteArray), .string (⟨#[]⟩ : ByteArray), .int .i64 0]) (t := 24) ?hr ?_; (case hd => rfl); (case hg => rfl); (case hr => first | (go_simp; done) | (go_simp; rfl)); intro gb80002 hg w14 hbox hb; have n0_ := Aside0.mk (blk_below (g := gb80001) (o := .cells #[.string a0_0, .string a0_1, .int .i64 a0_2] 24 (0, 0)) (by (with_reducible repeat (first | refine blk_drewN ?_ _ | refine blk_drew ?_ | refine blk_alloc ?_ _)); exact BK80001.out) hb); have n1_ := Aside0.mk (below_step (by repeat (first | (with_reducible first | exact HB.out | apply below_alloc | apply pw_below_drewN | apply below_drew1 | refine below_set ?_ GE80001.out) | exact HB.out)) hb); have n2_ := Aside0.mk (hbox); have n3_ := Aside0.mk ((by rw [hg]; exact (below_size (by repeat (first | (with_reducible first | exact HB.out | apply below_alloc | apply pw_below_drewN | apply below_drew1 | refine below_set ?_ GE80001.out) | exact HB.out))) : w.heap.size ≤ gb80002)); have n4_ := Aside0.mk ((by rw [hg]; exact (below_size (by repeat (first | (with_reducible first | exact HB.out | apply below_alloc | apply pw_below_drewN | apply below_drew1 | refine below_set ?_ GE80001.out) | exact HB.out))) : w.heap.size ≤ gb80002)); have n5_ := Aside0.mk ((by rw [hg]; exact Nat.ne_of_lt (blk_lt (g := gb80001) (o := .cells #[.string a0_0, .string a0_1, .int .i64 a0_2] 24 (0, 0)) (by (with_reducible repeat (first | refine blk_drewN ?_ _ | refine blk_drew ?_ | refine blk_alloc ?_ _)); exact BK80001.out)) : gb80001 ≠ gb80002)); have n6_ := Aside0.mk ((by rw [hg]; exact Nat.ne_of_gt (blk_lt (g := gb80001) (o := .cells #[.string a0_0, .string a0_1, .int .i64 a0_2] 24 (0, 0)) (by (with_reducible repeat (first | refine blk_drewN ?_ _ | refine blk_drew ?_ | refine blk_alloc ?_ _)); exact BK80001.out)) : gb80002 ≠ gb80001)); clear BK80001; clear HB; have BK80001 := n0_; have HB := n1_; have BK80002 := n2_; have GW80002 := n3_; have GE80002 := n4_; have NB80001_80002 := n5_; have NB80002_80001 := n6_; clear n0_ n1_ n2_ n3_ n4_ n5_ n6_; clear hb hbox hg; have hnb15 := NB80001_80002.out; have hnc15 := NB80002_80001.out; have hcz16_0 : w14.cell? ⟨gb80001, 0, none⟩ = some (.string a0_0) := (blk_cell BK80001.out 0).trans rfl; have hcz16_1 : w14.cell? ⟨gb80001, 1, none⟩ = some (.string a0_1) := (blk_cell BK80001.out 1).trans rfl; have hcz16_2 : w14.cell? ⟨gb80001, 2, none⟩ = some (.int .i64 a0_2) := (blk_cell BK80001.out 2).trans rfl; have hfz16_0 := blk_frozen BK80001.out 0; have hfz16_1 := blk_frozen BK80001.out 1; have hfz16_2 := blk_frozen BK80001.out 2) | ((with_reducible refine gate_callee (f := 13) rfl ?_); refine goesL_ (some 7) rfl rfl Try.func13 (by kernel_rfl) rfl #[.agg #[.string a0_0, .string a0_1, .int .i64 a0_2]] rfl (by (try simp only [List.map_toArray, List.map_cons, List.map_nil]); first | done | rfl | (simp only [List.length_drop, List.length_take]; rfl)) ?_; (with_reducible refine (impl_Disk_valid.calls a0_0 a0_1 a0_2 true _ A3.out).mono ?_); rintro e w17 ⟨rfl, hb⟩; refine ⟨_, rfl, ?_⟩; have n0_ := Aside0.mk (blk_below (g := gb80001) (o := .cells #[.string a0_0, .string a0_1, .int .i64 a0_2] 24 (0, 0)) (by (with_reducible repeat (first | refine blk_drewN ?_ _ | refine blk_drew ?_ | refine blk_alloc ?_ _)); exact BK80001.out) hb); have n1_ := Aside0.mk (blk_below (g := gb80002) (o := .cells #[.string (⟨#[]⟩ : ByteArray), .string (⟨#[]⟩ : ByteArray), .int .i64 0] 24 (0, 0)) (by (with_reducible repeat (first | refine blk_drewN ?_ _ | refine blk_drew ?_ | refine blk_alloc ?_ _)); exact BK80002.out) hb); have n2_ := Aside0.mk (below_step (by repeat (first | (with_reducible first | exact HB.out | apply below_alloc | apply pw_below_drewN | apply below_drew1 | refine below_set ?_ GE80001.out | refine below_set ?_ GE80002.out) | exact HB.out)) hb); clear BK80001; clear BK80002; clear HB; have BK80001 := n0_; have BK80002 := n1_; have HB := n2_; clear n0_ n1_ n2_; (try clear hb); (try clear hb2); (try clear hk); (try clear hi); have hcz18_0 : w17.cell? ⟨gb80001, 0, none⟩ = some (.string a0_0) := (blk_cell BK80001.out 0).trans rfl; have hcz18_1 : w17.cell? ⟨gb80001, 1, none⟩ = some (.string a0_1) := (blk_cell BK80001.out 1).trans rfl; have hcz18_2 : w17.cell? ⟨gb80001, 2, none⟩ = some (.int .i64 a0_2) := (blk_cell BK80001.out 2).trans rfl; have hfz18_0 := blk_frozen BK80001.out 0; have hfz18_1 := blk_frozen BK80001.out 1; have hfz18_2 := blk_frozen BK80001.out 2; have hcz19_0 : w17.cell? ⟨gb80002, 0, none⟩ = some (.string (⟨#[]⟩ : ByteArray)) := (blk_cell BK80002.out 0).trans rfl; have hcz19_1 : w17.cell? ⟨gb80002, 1, none⟩ = some (.string (⟨#[]⟩ : ByteArray)) := (blk_cell BK80002.out 1).trans rfl; have hcz19_2 : w17.cell? ⟨gb80002, 2, none⟩ = some (.int .i64 0) := (blk_cell BK80002.out 2).trans rfl; have hfz19_0 := blk_frozen BK80002.out 0; have hfz19_1 := blk_frozen BK80002.out 1; have hfz19_2 := blk_frozen BK80002.out 2))
    refine bodyPost_ret (results_ct rfl _ _ gb80002 24 #[.string (⟨#[]⟩ : ByteArray), .string (⟨#[]⟩ : ByteArray), .int .i64 0] (0, 0) _ rfl (by (with_reducible repeat (first | refine blk_drewN ?_ _ | refine blk_drew ?_ | refine blk_alloc ?_ _)); refine blk_put (cs := #[.string (⟨#[]⟩ : ByteArray), .string (⟨#[]⟩ : ByteArray), .int .i64 0]) ?_ 2 _ rfl; (with_reducible repeat (first | refine blk_drewN ?_ _ | refine blk_drew ?_ | refine blk_alloc ?_ _)); refine blk_put (cs := #[.string (⟨#[]⟩ : ByteArray), .string (⟨#[]⟩ : ByteArray), .int .i64 0]) ?_ 1 _ rfl; (with_reducible repeat (first | refine blk_drewN ?_ _ | refine blk_drew ?_ | refine blk_alloc ?_ _)); refine blk_put (cs := #[.string (⟨#[]⟩ : ByteArray), .string (⟨#[]⟩ : ByteArray), .int .i64 0]) ?_ 0 _ rfl; (with_reducible repeat (first | refine blk_drewN ?_ _ | refine blk_drew ?_ | refine blk_alloc ?_ _)); exact BK80002.out) Try.underlying24 rfl (by kernel_rfl)) rfl ?_; exact ⟨by first | rfl | (simp [errW_none, errW_some] <;> rfl) | (simp [*, errW_none, errW_some] <;> rfl), by repeat (first | (with_reducible first | exact HB.out | apply below_alloc | apply pw_below_drewN | apply below_drew1 | refine below_set ?_ GE80001.out | refine below_set ?_ GE80002.out) | exact HB.out)⟩
   ·rw [if_neg c12] at H; have c12b0 : decide ((a0_1.size : Int) < a1) = false := decide_eq_false c12; clear c12
    by_cases c20 : 0 ≤ a1
    ·rw [if_pos c20] at H; have c20b0 := eq_true c20; have c20b1 : decide (0 ≤ a1) = true := decide_eq_true c20; clear c20
     by_cases c21 : a1 ≤ (a0_1.size : Int)
     ·rw [if_pos c21] at H; have c21b0 := eq_true c21; have c21b1 : decide (a1 ≤ (a0_1.size : Int)) = true := decide_eq_true c21; clear c21; have c22b0 := eq_true (of_decide_eq_true (by first | (with_reducible assumption) | assumption) : 0 ≤ a1); have c23b0 := eq_true (of_decide_eq_true (by first | (with_reducible assumption) | assumption) : a1 ≤ (a0_1.size : Int)); simp only [Option.some.injEq, Prod.mk.injEq] at H; obtain ⟨rfl, rfl, rfl, rfl⟩ := H
      go_enter Try.func8, Try.ntmps8
      try go_wp2_with (first | ((with_reducible refine gate_dst (N := 2) rfl ?_); (try (refine gate_guard (by rfl) ?_; dsimp only)); refine box_event ?hg (N := 2) ?hd (cs := #[.string a0_0, .string a0_1, .int .i64 a0_2]) (t := 24) ?hr ?_; (case hd => rfl); (case hg => rfl); (case hr => first | (go_simp; done) | (go_simp; rfl)); intro gb80001 hg w24 hbox hb; have n0_ := Aside0.mk (below_step (by repeat (first | (with_reducible first | exact HB.out | apply below_alloc | apply pw_below_drewN | apply below_drew1) | exact HB.out)) hb); have n1_ := Aside0.mk (hbox); have n2_ := Aside0.mk ((by rw [hg]; exact (below_size (by repeat (first | (with_reducible first | exact HB.out | apply below_alloc | apply pw_below_drewN | apply below_drew1) | exact HB.out))) : w.heap.size ≤ gb80001)); have n3_ := Aside0.mk ((by rw [hg]; exact (below_size (by repeat (first | (with_reducible first | exact HB.out | apply below_alloc | apply pw_below_drewN | apply below_drew1) | exact HB.out))) : w.heap.size ≤ gb80001)); clear HB; have HB := n0_; have BK80001 := n1_; have GW80001 := n2_; have GE80001 := n3_; clear n0_ n1_ n2_ n3_; clear hb hbox hg) | ((with_reducible refine gate_dst (N := 4) rfl ?_); (try (refine gate_guard (by rfl) ?_; dsimp only)); refine box_event ?hg (N := 4) ?hd (cs := #[.string (⟨#[]⟩ : ByteArray), .string (⟨#[]⟩ : ByteArray), .int .i64 0]) (t := 24) ?hr ?_; (case hd => rfl); (case hg => rfl); (case hr => first | (go_simp; done) | (go_simp; rfl)); intro gb80002 hg w25 hbox hb; have n0_ := Aside0.mk (blk_below (g := gb80001) (o := .cells #[.string a0_0, .string a0_1, .int .i64 a0_2] 24 (0, 0)) (by (with_reducible repeat (first | refine blk_drewN ?_ _ | refine blk_drew ?_ | refine blk_alloc ?_ _)); exact BK80001.out) hb); have n1_ := Aside0.mk (below_step (by repeat (first | (with_reducible first | exact HB.out | apply below_alloc | apply pw_below_drewN | apply below_drew1 | refine below_set ?_ GE80001.out) | exact HB.out)) hb); have n2_ := Aside0.mk (hbox); have n3_ := Aside0.mk ((by rw [hg]; exact (below_size (by repeat (first | (with_reducible first | exact HB.out | apply below_alloc | apply pw_below_drewN | apply below_drew1 | refine below_set ?_ GE80001.out) | exact HB.out))) : w.heap.size ≤ gb80002)); have n4_ := Aside0.mk ((by rw [hg]; exact (below_size (by repeat (first | (with_reducible first | exact HB.out | apply below_alloc | apply pw_below_drewN | apply below_drew1 | refine below_set ?_ GE80001.out) | exact HB.out))) : w.heap.size ≤ gb80002)); have n5_ := Aside0.mk ((by rw [hg]; exact Nat.ne_of_lt (blk_lt (g := gb80001) (o := .cells #[.string a0_0, .string a0_1, .int .i64 a0_2] 24 (0, 0)) (by (with_reducible repeat (first | refine blk_drewN ?_ _ | refine blk_drew ?_ | refine blk_alloc ?_ _)); exact BK80001.out)) : gb80001 ≠ gb80002)); have n6_ := Aside0.mk ((by rw [hg]; exact Nat.ne_of_gt (blk_lt (g := gb80001) (o := .cells #[.string a0_0, .string a0_1, .int .i64 a0_2] 24 (0, 0)) (by (with_reducible repeat (first | refine blk_drewN ?_ _ | refine blk_drew ?_ | refine blk_alloc ?_ _)); exact BK80001.out)) : gb80002 ≠ gb80001)); clear BK80001; clear HB; have BK80001 := n0_; have HB := n1_; have BK80002 := n2_; have GW80002 := n3_; have GE80002 := n4_; have NB80001_80002 := n5_; have NB80002_80001 := n6_; clear n0_ n1_ n2_ n3_ n4_ n5_ n6_; clear hb hbox hg; have hnb26 := NB80001_80002.out; have hnc26 := NB80002_80001.out; have hcz27_0 : w25.cell? ⟨gb80001, 0, none⟩ = some (.string a0_0) := (blk_cell BK80001.out 0).trans rfl; have hcz27_1 : w25.cell? ⟨gb80001, 1, none⟩ = some (.string a0_1) := (blk_cell BK80001.out 1).trans rfl; have hcz27_2 : w25.cell? ⟨gb80001, 2, none⟩ = some (.int .i64 a0_2) := (blk_cell BK80001.out 2).trans rfl; have hfz27_0 := blk_frozen BK80001.out 0; have hfz27_1 := blk_frozen BK80001.out 1; have hfz27_2 := blk_frozen BK80001.out 2) | ((with_reducible refine gate_callee (f := 13) rfl ?_); refine goesL_ (some 7) rfl rfl Try.func13 (by kernel_rfl) rfl #[.agg #[.string a0_0, .string a0_1, .int .i64 a0_2]] rfl (by (try simp only [List.map_toArray, List.map_cons, List.map_nil]); first | done | rfl | (simp only [List.length_drop, List.length_take]; rfl)) ?_; (with_reducible refine (impl_Disk_valid.calls a0_0 a0_1 a0_2 true _ A3.out).mono ?_); rintro e w28 ⟨rfl, hb⟩; refine ⟨_, rfl, ?_⟩; have n0_ := Aside0.mk (blk_below (g := gb80001) (o := .cells #[.string a0_0, .string a0_1, .int .i64 a0_2] 24 (0, 0)) (by (with_reducible repeat (first | refine blk_drewN ?_ _ | refine blk_drew ?_ | refine blk_alloc ?_ _)); exact BK80001.out) hb); have n1_ := Aside0.mk (blk_below (g := gb80002) (o := .cells #[.string (⟨#[]⟩ : ByteArray), .string (⟨#[]⟩ : ByteArray), .int .i64 0] 24 (0, 0)) (by (with_reducible repeat (first | refine blk_drewN ?_ _ | refine blk_drew ?_ | refine blk_alloc ?_ _)); exact BK80002.out) hb); have n2_ := Aside0.mk (below_step (by repeat (first | (with_reducible first | exact HB.out | apply below_alloc | apply pw_below_drewN | apply below_drew1 | refine below_set ?_ GE80001.out | refine below_set ?_ GE80002.out) | exact HB.out)) hb); clear BK80001; clear BK80002; clear HB; have BK80001 := n0_; have BK80002 := n1_; have HB := n2_; clear n0_ n1_ n2_; (try clear hb); (try clear hb2); (try clear hk); (try clear hi); have hcz29_0 : w28.cell? ⟨gb80001, 0, none⟩ = some (.string a0_0) := (blk_cell BK80001.out 0).trans rfl; have hcz29_1 : w28.cell? ⟨gb80001, 1, none⟩ = some (.string a0_1) := (blk_cell BK80001.out 1).trans rfl; have hcz29_2 : w28.cell? ⟨gb80001, 2, none⟩ = some (.int .i64 a0_2) := (blk_cell BK80001.out 2).trans rfl; have hfz29_0 := blk_frozen BK80001.out 0; have hfz29_1 := blk_frozen BK80001.out 1; have hfz29_2 := blk_frozen BK80001.out 2))
      have n0_ := Aside0.mk (blk_drew BK80001.out); have n1_ := Aside0.mk (blk_drew BK80002.out); have n2_ := Aside0.mk (below_drew1 HB.out); clear BK80001; clear BK80002; clear HB; have BK80001 := n0_; have BK80002 := n1_; have HB := n2_; clear n0_ n1_ n2_; refine start_ (n := 13) (S := fun w' => w'.cell? ⟨gb80001, 0, none⟩ = some (.string a0_0) ∧ w'.cell? ⟨gb80001, 1, none⟩ = some (.string a0_1) ∧ w'.cell? ⟨gb80001, 2, none⟩ = some (.int .i64 a0_2)) (ds := []) #[false, false, false, false, false, false, false, false, false, false, false, false, false] (by kernel_rfl) rfl rfl ⟨(blk_cell BK80001.out 0).trans rfl, (blk_cell BK80001.out 1).trans rfl, (blk_cell BK80001.out 2).trans rfl⟩ (fun hHeld => ?_); refine with_tabW impl_DiskCut.tab3 impl_DiskCut.bits3 (fun HT_ HW_ => ?_); generalize w28.drew = w30 at BK80001 BK80002 HB hHeld ⊢; refine pure_ (i := 0) (N := some 21) (v := ?_) (a' := ?_) #[true, false, false, false, false, false, false, false, false, false, false, false, false] rfl rfl (any_of HT_.out (by kernel_rfl)) (fun _ _ _ h => h) (Or.inl ⟨by rfl, ?_⟩) ?_ ?_; rotate_left
      ·intro w'; go_simp
       with_reducible rfl
      rotate_left
      ·simp only [Act.put, List.setIfInBounds_toArray, List.set_cons_zero, List.set_cons_succ, i64_w, i32_w]; rfl
      refine pure_ (i := 2) (N := some 23) (v := ?_) (a' := ?_) #[true, false, true, false, false, false, false, false, false, false, false, false, false] rfl rfl (any_of HT_.out (by kernel_rfl)) (fun _ _ _ h => h) (Or.inl ⟨by rfl, ?_⟩) ?_ ?_; rotate_left
      ·intro w'; go_simp
       with_reducible rfl
      rotate_left
      ·simp only [Act.put, List.setIfInBounds_toArray, List.set_cons_zero, List.set_cons_succ, i64_w, i32_w]; rfl
      refine pure_ (i := 4) (N := some 25) (v := ?_) (a' := ?_) #[true, false, true, false, true, false, false, false, false, false, false, false, false] rfl rfl (any_of HT_.out (by kernel_rfl)) (fun _ _ _ h => h) (Or.inl ⟨by rfl, ?_⟩) ?_ ?_; rotate_left
      ·intro w'; go_simp
       with_reducible rfl
      rotate_left
      ·simp only [Act.put, List.setIfInBounds_toArray, List.set_cons_zero, List.set_cons_succ, i64_w, i32_w]; rfl
      refine pure_ (i := 6) (N := some 27) (v := ?_) (a' := ?_) #[true, false, true, false, true, false, true, false, false, false, false, false, false] rfl rfl (any_of HT_.out (by kernel_rfl)) (fun _ _ _ h => h) (Or.inl ⟨by rfl, ?_⟩) ?_ ?_; rotate_left
      ·intro w'; go_simp
       with_reducible rfl
      rotate_left
      ·simp only [Act.put, List.setIfInBounds_toArray, List.set_cons_zero, List.set_cons_succ, i64_w, i32_w]; rfl
      refine pure_ (i := 8) (N := some 29) (v := ?_) (a' := ?_) #[true, false, true, false, true, false, true, false, true, false, false, false, false] rfl rfl (any_of HT_.out (by kernel_rfl)) (fun _ _ _ h => h) (Or.inl ⟨by rfl, ?_⟩) ?_ ?_; rotate_left
      ·intro w'; go_simp
       with_reducible rfl
      rotate_left
      ·simp only [Act.put, List.setIfInBounds_toArray, List.set_cons_zero, List.set_cons_succ, i64_w, i32_w]; rfl
      refine take_ (i := 1) (N := some 22) (v := ?_) (a' := ?_) #[true, true, true, false, true, false, true, false, true, false, false, false, false] rfl rfl (take_ofW HT_.out HW_.out (by kernel_rfl)) (fun _ _ _ h => h) (Or.inl ⟨by rfl, ?_⟩) hHeld ?_ ?_; rotate_left
      ·rintro w' ⟨s0, s1, s2⟩; go_simp
       with_reducible rfl
      rotate_left
      ·simp only [Act.put, List.setIfInBounds_toArray, List.set_cons_zero, List.set_cons_succ, i64_w, i32_w]; rfl
      refine pure_ (i := 3) (N := some 24) (v := ?_) (a' := ?_) #[true, true, true, true, true, false, true, false, true, false, false, false, false] rfl rfl (any_of HT_.out (by kernel_rfl)) (fun _ _ _ h => h) (Or.inl ⟨by rfl, ?_⟩) ?_ ?_; rotate_left
      ·intro w'; go_simp
       with_reducible rfl
      rotate_left
      ·simp only [Act.put, List.setIfInBounds_toArray, List.set_cons_zero, List.set_cons_succ, i64_w, i32_w]; rfl
      refine take_ (i := 5) (N := some 26) (v := ?_) (a' := ?_) #[true, true, true, true, true, true, true, false, true, false, false, false, false] rfl rfl (take_ofW HT_.out HW_.out (by kernel_rfl)) (fun _ _ _ h => h) (Or.inl ⟨by rfl, ?_⟩) hHeld ?_ ?_; rotate_left
      ·rintro w' ⟨s0, s1, s2⟩; go_simp
       with_reducible rfl
      rotate_left
      ·simp only [Act.put, List.setIfInBounds_toArray, List.set_cons_zero, List.set_cons_succ, i64_w, i32_w]; rfl
      refine pure_ (i := 7) (N := some 28) (v := ?_) (a' := ?_) #[true, true, true, true, true, true, true, true, true, false, false, false, false] rfl rfl (any_of HT_.out (by kernel_rfl)) (fun _ _ _ h => h) (Or.inl ⟨by rfl, ?_⟩) ?_ ?_; rotate_left
      ·intro w'; go_simp
       with_reducible rfl
      rotate_left
      ·simp only [Act.put, List.setIfInBounds_toArray, List.set_cons_zero, List.set_cons_succ, i64_w, i32_w]; rfl
      refine take_ (i := 9) (N := some 30) (v := ?_) (a' := ?_) #[true, true, true, true, true, true, true, true, true, true, false, false, false] rfl rfl (take_ofW HT_.out HW_.out (by kernel_rfl)) (fun _ _ _ h => h) (Or.inl ⟨by rfl, ?_⟩) hHeld ?_ ?_; rotate_left
      ·rintro w' ⟨s0, s1, s2⟩; go_simp
       with_reducible rfl
      rotate_left
      ·simp only [Act.put, List.setIfInBounds_toArray, List.set_cons_zero, List.set_cons_succ, i64_w, i32_w]; rfl
      refine pure_ (i := 10) (N := some 31) (v := ?_) (a' := ?_) #[true, true, true, true, true, true, true, true, true, true, true, false, false] rfl rfl (any_of HT_.out (by kernel_rfl)) (fun _ _ _ h => h) (Or.inl ⟨by rfl, ?_⟩) ?_ ?_; rotate_left
      ·intro w'; go_simp
       with_reducible rfl
      rotate_left
      ·simp only [Act.put, List.setIfInBounds_toArray, List.set_cons_zero, List.set_cons_succ, i64_w, i32_w]; rfl
      refine one_ (i := 11) (N := none) #[true, true, true, true, true, true, true, true, true, true, true, true, false] rfl rfl (one_of HT_.out (by kernel_rfl)) (by decide) (fun K hK => ?_); have hs31 : w30.cell? ⟨gb80002, 0, none⟩ = some (.string (⟨#[]⟩ : ByteArray)) := (blk_cell BK80002.out 0).trans rfl; have hfs31 := blk_frozen BK80002.out 0; have hns31_0 := NB80001_80002.out; have hms31_0 := NB80002_80001.out; have hs32 : w30.cell? ⟨gb80002, 1, none⟩ = some (.string (⟨#[]⟩ : ByteArray)) := (blk_cell BK80002.out 1).trans rfl; have hfs32 := blk_frozen BK80002.out 1; have hns32_0 := NB80001_80002.out; have hms32_0 := NB80002_80001.out; have hs33 : w30.cell? ⟨gb80002, 2, none⟩ = some (.int .i64 0) := (blk_cell BK80002.out 2).trans rfl; have hfs33 := blk_frozen BK80002.out 2; have hns33_0 := NB80001_80002.out; have hms33_0 := NB80002_80001.out; refine skip_ (w1 := ?_) (by rfl) rfl ?_ ?_; rotate_left
      ·go_simp; rfl
      refine hK.out _ _ ⟨((cell_far (p := ⟨gb80002, _, none⟩) NB80001_80002.out _).trans (((cell_far (p := ⟨gb80002, _, none⟩) NB80001_80002.out _).trans (((cell_far (p := ⟨gb80002, _, none⟩) NB80001_80002.out _).trans (hHeld.1)))))), ((cell_far (p := ⟨gb80002, _, none⟩) NB80001_80002.out _).trans (((cell_far (p := ⟨gb80002, _, none⟩) NB80001_80002.out _).trans (((cell_far (p := ⟨gb80002, _, none⟩) NB80001_80002.out _).trans (hHeld.2.1)))))), ((cell_far (p := ⟨gb80002, _, none⟩) NB80001_80002.out _).trans (((cell_far (p := ⟨gb80002, _, none⟩) NB80001_80002.out _).trans (((cell_far (p := ⟨gb80002, _, none⟩) NB80001_80002.out _).trans (hHeld.2.2))))))⟩ (fun hHeld => ?_); clear hK K; refine pure_ (i := 12) (N := some 5) (v := ?_) (a' := ?_) #[true, true, true, true, true, true, true, true, true, true, true, true, true] rfl rfl (any_of HT_.out (by kernel_rfl)) (fun _ _ _ h => h) (Or.inl ⟨by rfl, ?_⟩) ?_ ?_; rotate_left
      ·intro w'; go_simp
       with_reducible rfl
      rotate_left
      ·simp only [Act.put, List.setIfInBounds_toArray, List.set_cons_zero, List.set_cons_succ, i64_w, i32_w]; rfl
      refine done_ (done_of HT_.out (by kernel_rfl)) ?_
      try go_wp2
      refine bodyPost_ret (results_ct rfl _ _ gb80002 24 #[.string (a0_1.extract 0 (a1 : Int).toNat), .string (a0_1.extract 0 (a1 : Int).toNat), .int .i64 a0_2] (0, 0) _ rfl (by (with_reducible repeat (first | refine blk_drewN ?_ _ | refine blk_drew ?_ | refine blk_alloc ?_ _)); refine blk_put (cs := #[.string (a0_1.extract 0 (a1 : Int).toNat), .string (a0_1.extract 0 (a1 : Int).toNat), .int .i64 0]) ?_ 2 _ rfl; (with_reducible repeat (first | refine blk_drewN ?_ _ | refine blk_drew ?_ | refine blk_alloc ?_ _)); refine blk_put (cs := #[.string (a0_1.extract 0 (a1 : Int).toNat), .string (⟨#[]⟩ : ByteArray), .int .i64 0]) ?_ 1 _ rfl; (with_reducible repeat (first | refine blk_drewN ?_ _ | refine blk_drew ?_ | refine blk_alloc ?_ _)); refine blk_put (cs := #[.string (⟨#[]⟩ : ByteArray), .string (⟨#[]⟩ : ByteArray), .int .i64 0]) ?_ 0 _ rfl; (with_reducible repeat (first | refine blk_drewN ?_ _ | refine blk_drew ?_ | refine blk_alloc ?_ _)); exact BK80002.out) Try.underlying24 rfl (by kernel_rfl)) rfl ?_; exact ⟨by first | rfl | (simp [errW_none, errW_some] <;> rfl) | (simp [*, errW_none, errW_some] <;> rfl), by repeat (first | (with_reducible first | exact HB.out | apply below_alloc | apply pw_below_drewN | apply below_drew1 | refine below_set ?_ GE80001.out | refine below_set ?_ GE80002.out) | exact HB.out)⟩
     ·rw [if_neg c21] at H; exact absurd H (by simp)
    ·rw [if_neg c20] at H; exact absurd H (by simp)
 ·replace c4 := Bool.eq_false_iff.mpr c4; subst c4; have H1 : (some ((⟨#[]⟩ : ByteArray), (⟨#[]⟩ : ByteArray), 0, 9)) = some (r1, r2, r3, r4) := by rw [if_neg (show ¬ (false = true) by decide)] at H; exact H
  clear H; have H := H1; clear H1; simp only [Option.some.injEq, Prod.mk.injEq] at H; obtain ⟨rfl, rfl, rfl, rfl⟩ := H
  go_enter Try.func8, Try.ntmps8
  go_wp2_with (first | ((with_reducible refine gate_dst (N := 2) rfl ?_); (try (refine gate_guard (by rfl) ?_; dsimp only)); refine box_event ?hg (N := 2) ?hd (cs := #[.string a0_0, .string a0_1, .int .i64 a0_2]) (t := 24) ?hr ?_; (case hd => rfl); (case hg => rfl); (case hr => first | (go_simp; done) | (go_simp; rfl)); intro gb80001 hg w34 hbox hb; have n0_ := Aside0.mk (below_step (by repeat (first | (with_reducible first | exact HB.out | apply below_alloc | apply pw_below_drewN | apply below_drew1) | exact HB.out)) hb); have n1_ := Aside0.mk (hbox); have n2_ := Aside0.mk ((by rw [hg]; exact (below_size (by repeat (first | (with_reducible first | exact HB.out | apply below_alloc | apply pw_below_drewN | apply below_drew1) | exact HB.out))) : w.heap.size ≤ gb80001)); have n3_ := Aside0.mk ((by rw [hg]; exact (below_size (by repeat (first | (with_reducible first | exact HB.out | apply below_alloc | apply pw_below_drewN | apply below_drew1) | exact HB.out))) : w.heap.size ≤ gb80001)); clear HB; have HB := n0_; have BK80001 := n1_; have GW80001 := n2_; have GE80001 := n3_; clear n0_ n1_ n2_ n3_; clear hb hbox hg) | ((with_reducible refine gate_dst (N := 4) rfl ?_); (try (refine gate_guard (by rfl) ?_; dsimp only)); refine box_event ?hg (N := 4) ?hd (cs := #[.string (⟨#[]⟩ : ByteArray), .string (⟨#[]⟩ : ByteArray), .int .i64 0]) (t := 24) ?hr ?_; (case hd => rfl); (case hg => rfl); (case hr => first | (go_simp; done) | (go_simp; rfl)); intro gb80002 hg w35 hbox hb; have n0_ := Aside0.mk (blk_below (g := gb80001) (o := .cells #[.string a0_0, .string a0_1, .int .i64 a0_2] 24 (0, 0)) (by (with_reducible repeat (first | refine blk_drewN ?_ _ | refine blk_drew ?_ | refine blk_alloc ?_ _)); exact BK80001.out) hb); have n1_ := Aside0.mk (below_step (by repeat (first | (with_reducible first | exact HB.out | apply below_alloc | apply pw_below_drewN | apply below_drew1 | refine below_set ?_ GE80001.out) | exact HB.out)) hb); have n2_ := Aside0.mk (hbox); have n3_ := Aside0.mk ((by rw [hg]; exact (below_size (by repeat (first | (with_reducible first | exact HB.out | apply below_alloc | apply pw_below_drewN | apply below_drew1 | refine below_set ?_ GE80001.out) | exact HB.out))) : w.heap.size ≤ gb80002)); have n4_ := Aside0.mk ((by rw [hg]; exact (below_size (by repeat (first | (with_reducible first | exact HB.out | apply below_alloc | apply pw_below_drewN | apply below_drew1 | refine below_set ?_ GE80001.out) | exact HB.out))) : w.heap.size ≤ gb80002)); have n5_ := Aside0.mk ((by rw [hg]; exact Nat.ne_of_lt (blk_lt (g := gb80001) (o := .cells #[.string a0_0, .string a0_1, .int .i64 a0_2] 24 (0, 0)) (by (with_reducible repeat (first | refine blk_drewN ?_ _ | refine blk_drew ?_ | refine blk_alloc ?_ _)); exact BK80001.out)) : gb80001 ≠ gb80002)); have n6_ := Aside0.mk ((by rw [hg]; exact Nat.ne_of_gt (blk_lt (g := gb80001) (o := .cells #[.string a0_0, .string a0_1, .int .i64 a0_2] 24 (0, 0)) (by (with_reducible repeat (first | refine blk_drewN ?_ _ | refine blk_drew ?_ | refine blk_alloc ?_ _)); exact BK80001.out)) : gb80002 ≠ gb80001)); clear BK80001; clear HB; have BK80001 := n0_; have HB := n1_; have BK80002 := n2_; have GW80002 := n3_; have GE80002 := n4_; have NB80001_80002 := n5_; have NB80002_80001 := n6_; clear n0_ n1_ n2_ n3_ n4_ n5_ n6_; clear hb hbox hg; have hnb36 := NB80001_80002.out; have hnc36 := NB80002_80001.out; have hcz37_0 : w35.cell? ⟨gb80001, 0, none⟩ = some (.string a0_0) := (blk_cell BK80001.out 0).trans rfl; have hcz37_1 : w35.cell? ⟨gb80001, 1, none⟩ = some (.string a0_1) := (blk_cell BK80001.out 1).trans rfl; have hcz37_2 : w35.cell? ⟨gb80001, 2, none⟩ = some (.int .i64 a0_2) := (blk_cell BK80001.out 2).trans rfl; have hfz37_0 := blk_frozen BK80001.out 0; have hfz37_1 := blk_frozen BK80001.out 1; have hfz37_2 := blk_frozen BK80001.out 2) | ((with_reducible refine gate_callee (f := 13) rfl ?_); refine goesL_ (some 7) rfl rfl Try.func13 (by kernel_rfl) rfl #[.agg #[.string a0_0, .string a0_1, .int .i64 a0_2]] rfl (by (try simp only [List.map_toArray, List.map_cons, List.map_nil]); first | done | rfl | (simp only [List.length_drop, List.length_take]; rfl)) ?_; (with_reducible refine (impl_Disk_valid.calls a0_0 a0_1 a0_2 false _ A3.out).mono ?_); rintro e w38 ⟨rfl, hb⟩; refine ⟨_, rfl, ?_⟩; have n0_ := Aside0.mk (blk_below (g := gb80001) (o := .cells #[.string a0_0, .string a0_1, .int .i64 a0_2] 24 (0, 0)) (by (with_reducible repeat (first | refine blk_drewN ?_ _ | refine blk_drew ?_ | refine blk_alloc ?_ _)); exact BK80001.out) hb); have n1_ := Aside0.mk (blk_below (g := gb80002) (o := .cells #[.string (⟨#[]⟩ : ByteArray), .string (⟨#[]⟩ : ByteArray), .int .i64 0] 24 (0, 0)) (by (with_reducible repeat (first | refine blk_drewN ?_ _ | refine blk_drew ?_ | refine blk_alloc ?_ _)); exact BK80002.out) hb); have n2_ := Aside0.mk (below_step (by repeat (first | (with_reducible first | exact HB.out | apply below_alloc | apply pw_below_drewN | apply below_drew1 | refine below_set ?_ GE80001.out | refine below_set ?_ GE80002.out) | exact HB.out)) hb); clear BK80001; clear BK80002; clear HB; have BK80001 := n0_; have BK80002 := n1_; have HB := n2_; clear n0_ n1_ n2_; (try clear hb); (try clear hb2); (try clear hk); (try clear hi); have hcz39_0 : w38.cell? ⟨gb80002, 0, none⟩ = some (.string (⟨#[]⟩ : ByteArray)) := (blk_cell BK80002.out 0).trans rfl; have hcz39_1 : w38.cell? ⟨gb80002, 1, none⟩ = some (.string (⟨#[]⟩ : ByteArray)) := (blk_cell BK80002.out 1).trans rfl; have hcz39_2 : w38.cell? ⟨gb80002, 2, none⟩ = some (.int .i64 0) := (blk_cell BK80002.out 2).trans rfl; have hfz39_0 := blk_frozen BK80002.out 0; have hfz39_1 := blk_frozen BK80002.out 1; have hfz39_2 := blk_frozen BK80002.out 2))
  refine bodyPost_ret (results_ct rfl _ _ gb80002 24 #[.string (⟨#[]⟩ : ByteArray), .string (⟨#[]⟩ : ByteArray), .int .i64 0] (0, 0) _ rfl (by (with_reducible repeat (first | refine blk_drewN ?_ _ | refine blk_drew ?_ | refine blk_alloc ?_ _)); refine blk_put (cs := #[.string (⟨#[]⟩ : ByteArray), .string (⟨#[]⟩ : ByteArray), .int .i64 0]) ?_ 2 _ rfl; (with_reducible repeat (first | refine blk_drewN ?_ _ | refine blk_drew ?_ | refine blk_alloc ?_ _)); refine blk_put (cs := #[.string (⟨#[]⟩ : ByteArray), .string (⟨#[]⟩ : ByteArray), .int .i64 0]) ?_ 1 _ rfl; (with_reducible repeat (first | refine blk_drewN ?_ _ | refine blk_drew ?_ | refine blk_alloc ?_ _)); refine blk_put (cs := #[.string (⟨#[]⟩ : ByteArray), .string (⟨#[]⟩ : ByteArray), .int .i64 0]) ?_ 0 _ rfl; (with_reducible repeat (first | refine blk_drewN ?_ _ | refine blk_drew ?_ | refine blk_alloc ?_ _)); exact BK80002.out) Try.underlying24 rfl (by kernel_rfl)) rfl ?_; exact ⟨by first | rfl | (simp [errW_none, errW_some] <;> rfl) | (simp [*, errW_none, errW_some] <;> rfl), by repeat (first | (with_reducible first | exact HB.out | apply below_alloc | apply pw_below_drewN | apply below_drew1 | refine below_set ?_ GE80001.out | refine below_set ?_ GE80002.out) | exact HB.out)⟩
end Go.Proofs.Ytaepebkeijmjgaa.Z
end
section
namespace Go.Proofs.Ytaepebkeijmjgaa.Z
open Go.RowKit Go.Proofs.YtaepebkeijmjgaaW.PrintWords Go.Proofs.YtaepebkeijmjgaaW.PrintLast Go.Proofs.YtaepebkeijmjgaaW.PrintMore
attribute [local go_sem] max2_int min2_int max_two min_two max_three min_three max_four min_four
set_option linter.unusedVariables false
set_option linter.unusedSimpArgs false
def impl_DiskSync.f (a0_0 : ByteArray) (a0_1 : ByteArray) (a0_2 : Int) : Option (ByteArray × ByteArray × Int × Int) := (impl_Disk_valid.f a0_0 a0_1 a0_2).bind fun t60003 => (if t60003 = true then (some (a0_1, a0_1, a0_2, 0)) else (some ((⟨#[]⟩ : ByteArray), (⟨#[]⟩ : ByteArray), 0, 9)))
set_option maxHeartbeats 8000000 in
set_option maxRecDepth 100000 in
theorem impl_DiskSync.calls (a0_0 : ByteArray) (a0_1 : ByteArray) (a0_2 : Int) (r1 : ByteArray) (r2 : ByteArray) (r3 : Int) (r4 : Int) (w : World) (h : impl_DiskSync.f a0_0 a0_1 a0_2 = some (r1, r2, r3, r4)) :
  Calls Try.prog 6 #[.agg #[.string a0_0, .string a0_1, .int .i64 a0_2]] w fun e w' => e = .returned (.tuple #[.agg #[.string r1, .string r2, .int .i64 r3], .int .i64 r4]) ∧ Below w.heap.size w w' := by
 have hu24 := Try.underlying24; have HB := Aside0.mk (Below.refl w.heap.size w); have H : ((impl_Disk_valid.f a0_0 a0_1 a0_2).bind fun t60003 => (if t60003 = true then (some (a0_1, a0_1, a0_2, 0)) else (some ((⟨#[]⟩ : ByteArray), (⟨#[]⟩ : ByteArray), 0, 9)))) = some (r1, r2, r3, r4) := h; clear h; replace H := Option.bind_eq_some_iff.mp H; obtain ⟨t60003, A20, H⟩ := H; replace H : (if t60003 = true then (some (a0_1, a0_1, a0_2, 0)) else (some ((⟨#[]⟩ : ByteArray), (⟨#[]⟩ : ByteArray), 0, 9))) = some (r1, r2, r3, r4) := H; have A2 := Aside0.mk A20; clear A20
 by_cases c3 : t60003 = true
 ·subst c3; have H1 : (some (a0_1, a0_1, a0_2, 0)) = some (r1, r2, r3, r4) := by rw [if_pos rfl] at H; exact H
  clear H; have H := H1; clear H1; simp only [Option.some.injEq, Prod.mk.injEq] at H; obtain ⟨rfl, rfl, rfl, rfl⟩ := H
  go_enter Try.func6, Try.ntmps6
  go_wp2_with (first | ((with_reducible refine gate_dst (N := 1) rfl ?_); refine box_event ?hg (N := 1) ?hd (cs := #[.string a0_0, .string a0_1, .int .i64 a0_2]) (t := 24) ?hr ?_; (case hd => rfl); (case hg => rfl); (case hr => first | (go_simp; done) | (go_simp; rfl)); intro gb60001 hg w4 hbox hb; have n0_ := Aside0.mk (below_step (by repeat (first | (with_reducible first | exact HB.out | apply below_alloc | apply pw_below_drewN | apply below_drew1) | exact HB.out)) hb); have n1_ := Aside0.mk (hbox); have n2_ := Aside0.mk ((by rw [hg]; exact (below_size (by repeat (first | (with_reducible first | exact HB.out | apply below_alloc | apply pw_below_drewN | apply below_drew1) | exact HB.out))) : w.heap.size ≤ gb60001)); have n3_ := Aside0.mk ((by rw [hg]; exact (below_size (by repeat (first | (with_reducible first | exact HB.out | apply below_alloc | apply pw_below_drewN | apply below_drew1) | exact HB.out))) : w.heap.size ≤ gb60001)); clear HB; have HB := n0_; have BK60001 := n1_; have GW60001 := n2_; have GE60001 := n3_; clear n0_ n1_ n2_ n3_; clear hb hbox hg) | ((with_reducible refine gate_dst (N := 2) rfl ?_); refine box_event ?hg (N := 2) ?hd (cs := #[.string (⟨#[]⟩ : ByteArray), .string (⟨#[]⟩ : ByteArray), .int .i64 0]) (t := 24) ?hr ?_; (case hd => rfl); (case hg => rfl); (case hr => first | (go_simp; done) | (go_simp; rfl)); intro gb60002 hg w5 hbox hb; have n0_ := Aside0.mk (blk_below (g := gb60001) (o := .cells #[.string a0_0, .string a0_1, .int .i64 a0_2] 24 (0, 0)) (by (with_reducible repeat (first | refine blk_drewN ?_ _ | refine blk_drew ?_ | refine blk_alloc ?_ _)); exact BK60001.out) hb); have n1_ := Aside0.mk (below_step (by repeat (first | (with_reducible first | exact HB.out | apply below_alloc | apply pw_below_drewN | apply below_drew1 | refine below_set ?_ GE60001.out) | exact HB.out)) hb); have n2_ := Aside0.mk (hbox); have n3_ := Aside0.mk ((by rw [hg]; exact (below_size (by repeat (first | (with_reducible first | exact HB.out | apply below_alloc | apply pw_below_drewN | apply below_drew1 | refine below_set ?_ GE60001.out) | exact HB.out))) : w.heap.size ≤ gb60002)); have n4_ := Aside0.mk ((by rw [hg]; exact (below_size (by repeat (first | (with_reducible first | exact HB.out | apply below_alloc | apply pw_below_drewN | apply below_drew1 | refine below_set ?_ GE60001.out) | exact HB.out))) : w.heap.size ≤ gb60002)); have n5_ := Aside0.mk ((by rw [hg]; exact Nat.ne_of_lt (blk_lt (g := gb60001) (o := .cells #[.string a0_0, .string a0_1, .int .i64 a0_2] 24 (0, 0)) (by (with_reducible repeat (first | refine blk_drewN ?_ _ | refine blk_drew ?_ | refine blk_alloc ?_ _)); exact BK60001.out)) : gb60001 ≠ gb60002)); have n6_ := Aside0.mk ((by rw [hg]; exact Nat.ne_of_gt (blk_lt (g := gb60001) (o := .cells #[.string a0_0, .string a0_1, .int .i64 a0_2] 24 (0, 0)) (by (with_reducible repeat (first | refine blk_drewN ?_ _ | refine blk_drew ?_ | refine blk_alloc ?_ _)); exact BK60001.out)) : gb60002 ≠ gb60001)); clear BK60001; clear HB; have BK60001 := n0_; have HB := n1_; have BK60002 := n2_; have GW60002 := n3_; have GE60002 := n4_; have NB60001_60002 := n5_; have NB60002_60001 := n6_; clear n0_ n1_ n2_ n3_ n4_ n5_ n6_; clear hb hbox hg; have hnb6 := NB60001_60002.out; have hnc6 := NB60002_60001.out; have hcz7_0 : w5.cell? ⟨gb60001, 0, none⟩ = some (.string a0_0) := (blk_cell BK60001.out 0).trans rfl; have hcz7_1 : w5.cell? ⟨gb60001, 1, none⟩ = some (.string a0_1) := (blk_cell BK60001.out 1).trans rfl; have hcz7_2 : w5.cell? ⟨gb60001, 2, none⟩ = some (.int .i64 a0_2) := (blk_cell BK60001.out 2).trans rfl; have hfz7_0 := blk_frozen BK60001.out 0; have hfz7_1 := blk_frozen BK60001.out 1; have hfz7_2 := blk_frozen BK60001.out 2) | ((with_reducible refine gate_callee (f := 13) rfl ?_); refine goesL_ (some 5) rfl rfl Try.func13 (by kernel_rfl) rfl #[.agg #[.string a0_0, .string a0_1, .int .i64 a0_2]] rfl (by (try simp only [List.map_toArray, List.map_cons, List.map_nil]); first | done | rfl | (simp only [List.length_drop, List.length_take]; rfl)) ?_; (with_reducible refine (impl_Disk_valid.calls a0_0 a0_1 a0_2 true _ A2.out).mono ?_); rintro e w8 ⟨rfl, hb⟩; refine ⟨_, rfl, ?_⟩; have n0_ := Aside0.mk (blk_below (g := gb60001) (o := .cells #[.string a0_0, .string a0_1, .int .i64 a0_2] 24 (0, 0)) (by (with_reducible repeat (first | refine blk_drewN ?_ _ | refine blk_drew ?_ | refine blk_alloc ?_ _)); exact BK60001.out) hb); have n1_ := Aside0.mk (blk_below (g := gb60002) (o := .cells #[.string (⟨#[]⟩ : ByteArray), .string (⟨#[]⟩ : ByteArray), .int .i64 0] 24 (0, 0)) (by (with_reducible repeat (first | refine blk_drewN ?_ _ | refine blk_drew ?_ | refine blk_alloc ?_ _)); exact BK60002.out) hb); have n2_ := Aside0.mk (below_step (by repeat (first | (with_reducible first | exact HB.out | apply below_alloc | apply pw_below_drewN | apply below_drew1 | refine below_set ?_ GE60001.out | refine below_set ?_ GE60002.out) | exact HB.out)) hb); clear BK60001; clear BK60002; clear HB; have BK60001 := n0_; have BK60002 := n1_; have HB := n2_; clear n0_ n1_ n2_; (try clear hb); (try clear hb2); (try clear hk); (try clear hi); have hcz9_0 : w8.cell? ⟨gb60001, 0, none⟩ = some (.string a0_0) := (blk_cell BK60001.out 0).trans rfl; have hcz9_1 : w8.cell? ⟨gb60001, 1, none⟩ = some (.string a0_1) := (blk_cell BK60001.out 1).trans rfl; have hcz9_2 : w8.cell? ⟨gb60001, 2, none⟩ = some (.int .i64 a0_2) := (blk_cell BK60001.out 2).trans rfl; have hfz9_0 := blk_frozen BK60001.out 0; have hfz9_1 := blk_frozen BK60001.out 1; have hfz9_2 := blk_frozen BK60001.out 2; have hcz10_0 : w8.cell? ⟨gb60002, 0, none⟩ = some (.string (⟨#[]⟩ : ByteArray)) := (blk_cell BK60002.out 0).trans rfl; have hcz10_1 : w8.cell? ⟨gb60002, 1, none⟩ = some (.string (⟨#[]⟩ : ByteArray)) := (blk_cell BK60002.out 1).trans rfl; have hcz10_2 : w8.cell? ⟨gb60002, 2, none⟩ = some (.int .i64 0) := (blk_cell BK60002.out 2).trans rfl; have hfz10_0 := blk_frozen BK60002.out 0; have hfz10_1 := blk_frozen BK60002.out 1; have hfz10_2 := blk_frozen BK60002.out 2))
  refine bodyPost_ret (results_ct rfl _ _ gb60002 24 #[.string a0_1, .string a0_1, .int .i64 a0_2] (0, 0) _ rfl (by (with_reducible repeat (first | refine blk_drewN ?_ _ | refine blk_drew ?_ | refine blk_alloc ?_ _)); refine blk_put (cs := #[.string a0_1, .string a0_1, .int .i64 0]) ?_ 2 _ rfl; (with_reducible repeat (first | refine blk_drewN ?_ _ | refine blk_drew ?_ | refine blk_alloc ?_ _)); refine blk_put (cs := #[.string a0_1, .string (⟨#[]⟩ : ByteArray), .int .i64 0]) ?_ 1 _ rfl; (with_reducible repeat (first | refine blk_drewN ?_ _ | refine blk_drew ?_ | refine blk_alloc ?_ _)); refine blk_put (cs := #[.string (⟨#[]⟩ : ByteArray), .string (⟨#[]⟩ : ByteArray), .int .i64 0]) ?_ 0 _ rfl; (with_reducible repeat (first | refine blk_drewN ?_ _ | refine blk_drew ?_ | refine blk_alloc ?_ _)); refine blk_far ?_ NB60002_60001.out _; (with_reducible repeat (first | refine blk_drewN ?_ _ | refine blk_drew ?_ | refine blk_alloc ?_ _)); exact BK60002.out) Try.underlying24 rfl (by kernel_rfl)) rfl ?_; exact ⟨by first | rfl | (simp [errW_none, errW_some] <;> rfl) | (simp [*, errW_none, errW_some] <;> rfl), by repeat (first | (with_reducible first | exact HB.out | apply below_alloc | apply pw_below_drewN | apply below_drew1 | refine below_set ?_ GE60001.out | refine below_set ?_ GE60002.out) | exact HB.out)⟩
 ·replace c3 := Bool.eq_false_iff.mpr c3; subst c3; have H1 : (some ((⟨#[]⟩ : ByteArray), (⟨#[]⟩ : ByteArray), 0, 9)) = some (r1, r2, r3, r4) := by rw [if_neg (show ¬ (false = true) by decide)] at H; exact H
  clear H; have H := H1; clear H1; simp only [Option.some.injEq, Prod.mk.injEq] at H; obtain ⟨rfl, rfl, rfl, rfl⟩ := H
  go_enter Try.func6, Try.ntmps6
  go_wp2_with (first | ((with_reducible refine gate_dst (N := 1) rfl ?_); refine box_event ?hg (N := 1) ?hd (cs := #[.string a0_0, .string a0_1, .int .i64 a0_2]) (t := 24) ?hr ?_; (case hd => rfl); (case hg => rfl); (case hr => first | (go_simp; done) | (go_simp; rfl)); intro gb60001 hg w11 hbox hb; have n0_ := Aside0.mk (below_step (by repeat (first | (with_reducible first | exact HB.out | apply below_alloc | apply pw_below_drewN | apply below_drew1) | exact HB.out)) hb); have n1_ := Aside0.mk (hbox); have n2_ := Aside0.mk ((by rw [hg]; exact (below_size (by repeat (first | (with_reducible first | exact HB.out | apply below_alloc | apply pw_below_drewN | apply below_drew1) | exact HB.out))) : w.heap.size ≤ gb60001)); have n3_ := Aside0.mk ((by rw [hg]; exact (below_size (by repeat (first | (with_reducible first | exact HB.out | apply below_alloc | apply pw_below_drewN | apply below_drew1) | exact HB.out))) : w.heap.size ≤ gb60001)); clear HB; have HB := n0_; have BK60001 := n1_; have GW60001 := n2_; have GE60001 := n3_; clear n0_ n1_ n2_ n3_; clear hb hbox hg) | ((with_reducible refine gate_dst (N := 2) rfl ?_); refine box_event ?hg (N := 2) ?hd (cs := #[.string (⟨#[]⟩ : ByteArray), .string (⟨#[]⟩ : ByteArray), .int .i64 0]) (t := 24) ?hr ?_; (case hd => rfl); (case hg => rfl); (case hr => first | (go_simp; done) | (go_simp; rfl)); intro gb60002 hg w12 hbox hb; have n0_ := Aside0.mk (blk_below (g := gb60001) (o := .cells #[.string a0_0, .string a0_1, .int .i64 a0_2] 24 (0, 0)) (by (with_reducible repeat (first | refine blk_drewN ?_ _ | refine blk_drew ?_ | refine blk_alloc ?_ _)); exact BK60001.out) hb); have n1_ := Aside0.mk (below_step (by repeat (first | (with_reducible first | exact HB.out | apply below_alloc | apply pw_below_drewN | apply below_drew1 | refine below_set ?_ GE60001.out) | exact HB.out)) hb); have n2_ := Aside0.mk (hbox); have n3_ := Aside0.mk ((by rw [hg]; exact (below_size (by repeat (first | (with_reducible first | exact HB.out | apply below_alloc | apply pw_below_drewN | apply below_drew1 | refine below_set ?_ GE60001.out) | exact HB.out))) : w.heap.size ≤ gb60002)); have n4_ := Aside0.mk ((by rw [hg]; exact (below_size (by repeat (first | (with_reducible first | exact HB.out | apply below_alloc | apply pw_below_drewN | apply below_drew1 | refine below_set ?_ GE60001.out) | exact HB.out))) : w.heap.size ≤ gb60002)); have n5_ := Aside0.mk ((by rw [hg]; exact Nat.ne_of_lt (blk_lt (g := gb60001) (o := .cells #[.string a0_0, .string a0_1, .int .i64 a0_2] 24 (0, 0)) (by (with_reducible repeat (first | refine blk_drewN ?_ _ | refine blk_drew ?_ | refine blk_alloc ?_ _)); exact BK60001.out)) : gb60001 ≠ gb60002)); have n6_ := Aside0.mk ((by rw [hg]; exact Nat.ne_of_gt (blk_lt (g := gb60001) (o := .cells #[.string a0_0, .string a0_1, .int .i64 a0_2] 24 (0, 0)) (by (with_reducible repeat (first | refine blk_drewN ?_ _ | refine blk_drew ?_ | refine blk_alloc ?_ _)); exact BK60001.out)) : gb60002 ≠ gb60001)); clear BK60001; clear HB; have BK60001 := n0_; have HB := n1_; have BK60002 := n2_; have GW60002 := n3_; have GE60002 := n4_; have NB60001_60002 := n5_; have NB60002_60001 := n6_; clear n0_ n1_ n2_ n3_ n4_ n5_ n6_; clear hb hbox hg; have hnb13 := NB60001_60002.out; have hnc13 := NB60002_60001.out; have hcz14_0 : w12.cell? ⟨gb60001, 0, none⟩ = some (.string a0_0) := (blk_cell BK60001.out 0).trans rfl; have hcz14_1 : w12.cell? ⟨gb60001, 1, none⟩ = some (.string a0_1) := (blk_cell BK60001.out 1).trans rfl; have hcz14_2 : w12.cell? ⟨gb60001, 2, none⟩ = some (.int .i64 a0_2) := (blk_cell BK60001.out 2).trans rfl; have hfz14_0 := blk_frozen BK60001.out 0; have hfz14_1 := blk_frozen BK60001.out 1; have hfz14_2 := blk_frozen BK60001.out 2) | ((with_reducible refine gate_callee (f := 13) rfl ?_); refine goesL_ (some 5) rfl rfl Try.func13 (by kernel_rfl) rfl #[.agg #[.string a0_0, .string a0_1, .int .i64 a0_2]] rfl (by (try simp only [List.map_toArray, List.map_cons, List.map_nil]); first | done | rfl | (simp only [List.length_drop, List.length_take]; rfl)) ?_; (with_reducible refine (impl_Disk_valid.calls a0_0 a0_1 a0_2 false _ A2.out).mono ?_); rintro e w15 ⟨rfl, hb⟩; refine ⟨_, rfl, ?_⟩; have n0_ := Aside0.mk (blk_below (g := gb60001) (o := .cells #[.string a0_0, .string a0_1, .int .i64 a0_2] 24 (0, 0)) (by (with_reducible repeat (first | refine blk_drewN ?_ _ | refine blk_drew ?_ | refine blk_alloc ?_ _)); exact BK60001.out) hb); have n1_ := Aside0.mk (blk_below (g := gb60002) (o := .cells #[.string (⟨#[]⟩ : ByteArray), .string (⟨#[]⟩ : ByteArray), .int .i64 0] 24 (0, 0)) (by (with_reducible repeat (first | refine blk_drewN ?_ _ | refine blk_drew ?_ | refine blk_alloc ?_ _)); exact BK60002.out) hb); have n2_ := Aside0.mk (below_step (by repeat (first | (with_reducible first | exact HB.out | apply below_alloc | apply pw_below_drewN | apply below_drew1 | refine below_set ?_ GE60001.out | refine below_set ?_ GE60002.out) | exact HB.out)) hb); clear BK60001; clear BK60002; clear HB; have BK60001 := n0_; have BK60002 := n1_; have HB := n2_; clear n0_ n1_ n2_; (try clear hb); (try clear hb2); (try clear hk); (try clear hi); have hcz16_0 : w15.cell? ⟨gb60002, 0, none⟩ = some (.string (⟨#[]⟩ : ByteArray)) := (blk_cell BK60002.out 0).trans rfl; have hcz16_1 : w15.cell? ⟨gb60002, 1, none⟩ = some (.string (⟨#[]⟩ : ByteArray)) := (blk_cell BK60002.out 1).trans rfl; have hcz16_2 : w15.cell? ⟨gb60002, 2, none⟩ = some (.int .i64 0) := (blk_cell BK60002.out 2).trans rfl; have hfz16_0 := blk_frozen BK60002.out 0; have hfz16_1 := blk_frozen BK60002.out 1; have hfz16_2 := blk_frozen BK60002.out 2))
  refine bodyPost_ret (results_ct rfl _ _ gb60002 24 #[.string (⟨#[]⟩ : ByteArray), .string (⟨#[]⟩ : ByteArray), .int .i64 0] (0, 0) _ rfl (by (with_reducible repeat (first | refine blk_drewN ?_ _ | refine blk_drew ?_ | refine blk_alloc ?_ _)); refine blk_put (cs := #[.string (⟨#[]⟩ : ByteArray), .string (⟨#[]⟩ : ByteArray), .int .i64 0]) ?_ 2 _ rfl; (with_reducible repeat (first | refine blk_drewN ?_ _ | refine blk_drew ?_ | refine blk_alloc ?_ _)); refine blk_put (cs := #[.string (⟨#[]⟩ : ByteArray), .string (⟨#[]⟩ : ByteArray), .int .i64 0]) ?_ 1 _ rfl; (with_reducible repeat (first | refine blk_drewN ?_ _ | refine blk_drew ?_ | refine blk_alloc ?_ _)); refine blk_put (cs := #[.string (⟨#[]⟩ : ByteArray), .string (⟨#[]⟩ : ByteArray), .int .i64 0]) ?_ 0 _ rfl; (with_reducible repeat (first | refine blk_drewN ?_ _ | refine blk_drew ?_ | refine blk_alloc ?_ _)); exact BK60002.out) Try.underlying24 rfl (by kernel_rfl)) rfl ?_; exact ⟨by first | rfl | (simp [errW_none, errW_some] <;> rfl) | (simp [*, errW_none, errW_some] <;> rfl), by repeat (first | (with_reducible first | exact HB.out | apply below_alloc | apply pw_below_drewN | apply below_drew1 | refine below_set ?_ GE60001.out | refine below_set ?_ GE60002.out) | exact HB.out)⟩
end Go.Proofs.Ytaepebkeijmjgaa.Z
end
section
namespace Go.Proofs.Ytaepebkeijmjgaa.Z
open Go.RowKit Go.Proofs.YtaepebkeijmjgaaW.PrintWords Go.Proofs.YtaepebkeijmjgaaW.PrintLast Go.Proofs.YtaepebkeijmjgaaW.PrintMore
attribute [local go_sem] max2_int min2_int max_two min_two max_three min_three max_four min_four
set_option linter.unusedVariables false
set_option linter.unusedSimpArgs false
def spec_l3DiskOk.f (a0_0 : ByteArray) (a0_1 : ByteArray) (a0_2 : Int) : Option (Bool) := if a0_2 < 0 then (some false) else (if a0_2 > 1048576 then (some false) else (if (a0_1.size : Int) > a0_2 then (some false) else (if (a0_0.size : Int) > (a0_1.size : Int) then (some false) else (if 0 ≤ (a0_0.size : Int) then (if (a0_0.size : Int) ≤ (a0_1.size : Int) then (some ((a0_1.extract 0 ((a0_0.size : Int) : Int).toNat).toList == a0_0.toList)) else (none)) else (none)))))
set_option maxHeartbeats 8000000 in
set_option maxRecDepth 100000 in
theorem spec_l3DiskOk.calls (a0_0 : ByteArray) (a0_1 : ByteArray) (a0_2 : Int) (r : Bool) (w : World) (h : spec_l3DiskOk.f a0_0 a0_1 a0_2 = some r) :
  Calls Try.prog 12 #[.agg #[.string a0_0, .string a0_1, .int .i64 a0_2]] w fun e w' => e = .returned (.bool r) ∧ Below w.heap.size w w' := by
 have hu24 := Try.underlying24; have HB := Aside0.mk (Below.refl w.heap.size w); have H : (if a0_2 < 0 then (some false) else (if a0_2 > 1048576 then (some false) else (if (a0_1.size : Int) > a0_2 then (some false) else (if (a0_0.size : Int) > (a0_1.size : Int) then (some false) else (if 0 ≤ (a0_0.size : Int) then (if (a0_0.size : Int) ≤ (a0_1.size : Int) then (some ((a0_1.extract 0 ((a0_0.size : Int) : Int).toNat).toList == a0_0.toList)) else (none)) else (none)))))) = some r := h; clear h
 by_cases c2 : a0_2 < 0
 ·rw [if_pos c2] at H; have c2b0 : decide (a0_2 < 0) = true := decide_eq_true c2; clear c2; obtain rfl := Option.some.inj H
  go_enter Try.func12, Try.ntmps12
  go_wp2_with (first | ((with_reducible refine gate_dst (N := 1) rfl ?_); (try (refine gate_guard (by rfl) ?_; dsimp only)); refine box_event ?hg (N := 1) ?hd (cs := #[.string a0_0, .string a0_1, .int .i64 a0_2]) (t := 24) ?hr ?_; (case hd => rfl); (case hg => rfl); (case hr => first | (go_simp; done) | (go_simp; rfl)); intro gb120001 hg w3 hbox hb; have n0_ := Aside0.mk (below_step (by repeat (first | (with_reducible first | exact HB.out | apply below_alloc | apply pw_below_drewN | apply below_drew1) | exact HB.out)) hb); have n1_ := Aside0.mk (hbox); have n2_ := Aside0.mk ((by rw [hg]; exact (below_size (by repeat (first | (with_reducible first | exact HB.out | apply below_alloc | apply pw_below_drewN | apply below_drew1) | exact HB.out))) : w.heap.size ≤ gb120001)); have n3_ := Aside0.mk ((by rw [hg]; exact (below_size (by repeat (first | (with_reducible first | exact HB.out | apply below_alloc | apply pw_below_drewN | apply below_drew1) | exact HB.out))) : w.heap.size ≤ gb120001)); clear HB; have HB := n0_; have BK120001 := n1_; have GW120001 := n2_; have GE120001 := n3_; clear n0_ n1_ n2_ n3_; clear hb hbox hg; have hcz4_0 : w3.cell? ⟨gb120001, 0, none⟩ = some (.string a0_0) := (blk_cell BK120001.out 0).trans rfl; have hcz4_1 : w3.cell? ⟨gb120001, 1, none⟩ = some (.string a0_1) := (blk_cell BK120001.out 1).trans rfl; have hcz4_2 : w3.cell? ⟨gb120001, 2, none⟩ = some (.int .i64 a0_2) := (blk_cell BK120001.out 2).trans rfl; have hfz4_0 := blk_frozen BK120001.out 0; have hfz4_1 := blk_frozen BK120001.out 1; have hfz4_2 := blk_frozen BK120001.out 2))
  repeat (go_quiet (first | ((with_reducible refine gate_dst (N := 1) rfl ?_); (try (refine gate_guard (by rfl) ?_; dsimp only)); refine box_event ?hg (N := 1) ?hd (cs := #[.string a0_0, .string a0_1, .int .i64 a0_2]) (t := 24) ?hr ?_; (case hd => rfl); (case hg => rfl); (case hr => first | (go_simp; done) | (go_simp; rfl)); intro gb120001 hg w3 hbox hb; have n0_ := Aside0.mk (below_step (by repeat (first | (with_reducible first | exact HB.out | apply below_alloc | apply pw_below_drewN | apply below_drew1) | exact HB.out)) hb); have n1_ := Aside0.mk (hbox); have n2_ := Aside0.mk ((by rw [hg]; exact (below_size (by repeat (first | (with_reducible first | exact HB.out | apply below_alloc | apply pw_below_drewN | apply below_drew1) | exact HB.out))) : w.heap.size ≤ gb120001)); have n3_ := Aside0.mk ((by rw [hg]; exact (below_size (by repeat (first | (with_reducible first | exact HB.out | apply below_alloc | apply pw_below_drewN | apply below_drew1) | exact HB.out))) : w.heap.size ≤ gb120001)); clear HB; have HB := n0_; have BK120001 := n1_; have GW120001 := n2_; have GE120001 := n3_; clear n0_ n1_ n2_ n3_; clear hb hbox hg; have hcz4_0 : w3.cell? ⟨gb120001, 0, none⟩ = some (.string a0_0) := (blk_cell BK120001.out 0).trans rfl; have hcz4_1 : w3.cell? ⟨gb120001, 1, none⟩ = some (.string a0_1) := (blk_cell BK120001.out 1).trans rfl; have hcz4_2 : w3.cell? ⟨gb120001, 2, none⟩ = some (.int .i64 a0_2) := (blk_cell BK120001.out 2).trans rfl; have hfz4_0 := blk_frozen BK120001.out 0; have hfz4_1 := blk_frozen BK120001.out 1; have hfz4_2 := blk_frozen BK120001.out 2)); try go_wp2_with (first | ((with_reducible refine gate_dst (N := 1) rfl ?_); (try (refine gate_guard (by rfl) ?_; dsimp only)); refine box_event ?hg (N := 1) ?hd (cs := #[.string a0_0, .string a0_1, .int .i64 a0_2]) (t := 24) ?hr ?_; (case hd => rfl); (case hg => rfl); (case hr => first | (go_simp; done) | (go_simp; rfl)); intro gb120001 hg w3 hbox hb; have n0_ := Aside0.mk (below_step (by repeat (first | (with_reducible first | exact HB.out | apply below_alloc | apply pw_below_drewN | apply below_drew1) | exact HB.out)) hb); have n1_ := Aside0.mk (hbox); have n2_ := Aside0.mk ((by rw [hg]; exact (below_size (by repeat (first | (with_reducible first | exact HB.out | apply below_alloc | apply pw_below_drewN | apply below_drew1) | exact HB.out))) : w.heap.size ≤ gb120001)); have n3_ := Aside0.mk ((by rw [hg]; exact (below_size (by repeat (first | (with_reducible first | exact HB.out | apply below_alloc | apply pw_below_drewN | apply below_drew1) | exact HB.out))) : w.heap.size ≤ gb120001)); clear HB; have HB := n0_; have BK120001 := n1_; have GW120001 := n2_; have GE120001 := n3_; clear n0_ n1_ n2_ n3_; clear hb hbox hg; have hcz4_0 : w3.cell? ⟨gb120001, 0, none⟩ = some (.string a0_0) := (blk_cell BK120001.out 0).trans rfl; have hcz4_1 : w3.cell? ⟨gb120001, 1, none⟩ = some (.string a0_1) := (blk_cell BK120001.out 1).trans rfl; have hcz4_2 : w3.cell? ⟨gb120001, 2, none⟩ = some (.int .i64 a0_2) := (blk_cell BK120001.out 2).trans rfl; have hfz4_0 := blk_frozen BK120001.out 0; have hfz4_1 := blk_frozen BK120001.out 1; have hfz4_2 := blk_frozen BK120001.out 2)))
  go_ret
  exact ⟨by first | rfl | (simp [errW_none, errW_some] <;> rfl) | (simp [*, errW_none, errW_some] <;> rfl), by repeat (first | (with_reducible first | exact HB.out | apply below_alloc | apply pw_below_drewN | apply below_drew1 | refine below_set ?_ GE120001.out) | exact HB.out)⟩
 ·rw [if_neg c2] at H; have c2b0 : decide (a0_2 < 0) = false := decide_eq_false c2; clear c2
  by_cases c5 : a0_2 > 1048576
  ·rw [if_pos c5] at H; have c5b0 : decide (1048576 < a0_2) = true := decide_eq_true c5; clear c5; obtain rfl := Option.some.inj H
   go_enter Try.func12, Try.ntmps12
   go_wp2_with (first | ((with_reducible refine gate_dst (N := 1) rfl ?_); (try (refine gate_guard (by rfl) ?_; dsimp only)); refine box_event ?hg (N := 1) ?hd (cs := #[.string a0_0, .string a0_1, .int .i64 a0_2]) (t := 24) ?hr ?_; (case hd => rfl); (case hg => rfl); (case hr => first | (go_simp; done) | (go_simp; rfl)); intro gb120001 hg w6 hbox hb; have n0_ := Aside0.mk (below_step (by repeat (first | (with_reducible first | exact HB.out | apply below_alloc | apply pw_below_drewN | apply below_drew1) | exact HB.out)) hb); have n1_ := Aside0.mk (hbox); have n2_ := Aside0.mk ((by rw [hg]; exact (below_size (by repeat (first | (with_reducible first | exact HB.out | apply below_alloc | apply pw_below_drewN | apply below_drew1) | exact HB.out))) : w.heap.size ≤ gb120001)); have n3_ := Aside0.mk ((by rw [hg]; exact (below_size (by repeat (first | (with_reducible first | exact HB.out | apply below_alloc | apply pw_below_drewN | apply below_drew1) | exact HB.out))) : w.heap.size ≤ gb120001)); clear HB; have HB := n0_; have BK120001 := n1_; have GW120001 := n2_; have GE120001 := n3_; clear n0_ n1_ n2_ n3_; clear hb hbox hg; have hcz7_0 : w6.cell? ⟨gb120001, 0, none⟩ = some (.string a0_0) := (blk_cell BK120001.out 0).trans rfl; have hcz7_1 : w6.cell? ⟨gb120001, 1, none⟩ = some (.string a0_1) := (blk_cell BK120001.out 1).trans rfl; have hcz7_2 : w6.cell? ⟨gb120001, 2, none⟩ = some (.int .i64 a0_2) := (blk_cell BK120001.out 2).trans rfl; have hfz7_0 := blk_frozen BK120001.out 0; have hfz7_1 := blk_frozen BK120001.out 1; have hfz7_2 := blk_frozen BK120001.out 2))
   repeat (go_quiet (first | ((with_reducible refine gate_dst (N := 1) rfl ?_); (try (refine gate_guard (by rfl) ?_; dsimp only)); refine box_event ?hg (N := 1) ?hd (cs := #[.string a0_0, .string a0_1, .int .i64 a0_2]) (t := 24) ?hr ?_; (case hd => rfl); (case hg => rfl); (case hr => first | (go_simp; done) | (go_simp; rfl)); intro gb120001 hg w6 hbox hb; have n0_ := Aside0.mk (below_step (by repeat (first | (with_reducible first | exact HB.out | apply below_alloc | apply pw_below_drewN | apply below_drew1) | exact HB.out)) hb); have n1_ := Aside0.mk (hbox); have n2_ := Aside0.mk ((by rw [hg]; exact (below_size (by repeat (first | (with_reducible first | exact HB.out | apply below_alloc | apply pw_below_drewN | apply below_drew1) | exact HB.out))) : w.heap.size ≤ gb120001)); have n3_ := Aside0.mk ((by rw [hg]; exact (below_size (by repeat (first | (with_reducible first | exact HB.out | apply below_alloc | apply pw_below_drewN | apply below_drew1) | exact HB.out))) : w.heap.size ≤ gb120001)); clear HB; have HB := n0_; have BK120001 := n1_; have GW120001 := n2_; have GE120001 := n3_; clear n0_ n1_ n2_ n3_; clear hb hbox hg; have hcz7_0 : w6.cell? ⟨gb120001, 0, none⟩ = some (.string a0_0) := (blk_cell BK120001.out 0).trans rfl; have hcz7_1 : w6.cell? ⟨gb120001, 1, none⟩ = some (.string a0_1) := (blk_cell BK120001.out 1).trans rfl; have hcz7_2 : w6.cell? ⟨gb120001, 2, none⟩ = some (.int .i64 a0_2) := (blk_cell BK120001.out 2).trans rfl; have hfz7_0 := blk_frozen BK120001.out 0; have hfz7_1 := blk_frozen BK120001.out 1; have hfz7_2 := blk_frozen BK120001.out 2)); try go_wp2_with (first | ((with_reducible refine gate_dst (N := 1) rfl ?_); (try (refine gate_guard (by rfl) ?_; dsimp only)); refine box_event ?hg (N := 1) ?hd (cs := #[.string a0_0, .string a0_1, .int .i64 a0_2]) (t := 24) ?hr ?_; (case hd => rfl); (case hg => rfl); (case hr => first | (go_simp; done) | (go_simp; rfl)); intro gb120001 hg w6 hbox hb; have n0_ := Aside0.mk (below_step (by repeat (first | (with_reducible first | exact HB.out | apply below_alloc | apply pw_below_drewN | apply below_drew1) | exact HB.out)) hb); have n1_ := Aside0.mk (hbox); have n2_ := Aside0.mk ((by rw [hg]; exact (below_size (by repeat (first | (with_reducible first | exact HB.out | apply below_alloc | apply pw_below_drewN | apply below_drew1) | exact HB.out))) : w.heap.size ≤ gb120001)); have n3_ := Aside0.mk ((by rw [hg]; exact (below_size (by repeat (first | (with_reducible first | exact HB.out | apply below_alloc | apply pw_below_drewN | apply below_drew1) | exact HB.out))) : w.heap.size ≤ gb120001)); clear HB; have HB := n0_; have BK120001 := n1_; have GW120001 := n2_; have GE120001 := n3_; clear n0_ n1_ n2_ n3_; clear hb hbox hg; have hcz7_0 : w6.cell? ⟨gb120001, 0, none⟩ = some (.string a0_0) := (blk_cell BK120001.out 0).trans rfl; have hcz7_1 : w6.cell? ⟨gb120001, 1, none⟩ = some (.string a0_1) := (blk_cell BK120001.out 1).trans rfl; have hcz7_2 : w6.cell? ⟨gb120001, 2, none⟩ = some (.int .i64 a0_2) := (blk_cell BK120001.out 2).trans rfl; have hfz7_0 := blk_frozen BK120001.out 0; have hfz7_1 := blk_frozen BK120001.out 1; have hfz7_2 := blk_frozen BK120001.out 2)))
   go_ret
   exact ⟨by first | rfl | (simp [errW_none, errW_some] <;> rfl) | (simp [*, errW_none, errW_some] <;> rfl), by repeat (first | (with_reducible first | exact HB.out | apply below_alloc | apply pw_below_drewN | apply below_drew1 | refine below_set ?_ GE120001.out) | exact HB.out)⟩
  ·rw [if_neg c5] at H; have c5b0 : decide (1048576 < a0_2) = false := decide_eq_false c5; clear c5
   by_cases c8 : (a0_1.size : Int) > a0_2
   ·rw [if_pos c8] at H; have c8b0 : decide (a0_2 < (a0_1.size : Int)) = true := decide_eq_true c8; clear c8; obtain rfl := Option.some.inj H
    go_enter Try.func12, Try.ntmps12
    go_wp2_with (first | ((with_reducible refine gate_dst (N := 1) rfl ?_); (try (refine gate_guard (by rfl) ?_; dsimp only)); refine box_event ?hg (N := 1) ?hd (cs := #[.string a0_0, .string a0_1, .int .i64 a0_2]) (t := 24) ?hr ?_; (case hd => rfl); (case hg => rfl); (case hr => first | (go_simp; done) | (go_simp; rfl)); intro gb120001 hg w9 hbox hb; have n0_ := Aside0.mk (below_step (by repeat (first | (with_reducible first | exact HB.out | apply below_alloc | apply pw_below_drewN | apply below_drew1) | exact HB.out)) hb); have n1_ := Aside0.mk (hbox); have n2_ := Aside0.mk ((by rw [hg]; exact (below_size (by repeat (first | (with_reducible first | exact HB.out | apply below_alloc | apply pw_below_drewN | apply below_drew1) | exact HB.out))) : w.heap.size ≤ gb120001)); have n3_ := Aside0.mk ((by rw [hg]; exact (below_size (by repeat (first | (with_reducible first | exact HB.out | apply below_alloc | apply pw_below_drewN | apply below_drew1) | exact HB.out))) : w.heap.size ≤ gb120001)); clear HB; have HB := n0_; have BK120001 := n1_; have GW120001 := n2_; have GE120001 := n3_; clear n0_ n1_ n2_ n3_; clear hb hbox hg; have hcz10_0 : w9.cell? ⟨gb120001, 0, none⟩ = some (.string a0_0) := (blk_cell BK120001.out 0).trans rfl; have hcz10_1 : w9.cell? ⟨gb120001, 1, none⟩ = some (.string a0_1) := (blk_cell BK120001.out 1).trans rfl; have hcz10_2 : w9.cell? ⟨gb120001, 2, none⟩ = some (.int .i64 a0_2) := (blk_cell BK120001.out 2).trans rfl; have hfz10_0 := blk_frozen BK120001.out 0; have hfz10_1 := blk_frozen BK120001.out 1; have hfz10_2 := blk_frozen BK120001.out 2))
    repeat (go_quiet (first | ((with_reducible refine gate_dst (N := 1) rfl ?_); (try (refine gate_guard (by rfl) ?_; dsimp only)); refine box_event ?hg (N := 1) ?hd (cs := #[.string a0_0, .string a0_1, .int .i64 a0_2]) (t := 24) ?hr ?_; (case hd => rfl); (case hg => rfl); (case hr => first | (go_simp; done) | (go_simp; rfl)); intro gb120001 hg w9 hbox hb; have n0_ := Aside0.mk (below_step (by repeat (first | (with_reducible first | exact HB.out | apply below_alloc | apply pw_below_drewN | apply below_drew1) | exact HB.out)) hb); have n1_ := Aside0.mk (hbox); have n2_ := Aside0.mk ((by rw [hg]; exact (below_size (by repeat (first | (with_reducible first | exact HB.out | apply below_alloc | apply pw_below_drewN | apply below_drew1) | exact HB.out))) : w.heap.size ≤ gb120001)); have n3_ := Aside0.mk ((by rw [hg]; exact (below_size (by repeat (first | (with_reducible first | exact HB.out | apply below_alloc | apply pw_below_drewN | apply below_drew1) | exact HB.out))) : w.heap.size ≤ gb120001)); clear HB; have HB := n0_; have BK120001 := n1_; have GW120001 := n2_; have GE120001 := n3_; clear n0_ n1_ n2_ n3_; clear hb hbox hg; have hcz10_0 : w9.cell? ⟨gb120001, 0, none⟩ = some (.string a0_0) := (blk_cell BK120001.out 0).trans rfl; have hcz10_1 : w9.cell? ⟨gb120001, 1, none⟩ = some (.string a0_1) := (blk_cell BK120001.out 1).trans rfl; have hcz10_2 : w9.cell? ⟨gb120001, 2, none⟩ = some (.int .i64 a0_2) := (blk_cell BK120001.out 2).trans rfl; have hfz10_0 := blk_frozen BK120001.out 0; have hfz10_1 := blk_frozen BK120001.out 1; have hfz10_2 := blk_frozen BK120001.out 2)); try go_wp2_with (first | ((with_reducible refine gate_dst (N := 1) rfl ?_); (try (refine gate_guard (by rfl) ?_; dsimp only)); refine box_event ?hg (N := 1) ?hd (cs := #[.string a0_0, .string a0_1, .int .i64 a0_2]) (t := 24) ?hr ?_; (case hd => rfl); (case hg => rfl); (case hr => first | (go_simp; done) | (go_simp; rfl)); intro gb120001 hg w9 hbox hb; have n0_ := Aside0.mk (below_step (by repeat (first | (with_reducible first | exact HB.out | apply below_alloc | apply pw_below_drewN | apply below_drew1) | exact HB.out)) hb); have n1_ := Aside0.mk (hbox); have n2_ := Aside0.mk ((by rw [hg]; exact (below_size (by repeat (first | (with_reducible first | exact HB.out | apply below_alloc | apply pw_below_drewN | apply below_drew1) | exact HB.out))) : w.heap.size ≤ gb120001)); have n3_ := Aside0.mk ((by rw [hg]; exact (below_size (by repeat (first | (with_reducible first | exact HB.out | apply below_alloc | apply pw_below_drewN | apply below_drew1) | exact HB.out))) : w.heap.size ≤ gb120001)); clear HB; have HB := n0_; have BK120001 := n1_; have GW120001 := n2_; have GE120001 := n3_; clear n0_ n1_ n2_ n3_; clear hb hbox hg; have hcz10_0 : w9.cell? ⟨gb120001, 0, none⟩ = some (.string a0_0) := (blk_cell BK120001.out 0).trans rfl; have hcz10_1 : w9.cell? ⟨gb120001, 1, none⟩ = some (.string a0_1) := (blk_cell BK120001.out 1).trans rfl; have hcz10_2 : w9.cell? ⟨gb120001, 2, none⟩ = some (.int .i64 a0_2) := (blk_cell BK120001.out 2).trans rfl; have hfz10_0 := blk_frozen BK120001.out 0; have hfz10_1 := blk_frozen BK120001.out 1; have hfz10_2 := blk_frozen BK120001.out 2)))
    go_ret
    exact ⟨by first | rfl | (simp [errW_none, errW_some] <;> rfl) | (simp [*, errW_none, errW_some] <;> rfl), by repeat (first | (with_reducible first | exact HB.out | apply below_alloc | apply pw_below_drewN | apply below_drew1 | refine below_set ?_ GE120001.out) | exact HB.out)⟩
   ·rw [if_neg c8] at H; have c8b0 : decide (a0_2 < (a0_1.size : Int)) = false := decide_eq_false c8; clear c8
    by_cases c11 : (a0_0.size : Int) > (a0_1.size : Int)
    ·rw [if_pos c11] at H; have c11b0 : decide ((a0_1.size : Int) < (a0_0.size : Int)) = true := decide_eq_true c11; have c11b1 : decide (a0_1.size < a0_0.size) = true := decide_eq_true (Int.ofNat_lt.mp c11); clear c11; obtain rfl := Option.some.inj H
     go_enter Try.func12, Try.ntmps12
     go_wp2_with (first | ((with_reducible refine gate_dst (N := 1) rfl ?_); (try (refine gate_guard (by rfl) ?_; dsimp only)); refine box_event ?hg (N := 1) ?hd (cs := #[.string a0_0, .string a0_1, .int .i64 a0_2]) (t := 24) ?hr ?_; (case hd => rfl); (case hg => rfl); (case hr => first | (go_simp; done) | (go_simp; rfl)); intro gb120001 hg w12 hbox hb; have n0_ := Aside0.mk (below_step (by repeat (first | (with_reducible first | exact HB.out | apply below_alloc | apply pw_below_drewN | apply below_drew1) | exact HB.out)) hb); have n1_ := Aside0.mk (hbox); have n2_ := Aside0.mk ((by rw [hg]; exact (below_size (by repeat (first | (with_reducible first | exact HB.out | apply below_alloc | apply pw_below_drewN | apply below_drew1) | exact HB.out))) : w.heap.size ≤ gb120001)); have n3_ := Aside0.mk ((by rw [hg]; exact (below_size (by repeat (first | (with_reducible first | exact HB.out | apply below_alloc | apply pw_below_drewN | apply below_drew1) | exact HB.out))) : w.heap.size ≤ gb120001)); clear HB; have HB := n0_; have BK120001 := n1_; have GW120001 := n2_; have GE120001 := n3_; clear n0_ n1_ n2_ n3_; clear hb hbox hg; have hcz13_0 : w12.cell? ⟨gb120001, 0, none⟩ = some (.string a0_0) := (blk_cell BK120001.out 0).trans rfl; have hcz13_1 : w12.cell? ⟨gb120001, 1, none⟩ = some (.string a0_1) := (blk_cell BK120001.out 1).trans rfl; have hcz13_2 : w12.cell? ⟨gb120001, 2, none⟩ = some (.int .i64 a0_2) := (blk_cell BK120001.out 2).trans rfl; have hfz13_0 := blk_frozen BK120001.out 0; have hfz13_1 := blk_frozen BK120001.out 1; have hfz13_2 := blk_frozen BK120001.out 2))
     repeat (go_quiet (first | ((with_reducible refine gate_dst (N := 1) rfl ?_); (try (refine gate_guard (by rfl) ?_; dsimp only)); refine box_event ?hg (N := 1) ?hd (cs := #[.string a0_0, .string a0_1, .int .i64 a0_2]) (t := 24) ?hr ?_; (case hd => rfl); (case hg => rfl); (case hr => first | (go_simp; done) | (go_simp; rfl)); intro gb120001 hg w12 hbox hb; have n0_ := Aside0.mk (below_step (by repeat (first | (with_reducible first | exact HB.out | apply below_alloc | apply pw_below_drewN | apply below_drew1) | exact HB.out)) hb); have n1_ := Aside0.mk (hbox); have n2_ := Aside0.mk ((by rw [hg]; exact (below_size (by repeat (first | (with_reducible first | exact HB.out | apply below_alloc | apply pw_below_drewN | apply below_drew1) | exact HB.out))) : w.heap.size ≤ gb120001)); have n3_ := Aside0.mk ((by rw [hg]; exact (below_size (by repeat (first | (with_reducible first | exact HB.out | apply below_alloc | apply pw_below_drewN | apply below_drew1) | exact HB.out))) : w.heap.size ≤ gb120001)); clear HB; have HB := n0_; have BK120001 := n1_; have GW120001 := n2_; have GE120001 := n3_; clear n0_ n1_ n2_ n3_; clear hb hbox hg; have hcz13_0 : w12.cell? ⟨gb120001, 0, none⟩ = some (.string a0_0) := (blk_cell BK120001.out 0).trans rfl; have hcz13_1 : w12.cell? ⟨gb120001, 1, none⟩ = some (.string a0_1) := (blk_cell BK120001.out 1).trans rfl; have hcz13_2 : w12.cell? ⟨gb120001, 2, none⟩ = some (.int .i64 a0_2) := (blk_cell BK120001.out 2).trans rfl; have hfz13_0 := blk_frozen BK120001.out 0; have hfz13_1 := blk_frozen BK120001.out 1; have hfz13_2 := blk_frozen BK120001.out 2)); try go_wp2_with (first | ((with_reducible refine gate_dst (N := 1) rfl ?_); (try (refine gate_guard (by rfl) ?_; dsimp only)); refine box_event ?hg (N := 1) ?hd (cs := #[.string a0_0, .string a0_1, .int .i64 a0_2]) (t := 24) ?hr ?_; (case hd => rfl); (case hg => rfl); (case hr => first | (go_simp; done) | (go_simp; rfl)); intro gb120001 hg w12 hbox hb; have n0_ := Aside0.mk (below_step (by repeat (first | (with_reducible first | exact HB.out | apply below_alloc | apply pw_below_drewN | apply below_drew1) | exact HB.out)) hb); have n1_ := Aside0.mk (hbox); have n2_ := Aside0.mk ((by rw [hg]; exact (below_size (by repeat (first | (with_reducible first | exact HB.out | apply below_alloc | apply pw_below_drewN | apply below_drew1) | exact HB.out))) : w.heap.size ≤ gb120001)); have n3_ := Aside0.mk ((by rw [hg]; exact (below_size (by repeat (first | (with_reducible first | exact HB.out | apply below_alloc | apply pw_below_drewN | apply below_drew1) | exact HB.out))) : w.heap.size ≤ gb120001)); clear HB; have HB := n0_; have BK120001 := n1_; have GW120001 := n2_; have GE120001 := n3_; clear n0_ n1_ n2_ n3_; clear hb hbox hg; have hcz13_0 : w12.cell? ⟨gb120001, 0, none⟩ = some (.string a0_0) := (blk_cell BK120001.out 0).trans rfl; have hcz13_1 : w12.cell? ⟨gb120001, 1, none⟩ = some (.string a0_1) := (blk_cell BK120001.out 1).trans rfl; have hcz13_2 : w12.cell? ⟨gb120001, 2, none⟩ = some (.int .i64 a0_2) := (blk_cell BK120001.out 2).trans rfl; have hfz13_0 := blk_frozen BK120001.out 0; have hfz13_1 := blk_frozen BK120001.out 1; have hfz13_2 := blk_frozen BK120001.out 2)))
     go_ret
     exact ⟨by first | rfl | (simp [errW_none, errW_some] <;> rfl) | (simp [*, errW_none, errW_some] <;> rfl), by repeat (first | (with_reducible first | exact HB.out | apply below_alloc | apply pw_below_drewN | apply below_drew1 | refine below_set ?_ GE120001.out) | exact HB.out)⟩
    ·rw [if_neg c11] at H; have c11b0 : decide ((a0_1.size : Int) < (a0_0.size : Int)) = false := decide_eq_false c11; have c11b1 : decide (a0_1.size < a0_0.size) = false := decide_eq_false (fun h => c11 (Int.ofNat_lt.mpr h)); clear c11
     by_cases c14 : 0 ≤ (a0_0.size : Int)
     ·rw [if_pos c14] at H; have c14b0 := eq_true c14; have c14b1 : decide (0 ≤ (a0_0.size : Int)) = true := decide_eq_true c14; clear c14
      by_cases c15 : (a0_0.size : Int) ≤ (a0_1.size : Int)
      ·rw [if_pos c15] at H; have c15b0 := eq_true c15; have c15b1 : decide ((a0_0.size : Int) ≤ (a0_1.size : Int)) = true := decide_eq_true c15; clear c15; obtain rfl := Option.some.inj H
       go_enter Try.func12, Try.ntmps12
       go_wp2_with (first | ((with_reducible refine gate_dst (N := 1) rfl ?_); (try (refine gate_guard (by rfl) ?_; dsimp only)); refine box_event ?hg (N := 1) ?hd (cs := #[.string a0_0, .string a0_1, .int .i64 a0_2]) (t := 24) ?hr ?_; (case hd => rfl); (case hg => rfl); (case hr => first | (go_simp; done) | (go_simp; rfl)); intro gb120001 hg w16 hbox hb; have n0_ := Aside0.mk (below_step (by repeat (first | (with_reducible first | exact HB.out | apply below_alloc | apply pw_below_drewN | apply below_drew1) | exact HB.out)) hb); have n1_ := Aside0.mk (hbox); have n2_ := Aside0.mk ((by rw [hg]; exact (below_size (by repeat (first | (with_reducible first | exact HB.out | apply below_alloc | apply pw_below_drewN | apply below_drew1) | exact HB.out))) : w.heap.size ≤ gb120001)); have n3_ := Aside0.mk ((by rw [hg]; exact (below_size (by repeat (first | (with_reducible first | exact HB.out | apply below_alloc | apply pw_below_drewN | apply below_drew1) | exact HB.out))) : w.heap.size ≤ gb120001)); clear HB; have HB := n0_; have BK120001 := n1_; have GW120001 := n2_; have GE120001 := n3_; clear n0_ n1_ n2_ n3_; clear hb hbox hg; have hcz17_0 : w16.cell? ⟨gb120001, 0, none⟩ = some (.string a0_0) := (blk_cell BK120001.out 0).trans rfl; have hcz17_1 : w16.cell? ⟨gb120001, 1, none⟩ = some (.string a0_1) := (blk_cell BK120001.out 1).trans rfl; have hcz17_2 : w16.cell? ⟨gb120001, 2, none⟩ = some (.int .i64 a0_2) := (blk_cell BK120001.out 2).trans rfl; have hfz17_0 := blk_frozen BK120001.out 0; have hfz17_1 := blk_frozen BK120001.out 1; have hfz17_2 := blk_frozen BK120001.out 2))
       repeat (go_quiet (first | ((with_reducible refine gate_dst (N := 1) rfl ?_); (try (refine gate_guard (by rfl) ?_; dsimp only)); refine box_event ?hg (N := 1) ?hd (cs := #[.string a0_0, .string a0_1, .int .i64 a0_2]) (t := 24) ?hr ?_; (case hd => rfl); (case hg => rfl); (case hr => first | (go_simp; done) | (go_simp; rfl)); intro gb120001 hg w16 hbox hb; have n0_ := Aside0.mk (below_step (by repeat (first | (with_reducible first | exact HB.out | apply below_alloc | apply pw_below_drewN | apply below_drew1) | exact HB.out)) hb); have n1_ := Aside0.mk (hbox); have n2_ := Aside0.mk ((by rw [hg]; exact (below_size (by repeat (first | (with_reducible first | exact HB.out | apply below_alloc | apply pw_below_drewN | apply below_drew1) | exact HB.out))) : w.heap.size ≤ gb120001)); have n3_ := Aside0.mk ((by rw [hg]; exact (below_size (by repeat (first | (with_reducible first | exact HB.out | apply below_alloc | apply pw_below_drewN | apply below_drew1) | exact HB.out))) : w.heap.size ≤ gb120001)); clear HB; have HB := n0_; have BK120001 := n1_; have GW120001 := n2_; have GE120001 := n3_; clear n0_ n1_ n2_ n3_; clear hb hbox hg; have hcz17_0 : w16.cell? ⟨gb120001, 0, none⟩ = some (.string a0_0) := (blk_cell BK120001.out 0).trans rfl; have hcz17_1 : w16.cell? ⟨gb120001, 1, none⟩ = some (.string a0_1) := (blk_cell BK120001.out 1).trans rfl; have hcz17_2 : w16.cell? ⟨gb120001, 2, none⟩ = some (.int .i64 a0_2) := (blk_cell BK120001.out 2).trans rfl; have hfz17_0 := blk_frozen BK120001.out 0; have hfz17_1 := blk_frozen BK120001.out 1; have hfz17_2 := blk_frozen BK120001.out 2)); try go_wp2_with (first | ((with_reducible refine gate_dst (N := 1) rfl ?_); (try (refine gate_guard (by rfl) ?_; dsimp only)); refine box_event ?hg (N := 1) ?hd (cs := #[.string a0_0, .string a0_1, .int .i64 a0_2]) (t := 24) ?hr ?_; (case hd => rfl); (case hg => rfl); (case hr => first | (go_simp; done) | (go_simp; rfl)); intro gb120001 hg w16 hbox hb; have n0_ := Aside0.mk (below_step (by repeat (first | (with_reducible first | exact HB.out | apply below_alloc | apply pw_below_drewN | apply below_drew1) | exact HB.out)) hb); have n1_ := Aside0.mk (hbox); have n2_ := Aside0.mk ((by rw [hg]; exact (below_size (by repeat (first | (with_reducible first | exact HB.out | apply below_alloc | apply pw_below_drewN | apply below_drew1) | exact HB.out))) : w.heap.size ≤ gb120001)); have n3_ := Aside0.mk ((by rw [hg]; exact (below_size (by repeat (first | (with_reducible first | exact HB.out | apply below_alloc | apply pw_below_drewN | apply below_drew1) | exact HB.out))) : w.heap.size ≤ gb120001)); clear HB; have HB := n0_; have BK120001 := n1_; have GW120001 := n2_; have GE120001 := n3_; clear n0_ n1_ n2_ n3_; clear hb hbox hg; have hcz17_0 : w16.cell? ⟨gb120001, 0, none⟩ = some (.string a0_0) := (blk_cell BK120001.out 0).trans rfl; have hcz17_1 : w16.cell? ⟨gb120001, 1, none⟩ = some (.string a0_1) := (blk_cell BK120001.out 1).trans rfl; have hcz17_2 : w16.cell? ⟨gb120001, 2, none⟩ = some (.int .i64 a0_2) := (blk_cell BK120001.out 2).trans rfl; have hfz17_0 := blk_frozen BK120001.out 0; have hfz17_1 := blk_frozen BK120001.out 1; have hfz17_2 := blk_frozen BK120001.out 2)))
       go_ret
       exact ⟨by first | rfl | (simp [errW_none, errW_some] <;> rfl) | (simp [*, errW_none, errW_some] <;> rfl), by repeat (first | (with_reducible first | exact HB.out | apply below_alloc | apply pw_below_drewN | apply below_drew1 | refine below_set ?_ GE120001.out) | exact HB.out)⟩
      ·rw [if_neg c15] at H; exact absurd H (by simp)
     ·rw [if_neg c14] at H; exact absurd H (by simp)
end Go.Proofs.Ytaepebkeijmjgaa.Z
end
section
namespace Go.Proofs.Ytaepebkeijmjgaa.Z
open Go.RowKit Go.Proofs.YtaepebkeijmjgaaW.PrintWords Go.Proofs.YtaepebkeijmjgaaW.PrintLast Go.Proofs.YtaepebkeijmjgaaW.PrintMore
attribute [local go_sem] max2_int min2_int max_two min_two max_three min_three max_four min_four
set_option linter.unusedVariables false
set_option linter.unusedSimpArgs false
def spec_DiskSync.f (a0_0 : ByteArray) (a0_1 : ByteArray) (a0_2 : Int) : Option (ByteArray × ByteArray × Int × Int) := (spec_l3DiskOk.f a0_0 a0_1 a0_2).bind fun t50003 => (if t50003 = true then (some (a0_1, a0_1, a0_2, 0)) else (some ((⟨#[]⟩ : ByteArray), (⟨#[]⟩ : ByteArray), 0, 9)))
set_option maxHeartbeats 8000000 in
set_option maxRecDepth 100000 in
theorem spec_DiskSync.calls (a0_0 : ByteArray) (a0_1 : ByteArray) (a0_2 : Int) (r1 : ByteArray) (r2 : ByteArray) (r3 : Int) (r4 : Int) (w : World) (h : spec_DiskSync.f a0_0 a0_1 a0_2 = some (r1, r2, r3, r4)) :
  Calls Try.prog 5 #[.agg #[.string a0_0, .string a0_1, .int .i64 a0_2]] w fun e w' => e = .returned (.tuple #[.agg #[.string r1, .string r2, .int .i64 r3], .int .i64 r4]) ∧ Below w.heap.size w w' := by
 have hu24 := Try.underlying24; have HB := Aside0.mk (Below.refl w.heap.size w); have H : ((spec_l3DiskOk.f a0_0 a0_1 a0_2).bind fun t50003 => (if t50003 = true then (some (a0_1, a0_1, a0_2, 0)) else (some ((⟨#[]⟩ : ByteArray), (⟨#[]⟩ : ByteArray), 0, 9)))) = some (r1, r2, r3, r4) := h; clear h; replace H := Option.bind_eq_some_iff.mp H; obtain ⟨t50003, A20, H⟩ := H; replace H : (if t50003 = true then (some (a0_1, a0_1, a0_2, 0)) else (some ((⟨#[]⟩ : ByteArray), (⟨#[]⟩ : ByteArray), 0, 9))) = some (r1, r2, r3, r4) := H; have A2 := Aside0.mk A20; clear A20
 by_cases c3 : t50003 = true
 ·subst c3; have H1 : (some (a0_1, a0_1, a0_2, 0)) = some (r1, r2, r3, r4) := by rw [if_pos rfl] at H; exact H
  clear H; have H := H1; clear H1; simp only [Option.some.injEq, Prod.mk.injEq] at H; obtain ⟨rfl, rfl, rfl, rfl⟩ := H
  go_enter Try.func5, Try.ntmps5
  go_wp2_with (first | ((with_reducible refine gate_dst (N := 1) rfl ?_); refine box_event ?hg (N := 1) ?hd (cs := #[.string a0_0, .string a0_1, .int .i64 a0_2]) (t := 24) ?hr ?_; (case hd => rfl); (case hg => rfl); (case hr => first | (go_simp; done) | (go_simp; rfl)); intro gb50001 hg w4 hbox hb; have n0_ := Aside0.mk (below_step (by repeat (first | (with_reducible first | exact HB.out | apply below_alloc | apply pw_below_drewN | apply below_drew1) | exact HB.out)) hb); have n1_ := Aside0.mk (hbox); have n2_ := Aside0.mk ((by rw [hg]; exact (below_size (by repeat (first | (with_reducible first | exact HB.out | apply below_alloc | apply pw_below_drewN | apply below_drew1) | exact HB.out))) : w.heap.size ≤ gb50001)); have n3_ := Aside0.mk ((by rw [hg]; exact (below_size (by repeat (first | (with_reducible first | exact HB.out | apply below_alloc | apply pw_below_drewN | apply below_drew1) | exact HB.out))) : w.heap.size ≤ gb50001)); clear HB; have HB := n0_; have BK50001 := n1_; have GW50001 := n2_; have GE50001 := n3_; clear n0_ n1_ n2_ n3_; clear hb hbox hg) | ((with_reducible refine gate_dst (N := 2) rfl ?_); refine box_event ?hg (N := 2) ?hd (cs := #[.string (⟨#[]⟩ : ByteArray), .string (⟨#[]⟩ : ByteArray), .int .i64 0]) (t := 24) ?hr ?_; (case hd => rfl); (case hg => rfl); (case hr => first | (go_simp; done) | (go_simp; rfl)); intro gb50002 hg w5 hbox hb; have n0_ := Aside0.mk (blk_below (g := gb50001) (o := .cells #[.string a0_0, .string a0_1, .int .i64 a0_2] 24 (0, 0)) (by (with_reducible repeat (first | refine blk_drewN ?_ _ | refine blk_drew ?_ | refine blk_alloc ?_ _)); exact BK50001.out) hb); have n1_ := Aside0.mk (below_step (by repeat (first | (with_reducible first | exact HB.out | apply below_alloc | apply pw_below_drewN | apply below_drew1 | refine below_set ?_ GE50001.out) | exact HB.out)) hb); have n2_ := Aside0.mk (hbox); have n3_ := Aside0.mk ((by rw [hg]; exact (below_size (by repeat (first | (with_reducible first | exact HB.out | apply below_alloc | apply pw_below_drewN | apply below_drew1 | refine below_set ?_ GE50001.out) | exact HB.out))) : w.heap.size ≤ gb50002)); have n4_ := Aside0.mk ((by rw [hg]; exact (below_size (by repeat (first | (with_reducible first | exact HB.out | apply below_alloc | apply pw_below_drewN | apply below_drew1 | refine below_set ?_ GE50001.out) | exact HB.out))) : w.heap.size ≤ gb50002)); have n5_ := Aside0.mk ((by rw [hg]; exact Nat.ne_of_lt (blk_lt (g := gb50001) (o := .cells #[.string a0_0, .string a0_1, .int .i64 a0_2] 24 (0, 0)) (by (with_reducible repeat (first | refine blk_drewN ?_ _ | refine blk_drew ?_ | refine blk_alloc ?_ _)); exact BK50001.out)) : gb50001 ≠ gb50002)); have n6_ := Aside0.mk ((by rw [hg]; exact Nat.ne_of_gt (blk_lt (g := gb50001) (o := .cells #[.string a0_0, .string a0_1, .int .i64 a0_2] 24 (0, 0)) (by (with_reducible repeat (first | refine blk_drewN ?_ _ | refine blk_drew ?_ | refine blk_alloc ?_ _)); exact BK50001.out)) : gb50002 ≠ gb50001)); clear BK50001; clear HB; have BK50001 := n0_; have HB := n1_; have BK50002 := n2_; have GW50002 := n3_; have GE50002 := n4_; have NB50001_50002 := n5_; have NB50002_50001 := n6_; clear n0_ n1_ n2_ n3_ n4_ n5_ n6_; clear hb hbox hg; have hnb6 := NB50001_50002.out; have hnc6 := NB50002_50001.out; have hcz7_0 : w5.cell? ⟨gb50001, 0, none⟩ = some (.string a0_0) := (blk_cell BK50001.out 0).trans rfl; have hcz7_1 : w5.cell? ⟨gb50001, 1, none⟩ = some (.string a0_1) := (blk_cell BK50001.out 1).trans rfl; have hcz7_2 : w5.cell? ⟨gb50001, 2, none⟩ = some (.int .i64 a0_2) := (blk_cell BK50001.out 2).trans rfl; have hfz7_0 := blk_frozen BK50001.out 0; have hfz7_1 := blk_frozen BK50001.out 1; have hfz7_2 := blk_frozen BK50001.out 2) | ((with_reducible refine gate_callee (f := 12) rfl ?_); refine goesL_ (some 5) rfl rfl Try.func12 (by kernel_rfl) rfl #[.agg #[.string a0_0, .string a0_1, .int .i64 a0_2]] rfl (by (try simp only [List.map_toArray, List.map_cons, List.map_nil]); first | done | rfl | (simp only [List.length_drop, List.length_take]; rfl)) ?_; (with_reducible refine (spec_l3DiskOk.calls a0_0 a0_1 a0_2 true _ A2.out).mono ?_); rintro e w8 ⟨rfl, hb⟩; refine ⟨_, rfl, ?_⟩; have n0_ := Aside0.mk (blk_below (g := gb50001) (o := .cells #[.string a0_0, .string a0_1, .int .i64 a0_2] 24 (0, 0)) (by (with_reducible repeat (first | refine blk_drewN ?_ _ | refine blk_drew ?_ | refine blk_alloc ?_ _)); exact BK50001.out) hb); have n1_ := Aside0.mk (blk_below (g := gb50002) (o := .cells #[.string (⟨#[]⟩ : ByteArray), .string (⟨#[]⟩ : ByteArray), .int .i64 0] 24 (0, 0)) (by (with_reducible repeat (first | refine blk_drewN ?_ _ | refine blk_drew ?_ | refine blk_alloc ?_ _)); exact BK50002.out) hb); have n2_ := Aside0.mk (below_step (by repeat (first | (with_reducible first | exact HB.out | apply below_alloc | apply pw_below_drewN | apply below_drew1 | refine below_set ?_ GE50001.out | refine below_set ?_ GE50002.out) | exact HB.out)) hb); clear BK50001; clear BK50002; clear HB; have BK50001 := n0_; have BK50002 := n1_; have HB := n2_; clear n0_ n1_ n2_; (try clear hb); (try clear hb2); (try clear hk); (try clear hi); have hcz9_0 : w8.cell? ⟨gb50001, 0, none⟩ = some (.string a0_0) := (blk_cell BK50001.out 0).trans rfl; have hcz9_1 : w8.cell? ⟨gb50001, 1, none⟩ = some (.string a0_1) := (blk_cell BK50001.out 1).trans rfl; have hcz9_2 : w8.cell? ⟨gb50001, 2, none⟩ = some (.int .i64 a0_2) := (blk_cell BK50001.out 2).trans rfl; have hfz9_0 := blk_frozen BK50001.out 0; have hfz9_1 := blk_frozen BK50001.out 1; have hfz9_2 := blk_frozen BK50001.out 2; have hcz10_0 : w8.cell? ⟨gb50002, 0, none⟩ = some (.string (⟨#[]⟩ : ByteArray)) := (blk_cell BK50002.out 0).trans rfl; have hcz10_1 : w8.cell? ⟨gb50002, 1, none⟩ = some (.string (⟨#[]⟩ : ByteArray)) := (blk_cell BK50002.out 1).trans rfl; have hcz10_2 : w8.cell? ⟨gb50002, 2, none⟩ = some (.int .i64 0) := (blk_cell BK50002.out 2).trans rfl; have hfz10_0 := blk_frozen BK50002.out 0; have hfz10_1 := blk_frozen BK50002.out 1; have hfz10_2 := blk_frozen BK50002.out 2))
  refine bodyPost_ret (results_ct rfl _ _ gb50002 24 #[.string a0_1, .string a0_1, .int .i64 a0_2] (0, 0) _ rfl (by (with_reducible repeat (first | refine blk_drewN ?_ _ | refine blk_drew ?_ | refine blk_alloc ?_ _)); refine blk_put (cs := #[.string a0_1, .string a0_1, .int .i64 0]) ?_ 2 _ rfl; (with_reducible repeat (first | refine blk_drewN ?_ _ | refine blk_drew ?_ | refine blk_alloc ?_ _)); refine blk_put (cs := #[.string a0_1, .string (⟨#[]⟩ : ByteArray), .int .i64 0]) ?_ 1 _ rfl; (with_reducible repeat (first | refine blk_drewN ?_ _ | refine blk_drew ?_ | refine blk_alloc ?_ _)); refine blk_put (cs := #[.string (⟨#[]⟩ : ByteArray), .string (⟨#[]⟩ : ByteArray), .int .i64 0]) ?_ 0 _ rfl; (with_reducible repeat (first | refine blk_drewN ?_ _ | refine blk_drew ?_ | refine blk_alloc ?_ _)); exact BK50002.out) Try.underlying24 rfl (by kernel_rfl)) rfl ?_; exact ⟨by first | rfl | (simp [errW_none, errW_some] <;> rfl) | (simp [*, errW_none, errW_some] <;> rfl), by repeat (first | (with_reducible first | exact HB.out | apply below_alloc | apply pw_below_drewN | apply below_drew1 | refine below_set ?_ GE50001.out | refine below_set ?_ GE50002.out) | exact HB.out)⟩
 ·replace c3 := Bool.eq_false_iff.mpr c3; subst c3; have H1 : (some ((⟨#[]⟩ : ByteArray), (⟨#[]⟩ : ByteArray), 0, 9)) = some (r1, r2, r3, r4) := by rw [if_neg (show ¬ (false = true) by decide)] at H; exact H
  clear H; have H := H1; clear H1; simp only [Option.some.injEq, Prod.mk.injEq] at H; obtain ⟨rfl, rfl, rfl, rfl⟩ := H
  go_enter Try.func5, Try.ntmps5
  go_wp2_with (first | ((with_reducible refine gate_dst (N := 1) rfl ?_); refine box_event ?hg (N := 1) ?hd (cs := #[.string a0_0, .string a0_1, .int .i64 a0_2]) (t := 24) ?hr ?_; (case hd => rfl); (case hg => rfl); (case hr => first | (go_simp; done) | (go_simp; rfl)); intro gb50001 hg w11 hbox hb; have n0_ := Aside0.mk (below_step (by repeat (first | (with_reducible first | exact HB.out | apply below_alloc | apply pw_below_drewN | apply below_drew1) | exact HB.out)) hb); have n1_ := Aside0.mk (hbox); have n2_ := Aside0.mk ((by rw [hg]; exact (below_size (by repeat (first | (with_reducible first | exact HB.out | apply below_alloc | apply pw_below_drewN | apply below_drew1) | exact HB.out))) : w.heap.size ≤ gb50001)); have n3_ := Aside0.mk ((by rw [hg]; exact (below_size (by repeat (first | (with_reducible first | exact HB.out | apply below_alloc | apply pw_below_drewN | apply below_drew1) | exact HB.out))) : w.heap.size ≤ gb50001)); clear HB; have HB := n0_; have BK50001 := n1_; have GW50001 := n2_; have GE50001 := n3_; clear n0_ n1_ n2_ n3_; clear hb hbox hg) | ((with_reducible refine gate_dst (N := 2) rfl ?_); refine box_event ?hg (N := 2) ?hd (cs := #[.string (⟨#[]⟩ : ByteArray), .string (⟨#[]⟩ : ByteArray), .int .i64 0]) (t := 24) ?hr ?_; (case hd => rfl); (case hg => rfl); (case hr => first | (go_simp; done) | (go_simp; rfl)); intro gb50002 hg w12 hbox hb; have n0_ := Aside0.mk (blk_below (g := gb50001) (o := .cells #[.string a0_0, .string a0_1, .int .i64 a0_2] 24 (0, 0)) (by (with_reducible repeat (first | refine blk_drewN ?_ _ | refine blk_drew ?_ | refine blk_alloc ?_ _)); exact BK50001.out) hb); have n1_ := Aside0.mk (below_step (by repeat (first | (with_reducible first | exact HB.out | apply below_alloc | apply pw_below_drewN | apply below_drew1 | refine below_set ?_ GE50001.out) | exact HB.out)) hb); have n2_ := Aside0.mk (hbox); have n3_ := Aside0.mk ((by rw [hg]; exact (below_size (by repeat (first | (with_reducible first | exact HB.out | apply below_alloc | apply pw_below_drewN | apply below_drew1 | refine below_set ?_ GE50001.out) | exact HB.out))) : w.heap.size ≤ gb50002)); have n4_ := Aside0.mk ((by rw [hg]; exact (below_size (by repeat (first | (with_reducible first | exact HB.out | apply below_alloc | apply pw_below_drewN | apply below_drew1 | refine below_set ?_ GE50001.out) | exact HB.out))) : w.heap.size ≤ gb50002)); have n5_ := Aside0.mk ((by rw [hg]; exact Nat.ne_of_lt (blk_lt (g := gb50001) (o := .cells #[.string a0_0, .string a0_1, .int .i64 a0_2] 24 (0, 0)) (by (with_reducible repeat (first | refine blk_drewN ?_ _ | refine blk_drew ?_ | refine blk_alloc ?_ _)); exact BK50001.out)) : gb50001 ≠ gb50002)); have n6_ := Aside0.mk ((by rw [hg]; exact Nat.ne_of_gt (blk_lt (g := gb50001) (o := .cells #[.string a0_0, .string a0_1, .int .i64 a0_2] 24 (0, 0)) (by (with_reducible repeat (first | refine blk_drewN ?_ _ | refine blk_drew ?_ | refine blk_alloc ?_ _)); exact BK50001.out)) : gb50002 ≠ gb50001)); clear BK50001; clear HB; have BK50001 := n0_; have HB := n1_; have BK50002 := n2_; have GW50002 := n3_; have GE50002 := n4_; have NB50001_50002 := n5_; have NB50002_50001 := n6_; clear n0_ n1_ n2_ n3_ n4_ n5_ n6_; clear hb hbox hg; have hnb13 := NB50001_50002.out; have hnc13 := NB50002_50001.out; have hcz14_0 : w12.cell? ⟨gb50001, 0, none⟩ = some (.string a0_0) := (blk_cell BK50001.out 0).trans rfl; have hcz14_1 : w12.cell? ⟨gb50001, 1, none⟩ = some (.string a0_1) := (blk_cell BK50001.out 1).trans rfl; have hcz14_2 : w12.cell? ⟨gb50001, 2, none⟩ = some (.int .i64 a0_2) := (blk_cell BK50001.out 2).trans rfl; have hfz14_0 := blk_frozen BK50001.out 0; have hfz14_1 := blk_frozen BK50001.out 1; have hfz14_2 := blk_frozen BK50001.out 2) | ((with_reducible refine gate_callee (f := 12) rfl ?_); refine goesL_ (some 5) rfl rfl Try.func12 (by kernel_rfl) rfl #[.agg #[.string a0_0, .string a0_1, .int .i64 a0_2]] rfl (by (try simp only [List.map_toArray, List.map_cons, List.map_nil]); first | done | rfl | (simp only [List.length_drop, List.length_take]; rfl)) ?_; (with_reducible refine (spec_l3DiskOk.calls a0_0 a0_1 a0_2 false _ A2.out).mono ?_); rintro e w15 ⟨rfl, hb⟩; refine ⟨_, rfl, ?_⟩; have n0_ := Aside0.mk (blk_below (g := gb50001) (o := .cells #[.string a0_0, .string a0_1, .int .i64 a0_2] 24 (0, 0)) (by (with_reducible repeat (first | refine blk_drewN ?_ _ | refine blk_drew ?_ | refine blk_alloc ?_ _)); exact BK50001.out) hb); have n1_ := Aside0.mk (blk_below (g := gb50002) (o := .cells #[.string (⟨#[]⟩ : ByteArray), .string (⟨#[]⟩ : ByteArray), .int .i64 0] 24 (0, 0)) (by (with_reducible repeat (first | refine blk_drewN ?_ _ | refine blk_drew ?_ | refine blk_alloc ?_ _)); exact BK50002.out) hb); have n2_ := Aside0.mk (below_step (by repeat (first | (with_reducible first | exact HB.out | apply below_alloc | apply pw_below_drewN | apply below_drew1 | refine below_set ?_ GE50001.out | refine below_set ?_ GE50002.out) | exact HB.out)) hb); clear BK50001; clear BK50002; clear HB; have BK50001 := n0_; have BK50002 := n1_; have HB := n2_; clear n0_ n1_ n2_; (try clear hb); (try clear hb2); (try clear hk); (try clear hi); have hcz16_0 : w15.cell? ⟨gb50002, 0, none⟩ = some (.string (⟨#[]⟩ : ByteArray)) := (blk_cell BK50002.out 0).trans rfl; have hcz16_1 : w15.cell? ⟨gb50002, 1, none⟩ = some (.string (⟨#[]⟩ : ByteArray)) := (blk_cell BK50002.out 1).trans rfl; have hcz16_2 : w15.cell? ⟨gb50002, 2, none⟩ = some (.int .i64 0) := (blk_cell BK50002.out 2).trans rfl; have hfz16_0 := blk_frozen BK50002.out 0; have hfz16_1 := blk_frozen BK50002.out 1; have hfz16_2 := blk_frozen BK50002.out 2))
  refine bodyPost_ret (results_ct rfl _ _ gb50002 24 #[.string (⟨#[]⟩ : ByteArray), .string (⟨#[]⟩ : ByteArray), .int .i64 0] (0, 0) _ rfl (by (with_reducible repeat (first | refine blk_drewN ?_ _ | refine blk_drew ?_ | refine blk_alloc ?_ _)); refine blk_put (cs := #[.string (⟨#[]⟩ : ByteArray), .string (⟨#[]⟩ : ByteArray), .int .i64 0]) ?_ 2 _ rfl; (with_reducible repeat (first | refine blk_drewN ?_ _ | refine blk_drew ?_ | refine blk_alloc ?_ _)); refine blk_put (cs := #[.string (⟨#[]⟩ : ByteArray), .string (⟨#[]⟩ : ByteArray), .int .i64 0]) ?_ 1 _ rfl; (with_reducible repeat (first | refine blk_drewN ?_ _ | refine blk_drew ?_ | refine blk_alloc ?_ _)); refine blk_put (cs := #[.string (⟨#[]⟩ : ByteArray), .string (⟨#[]⟩ : ByteArray), .int .i64 0]) ?_ 0 _ rfl; (with_reducible repeat (first | refine blk_drewN ?_ _ | refine blk_drew ?_ | refine blk_alloc ?_ _)); exact BK50002.out) Try.underlying24 rfl (by kernel_rfl)) rfl ?_; exact ⟨by first | rfl | (simp [errW_none, errW_some] <;> rfl) | (simp [*, errW_none, errW_some] <;> rfl), by repeat (first | (with_reducible first | exact HB.out | apply below_alloc | apply pw_below_drewN | apply below_drew1 | refine below_set ?_ GE50001.out | refine below_set ?_ GE50002.out) | exact HB.out)⟩
end Go.Proofs.Ytaepebkeijmjgaa.Z
end
section
namespace Go.Proofs.Ytaepebkeijmjgaa.Z
open Go.RowKit Go.Proofs.YtaepebkeijmjgaaW.PrintWords Go.Proofs.YtaepebkeijmjgaaW.PrintLast Go.Proofs.YtaepebkeijmjgaaW.PrintMore
attribute [local go_sem] max2_int min2_int max_two min_two max_three min_three max_four min_four
set_option linter.unusedVariables false
set_option linter.unusedSimpArgs false
def spec_l1Take.j0 : Nat → List Int → Int → Int → Bool → Option (Int × Int)
 | 0, _, _, _, _ => none
 | k + 1, x0, x1, x2, x17 => if x17 = true then (some (0, wrap64 (x1 + 1))) else (if x1 < (x0.length : Int) then (if x2 ≤ 256 then (if 0 ≤ x1 then (if x2 = 0 then (none) else (some (Int.tmod (wrap64 (rd x0 x1)) x2, wrap64 (x1 + 1)))) else (none)) else (if (x0.length : Int) = 0 then (none) else (if 0 ≤ (Int.tmod x1 (x0.length : Int)) then (if (Int.tmod x1 (x0.length : Int)) < (x0.length : Int) then (if 0 ≤ (Int.tmod (wrap64 ((wrap64 (x1 * 7)) + 3)) (x0.length : Int)) then (if (Int.tmod (wrap64 ((wrap64 (x1 * 7)) + 3)) (x0.length : Int)) < (x0.length : Int) then (if x2 = 0 then (none) else (some (Int.tmod (Go.bits .xor .i64 (wrap64 ((wrap64 ((wrap64 ((wrap64 ((wrap64 (rd x0 (Int.tmod x1 (x0.length : Int)))) * 131)) + (wrap64 ((wrap64 (rd x0 (Int.tmod (wrap64 ((wrap64 (x1 * 7)) + 3)) (x0.length : Int)))) * 1117)))) + (wrap64 (x1 * 29)))) + (wrap64 ((wrap64 (Int.tdiv x1 (x0.length : Int))) * 53)))) (wrap64 (Int.tdiv (wrap64 ((wrap64 ((wrap64 ((wrap64 ((wrap64 (rd x0 (Int.tmod x1 (x0.length : Int)))) * 131)) + (wrap64 ((wrap64 (rd x0 (Int.tmod (wrap64 ((wrap64 (x1 * 7)) + 3)) (x0.length : Int)))) * 1117)))) + (wrap64 (x1 * 29)))) + (wrap64 ((wrap64 (Int.tdiv x1 (x0.length : Int))) * 53)))) 64))) x2, wrap64 (x1 + 1)))) else (none)) else (none)) else (none)) else (none)))) else (if (x0.length : Int) = 0 then (none) else (if 0 ≤ (Int.tmod x1 (x0.length : Int)) then (if (Int.tmod x1 (x0.length : Int)) < (x0.length : Int) then (if 0 ≤ (Int.tmod (wrap64 ((wrap64 (x1 * 7)) + 3)) (x0.length : Int)) then (if (Int.tmod (wrap64 ((wrap64 (x1 * 7)) + 3)) (x0.length : Int)) < (x0.length : Int) then (if x2 = 0 then (none) else (some (Int.tmod (Go.bits .xor .i64 (wrap64 ((wrap64 ((wrap64 ((wrap64 ((wrap64 (rd x0 (Int.tmod x1 (x0.length : Int)))) * 131)) + (wrap64 ((wrap64 (rd x0 (Int.tmod (wrap64 ((wrap64 (x1 * 7)) + 3)) (x0.length : Int)))) * 1117)))) + (wrap64 (x1 * 29)))) + (wrap64 ((wrap64 (Int.tdiv x1 (x0.length : Int))) * 53)))) (wrap64 (Int.tdiv (wrap64 ((wrap64 ((wrap64 ((wrap64 ((wrap64 (rd x0 (Int.tmod x1 (x0.length : Int)))) * 131)) + (wrap64 ((wrap64 (rd x0 (Int.tmod (wrap64 ((wrap64 (x1 * 7)) + 3)) (x0.length : Int)))) * 1117)))) + (wrap64 (x1 * 29)))) + (wrap64 ((wrap64 (Int.tdiv x1 (x0.length : Int))) * 53)))) 64))) x2, wrap64 (x1 + 1)))) else (none)) else (none)) else (none)) else (none))))
def spec_l1Take.f (k : Nat) (l0 : List Int) (a1 : Int) (a2 : Int) : Option (Int × Int) := if a2 < 1 then (spec_l1Take.j0 k l0 a1 a2 true) else (spec_l1Take.j0 k l0 a1 a2 ((l0.length : Int) == 0))
set_option maxHeartbeats 8000000 in
set_option maxRecDepth 100000 in
theorem spec_l1Take.calls (k : Nat) (A0 : Option Addr) (c0 : Nat) (l0 : List Int) (a1 : Int) (a2 : Int) (r1 : Int) (r2 : Int) (w : World) (hr0 : Kd.C (Kd.int .u8) w A0 l0.length l0) (hc0 : l0.length ≤ c0) (h : spec_l1Take.f k l0 a1 a2 = some (r1, r2)) :
  Calls Try.prog 10 #[.slice A0 l0.length c0, .int .i64 a1, .int .i64 a2] w fun e w' => e = .returned (.tuple #[.int .i64 r1, .int .i64 r2]) ∧ Drawn0 w w' := by
 have HR0 := Aside0.mk hr0; have HC0 := Aside0.mk hc0; clear hr0 hc0; have H : (if a2 < 1 then (spec_l1Take.j0 k l0 a1 a2 true) else (spec_l1Take.j0 k l0 a1 a2 ((l0.length : Int) == 0))) = some (r1, r2) := h; clear h; have HC4 := Aside0.mk H; clear H
 go_enter Try.func10, Try.ntmps10
 go_upto_region 1 with (fail)
 go_cut [17] (fun v17 wc => ∃ (kq : Nat) (x17_3 : Bool), v17 = .bool x17_3 ∧ Aside0 (spec_l1Take.j0 kq l0 a1 a2 x17_3 = some (r1, r2)) ∧ Aside0 (kq ≤ k) ∧ Drawn0 w wc)
 case first =>
  have H := HC4.out; clear HC4
  by_cases c5 : a2 < 1
  ·rw [if_pos c5] at H; have c5b0 : decide (a2 < 1) = true := decide_eq_true c5; clear c5; (first | rw [c5b0] | (simp only [i64_w, i32_w]; rw [c5b0]) | skip); have H' := Aside0.mk H; clear H
   go_wp2
   go_meet
   case rel => exact ⟨_, (true), (by first | rfl | (simp; done) | (simp [*]; done)), H', ⟨by first | omega | exact Nat.le_refl _⟩, by repeat (first | exact Drawn0.refl _ | apply Drawn0.step)⟩
  ·rw [if_neg c5] at H; have c5b0 : decide (a2 < 1) = false := decide_eq_false c5; clear c5; (first | rw [c5b0] | (simp only [i64_w, i32_w]; rw [c5b0]) | skip); have H' := Aside0.mk H; clear H
   go_wp2
   go_meet
   case rel => exact ⟨_, (((l0.length : Int) == 0)), (by first | rfl | (simp; done) | (simp [*]; done)), H', ⟨by first | omega | exact Nat.le_refl _⟩, by repeat (first | exact Drawn0.refl _ | apply Drawn0.step)⟩
 case rest =>
  clear HC4
  try clear c1
  try clear p2
  try clear c5
  try clear c5b0
  obtain ⟨kq, x17_3, rfl, HA, HJ3, ⟨mc3, rfl⟩⟩ := hcut
  cases kq with
  | zero => exact absurd HA.out (by simp [spec_l1Take.j0])
  | succ kj3 =>
   have H := HA.out; clear HA; simp only [spec_l1Take.j0] at H
   by_cases c6 : x17_3 = true
   ·subst c6; have H1 : (some (0, wrap64 (a1 + 1))) = some (r1, r2) := by rw [if_pos rfl] at H; exact H
    clear H; have H := H1; clear H1; simp only [Option.some.injEq, Prod.mk.injEq] at H; obtain ⟨rfl, rfl⟩ := H
    go_wp2
    go_ret2
    exact ⟨by first | rfl | (simp; done) | (simp [*]; done), by repeat (first | exact Drawn0.refl _ | apply Drawn0.step)⟩
   ·replace c6 := Bool.eq_false_iff.mpr c6; subst c6; have H1 : (if a1 < (l0.length : Int) then (if a2 ≤ 256 then (if 0 ≤ a1 then (if a2 = 0 then (none) else (some (Int.tmod (wrap64 (rd l0 a1)) a2, wrap64 (a1 + 1)))) else (none)) else (if (l0.length : Int) = 0 then (none) else (if 0 ≤ (Int.tmod a1 (l0.length : Int)) then (if (Int.tmod a1 (l0.length : Int)) < (l0.length : Int) then (if 0 ≤ (Int.tmod (wrap64 ((wrap64 (a1 * 7)) + 3)) (l0.length : Int)) then (if (Int.tmod (wrap64 ((wrap64 (a1 * 7)) + 3)) (l0.length : Int)) < (l0.length : Int) then (if a2 = 0 then (none) else (some (Int.tmod (Go.bits .xor .i64 (wrap64 ((wrap64 ((wrap64 ((wrap64 ((wrap64 (rd l0 (Int.tmod a1 (l0.length : Int)))) * 131)) + (wrap64 ((wrap64 (rd l0 (Int.tmod (wrap64 ((wrap64 (a1 * 7)) + 3)) (l0.length : Int)))) * 1117)))) + (wrap64 (a1 * 29)))) + (wrap64 ((wrap64 (Int.tdiv a1 (l0.length : Int))) * 53)))) (wrap64 (Int.tdiv (wrap64 ((wrap64 ((wrap64 ((wrap64 ((wrap64 (rd l0 (Int.tmod a1 (l0.length : Int)))) * 131)) + (wrap64 ((wrap64 (rd l0 (Int.tmod (wrap64 ((wrap64 (a1 * 7)) + 3)) (l0.length : Int)))) * 1117)))) + (wrap64 (a1 * 29)))) + (wrap64 ((wrap64 (Int.tdiv a1 (l0.length : Int))) * 53)))) 64))) a2, wrap64 (a1 + 1)))) else (none)) else (none)) else (none)) else (none)))) else (if (l0.length : Int) = 0 then (none) else (if 0 ≤ (Int.tmod a1 (l0.length : Int)) then (if (Int.tmod a1 (l0.length : Int)) < (l0.length : Int) then (if 0 ≤ (Int.tmod (wrap64 ((wrap64 (a1 * 7)) + 3)) (l0.length : Int)) then (if (Int.tmod (wrap64 ((wrap64 (a1 * 7)) + 3)) (l0.length : Int)) < (l0.length : Int) then (if a2 = 0 then (none) else (some (Int.tmod (Go.bits .xor .i64 (wrap64 ((wrap64 ((wrap64 ((wrap64 ((wrap64 (rd l0 (Int.tmod a1 (l0.length : Int)))) * 131)) + (wrap64 ((wrap64 (rd l0 (Int.tmod (wrap64 ((wrap64 (a1 * 7)) + 3)) (l0.length : Int)))) * 1117)))) + (wrap64 (a1 * 29)))) + (wrap64 ((wrap64 (Int.tdiv a1 (l0.length : Int))) * 53)))) (wrap64 (Int.tdiv (wrap64 ((wrap64 ((wrap64 ((wrap64 ((wrap64 (rd l0 (Int.tmod a1 (l0.length : Int)))) * 131)) + (wrap64 ((wrap64 (rd l0 (Int.tmod (wrap64 ((wrap64 (a1 * 7)) + 3)) (l0.length : Int)))) * 1117)))) + (wrap64 (a1 * 29)))) + (wrap64 ((wrap64 (Int.tdiv a1 (l0.length : Int))) * 53)))) 64))) a2, wrap64 (a1 + 1)))) else (none)) else (none)) else (none)) else (none)))) = some (r1, r2) := by rw [if_neg (show ¬ (false = true) by decide)] at H; exact H
    clear H; have H := H1; clear H1
    by_cases c7 : a1 < (l0.length : Int)
    ·rw [if_pos c7] at H; have c7b0 : decide (a1 < (l0.length : Int)) = true := decide_eq_true c7; clear c7
     by_cases c8 : a2 ≤ 256
     ·rw [if_pos c8] at H; have c8b0 : decide (a2 ≤ 256) = true := decide_eq_true c8; clear c8
      by_cases c9 : 0 ≤ a1
      ·rw [if_pos c9] at H; have c9b0 : decide (0 ≤ a1) = true := decide_eq_true c9; clear c9
       by_cases c10 : a2 = 0
       ·rw [if_pos c10] at H; exact absurd H (by simp)
       ·rw [if_neg c10] at H; have c10b0 : (a2 == 0) = false := beq_eq_false_iff_ne.mpr c10; have c10b1 : (a2 != 0) = true := bne_iff_ne.mpr c10; simp only [Option.some.injEq, Prod.mk.injEq] at H; obtain ⟨rfl, rfl⟩ := H; have p100001 : 0 ≤ (a1 : Int) := of_decide_eq_true (by first | (with_reducible assumption) | assumption); have q100001 : a1 < (l0.length : Int) := of_decide_eq_true (by first | (with_reducible assumption) | assumption); obtain ⟨ad100001, e100001, hx100001_0⟩ := Kd.at_int HR0.out a1 p100001 q100001
        cases e100001
        replace p100001 := eq_true p100001; replace q100001 := eq_true q100001
        go_wp2
        go_ret2
        exact ⟨by first | rfl | (simp; done) | (simp [*]; done), by repeat (first | exact Drawn0.refl _ | apply Drawn0.step)⟩
      ·rw [if_neg c9] at H; exact absurd H (by simp)
     ·rw [if_neg c8] at H; have c8b0 : decide (a2 ≤ 256) = false := decide_eq_false c8; clear c8
      by_cases c11 : (l0.length : Int) = 0
      ·rw [if_pos c11] at H; exact absurd H (by simp)
      ·rw [if_neg c11] at H; have c11b0 : ((l0.length : Int) == 0) = false := beq_eq_false_iff_ne.mpr c11; have c11b1 : ((l0.length : Int) != 0) = true := bne_iff_ne.mpr c11; have c11b2 : ¬ (l0 = []) := fun h_ => c11 (by rw [h_]; rfl)
       obtain ⟨ji12, hji12⟩ : ∃ j_ : Int, (Int.tmod a1 (l0.length : Int)) = j_ := ⟨_, rfl⟩
       replace H : (if 0 ≤ (ji12) then (if (ji12) < (l0.length : Int) then (if 0 ≤ (Int.tmod (wrap64 ((wrap64 (a1 * 7)) + 3)) (l0.length : Int)) then (if (Int.tmod (wrap64 ((wrap64 (a1 * 7)) + 3)) (l0.length : Int)) < (l0.length : Int) then (if a2 = 0 then (none) else (some (Int.tmod (Go.bits .xor .i64 (wrap64 ((wrap64 ((wrap64 ((wrap64 ((wrap64 (rd l0 (ji12))) * 131)) + (wrap64 ((wrap64 (rd l0 (Int.tmod (wrap64 ((wrap64 (a1 * 7)) + 3)) (l0.length : Int)))) * 1117)))) + (wrap64 (a1 * 29)))) + (wrap64 ((wrap64 (Int.tdiv a1 (l0.length : Int))) * 53)))) (wrap64 (Int.tdiv (wrap64 ((wrap64 ((wrap64 ((wrap64 ((wrap64 (rd l0 (ji12))) * 131)) + (wrap64 ((wrap64 (rd l0 (Int.tmod (wrap64 ((wrap64 (a1 * 7)) + 3)) (l0.length : Int)))) * 1117)))) + (wrap64 (a1 * 29)))) + (wrap64 ((wrap64 (Int.tdiv a1 (l0.length : Int))) * 53)))) 64))) a2, wrap64 (a1 + 1)))) else (none)) else (none)) else (none)) else (none)) = some (r1, r2) := by first | (rw [hji12] at H; exact H) | (simp only [hji12] at H ⊢; exact H)
       by_cases c13 : 0 ≤ (ji12)
       ·rw [if_pos c13] at H; have c13b0 : decide (0 ≤ (ji12)) = true := decide_eq_true c13; clear c13
        by_cases c14 : (ji12) < (l0.length : Int)
        ·rw [if_pos c14] at H; have c14b0 : decide ((ji12) < (l0.length : Int)) = true := decide_eq_true c14; clear c14; obtain ⟨ji15, hji15⟩ : ∃ j_ : Int, (Int.tmod (wrap64 ((wrap64 (a1 * 7)) + 3)) (l0.length : Int)) = j_ := ⟨_, rfl⟩
         replace H : (if 0 ≤ (ji15) then (if (ji15) < (l0.length : Int) then (if a2 = 0 then (none) else (some (Int.tmod (Go.bits .xor .i64 (wrap64 ((wrap64 ((wrap64 ((wrap64 ((wrap64 (rd l0 (ji12))) * 131)) + (wrap64 ((wrap64 (rd l0 (ji15))) * 1117)))) + (wrap64 (a1 * 29)))) + (wrap64 ((wrap64 (Int.tdiv a1 (l0.length : Int))) * 53)))) (wrap64 (Int.tdiv (wrap64 ((wrap64 ((wrap64 ((wrap64 ((wrap64 (rd l0 (ji12))) * 131)) + (wrap64 ((wrap64 (rd l0 (ji15))) * 1117)))) + (wrap64 (a1 * 29)))) + (wrap64 ((wrap64 (Int.tdiv a1 (l0.length : Int))) * 53)))) 64))) a2, wrap64 (a1 + 1)))) else (none)) else (none)) = some (r1, r2) := by first | (rw [hji15] at H; exact H) | (simp only [hji15] at H ⊢; exact H)
         by_cases c16 : 0 ≤ (ji15)
         ·rw [if_pos c16] at H; have c16b0 : decide (0 ≤ (ji15)) = true := decide_eq_true c16; clear c16
          by_cases c17 : (ji15) < (l0.length : Int)
          ·rw [if_pos c17] at H; have c17b0 : decide ((ji15) < (l0.length : Int)) = true := decide_eq_true c17; clear c17
           by_cases c18 : a2 = 0
           ·rw [if_pos c18] at H; exact absurd H (by simp)
           ·rw [if_neg c18] at H; have c18b0 : (a2 == 0) = false := beq_eq_false_iff_ne.mpr c18; have c18b1 : (a2 != 0) = true := bne_iff_ne.mpr c18; simp only [Option.some.injEq, Prod.mk.injEq] at H; obtain ⟨rfl, rfl⟩ := H; have p100002 : 0 ≤ ((ji12) : Int) := of_decide_eq_true (by first | (with_reducible assumption) | assumption); have q100002 : (ji12) < (l0.length : Int) := of_decide_eq_true (by first | (with_reducible assumption) | assumption); obtain ⟨ad100002, e100002, hx100002_0⟩ := Kd.at_int HR0.out (ji12) p100002 q100002
            cases e100002
            replace p100002 := eq_true p100002; replace q100002 := eq_true q100002; have p100003 : 0 ≤ ((ji15) : Int) := of_decide_eq_true (by first | (with_reducible assumption) | assumption); have q100003 : (ji15) < (l0.length : Int) := of_decide_eq_true (by first | (with_reducible assumption) | assumption); obtain ⟨ad100003, e100003, hx100003_0⟩ := Kd.at_int HR0.out (ji15) p100003 q100003; obtain rfl : ad100002 = ad100003 := (by injection e100003)
            replace p100003 := eq_true p100003; replace q100003 := eq_true q100003
            go_wp2
            go_ret2
            exact ⟨by first | rfl | (simp; done) | (simp only [← hji12, ← hji15] <;> (first | rfl | simp)) | (simp [*]; done), by repeat (first | exact Drawn0.refl _ | apply Drawn0.step)⟩
          ·rw [if_neg c17] at H; exact absurd H (by simp)
         ·rw [if_neg c16] at H; exact absurd H (by simp)
        ·rw [if_neg c14] at H; exact absurd H (by simp)
       ·rw [if_neg c13] at H; exact absurd H (by simp)
    ·rw [if_neg c7] at H; have c7b0 : decide (a1 < (l0.length : Int)) = false := decide_eq_false c7; clear c7
     by_cases c19 : (l0.length : Int) = 0
     ·rw [if_pos c19] at H; exact absurd H (by simp)
     ·rw [if_neg c19] at H; have c19b0 : ((l0.length : Int) == 0) = false := beq_eq_false_iff_ne.mpr c19; have c19b1 : ((l0.length : Int) != 0) = true := bne_iff_ne.mpr c19; have c19b2 : ¬ (l0 = []) := fun h_ => c19 (by rw [h_]; rfl)
      obtain ⟨ji20, hji20⟩ : ∃ j_ : Int, (Int.tmod a1 (l0.length : Int)) = j_ := ⟨_, rfl⟩
      replace H : (if 0 ≤ (ji20) then (if (ji20) < (l0.length : Int) then (if 0 ≤ (Int.tmod (wrap64 ((wrap64 (a1 * 7)) + 3)) (l0.length : Int)) then (if (Int.tmod (wrap64 ((wrap64 (a1 * 7)) + 3)) (l0.length : Int)) < (l0.length : Int) then (if a2 = 0 then (none) else (some (Int.tmod (Go.bits .xor .i64 (wrap64 ((wrap64 ((wrap64 ((wrap64 ((wrap64 (rd l0 (ji20))) * 131)) + (wrap64 ((wrap64 (rd l0 (Int.tmod (wrap64 ((wrap64 (a1 * 7)) + 3)) (l0.length : Int)))) * 1117)))) + (wrap64 (a1 * 29)))) + (wrap64 ((wrap64 (Int.tdiv a1 (l0.length : Int))) * 53)))) (wrap64 (Int.tdiv (wrap64 ((wrap64 ((wrap64 ((wrap64 ((wrap64 (rd l0 (ji20))) * 131)) + (wrap64 ((wrap64 (rd l0 (Int.tmod (wrap64 ((wrap64 (a1 * 7)) + 3)) (l0.length : Int)))) * 1117)))) + (wrap64 (a1 * 29)))) + (wrap64 ((wrap64 (Int.tdiv a1 (l0.length : Int))) * 53)))) 64))) a2, wrap64 (a1 + 1)))) else (none)) else (none)) else (none)) else (none)) = some (r1, r2) := by first | (rw [hji20] at H; exact H) | (simp only [hji20] at H ⊢; exact H)
      by_cases c21 : 0 ≤ (ji20)
      ·rw [if_pos c21] at H; have c21b0 : decide (0 ≤ (ji20)) = true := decide_eq_true c21; clear c21
       by_cases c22 : (ji20) < (l0.length : Int)
       ·rw [if_pos c22] at H; have c22b0 : decide ((ji20) < (l0.length : Int)) = true := decide_eq_true c22; clear c22; obtain ⟨ji23, hji23⟩ : ∃ j_ : Int, (Int.tmod (wrap64 ((wrap64 (a1 * 7)) + 3)) (l0.length : Int)) = j_ := ⟨_, rfl⟩
        replace H : (if 0 ≤ (ji23) then (if (ji23) < (l0.length : Int) then (if a2 = 0 then (none) else (some (Int.tmod (Go.bits .xor .i64 (wrap64 ((wrap64 ((wrap64 ((wrap64 ((wrap64 (rd l0 (ji20))) * 131)) + (wrap64 ((wrap64 (rd l0 (ji23))) * 1117)))) + (wrap64 (a1 * 29)))) + (wrap64 ((wrap64 (Int.tdiv a1 (l0.length : Int))) * 53)))) (wrap64 (Int.tdiv (wrap64 ((wrap64 ((wrap64 ((wrap64 ((wrap64 (rd l0 (ji20))) * 131)) + (wrap64 ((wrap64 (rd l0 (ji23))) * 1117)))) + (wrap64 (a1 * 29)))) + (wrap64 ((wrap64 (Int.tdiv a1 (l0.length : Int))) * 53)))) 64))) a2, wrap64 (a1 + 1)))) else (none)) else (none)) = some (r1, r2) := by first | (rw [hji23] at H; exact H) | (simp only [hji23] at H ⊢; exact H)
        by_cases c24 : 0 ≤ (ji23)
        ·rw [if_pos c24] at H; have c24b0 : decide (0 ≤ (ji23)) = true := decide_eq_true c24; clear c24
         by_cases c25 : (ji23) < (l0.length : Int)
         ·rw [if_pos c25] at H; have c25b0 : decide ((ji23) < (l0.length : Int)) = true := decide_eq_true c25; clear c25
          by_cases c26 : a2 = 0
          ·rw [if_pos c26] at H; exact absurd H (by simp)
          ·rw [if_neg c26] at H; have c26b0 : (a2 == 0) = false := beq_eq_false_iff_ne.mpr c26; have c26b1 : (a2 != 0) = true := bne_iff_ne.mpr c26; simp only [Option.some.injEq, Prod.mk.injEq] at H; obtain ⟨rfl, rfl⟩ := H; have p100004 : 0 ≤ ((ji20) : Int) := of_decide_eq_true (by first | (with_reducible assumption) | assumption); have q100004 : (ji20) < (l0.length : Int) := of_decide_eq_true (by first | (with_reducible assumption) | assumption); obtain ⟨ad100004, e100004, hx100004_0⟩ := Kd.at_int HR0.out (ji20) p100004 q100004
           cases e100004
           replace p100004 := eq_true p100004; replace q100004 := eq_true q100004; have p100005 : 0 ≤ ((ji23) : Int) := of_decide_eq_true (by first | (with_reducible assumption) | assumption); have q100005 : (ji23) < (l0.length : Int) := of_decide_eq_true (by first | (with_reducible assumption) | assumption); obtain ⟨ad100005, e100005, hx100005_0⟩ := Kd.at_int HR0.out (ji23) p100005 q100005; obtain rfl : ad100004 = ad100005 := (by injection e100005)
           replace p100005 := eq_true p100005; replace q100005 := eq_true q100005
           go_wp2
           go_ret2
           exact ⟨by first | rfl | (simp; done) | (simp only [← hji20, ← hji23] <;> (first | rfl | simp)) | (simp [*]; done), by repeat (first | exact Drawn0.refl _ | apply Drawn0.step)⟩
         ·rw [if_neg c25] at H; exact absurd H (by simp)
        ·rw [if_neg c24] at H; exact absurd H (by simp)
       ·rw [if_neg c22] at H; exact absurd H (by simp)
      ·rw [if_neg c21] at H; exact absurd H (by simp)
end Go.Proofs.Ytaepebkeijmjgaa.Z
end
section
namespace Go.Proofs.Ytaepebkeijmjgaa
open Go.RowKit
set_option linter.unusedVariables false
set_option linter.unusedSimpArgs false
set_option maxRecDepth 100000
def Bld (T : TypeId) (B b : Nat) (l : List UInt8) (w : World) : Prop := Lib.IsBuilder T 5 B b (bcs l) w
theorem Bld.keep {T : TypeId} {B b : Nat} {l : List UInt8} {w w1 : World} (h : Bld T B b l w) (hs : w.heap.size ≤ w1.heap.size) (hb : ∀ k, k < w.heap.size → w1.heap[k]? = w.heap[k]?) : Bld T B b l w1 := by
 have one : ∀ p, Lib.BuilderAt T 5 B b p (bcs l) w → Lib.BuilderAt T 5 B b p (bcs l) w1 := by
  rintro p ⟨hB, v, hbk, hown, hne⟩; have hlt : b < w.heap.size := by
   rcases Nat.lt_or_ge b w.heap.size with h' | h'
   ·exact h'
   ·simp [Array.getElem?_eq_none h'] at hbk
  refine ⟨hB, v, (hb b hlt).trans hbk, ⟨hown.1, ?_⟩, hne⟩
  rcases hown.2 with h2 | ⟨g, cap, cur, hv, h1, h2, h3⟩
  ·exact .inl h2
  ·refine .inr ⟨g, cap, cur, hv, h1, (hb g ?_).trans h2, h3⟩
   rcases Nat.lt_or_ge g w.heap.size with h' | h'
   ·exact h'
   ·simp [Array.getElem?_eq_none h'] at h2
 rcases h with h | h
 ·exact .inl (one _ h)
 ·exact .inr (one _ h)
theorem Bld.below {T : TypeId} {B b : Nat} {l : List UInt8} {w w1 : World} (h : Bld T B b l w) (hb : Below w.heap.size w w1) : Bld T B b l w1 := h.keep hb.size fun k hk => hb.block k hk
theorem Bld.base {T : TypeId} {B b : Nat} {l : List UInt8} {w : World} (h : Bld T B b l w) : B ≤ b ∧ b < w.heap.size := by
 rcases h with h | h
 ·exact ⟨h.1, h.lt⟩
 ·exact ⟨h.1, h.lt⟩
end Go.Proofs.Ytaepebkeijmjgaa
end
section
namespace Go.Proofs.Ytaepebkeijmjgaa
open Go.RowKit
set_option linter.unusedVariables false
set_option linter.unusedSimpArgs false
set_option maxRecDepth 100000
def numByte (n k : Nat) (low : Bool) (i : Nat) : UInt8 := UInt8.ofNat (n / 2 ^ (8 * (if low then i else k - 1 - i)))
def numL (n k : Nat) (low : Bool) (m : Nat) : List UInt8 := (List.range m).map (numByte n k low)
theorem numL_length (n k : Nat) (low : Bool) (m : Nat) : (numL n k low m).length = m := by simp [numL]
end Go.Proofs.Ytaepebkeijmjgaa
end
section
namespace Go.Proofs.Ytaepebkeijmjgaa
open Go.RowKit
set_option linter.unusedVariables false
set_option linter.unusedSimpArgs false
def isW (w : Int) : Bool := decide (1 ≤ w) && decide (w ≤ 32)
def hOk (h : ByteArray) (w : Int) : Bool := decide (h.size = 0) || decide ((h.size : Int) = w)
def nodeOk (k v l r : ByteArray) (w : Int) : Bool := isW w && decide (1 ≤ k.size) && decide (k.size ≤ 256) && decide (v.size ≤ 2000) && hOk l w && hOk r w
def byteS (x : Int) : ByteArray := ⟨#[UInt8.ofNat x.toNat]⟩
theorem byteS_size (x : Int) : (byteS x).size = 1 := rfl
def sizedS (s : ByteArray) : ByteArray := byteS (s.size / 256) ++ byteS (s.size % 256) ++ s
theorem sizedS_size (s : ByteArray) : (sizedS s).size = 2 + s.size := by simp [sizedS, byteS_size]
def flagsOf (l r : ByteArray) : Int := (if l.size = 0 then 0 else 1) + (if r.size = 0 then 0 else 2)
def encNode (k v l r : ByteArray) (w : Int) : ByteArray := if nodeOk k v l r w = true then sizedS k ++ sizedS v ++ byteS (flagsOf l r) ++ l ++ r else ⟨#[]⟩
set_option maxHeartbeats 400000 in
theorem l1Width_any (x : Int) (w : World) : Calls Try.prog 34 #[.int .i64 x] w fun e w' => e = .returned (.bool (isW x)) ∧ w = w' := by
 go_enter Try.func34, Try.ntmps34
 go_wp2
 all_goals
  go_ret
  refine ⟨ret_bool ?_, rfl⟩
  go_light
  unfold isW
  grind
theorem size_zero (s : ByteArray) : s = ByteArray.empty ↔ s.size = 0 := by
 constructor
 ·intro h; rw [h]; rfl
 ·intro h; exact ByteArray.ext (Array.size_eq_zero_iff.mp h)
set_option maxHeartbeats 400000 in
theorem l2HashOk_any (h : ByteArray) (x : Int) (w : World) : Calls Try.prog 36 #[.string h, .int .i64 x] w fun e w' => e = .returned (.bool (hOk h x)) ∧ w = w' := by
 go_enter Try.func36, Try.ntmps36
 go_wp2
 all_goals
  go_ret
  refine ⟨ret_bool ?_, rfl⟩
  go_light
  have := size_zero h; unfold hOk
  grind
theorem byte1_str (w : World) (y : Int) (T : TypeId) (g c : Nat) (hg : g = w.heap.size) :
  (convert 22 9 (.slice (some ⟨g, 0, none⟩) 1 c)).run Try.prog (w.alloc (.cells #[.int .u8 y] T)) = .ok (.string ⟨#[UInt8.ofNat y.toNat]⟩) (w.alloc (.cells #[.int .u8 y] T)) := by
 subst hg; have h := run_convert_bytes_arg (P := Try.prog) (w.alloc (.cells #[.int .u8 y] T)) 22 5 Try.underlying22 Try.underlying5 w.heap.size 0 1 c [y] rfl (fun i hi => by
  obtain rfl : i = 0 := by omega
  rw [World.cell?_alloc_new w _ _ (0 + 0)]; rfl) 9 Try.underlying9
 exact h
theorem byteS_mod (x : Int) (h : 0 ≤ x) : (⟨#[UInt8.ofNat (x % 256).toNat]⟩ : ByteArray) = byteS x := by
 unfold byteS
 congr 3
 apply UInt8.toNat_inj.mp
 rw [UInt8.toNat_ofNat', UInt8.toNat_ofNat']; omega
set_option maxHeartbeats 400000 in
theorem l2Byte_any (x : Int) (hx : 0 ≤ x) (w : World) : Calls Try.prog 26 #[.int .i64 x] w fun e w' => e = .returned (.string (byteS x)) ∧ Below w.heap.size w w' := by
 go_enter Try.func26, Try.ntmps26
 go_wp2_with ((with_reducible refine gate_dst (N := 6) rfl ?_); refine wpList_convert rfl 22 9 _ rfl rfl (byte1_str _ _ _ _ _ rfl) ?_)
 go_ret
 refine ⟨ret_str ?_, by (repeat' (first | exact Below.refl _ _ | (with_reducible assumption) | (with_reducible refine Below.setCell ?_ (by first | (simp; done) | (simp; omega)) _) | refine below_then ?_ (by assumption) | (with_reducible refine below_new2 ?_ _) | (with_reducible refine Below.drew ?_) | (with_reducible refine bdrewN ?_ _)))⟩; exact byteS_mod x hx
set_option maxHeartbeats 400000 in
theorem l2Sized_any (s : ByteArray) (hs : s.size ≤ 4294967296) (w : World) : Calls Try.prog 33 #[.string s] w fun e w' => e = .returned (.string (sizedS s)) ∧ Below w.heap.size w w' := by
 have z1 : (byteS (s.size / 256)).size + (byteS (s.size % 256)).size ≤ 9223372036854775807 := by rw [byteS_size, byteS_size]; omega
 have z2 : (byteS (s.size / 256)).size + (byteS (s.size % 256)).size + s.size ≤ 9223372036854775807 := by rw [byteS_size, byteS_size]; omega
 go_enter Try.func33, Try.ntmps33
 go_wp2_with fail
 (go_at_call 26; refine (l2Byte_any _ (by omega) _).mono ?_; rintro e wa ⟨rfl, hb_wa⟩; obtain ⟨hc_wa, hf_wa⟩ := bcell hb_wa; have hz_wa := hb_wa.size; (try simp only [World.size_alloc, World.size_setCell, World.size_drew] at hz_wa); (try simp only [World.size_alloc, World.size_setCell, World.size_drew] at hc_wa); (try simp only [World.size_alloc, World.size_setCell, World.size_drew] at hf_wa); skip)
 go_wp2_with fail
 (go_at_call 26; refine (l2Byte_any _ (by omega) _).mono ?_; rintro e wb ⟨rfl, hb_wb⟩; obtain ⟨hc_wb, hf_wb⟩ := bcell hb_wb; have hz_wb := hb_wb.size; (try simp only [World.size_alloc, World.size_setCell, World.size_drew] at hz_wb); (try simp only [World.size_alloc, World.size_setCell, World.size_drew] at hc_wb); (try simp only [World.size_alloc, World.size_setCell, World.size_drew] at hf_wb); skip)
 go_wp2
 go_ret
 exact ⟨rfl, by (repeat' (first | exact Below.refl _ _ | (with_reducible assumption) | (with_reducible refine Below.setCell ?_ (by first | (simp; done) | (simp; omega)) _) | refine below_then ?_ (by assumption) | (with_reducible refine below_new2 ?_ _) | (with_reducible refine Below.drew ?_) | (with_reducible refine bdrewN ?_ _)))⟩
set_option maxHeartbeats 400000 in
theorem l2NodeOk_any (a b c d : ByteArray) (x : Int) (w : World) :
  Calls Try.prog 32 #[.agg #[.string a, .string b, .string c, .string d], .int .i64 x] w fun e w' => e = .returned (.bool (nodeOk a b c d x)) ∧ Below w.heap.size w w' := by
 unfold nodeOk
 by_cases hw : isW x = true
 ·by_cases h2 : hOk c x = true
  all_goals
   go_enter Try.func32, Try.ntmps32
   go_wp2_with (first | (go_at_call 34; refine (l1Width_any _ _).mono ?_; rintro e wq ⟨rfl, rfl⟩) | (go_at_call 36; refine (l2HashOk_any _ _ _).mono ?_; rintro e wq ⟨rfl, rfl⟩))
   all_goals
    go_ret
    refine ⟨ret_bool ?_, by (repeat' (first | exact Below.refl _ _ | (with_reducible assumption) | (with_reducible refine Below.setCell ?_ (by first | (simp; done) | (simp; omega)) _) | refine below_then ?_ (by assumption) | (with_reducible refine below_new2 ?_ _) | (with_reducible refine Below.drew ?_) | (with_reducible refine bdrewN ?_ _)))⟩
    go_light
    grind
 ·go_enter Try.func32, Try.ntmps32
  go_wp2_with (first | (go_at_call 34; refine (l1Width_any _ _).mono ?_; rintro e wq ⟨rfl, rfl⟩) | (go_at_call 36; refine (l2HashOk_any _ _ _).mono ?_; rintro e wq ⟨rfl, rfl⟩))
  all_goals
   go_ret
   refine ⟨ret_bool ?_, by (repeat' (first | exact Below.refl _ _ | (with_reducible assumption) | (with_reducible refine Below.setCell ?_ (by first | (simp; done) | (simp; omega)) _) | refine below_then ?_ (by assumption) | (with_reducible refine below_new2 ?_ _) | (with_reducible refine Below.drew ?_) | (with_reducible refine bdrewN ?_ _)))⟩
   go_light
   grind
set_option maxHeartbeats 400000 in
theorem specEncodeNode_any (a b c d : ByteArray) (x : Int) (w : World) :
  Calls Try.prog 23 #[.agg #[.string a, .string b, .string c, .string d], .int .i64 x] w fun e w' => e = .returned (.string (encNode a b c d x)) ∧ Below w.heap.size w w' := by
 by_cases hok : nodeOk a b c d x = true
 ·have hsz : a.size ≤ 256 ∧ b.size ≤ 2000 ∧ c.size ≤ 32 ∧ d.size ≤ 32 := by
   unfold nodeOk hOk isW at hok; simp only [Bool.and_eq_true, Bool.or_eq_true, decide_eq_true_eq] at hok; omega
  obtain ⟨h1, h2, h3, h4⟩ := hsz; have he : encNode a b c d x = sizedS a ++ sizedS b ++ byteS (flagsOf c d) ++ c ++ d := by unfold encNode; rw [if_pos hok]
  have HE := Lib.hid he; clear he; have h1b : a.size ≤ 4294967296 := by omega
  have h2b : b.size ≤ 4294967296 := by omega
  have z0 := fun x => byteS_size x
  have z1 : ¬ (9223372036854775807 < (sizedS a).size + (sizedS b).size) := by rw [sizedS_size, sizedS_size]; omega
  have z20 : ¬ (9223372036854775807 < (sizedS a).size + (sizedS b).size + (byteS 0).size) := by simp only [ByteArray.size_append, sizedS_size, byteS_size]; omega
  have z30 : ¬ (9223372036854775807 < (sizedS a).size + (sizedS b).size + (byteS 0).size + c.size) := by simp only [ByteArray.size_append, sizedS_size, byteS_size]; omega
  have z40 : ¬ (9223372036854775807 < (sizedS a).size + (sizedS b).size + (byteS 0).size + c.size + d.size) := by simp only [ByteArray.size_append, sizedS_size, byteS_size]; omega
  have z21 : ¬ (9223372036854775807 < (sizedS a).size + (sizedS b).size + (byteS 1).size) := by simp only [ByteArray.size_append, sizedS_size, byteS_size]; omega
  have z31 : ¬ (9223372036854775807 < (sizedS a).size + (sizedS b).size + (byteS 1).size + c.size) := by simp only [ByteArray.size_append, sizedS_size, byteS_size]; omega
  have z41 : ¬ (9223372036854775807 < (sizedS a).size + (sizedS b).size + (byteS 1).size + c.size + d.size) := by simp only [ByteArray.size_append, sizedS_size, byteS_size]; omega
  have z22 : ¬ (9223372036854775807 < (sizedS a).size + (sizedS b).size + (byteS 2).size) := by simp only [ByteArray.size_append, sizedS_size, byteS_size]; omega
  have z32 : ¬ (9223372036854775807 < (sizedS a).size + (sizedS b).size + (byteS 2).size + c.size) := by simp only [ByteArray.size_append, sizedS_size, byteS_size]; omega
  have z42 : ¬ (9223372036854775807 < (sizedS a).size + (sizedS b).size + (byteS 2).size + c.size + d.size) := by simp only [ByteArray.size_append, sizedS_size, byteS_size]; omega
  have z23 : ¬ (9223372036854775807 < (sizedS a).size + (sizedS b).size + (byteS 3).size) := by simp only [ByteArray.size_append, sizedS_size, byteS_size]; omega
  have z33 : ¬ (9223372036854775807 < (sizedS a).size + (sizedS b).size + (byteS 3).size + c.size) := by simp only [ByteArray.size_append, sizedS_size, byteS_size]; omega
  have z43 : ¬ (9223372036854775807 < (sizedS a).size + (sizedS b).size + (byteS 3).size + c.size + d.size) := by simp only [ByteArray.size_append, sizedS_size, byteS_size]; omega
  have z50 : ¬ (9223372036854775807 < (sizedS a).size + (sizedS b).size + (byteS 0).size + d.size) := by simp only [ByteArray.size_append, sizedS_size, byteS_size]; omega
  have z51 : ¬ (9223372036854775807 < (sizedS a).size + (sizedS b).size + (byteS 1).size + d.size) := by simp only [ByteArray.size_append, sizedS_size, byteS_size]; omega
  have z52 : ¬ (9223372036854775807 < (sizedS a).size + (sizedS b).size + (byteS 2).size + d.size) := by simp only [ByteArray.size_append, sizedS_size, byteS_size]; omega
  have z53 : ¬ (9223372036854775807 < (sizedS a).size + (sizedS b).size + (byteS 3).size + d.size) := by simp only [ByteArray.size_append, sizedS_size, byteS_size]; omega
  clear z0
  by_cases hc : c.size = 0
  all_goals
   by_cases hd : d.size = 0
   all_goals
    go_enter Try.func23, Try.ntmps23
    go_wp2_with (first | (go_at_call 32; refine (l2NodeOk_any _ _ _ _ _ _).mono ?_; rintro e wa ⟨rfl, hb_wa⟩; obtain ⟨hc_wa, hf_wa⟩ := bcell hb_wa; have hz_wa := hb_wa.size; (try simp only [World.size_alloc, World.size_setCell, World.size_drew] at hz_wa); (try simp only [World.size_alloc, World.size_setCell, World.size_drew] at hc_wa); (try simp only [World.size_alloc, World.size_setCell, World.size_drew] at hf_wa); (try have q_w_0_wa : w.heap.size < wa.heap.size := by omega)))
    have hS : wa.cell? ⟨w.heap.size, 0, none⟩ = some (.string a) ∧ wa.cell? ⟨w.heap.size, 1, none⟩ = some (.string b) ∧ wa.cell? ⟨w.heap.size, 2, none⟩ = some (.string c) ∧ wa.cell? ⟨w.heap.size, 3, none⟩ = some (.string d) := by
     refine ⟨?_, ?_, ?_, ?_⟩ <;> (rw [hc_wa _ _ (by omega)]; simp [go_sem])
    obtain ⟨e0, e1, e2, e3⟩ := hS; clear hc_wa hf_wa
    go_region_held3 (fun w' => w'.cell? ⟨w.heap.size, 0, none⟩ = some (.string a) ∧ w'.cell? ⟨w.heap.size, 1, none⟩ = some (.string b) ∧ w'.cell? ⟨w.heap.size, 2, none⟩ = some (.string c) ∧ w'.cell? ⟨w.heap.size, 3, none⟩ = some (.string d))
     (first
      | exact held4B (by assumption) (by assumption)
      | assumption
      | (simp [*]; done))
     (first
      | (go_at_call 26; refine (l2Byte_any _ (by decide) _).mono ?_; rintro e wx ⟨rfl, hbx⟩)
      | (go_at_call_of 33 (Value.string a); refine (l2Sized_any a h1b _).mono ?_; rintro e wx ⟨rfl, hbx⟩)
      | (go_at_call_of 33 (Value.string b); refine (l2Sized_any b h2b _).mono ?_; rintro e wx ⟨rfl, hbx⟩))
    go_wp2
    all_goals
     go_ret
     refine ⟨?_, by (repeat' (first | exact Below.refl _ _ | (with_reducible assumption) | (with_reducible refine Below.setCell ?_ (by first | (simp; done) | (simp; omega)) _) | refine below_then ?_ (by assumption) | (with_reducible refine below_new2 ?_ _) | (with_reducible refine Below.drew ?_) | (with_reducible refine bdrewN ?_ _)))⟩; rw [HE.out]; simp [flagsOf, hc, hd]
 ·have he : encNode a b c d x = ⟨#[]⟩ := by unfold encNode; rw [if_neg hok]
  have HE := Lib.hid he; clear he
  go_enter Try.func23, Try.ntmps23
  go_wp2_with (first | (go_at_call 32; refine (l2NodeOk_any _ _ _ _ _ _).mono ?_; rintro e wa ⟨rfl, hb_wa⟩; obtain ⟨hc_wa, hf_wa⟩ := bcell hb_wa; have hz_wa := hb_wa.size; (try simp only [World.size_alloc, World.size_setCell, World.size_drew] at hz_wa); (try simp only [World.size_alloc, World.size_setCell, World.size_drew] at hc_wa); (try simp only [World.size_alloc, World.size_setCell, World.size_drew] at hf_wa); skip))
  all_goals
   go_ret
   exact ⟨by rw [HE.out]; rfl, by (repeat' (first | exact Below.refl _ _ | (with_reducible assumption) | (with_reducible refine Below.setCell ?_ (by first | (simp; done) | (simp; omega)) _) | refine below_then ?_ (by assumption) | (with_reducible refine below_new2 ?_ _) | (with_reducible refine Below.drew ?_) | (with_reducible refine bdrewN ?_ _)))⟩
end Go.Proofs.Ytaepebkeijmjgaa
end
section
namespace Go.Proofs.Ytaepebkeijmjgaa
open Go.RowKit
set_option linter.unusedVariables false
set_option linter.unusedSimpArgs false
theorem bitsOr1 : bits .or .u32 0 1 = 1 := by decide
theorem bitsOr2 : bits .or .u32 0 2 = 2 := by decide
theorem bitsOr3 : bits .or .u32 1 2 = 3 := by decide
attribute [go_sem] bitsOr1 bitsOr2 bitsOr3
end Go.Proofs.Ytaepebkeijmjgaa
end
section
namespace Go.Proofs.Ytaepebkeijmjgaa.Z
open Go.RowKit Go.Proofs.Ytaepebkeijmjgaa
set_option linter.unusedVariables false
set_option linter.unusedSimpArgs false
def spec_EncodeNode.f (a0_0 a0_1 a0_2 a0_3 : ByteArray) (a1 : Int) : Option ByteArray := some (encNode a0_0 a0_1 a0_2 a0_3 a1)
theorem spec_EncodeNode.calls (a0_0 a0_1 a0_2 a0_3 : ByteArray) (a1 : Int) (r : ByteArray) (w : World) (h : spec_EncodeNode.f a0_0 a0_1 a0_2 a0_3 a1 = some r) :
  Calls Try.prog 23 #[.agg #[.string a0_0, .string a0_1, .string a0_2, .string a0_3], .int .i64 a1] w fun e w' => e = .returned (.string r) ∧ Below w.heap.size w w' := by
 obtain rfl := Option.some.inj h; exact specEncodeNode_any _ _ _ _ _ _
end Go.Proofs.Ytaepebkeijmjgaa.Z
end
section
namespace Go.Proofs.Ytaepebkeijmjgaa.Z
open Go.RowKit Go.Proofs.YtaepebkeijmjgaaW.PrintWords Go.Proofs.YtaepebkeijmjgaaW.PrintLast Go.Proofs.YtaepebkeijmjgaaW.PrintMore
attribute [local go_sem] max2_int min2_int max_two min_two max_three min_three max_four min_four
set_option linter.unusedVariables false
set_option linter.unusedSimpArgs false
def spec_l2Byte.f (a0 : Int) : Option (ByteArray) := some (strOfNums (([(a0) % 256] : List Int)))
set_option maxHeartbeats 8000000 in
set_option maxRecDepth 100000 in
theorem spec_l2Byte.calls (a0 : Int) (r : ByteArray) (w : World) (h : spec_l2Byte.f a0 = some r) :
  Calls Try.prog 26 #[.int .i64 a0] w fun e w' => e = .returned (.string r) ∧ Below w.heap.size w w' := by
 have HB := Aside0.mk (Below.refl w.heap.size w); have H : (some (strOfNums (([(a0) % 256] : List Int)))) = some r := h; clear h; obtain ⟨y260001, hy260001⟩ : ∃ y_ : List Int, y_ = (([(a0) % 256] : List Int)) := ⟨_, rfl⟩
 replace H : (some (strOfNums y260001)) = some r := by first | (rw [hy260001]; with_reducible exact H) | (have H2_ := (Option.bind_some _ _).symm.trans H; rw [hy260001]; with_reducible exact H2_) | (have H2_ := (Option.bind_some _ _).symm.trans H; with_reducible exact H2_) | with_reducible exact H | (rw [hy260001]; exact H) | exact H
 have Ny260001 := Aside0.mk hy260001; clear hy260001; obtain rfl := Option.some.inj H
 go_enter Try.func26, Try.ntmps26
 go_wp2_with (first | ((with_reducible refine gate_dst (N := 5) rfl ?_); refine Kd.R_lit (Kd.int .u8) _ 5 ?hg (N := 5) ?hd (xs := ([(a0) % 256] : List Int)) (inner := [.int .u8 ((a0) % 256)]) (ok := fun _ => True) (okp := fun _ => True) ?hr ?hp (fun _ hk => hk) trivial (Below.refl _ _) (Nat.le_refl _) (by simp) ?_; (case hd => rfl); (case hg => rfl); (case hr => first | (go_simp; done) | (go_simp; rfl)); (case hp => exact (Reps.one (show Kd.M (Kd.int .u8) _ _ _ ((a0) % 256) [.int .u8 ((a0) % 256)] from rfl) (Reps.none _ _))); intro v260002 w2 ho3 hb hg_ hnew_; clear hg_ hnew_; (first | rw [← Ny260001.out] at ho3 | (simp only [Int.reduceToNat] at ho3; rw [← Ny260001.out] at ho3)); have n0_ := Aside0.mk (Kd.R_lower ho3 (below_size (by repeat (first | (with_reducible first | exact HB.out | apply below_alloc | apply pw_below_drewN | apply below_drew1) | exact HB.out)))); have n1_ := Aside0.mk (below_step (by repeat (first | (with_reducible first | exact HB.out | apply below_alloc | apply pw_below_drewN | apply below_drew1) | exact HB.out)) hb); clear HB; have HO260003 := n0_; have HB := n1_; clear n0_ n1_; clear hb ho3; have hcv4 := own_string (P := Try.prog) Try.underlying22 Try.underlying5 Try.underlying9 (Kd.own_of_R HO260003.out)))
 go_ret
 exact ⟨by first | rfl | (simp [errW_none, errW_some] <;> rfl) | (simp [*, errW_none, errW_some] <;> rfl), by repeat (first | (with_reducible first | exact HB.out | apply below_alloc | apply pw_below_drewN | apply below_drew1) | exact HB.out)⟩
end Go.Proofs.Ytaepebkeijmjgaa.Z
end
section
namespace Go.Proofs.Ytaepebkeijmjgaa.Z
open Go.RowKit Go.Proofs.YtaepebkeijmjgaaW.PrintWords Go.Proofs.YtaepebkeijmjgaaW.PrintLast Go.Proofs.YtaepebkeijmjgaaW.PrintMore
attribute [local go_sem] max2_int min2_int max_two min_two max_three min_three max_four min_four
set_option linter.unusedVariables false
set_option linter.unusedSimpArgs false
def spec_l2Four.f (a0 : Int) : Option (ByteArray) := (spec_l2Byte.f (Int.tmod a0 256)).bind fun t280001 => ((spec_l2Byte.f (Int.tmod (wrap64 (Int.tdiv a0 256)) 256)).bind fun t280002 => (if t280001.size + t280002.size ≤ 9223372036854775807 then ((spec_l2Byte.f (Int.tmod (wrap64 (Int.tdiv a0 65536)) 256)).bind fun t280003 => (if (t280001 ++ t280002).size + t280003.size ≤ 9223372036854775807 then ((spec_l2Byte.f (Int.tmod (wrap64 (Int.tdiv a0 16777216)) 256)).bind fun t280004 => (if ((t280001 ++ t280002) ++ t280003).size + t280004.size ≤ 9223372036854775807 then (some (((t280001 ++ t280002) ++ t280003) ++ t280004)) else (none))) else (none))) else (none)))
set_option maxHeartbeats 8000000 in
set_option maxRecDepth 100000 in
theorem spec_l2Four.calls (a0 : Int) (r : ByteArray) (w : World) (h : spec_l2Four.f a0 = some r) :
  Calls Try.prog 28 #[.int .i64 a0] w fun e w' => e = .returned (.string r) ∧ Below w.heap.size w w' := by
 have HB := Aside0.mk (Below.refl w.heap.size w); have H : ((spec_l2Byte.f (Int.tmod a0 256)).bind fun t280001 => ((spec_l2Byte.f (Int.tmod (wrap64 (Int.tdiv a0 256)) 256)).bind fun t280002 => (if t280001.size + t280002.size ≤ 9223372036854775807 then ((spec_l2Byte.f (Int.tmod (wrap64 (Int.tdiv a0 65536)) 256)).bind fun t280003 => (if (t280001 ++ t280002).size + t280003.size ≤ 9223372036854775807 then ((spec_l2Byte.f (Int.tmod (wrap64 (Int.tdiv a0 16777216)) 256)).bind fun t280004 => (if ((t280001 ++ t280002) ++ t280003).size + t280004.size ≤ 9223372036854775807 then (some (((t280001 ++ t280002) ++ t280003) ++ t280004)) else (none))) else (none))) else (none)))) = some r := h; clear h; replace H := Option.bind_eq_some_iff.mp H; obtain ⟨t280001, A20, H⟩ := H; replace H : ((spec_l2Byte.f (Int.tmod (wrap64 (Int.tdiv a0 256)) 256)).bind fun t280002 => (if t280001.size + t280002.size ≤ 9223372036854775807 then ((spec_l2Byte.f (Int.tmod (wrap64 (Int.tdiv a0 65536)) 256)).bind fun t280003 => (if (t280001 ++ t280002).size + t280003.size ≤ 9223372036854775807 then ((spec_l2Byte.f (Int.tmod (wrap64 (Int.tdiv a0 16777216)) 256)).bind fun t280004 => (if ((t280001 ++ t280002) ++ t280003).size + t280004.size ≤ 9223372036854775807 then (some (((t280001 ++ t280002) ++ t280003) ++ t280004)) else (none))) else (none))) else (none))) = some r := H; have A2 := Aside0.mk A20; clear A20; replace H := Option.bind_eq_some_iff.mp H; obtain ⟨t280002, A30, H⟩ := H; replace H : (if t280001.size + t280002.size ≤ 9223372036854775807 then ((spec_l2Byte.f (Int.tmod (wrap64 (Int.tdiv a0 65536)) 256)).bind fun t280003 => (if (t280001 ++ t280002).size + t280003.size ≤ 9223372036854775807 then ((spec_l2Byte.f (Int.tmod (wrap64 (Int.tdiv a0 16777216)) 256)).bind fun t280004 => (if ((t280001 ++ t280002) ++ t280003).size + t280004.size ≤ 9223372036854775807 then (some (((t280001 ++ t280002) ++ t280003) ++ t280004)) else (none))) else (none))) else (none)) = some r := H; have A3 := Aside0.mk A30; clear A30
 by_cases c4 : t280001.size + t280002.size ≤ 9223372036854775807
 ·rw [if_pos c4] at H; have c4b0 := eq_true c4; have c4b1 : decide (t280001.size + t280002.size ≤ 9223372036854775807) = true := decide_eq_true c4
  try have c4b2 : (9223372036854775807 < t280001.size + t280002.size) = False := eq_false (Nat.not_lt.2 c4)
  replace H := Option.bind_eq_some_iff.mp H; obtain ⟨t280003, A50, H⟩ := H; replace H : (if (t280001 ++ t280002).size + t280003.size ≤ 9223372036854775807 then ((spec_l2Byte.f (Int.tmod (wrap64 (Int.tdiv a0 16777216)) 256)).bind fun t280004 => (if ((t280001 ++ t280002) ++ t280003).size + t280004.size ≤ 9223372036854775807 then (some (((t280001 ++ t280002) ++ t280003) ++ t280004)) else (none))) else (none)) = some r := H; have A5 := Aside0.mk A50; clear A50
  by_cases c6 : (t280001 ++ t280002).size + t280003.size ≤ 9223372036854775807
  ·rw [if_pos c6] at H; have c6b0 := eq_true c6; have c6b1 : decide ((t280001 ++ t280002).size + t280003.size ≤ 9223372036854775807) = true := decide_eq_true c6
   try have c6b2 : (9223372036854775807 < (t280001 ++ t280002).size + t280003.size) = False := eq_false (Nat.not_lt.2 c6)
   try have c6b4 : (9223372036854775807 < t280001.size + t280002.size + t280003.size) = False := eq_false (by have hh := c6; simp only [ByteArray.size_append, ByteArray.size_extract] at hh; omega)
   try (have c6b3 := c6b2; simp only [ByteArray.size_append, ByteArray.size_extract, Nat.min_self] at c6b3)
   replace H := Option.bind_eq_some_iff.mp H; obtain ⟨t280004, A70, H⟩ := H; replace H : (if ((t280001 ++ t280002) ++ t280003).size + t280004.size ≤ 9223372036854775807 then (some (((t280001 ++ t280002) ++ t280003) ++ t280004)) else (none)) = some r := H; have A7 := Aside0.mk A70; clear A70
   by_cases c8 : ((t280001 ++ t280002) ++ t280003).size + t280004.size ≤ 9223372036854775807
   ·rw [if_pos c8] at H; have c8b0 := eq_true c8; have c8b1 : decide (((t280001 ++ t280002) ++ t280003).size + t280004.size ≤ 9223372036854775807) = true := decide_eq_true c8
    try have c8b2 : (9223372036854775807 < ((t280001 ++ t280002) ++ t280003).size + t280004.size) = False := eq_false (Nat.not_lt.2 c8)
    try have c8b4 : (9223372036854775807 < (t280001.size + t280002.size) + t280003.size + t280004.size) = False := eq_false (by have hh := c8; simp only [ByteArray.size_append, ByteArray.size_extract] at hh; omega)
    try (have c8b3 := c8b2; simp only [ByteArray.size_append, ByteArray.size_extract, Nat.min_self] at c8b3)
    obtain rfl := Option.some.inj H
    go_enter Try.func28, Try.ntmps28
    go_wp2_with (first | ((with_reducible refine gate_callee (f := 26) rfl ?_); refine goesL_ (some 5) rfl rfl Try.func26 (by kernel_rfl) rfl #[.int .i64 (Int.tmod a0 256)] rfl (by (try simp only [List.map_toArray, List.map_cons, List.map_nil]); first | done | rfl | (simp only [List.length_drop, List.length_take]; rfl)) ?_; (with_reducible refine (spec_l2Byte.calls (Int.tmod a0 256) t280001 _ A2.out).mono ?_); rintro e w9 ⟨rfl, hb⟩; refine ⟨_, rfl, ?_⟩; have n0_ := Aside0.mk (below_step (by repeat (first | (with_reducible first | exact HB.out | apply below_alloc | apply pw_below_drewN | apply below_drew1) | exact HB.out)) hb); clear HB; have HB := n0_; clear n0_; (try clear hb); (try clear hb2); (try clear hk); (try clear hi)) | ((with_reducible refine gate_callee (f := 26) rfl ?_); refine goesL_ (some 9) rfl rfl Try.func26 (by kernel_rfl) rfl #[.int .i64 (Int.tmod (wrap64 (Int.tdiv a0 256)) 256)] rfl (by (try simp only [List.map_toArray, List.map_cons, List.map_nil]); first | done | rfl | (simp only [List.length_drop, List.length_take]; rfl)) ?_; (with_reducible refine (spec_l2Byte.calls (Int.tmod (wrap64 (Int.tdiv a0 256)) 256) t280002 _ A3.out).mono ?_); rintro e w10 ⟨rfl, hb⟩; refine ⟨_, rfl, ?_⟩; have n0_ := Aside0.mk (below_step (by repeat (first | (with_reducible first | exact HB.out | apply below_alloc | apply pw_below_drewN | apply below_drew1) | exact HB.out)) hb); clear HB; have HB := n0_; clear n0_; (try clear hb); (try clear hb2); (try clear hk); (try clear hi)) | ((with_reducible refine gate_callee (f := 26) rfl ?_); refine goesL_ (some 14) rfl rfl Try.func26 (by kernel_rfl) rfl #[.int .i64 (Int.tmod (wrap64 (Int.tdiv a0 65536)) 256)] rfl (by (try simp only [List.map_toArray, List.map_cons, List.map_nil]); first | done | rfl | (simp only [List.length_drop, List.length_take]; rfl)) ?_; (with_reducible refine (spec_l2Byte.calls (Int.tmod (wrap64 (Int.tdiv a0 65536)) 256) t280003 _ A5.out).mono ?_); rintro e w11 ⟨rfl, hb⟩; refine ⟨_, rfl, ?_⟩; have n0_ := Aside0.mk (below_step (by repeat (first | (with_reducible first | exact HB.out | apply below_alloc | apply pw_below_drewN | apply below_drew1) | exact HB.out)) hb); clear HB; have HB := n0_; clear n0_; (try clear hb); (try clear hb2); (try clear hk); (try clear hi)) | ((with_reducible refine gate_callee (f := 26) rfl ?_); refine goesL_ (some 19) rfl rfl Try.func26 (by kernel_rfl) rfl #[.int .i64 (Int.tmod (wrap64 (Int.tdiv a0 16777216)) 256)] rfl (by (try simp only [List.map_toArray, List.map_cons, List.map_nil]); first | done | rfl | (simp only [List.length_drop, List.length_take]; rfl)) ?_; (with_reducible refine (spec_l2Byte.calls (Int.tmod (wrap64 (Int.tdiv a0 16777216)) 256) t280004 _ A7.out).mono ?_); rintro e w12 ⟨rfl, hb⟩; refine ⟨_, rfl, ?_⟩; have n0_ := Aside0.mk (below_step (by repeat (first | (with_reducible first | exact HB.out | apply below_alloc | apply pw_below_drewN | apply below_drew1) | exact HB.out)) hb); clear HB; have HB := n0_; clear n0_; (try clear hb); (try clear hb2); (try clear hk); (try clear hi)))
    go_ret
    exact ⟨by first | rfl | (simp [errW_none, errW_some] <;> rfl) | (simp [*, errW_none, errW_some] <;> rfl), by repeat (first | (with_reducible first | exact HB.out | apply below_alloc | apply pw_below_drewN | apply below_drew1) | exact HB.out)⟩
   ·rw [if_neg c8] at H; exact absurd H (by simp)
  ·rw [if_neg c6] at H; exact absurd H (by simp)
 ·rw [if_neg c4] at H; exact absurd H (by simp)
end Go.Proofs.Ytaepebkeijmjgaa.Z
end
section
namespace Go.Proofs.Ytaepebkeijmjgaa.Z
open Go.RowKit Go.Proofs.Ytaepebkeijmjgaa
set_option linter.unusedVariables false
set_option linter.unusedSimpArgs false
def rep (n : Nat) (c : UInt8) : ByteArray := ⟨(List.replicate n c).toArray⟩
theorem rep_size (n : Nat) (c : UInt8) : (rep n c).size = n := by simp [rep, ByteArray.size]
theorem rep_add (m n : Nat) (c : UInt8) : rep m c ++ rep n c = rep (m + n) c := by
 apply ByteArray.ext
 simp [rep, ByteArray.data_append]
set_option maxHeartbeats 400000 in
theorem l1Long_nat (c : UInt8) : ∀ (n : Nat), n ≤ 4294967296 → ∀ w, Calls Try.prog 31 #[.int .i64 n, .string (rep 1 c)] w fun e w' => e = .returned (.string (rep n c)) ∧ Below w.heap.size w w' := by
 intro n
 induction n using Nat.strongRecOn with | ind n ih =>
 intro hn w; have HI := Lib.hid ih; clear ih
 by_cases h0 : n = 0
 ·subst h0
  go_enter Try.func31, Try.ntmps31
  go_wp2
  go_loop [5] (fun s => s = .string ⟨#[]⟩) (fun _ => 0)
  case atStart => rfl
  case round =>
   subst hrel
   go_wp2
   go_ret
   exact ⟨rfl, by (repeat' (first | exact Below.refl _ _ | (with_reducible assumption) | (with_reducible refine Below.setCell ?_ (by first | (simp; done) | (simp; omega)) _) | refine below_then ?_ (by assumption) | (with_reducible refine below_new2 ?_ _) | (with_reducible refine Below.drew ?_) | (with_reducible refine bdrewN ?_ _)))⟩
 ·have hb0 : decide (0 < n) = true := by simp; omega
  have hb1 : decide ((0:Int) < (n : Int)) = true := by simp; omega
  have hp : 0 < n := by omega
  clear h0
  go_enter Try.func31, Try.ntmps31
  go_wp2
  go_loop [5] (fun s => ∃ m : Nat, 1 ≤ m ∧ m ≤ n ∧ s = .string (rep m c)) (fun s => match s with | .string b => n - b.size | _ => 0)
  case atStart => exact ⟨1, by omega, by omega, rfl⟩
  case round =>
   obtain ⟨m, h1, hm, rfl⟩ := hrel; have hsz := rep_size m c
   by_cases hc : m * 2 ≤ n
   ·go_wp2
    go_round
    case rel => exact ⟨m + m, by omega, by omega, by rw [rep_add]⟩
    case measure => simp [rep_size, ← rep_add]; omega
   ·by_cases hl : m < n
    ·have hj : m + (n - m) = n := by omega
     have HJ := Lib.hid hj; clear hj; have hq := rep_size (n - m) c; have hsum : (rep m c).size + (rep (n - m) c).size ≤ 9223372036854775807 := by rw [hsz, hq]; omega
     go_wp2_with fail
     rw [show ((n : Int) - (m : Int)) = ((n - m : Nat) : Int) by omega]; refine (HI.out (n - m) (by omega) (by omega) _).mono ?_; rintro e w1 ⟨rfl, hb⟩
     go_wp2
     go_ret
     exact ⟨by rw [rep_add, HJ.out]; rfl, by (repeat' (first | exact Below.refl _ _ | (with_reducible assumption) | (with_reducible refine Below.setCell ?_ (by first | (simp; done) | (simp; omega)) _) | refine below_then ?_ (by assumption) | (with_reducible refine below_new2 ?_ _) | (with_reducible refine Below.drew ?_) | (with_reducible refine bdrewN ?_ _)))⟩
    ·obtain rfl : m = n := by omega
     go_wp2
     go_ret
     exact ⟨rfl, by (repeat' (first | exact Below.refl _ _ | (with_reducible assumption) | (with_reducible refine Below.setCell ?_ (by first | (simp; done) | (simp; omega)) _) | refine below_then ?_ (by assumption) | (with_reducible refine below_new2 ?_ _) | (with_reducible refine Below.drew ?_) | (with_reducible refine bdrewN ?_ _)))⟩
def spec_l1Long.f (a0 : Int) (a1 : ByteArray) : Option ByteArray :=
 if 0 ≤ a0 ∧ a0 ≤ 4294967296 ∧ a1.size = 1 then some (rep a0.toNat (a1.data.getD 0 0)) else none
theorem one_byte (s : ByteArray) (h : s.size = 1) : s = rep 1 (s.data.getD 0 0) := by
 obtain ⟨⟨l⟩⟩ := s
 match l, h with
 | [c], _ => rfl
theorem spec_l1Long.calls (a0 : Int) (a1 r : ByteArray) (w : World) (h : spec_l1Long.f a0 a1 = some r) :
  Calls Try.prog 31 #[.int .i64 a0, .string a1] w fun e w' => e = .returned (.string r) ∧ Below w.heap.size w w' := by
 unfold spec_l1Long.f at h
 split at h
 ·rename_i hc
  obtain ⟨h0, h1, h2⟩ := hc; obtain ⟨n, rfl⟩ := Int.eq_ofNat_of_zero_le h0; obtain rfl := Option.some.inj h; rw [Int.toNat_natCast]; have := l1Long_nat (a1.data.getD 0 0) n (by omega) w; rw [← one_byte a1 h2] at this; exact this
 ·cases h
end Go.Proofs.Ytaepebkeijmjgaa.Z
end
