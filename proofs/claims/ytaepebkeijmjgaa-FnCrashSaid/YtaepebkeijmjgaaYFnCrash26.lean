/- Own texts, joined. -/
import Derived.Test.YtaepebkeijmjgaaYFnCrash21
import Derived.Test.YtaepebkeijmjgaaYFnCrash23
import Derived.Test.YtaepebkeijmjgaaYFnCrash22
import Derived.Lib.BufferOwn
import Derived.Lib.BufferWrite
import Derived.Laws.Rows
import Derived.StillTailTactics
import Derived.IntWalk
import Derived.Laws.NewBlocks
import Derived.Deep.LoopGhost
import Derived.Test.YtaepebkeijmjgaaYFnCrash24
import Derived.Test.YtaepebkeijmjgaaYFnCrash25
import Derived.Test.YtaepebkeijmjgaaYFnCrash0
import Derived.ProofKit
import Derived.OpenShut
import Derived.ChangeSame
section
namespace Go.Proofs.Ytaepebkeijmjgaa.Z
open Go.RowKit Go.Proofs.Ytaepebkeijmjgaa Go.Proofs.YtaepebkeijmjgaaW.PrintWords Go.Proofs.YtaepebkeijmjgaaW.PrintLast
theorem wrapN (n : Nat) (h : n < 9223372036854775808) : IntKind.i64.wrap (n : Int) = n := by
 simp [IntKind.wrap, IntKind.bits, IntKind.signed]; omega
end Go.Proofs.Ytaepebkeijmjgaa.Z
end
section
namespace Go.Proofs.Ytaepebkeijmjgaa.Z
open Go.RowKit Go.Proofs.Ytaepebkeijmjgaa Go.Proofs.YtaepebkeijmjgaaW.PrintWords Go.Proofs.YtaepebkeijmjgaaW.PrintLast
set_option linter.unusedVariables false
set_option linter.unusedSimpArgs false
theorem xor_nn (x y : Nat) (hx : x < 1099511627776) (hy : y < 1099511627776) : 0 ≤ Go.bits .xor .i64 (x : Int) (y : Int) := by
 unfold Go.bits; have h1 : (BitVec.ofInt (IntKind.i64).bits (x : Int) ^^^ BitVec.ofInt (IntKind.i64).bits (y : Int)).toNat = x ^^^ y := by
  rw [BitVec.toNat_xor, BitVec.ofInt_natCast, BitVec.ofInt_natCast, BitVec.toNat_ofNat, BitVec.toNat_ofNat]; rw [Nat.mod_eq_of_lt (show x < 2 ^ (IntKind.i64).bits from Nat.lt_trans hx (by decide)), Nat.mod_eq_of_lt (show y < 2 ^ (IntKind.i64).bits from Nat.lt_trans hy (by decide))]
 have h2 : x ^^^ y < 2 ^ 40 := Nat.xor_lt_two_pow (n := 40) hx hy; dsimp only; rw [h1, wrapN _ (by omega)]; omega
def Code (L : List Int) : Prop := L.length ≤ 1048576 ∧ ∀ x ∈ L, 0 ≤ x ∧ x < 256
theorem code_rd {L : List Int} (h : Code L) (i : Int) : 0 ≤ rd L i ∧ rd L i < 256 := by
 unfold rd; rw [List.getD_eq_getElem?_getD]
 cases hg : L[i.toNat]? with
 | none => exact ⟨Int.le_refl _, by decide⟩
 | some x => exact h.2 x (List.mem_of_getElem? hg)
theorem w64D {x : Int} (h0 : -9223372036854775808 ≤ x) (h1 : x ≤ 9223372036854775807) : wrap64 x = x := by unfold wrap64; omega
theorem l1Take_x (a b p q : Int) (ha : 0 ≤ a ∧ a < 256) (hb : 0 ≤ b ∧ b < 256) (hp : 0 ≤ p ∧ p ≤ 100000000) (hq : 0 ≤ q ∧ q ≤ 100000000) :
  0 ≤ Go.bits .xor .i64 (wrap64 ((wrap64 ((wrap64 ((wrap64 ((wrap64 a) * 131)) + (wrap64 ((wrap64 b) * 1117)))) + (wrap64 (p * 29)))) + (wrap64 ((wrap64 q) * 53)))) (wrap64 (Int.tdiv (wrap64 ((wrap64 ((wrap64 ((wrap64 ((wrap64 a) * 131)) + (wrap64 ((wrap64 b) * 1117)))) + (wrap64 (p * 29)))) + (wrap64 ((wrap64 q) * 53)))) 64)) := by
 rw [w64D (x := a) (by omega) (by omega), w64D (x := b) (by omega) (by omega), w64D (x := a * 131) (by omega) (by omega), w64D (x := b * 1117) (by omega) (by omega), w64D (x := a * 131 + b * 1117) (by omega) (by omega), w64D (x := p * 29) (by omega) (by omega), w64D (x := a * 131 + b * 1117 + p * 29) (by omega) (by omega), w64D (x := q) (by omega) (by omega), w64D (x := q * 53) (by omega) (by omega), w64D (x := a * 131 + b * 1117 + p * 29 + q * 53) (by omega) (by omega)]; obtain ⟨n, hn⟩ := Int.eq_ofNat_of_zero_le (show 0 ≤ a * 131 + b * 1117 + p * 29 + q * 53 by omega); rw [hn]; have h1 : Int.tdiv (n : Int) 64 = ((n / 64 : Nat) : Int) := rfl; rw [h1, w64D (x := ((n / 64 : Nat) : Int)) (by omega) (by omega)]; exact xor_nn n (n / 64) (by omega) (by omega)
theorem tmod_in (x n : Int) (hx : 0 ≤ x) (hn : 1 ≤ n) : 0 ≤ Int.tmod x n ∧ Int.tmod x n < n := ⟨Int.tmod_nonneg _ hx, Int.tmod_lt_of_pos _ (by omega)⟩
theorem l1Take_s {L : List Int} (h : Code L) (p n : Int) (hp : 0 ≤ p ∧ p ≤ 100000000) (k : Nat) (hk : 1 ≤ k) : ∃ a, spec_l1Take.f k L p n = some (a, p + 1) ∧ 0 ≤ a ∧ (a < n ∨ a = 0) := by
 obtain ⟨k, rfl⟩ : ∃ j, k = j + 1 := ⟨k - 1, by omega⟩
 have hw : wrap64 (p + 1) = p + 1 := w64D (by omega) (by omega); unfold spec_l1Take.f
 by_cases h1 : n < 1
 ·rw [if_pos h1, spec_l1Take.j0, if_pos rfl, hw]; exact ⟨0, rfl, Int.le_refl _, .inr rfl⟩
 rw [if_neg h1]
 by_cases h2 : (L.length : Int) = 0
 ·rw [show ((L.length : Int) == 0) = true from beq_iff_eq.2 h2, spec_l1Take.j0, if_pos rfl, hw]; exact ⟨0, rfl, Int.le_refl _, .inr rfl⟩
 have hL := h.1; rw [show ((L.length : Int) == 0) = false from beq_eq_false_iff_ne.2 h2, spec_l1Take.j0, if_neg (by decide)]; have m1 := tmod_in p (L.length : Int) hp.1 (by omega); have hw7 : wrap64 ((wrap64 (p * 7)) + 3) = p * 7 + 3 := by rw [w64D (x := p * 7) (by omega) (by omega), w64D (by omega) (by omega)]
 have m2 := tmod_in (p * 7 + 3) (L.length : Int) (by omega) (by omega); have hq : 0 ≤ Int.tdiv p (L.length : Int) ∧ Int.tdiv p (L.length : Int) ≤ 100000000 := ⟨Int.tdiv_nonneg hp.1 (by omega), Int.le_trans (Int.tdiv_le_self _ hp.1) hp.2⟩
 have hx := l1Take_x _ _ p _ (code_rd h (Int.tmod p (L.length : Int))) (code_rd h (Int.tmod (p * 7 + 3) (L.length : Int))) hp hq; rw [hw7, hw]; have big : ∃ a : Int, (if (L.length : Int) = 0 then (none : Option (Int × Int)) else (if 0 ≤ (Int.tmod p (L.length : Int)) then (if (Int.tmod p (L.length : Int)) < (L.length : Int) then (if 0 ≤ (Int.tmod (p * 7 + 3) (L.length : Int)) then (if (Int.tmod (p * 7 + 3) (L.length : Int)) < (L.length : Int) then (if n = 0 then none else some (Int.tmod (Go.bits .xor .i64 (wrap64 ((wrap64 ((wrap64 ((wrap64 ((wrap64 (rd L (Int.tmod p (L.length : Int)))) * 131)) + (wrap64 ((wrap64 (rd L (Int.tmod (p * 7 + 3) (L.length : Int)))) * 1117)))) + (wrap64 (p * 29)))) + (wrap64 ((wrap64 (Int.tdiv p (L.length : Int))) * 53)))) (wrap64 (Int.tdiv (wrap64 ((wrap64 ((wrap64 ((wrap64 ((wrap64 (rd L (Int.tmod p (L.length : Int)))) * 131)) + (wrap64 ((wrap64 (rd L (Int.tmod (p * 7 + 3) (L.length : Int)))) * 1117)))) + (wrap64 (p * 29)))) + (wrap64 ((wrap64 (Int.tdiv p (L.length : Int))) * 53)))) 64))) n, p + 1)) else none) else none) else none) else none)) = some (a, p + 1) ∧ 0 ≤ a ∧ (a < n ∨ a = 0) := by
  rw [if_neg h2, if_pos m1.1, if_pos m1.2, if_pos m2.1, if_pos m2.2, if_neg (by omega)]; have m3 := tmod_in _ n hx (by omega); exact ⟨_, rfl, m3.1, .inl m3.2⟩
 by_cases h3 : p < (L.length : Int)
 ·rw [if_pos h3]
  by_cases h4 : n ≤ 256
  ·have hr := code_rd h p; have m3 := tmod_in (rd L p) n hr.1 (by omega); rw [if_pos h4, if_pos hp.1, if_neg (by omega), w64D (x := rd L p) (by omega) (by omega)]; exact ⟨_, rfl, m3.1, .inl m3.2⟩
  ·rw [if_neg h4]; exact big
 ·rw [if_neg h3]; exact big
theorem l1DrawKey_s {L : List Int} (h : Code L) (p : Int) (hp : 0 ≤ p ∧ p ≤ 100000000) (k : Nat) (hk : 1 ≤ k) : ∃ s, spec_l1DrawKey.f k L p = some (s, p + 1) ∧ s.size ≤ 70 := by
 obtain ⟨a, ha, h0, h1⟩ := l1Take_s h p 24 hp k hk; unfold spec_l1DrawKey.f; rw [ha, Option.bind_some]; dsimp only
 by_cases h2 : a < 20
 ·rw [if_pos h2, if_pos h0, w64D (x := a + 1) (by omega) (by omega), if_pos (by omega), if_pos (by omega)]; exact ⟨_, rfl, by rw [ByteArray.size_extract]; show min _ 20 - _ ≤ _; omega⟩
 rw [if_neg h2]
 by_cases h3 : a = 20
 ·rw [if_pos h3]; exact ⟨_, rfl, by decide⟩
 rw [if_neg h3]
 by_cases h4 : a = 21
 ·rw [if_pos h4]; exact ⟨_, rfl, by decide⟩
 rw [if_neg h4]
 by_cases h5 : a = 22
 ·rw [if_pos h5]; exact ⟨_, rfl, by decide⟩
 rw [if_neg h5]; exact ⟨_, rfl, Nat.le_of_eq (rep_size 70 _)⟩
end Go.Proofs.Ytaepebkeijmjgaa.Z
end
section
namespace Go.Proofs.Ytaepebkeijmjgaa
open Go.RowKit
set_option linter.unusedVariables false
set_option linter.unusedSimpArgs false
def chunk (l : List UInt8) (i : Nat) : List UInt8 := (l.drop (63 * i)).take 63
def secOne (l a b : List UInt8) (i : Nat) : List UInt8 := chunk l i ++ List.replicate (63 - (chunk l i).length) 0 ++ (if i = 0 then a else b)
def secs (l a b : List UInt8) : Nat → List UInt8
 | 0 => []
 | m + 1 => secs l a b m ++ secOne l a b m
theorem chunk_length (l : List UInt8) (i : Nat) : (chunk l i).length = min 63 (l.length - 63 * i) := by simp [chunk]
theorem chunk_le (l : List UInt8) (i : Nat) : (chunk l i).length ≤ 63 := by rw [chunk_length]; omega
theorem secOne_length (l a b : List UInt8) (i : Nat) (ha : a.length ≤ 1) (hb : b.length ≤ 1) : (secOne l a b i).length ≤ 64 := by
 unfold secOne; have h := chunk_le l i; rw [List.length_append, List.length_append, List.length_replicate]
 split <;> omega
theorem secs_length (l a b : List UInt8) (ha : a.length ≤ 1) (hb : b.length ≤ 1) : ∀ m, (secs l a b m).length ≤ 64 * m
 | 0 => by simp [secs]
 | m + 1 => by
  have h1 := secs_length l a b ha hb m; have h2 := secOne_length l a b m ha hb; rw [secs, List.length_append]; omega
def nSec (n : Nat) : Nat := (n + 62) / 63
theorem ext_chunk (s : ByteArray) (m en : Nat) (h : en = min (63 * m + 63) s.size) : (s.extract (63 * m) en).data.toList = chunk s.data.toList m := by
 have hl : s.data.toList.length = s.size := rfl; unfold chunk; simp only [ByteArray.data_extract, Array.toList_extract, List.extract]; subst h
 rcases Nat.le_total (63 * m + 63) s.size with h | h
 ·rw [Nat.min_eq_left h, show 63 * m + 63 - 63 * m = 63 by omega]
 ·rw [Nat.min_eq_right h, List.take_of_length_le (by rw [List.length_drop]; omega), List.take_of_length_le (by rw [List.length_drop]; omega)]
end Go.Proofs.Ytaepebkeijmjgaa
end
section
namespace Go.Proofs.Ytaepebkeijmjgaa.Z
open Go.RowKit Go.Proofs.Ytaepebkeijmjgaa
set_option linter.unusedVariables false
set_option linter.unusedSimpArgs false
def nodeRecL (e : ByteArray) : List UInt8 := numL e.size 4 true 4 ++ e.data.toList
def nodeRec (e : ByteArray) : ByteArray := ⟨(secs (nodeRecL e) [83] [77] (nSec (nodeRecL e).length)).toArray⟩
def commitRecL (n : Nat) (r : ByteArray) : List UInt8 := numL n 4 true 4 ++ numL r.size 1 true 1 ++ r.data.toList
def commitRec (n : Nat) (r : ByteArray) : ByteArray := ⟨(secs (commitRecL n r) [67] [67] (nSec (commitRecL n r).length)).toArray⟩
def recOk (e : ByteArray) : Bool := decide (1 ≤ e.size ∧ e.size ≤ 4000)
def nodeRecV (a0 : ByteArray) : ByteArray := if recOk a0 then nodeRec a0 else ⟨#[]⟩
theorem nodeRecV_yes {a0 : ByteArray} (h : 1 ≤ a0.size ∧ a0.size ≤ 4000) : nodeRecV a0 = nodeRec a0 := by unfold nodeRecV recOk; rw [decide_eq_true h]; rfl
theorem nodeRecV_no {a0 : ByteArray} (h : ¬ (1 ≤ a0.size ∧ a0.size ≤ 4000)) : nodeRecV a0 = ⟨#[]⟩ := by unfold nodeRecV recOk; rw [decide_eq_false h]; rfl
theorem arr_size (l : List UInt8) : (⟨l.toArray⟩ : ByteArray).size = l.length := by simp [ByteArray.size]
def comOk (n : Int) (r : ByteArray) : Bool := decide (1 ≤ n ∧ n ≤ 1000000 ∧ r.size ≤ 32)
def commitRecV (a0 : Int) (a1 : ByteArray) : ByteArray := if comOk a0 a1 then commitRec a0.toNat a1 else ⟨#[]⟩
theorem commitRecV_yes {a0 : Int} {a1 : ByteArray} (h : 1 ≤ a0 ∧ a0 ≤ 1000000 ∧ a1.size ≤ 32) : commitRecV a0 a1 = commitRec a0.toNat a1 := by unfold commitRecV comOk; rw [decide_eq_true h]; rfl
theorem commitRecV_no {a0 : Int} {a1 : ByteArray} (h : ¬ (1 ≤ a0 ∧ a0 ≤ 1000000 ∧ a1.size ≤ 32)) : commitRecV a0 a1 = ⟨#[]⟩ := by unfold commitRecV comOk; rw [decide_eq_false h]; rfl
end Go.Proofs.Ytaepebkeijmjgaa.Z
end
section
namespace Go.Proofs.Ytaepebkeijmjgaa.Z
open Go.RowKit Go.Proofs.Ytaepebkeijmjgaa Go.Proofs.YtaepebkeijmjgaaW.PrintWords Go.Proofs.YtaepebkeijmjgaaW.PrintLast
set_option linter.unusedVariables false
set_option linter.unusedSimpArgs false
theorem w64c {x : Int} (h0 : -9223372036854775808 ≤ x) (h1 : x ≤ 9223372036854775807) : wrap64 x = x := by unfold wrap64; omega
theorem ba_ext {a b : ByteArray} (h : a.data.toList = b.data.toList) : a = b := ByteArray.ext (Array.toList_inj.mp h)
theorem ba_app (a b : ByteArray) : (a ++ b).data.toList = a.data.toList ++ b.data.toList := by simp [ByteArray.data_append]
theorem ba_len (a : ByteArray) : a.data.toList.length = a.size := rfl
theorem ba_mk (l : List UInt8) : (⟨l.toArray⟩ : ByteArray).data.toList = l := by simp
theorem l2Marked_loop (s A B : ByteArray) (hs : s.size ≤ 1048576) (hA : A.size ≤ 1) (hB : B.size ≤ 1) : ∀ (d m k : Nat) (out : ByteArray), nSec s.size = m + d → d < k →
  out.data.toList = secs s.data.toList A.data.toList B.data.toList m →
  ∃ r, spec_l2Marked.l0 k s A B out ((63 * m : Nat) : Int) = some r ∧ r.data.toList = secs s.data.toList A.data.toList B.data.toList (nSec s.size) := by
 intro d
 induction d with
 | zero =>
  intro m k out hn hk ho; obtain ⟨k, rfl⟩ : ∃ j, k = j + 1 := ⟨k - 1, by omega⟩
  refine ⟨out, ?_, by rw [hn]; exact ho⟩; simp only [spec_l2Marked.l0]; rw [if_neg (by unfold nSec at hn; omega)]
 | succ d ih =>
  intro m k out hn hk ho; obtain ⟨k, rfl⟩ : ∃ j, k = j + 1 := ⟨k - 1, by omega⟩
  have hlt : 63 * m < s.size := by unfold nSec at hn; omega
  have hol : out.size ≤ 64 * m := by
   have := secs_length s.data.toList A.data.toList B.data.toList hA hB m; rw [← ho] at this; exact this
  -- one round, whatever the part is
  have step : ∀ (part : ByteArray), part.data.toList = chunk s.data.toList m ++ List.replicate (63 - (chunk s.data.toList m).length) 0 → ∀ (M : ByteArray), M.data.toList = (if m = 0 then A.data.toList else B.data.toList) →
    ∃ r, spec_l2Marked.l0 k s A B (out ++ part ++ M) ((63 * (m + 1) : Nat) : Int) = some r ∧ r.data.toList = secs s.data.toList A.data.toList B.data.toList (nSec s.size) := by
   intro part hp M hM; refine ih (m + 1) k _ (by omega) (by omega) ?_; rw [ba_app, ba_app, ho, hp, hM, secs, secOne]; simp only [List.append_assoc]
  have hcl : (chunk s.data.toList m).length = min 63 (s.size - 63 * m) := chunk_length _ _; have hw : wrap64 (((63 * m : Nat) : Int) + 63) = ((63 * (m + 1) : Nat) : Int) := by rw [w64c (by omega) (by omega)]; omega
  have eM : ((63 * m : Nat) : Int) = 0 ↔ m = 0 := by omega
  simp only [spec_l2Marked.l0]; rw [if_pos (by omega), hw]; have t1 : (((63 * m : Nat) : Int)).toNat = 63 * m := by omega
  have t2 : (((63 * (m + 1) : Nat) : Int)).toNat = 63 * (m + 1) := by omega
  rw [t1, t2]
  by_cases hf : 63 * (m + 1) ≤ s.size
  ·rw [if_pos (by omega), if_pos (by omega), if_pos (by omega)]; have hpart : (s.extract (63 * m) (63 * (m + 1))).data.toList = chunk s.data.toList m ++ List.replicate (63 - (chunk s.data.toList m).length) 0 := by
    rw [hcl, show min 63 (s.size - 63 * m) = 63 by omega, ext_chunk s m _ (by omega)]; simp
   have hps : (s.extract (63 * m) (63 * (m + 1))).size = 63 := by rw [ByteArray.size_extract]; omega
   by_cases h0 : m = 0
   ·rw [if_pos (eM.2 h0), if_pos (by rw [hps]; omega), if_pos (by rw [ByteArray.size_append, hps]; omega)]; exact step _ hpart A (by rw [if_pos h0])
   ·rw [if_neg (fun h => h0 (eM.1 h)), if_pos (by rw [hps]; omega), if_pos (by rw [ByteArray.size_append, hps]; omega)]; exact step _ hpart B (by rw [if_neg h0])
  ·rw [if_neg (by omega), if_pos (by omega), if_pos (by omega)]; have hg : wrap64 (((63 * (m + 1) : Nat) : Int) - (s.size : Int)) = ((63 * (m + 1) - s.size : Nat) : Int) := by rw [w64c (by omega) (by omega)]; omega
   have hlong : spec_l1Long.f (wrap64 (((63 * (m + 1) : Nat) : Int) - (s.size : Int))) (⟨#[0]⟩ : ByteArray) = some (rep (63 * (m + 1) - s.size) 0) := by
    rw [hg]; unfold spec_l1Long.f; rw [if_pos ⟨by omega, by omega, rfl⟩, Int.toNat_natCast]; rfl
   rw [hlong]; simp only [Option.bind_some]; have hps : (s.extract (63 * m) s.size).size = s.size - 63 * m := by rw [ByteArray.size_extract]; omega
   have hpart : (s.extract (63 * m) s.size ++ rep (63 * (m + 1) - s.size) 0).data.toList = chunk s.data.toList m ++ List.replicate (63 - (chunk s.data.toList m).length) 0 := by
    have hz : 63 - min 63 (s.size - 63 * m) = 63 * (m + 1) - s.size := by omega
    rw [ba_app, ext_chunk s m _ (by omega), hcl, hz]; unfold rep; rw [ba_mk]
   have hpz : (s.extract (63 * m) s.size ++ rep (63 * (m + 1) - s.size) 0).size = 63 := by rw [ByteArray.size_append, hps, rep_size]; omega
   rw [if_pos (by rw [hps, rep_size]; omega)]
   by_cases h0 : m = 0
   ·rw [if_pos (eM.2 h0), if_pos (by rw [hpz]; omega), if_pos (by rw [ByteArray.size_append, hpz]; omega)]; exact step _ hpart A (by rw [if_pos h0])
   ·rw [if_neg (fun h => h0 (eM.1 h)), if_pos (by rw [hpz]; omega), if_pos (by rw [ByteArray.size_append, hpz]; omega)]; exact step _ hpart B (by rw [if_neg h0])
theorem l2Marked_f (s A B : ByteArray) (hs : s.size ≤ 1048576) (hA : A.size ≤ 1) (hB : B.size ≤ 1) (k : Nat) (hk : nSec s.size < k) :
  spec_l2Marked.f k s A B = some ⟨(secs s.data.toList A.data.toList B.data.toList (nSec s.size)).toArray⟩ := by
 obtain ⟨r, h1, h2⟩ := l2Marked_loop s A B hs hA hB (nSec s.size) 0 k ⟨#[]⟩ (by omega) hk rfl; unfold spec_l2Marked.f; refine h1.trans (congrArg some (ba_ext ?_)); rw [h2, ba_mk]
theorem l2Byte_f (n : Nat) : spec_l2Byte.f (n : Int) = some ⟨#[UInt8.ofNat n]⟩ := by
 unfold spec_l2Byte.f; have h : ((n : Int) % 256).toNat = n % 256 := by omega
 simp only [strOfNums, List.map_cons, List.map_nil, h]
 congr 4
 apply UInt8.toNat_inj.mp
 rw [UInt8.toNat_ofNat', UInt8.toNat_ofNat']; omega
theorem four_step (n q : Nat) (hn : n < 4294967296) (hq : 0 < q) (hq2 : q ≤ 16777216) : Int.tmod (wrap64 (Int.tdiv (n : Int) (q : Int))) 256 = (((n / q) % 256 : Nat) : Int) := by
 have h1 : Int.tdiv (n : Int) (q : Int) = ((n / q : Nat) : Int) := by rw [Int.tdiv_eq_ediv_of_nonneg (by omega)]; rfl
 have h2 : n / q ≤ n := Nat.div_le_self n q; rw [h1]; generalize n / q = c at *; rw [w64c (by omega) (by omega), Int.tmod_eq_emod_of_nonneg (by omega)]; omega
theorem ofNat_mod (n : Nat) : UInt8.ofNat (n % 256) = UInt8.ofNat n := by
 apply UInt8.toNat_inj.mp
 rw [UInt8.toNat_ofNat', UInt8.toNat_ofNat']; omega
theorem l2Four_f (n : Nat) (hn : n < 4294967296) : spec_l2Four.f (n : Int) = some ⟨(numL n 4 true 4).toArray⟩ := by
 unfold spec_l2Four.f; have e1 : Int.tmod (n : Int) 256 = ((n % 256 : Nat) : Int) := by rw [Int.tmod_eq_emod_of_nonneg (by omega)]; rfl
 have e2 := four_step n 256 hn (by omega) (by omega); have e3 := four_step n 65536 hn (by omega) (by omega); have e4 := four_step n 16777216 hn (by omega) (by omega); rw [e1, show (256 : Int) = ((256 : Nat) : Int) from rfl] at *; rw [e2, show (65536 : Int) = ((65536 : Nat) : Int) from rfl, e3, show (16777216 : Int) = ((16777216 : Nat) : Int) from rfl, e4]; simp only [l2Byte_f, Option.bind_some]; rw [if_pos (by show 1 + 1 ≤ _; omega), if_pos (by show 2 + 1 ≤ _; omega), if_pos (by show 3 + 1 ≤ _; omega)]; rw [ofNat_mod, ofNat_mod, ofNat_mod, ofNat_mod]; refine congrArg some (ba_ext ?_); rw [ba_mk]; simp [numL, numByte, List.range_succ]
theorem spec_NodeRecord_f (a0 : ByteArray) (k : Nat) (hk : 1000 < k) : spec_NodeRecord.f k a0 = some (nodeRecV a0) := by
 unfold spec_NodeRecord.f
 by_cases h0 : (a0.size : Int) < 1
 ·rw [if_pos h0, nodeRecV_no (by omega)]; obtain ⟨k, rfl⟩ : ∃ j, k = j + 1 := ⟨k - 1, by omega⟩
  simp only [spec_NodeRecord.j0]; rfl
 ·rw [if_neg h0]; obtain ⟨k, rfl⟩ : ∃ j, k = j + 1 := ⟨k - 1, by omega⟩
  by_cases h1 : (a0.size : Int) > 4000
  ·rw [decide_eq_true h1, nodeRecV_no (by omega)]; simp only [spec_NodeRecord.j0]; rfl
  ·rw [decide_eq_false h1, nodeRecV_yes (by omega)]; simp only [spec_NodeRecord.j0]; rw [if_neg (by decide), l2Four_f _ (by omega)]; simp only [Option.bind_some]; have hz : (⟨(numL a0.size 4 true 4).toArray⟩ : ByteArray).size = 4 := by rw [arr_size, numL_length]
   have hs : ((⟨(numL a0.size 4 true 4).toArray⟩ : ByteArray) ++ a0).size = 4 + a0.size := by rw [ByteArray.size_append, hz]
   rw [if_pos (by rw [hz]; omega)]; have hl : ((⟨(numL a0.size 4 true 4).toArray⟩ : ByteArray) ++ a0).data.toList = nodeRecL a0 := by rw [ba_app, ba_mk]; rfl
   rw [l2Marked_f _ _ _ (by omega) (by decide) (by decide) k (by rw [hs]; unfold nSec; omega), hl]; simp only [Option.bind_some]; unfold nodeRec; rw [← hl, ba_len]
theorem secs_first (l a b c : List UInt8) : secs l a b 1 = secs l a c 1 := by simp [secs, secOne]
theorem spec_CommitRecord_f (a0 : Int) (a1 : ByteArray) (k : Nat) (hk : 1000 < k) : spec_CommitRecord.f k a0 a1 = some (commitRecV a0 a1) := by
 unfold spec_CommitRecord.f; obtain ⟨k, rfl⟩ : ∃ j, k = j + 1 := ⟨k - 1, by omega⟩
 by_cases h0 : a0 < 1
 ·rw [if_pos h0, commitRecV_no (by omega)]; simp only [spec_CommitRecord.j0]; rfl
 ·rw [if_neg h0]
  by_cases h2 : a0 > 1000000
  ·rw [if_pos h2, commitRecV_no (by omega)]; simp only [spec_CommitRecord.j0]; rfl
  ·rw [if_neg h2]
   by_cases h1 : (a1.size : Int) > 32
   ·rw [decide_eq_true h1, commitRecV_no (by omega)]; simp only [spec_CommitRecord.j0]; rfl
   ·rw [decide_eq_false h1, commitRecV_yes (by omega)]; obtain ⟨n, rfl⟩ := Int.eq_ofNat_of_zero_le (show 0 ≤ a0 by omega); rw [Int.toNat_natCast]; simp only [spec_CommitRecord.j0]; rw [if_neg (by decide), l2Four_f _ (by omega), l2Byte_f]; simp only [Option.bind_some]; have hz : (⟨(numL n 4 true 4).toArray⟩ : ByteArray).size = 4 := by rw [arr_size, numL_length]
    have hy : (⟨#[UInt8.ofNat a1.size]⟩ : ByteArray).size = 1 := rfl; have hs : ((⟨(numL n 4 true 4).toArray⟩ : ByteArray) ++ (⟨#[UInt8.ofNat a1.size]⟩ : ByteArray) ++ a1).size = 5 + a1.size := by rw [ByteArray.size_append, ByteArray.size_append, hz, hy]
    have hl : ((⟨(numL n 4 true 4).toArray⟩ : ByteArray) ++ (⟨#[UInt8.ofNat a1.size]⟩ : ByteArray) ++ a1).data.toList = commitRecL n a1 := by
     rw [ba_app, ba_app, ba_mk, commitRecL]
     congr 2
     simp [numL, numByte]
    have hn : nSec (5 + a1.size) = 1 := by unfold nSec; omega
    rw [if_pos (by rw [hz, hy]; omega), if_pos (by rw [ByteArray.size_append, hz, hy]; omega)]; rw [l2Marked_f _ _ _ (by omega) (by decide) (by decide) k (by rw [hs]; unfold nSec; omega), hl, hs, hn]; simp only [Option.bind_some]; unfold commitRec; rw [← hl, ba_len, hs, hn]; refine congrArg some (ba_ext ?_); rw [ba_mk, ba_mk]; exact secs_first _ _ _ _
end Go.Proofs.Ytaepebkeijmjgaa.Z
end
section
namespace Go.Proofs.Ytaepebkeijmjgaa.Z
open Go.RowKit Go.Proofs.Ytaepebkeijmjgaa Go.Proofs.YtaepebkeijmjgaaW.PrintWords Go.Proofs.YtaepebkeijmjgaaW.PrintLast
set_option linter.unusedVariables false
set_option linter.unusedSimpArgs false
def h0P : List Int := [1779033703, 3144134277, 1013904242, 2773480762, 1359893119, 2600822924, 528734635, 1541459225]
def stateP (m : List Int) : Nat → List Int
 | 0 => h0P
 | n + 1 => compP (stateP m n) (blockAt m (64 * n))
theorem compP_length (h b : List Int) : (compP h b).length = 8 := rfl
theorem stateP_length (m : List Int) : ∀ n, (stateP m n).length = 8
 | 0 => rfl
 | n + 1 => compP_length _ _
def wordB (x : Int) : List Int := [x / 16777216 % 256, x / 65536 % 256, x / 256 % 256, x % 256]
def outB (h : List Int) : Nat → List Int
 | 0 => []
 | n + 1 => outB h n ++ wordB (rdN h n)
theorem outB_length (h : List Int) : ∀ n, (outB h n).length = 4 * n
 | 0 => rfl
 | n + 1 => by rw [outB, List.length_append, outB_length h n]; simp [wordB]; omega
def shaL (l : List UInt8) : List Int := outB (stateP (ints (padP l)) ((l.length + 72) / 64)) 8
theorem shaL_length (l : List UInt8) : (shaL l).length = 32 := outB_length _ _
def shaV (s : ByteArray) : ByteArray := strOfNums (shaL s.data.toList)
theorem strOfNums_size (l : List Int) : (strOfNums l).size = l.length := by simp [strOfNums, ByteArray.size]
theorem shaV_size (s : ByteArray) : (shaV s).size = 32 := by rw [shaV, strOfNums_size, shaL_length]
theorem sha_l1 (h : List Int) (hh : h.length = 8) : ∀ (d n k : Nat), n + d = 8 → d < k → spec_Sha256.l1 k h (outB h n) (n : Int) = some (strOfNums (outB h 8)) := by
 intro d
 induction d with
 | zero =>
  intro n k hn hk; obtain ⟨k, rfl⟩ : ∃ j, k = j + 1 := ⟨k - 1, by omega⟩
  obtain rfl : n = 8 := by omega
  simp only [spec_Sha256.l1]; rw [if_neg (by omega)]
 | succ d ih =>
  intro n k hn hk; obtain ⟨k, rfl⟩ : ∃ j, k = j + 1 := ⟨k - 1, by omega⟩
  have hl := outB_length h n; simp only [spec_Sha256.l1]; have e1 : wrap64 ((n : Int) + 1) = ((n + 1 : Nat) : Int) := by rw [w64 (by omega) (by omega)]; omega
  rw [e1, hh, hl]; clear e1; simp only [rd_nat, Option.bind_some]; rw [if_pos (by omega), if_pos (by omega), if_pos (by omega), if_pos (by simp; omega)]; exact ih (n + 1) k (by omega) (by omega)
theorem sha_l0 (m : List Int) (N : Nat) (hm : m.length = 64 * N) (hb : m.length ≤ 1099511627776) : ∀ (d n k : Nat), n + d = N → d + 80 < k →
  spec_Sha256.l0 k (stateP m n) kTab m ((64 * n : Nat) : Int) = some (strOfNums (outB (stateP m N) 8)) := by
 intro d
 induction d with
 | zero =>
  intro n k hn hk; obtain ⟨k, rfl⟩ : ∃ j, k = j + 1 := ⟨k - 1, by omega⟩
  obtain rfl : n = N := by omega
  simp only [spec_Sha256.l0]; rw [if_neg (by omega)]; exact sha_l1 _ (stateP_length _ _) 8 0 k rfl (by omega)
 | succ d ih =>
  intro n k hn hk; obtain ⟨k, rfl⟩ : ∃ j, k = j + 1 := ⟨k - 1, by omega⟩
  simp only [spec_Sha256.l0]; rw [if_pos (by omega), l1Block_f _ m (64 * n) k (stateP_length _ _) (by omega) hb (by omega)]; simp only [Option.bind_some]; have e1 : wrap64 (((64 * n : Nat) : Int) + 64) = ((64 * (n + 1) : Nat) : Int) := by rw [w64 (by omega) (by omega)]; omega
  rw [e1]; clear e1; exact ih (n + 1) k (by omega) (by omega)
theorem spec_Sha256_f (a0 : ByteArray) (ha : a0.size ≤ 4294967296) (k : Nat) (hk : a0.size + 100 < k) : spec_Sha256.f k a0 = some (shaV a0) := by
 unfold spec_Sha256.f; rw [kTab_f]; simp only [Option.bind_some]; unfold spec_l1Padded.f; rw [if_pos ha]; simp only [Option.bind_some]; have hl : a0.data.toList.length = a0.size := rfl; have hp : (ints (padP a0.data.toList)).length = 64 * ((a0.data.toList.length + 72) / 64) := by rw [ints_length, padP_length]
 exact sha_l0 (ints (padP a0.data.toList)) _ hp (by rw [hp, hl]; omega) ((a0.data.toList.length + 72) / 64) 0 k (by omega) (by rw [hl]; omega)
end Go.Proofs.Ytaepebkeijmjgaa.Z
end
section
namespace Go.Proofs.Ytaepebkeijmjgaa.Z
open Go.RowKit Go.Proofs.Ytaepebkeijmjgaa Go.Proofs.YtaepebkeijmjgaaW.PrintWords Go.Proofs.YtaepebkeijmjgaaW.PrintLast
set_option linter.unusedVariables false
set_option linter.unusedSimpArgs false
section
variable {b : Nat} {st blk : List Int} {fill tot : Int} {w w1 : World}
theorem hset {cs ds : List Value} {T : TypeId} {i : Nat} {v : Value} (h : w.heap[b]? = some (.cells cs.toArray T (0, 0))) (he : cs.set i v = ds) :
  (w.setCell ⟨b, i, none⟩ v).heap[b]? = some (.cells ds.toArray T (0, 0)) := by
 have := heap_setCell_same w b i cs.toArray T v h; rw [this, ← he]; simp
end
end Go.Proofs.Ytaepebkeijmjgaa.Z
end
section
namespace Go.Proofs.Ytaepebkeijmjgaa.Z
open Go.RowKit Go.Proofs.Ytaepebkeijmjgaa Go.Proofs.YtaepebkeijmjgaaW.PrintWords Go.Proofs.YtaepebkeijmjgaaW.PrintLast
set_option linter.unusedVariables false
set_option linter.unusedSimpArgs false
def Wds (g : Nat) (T : TypeId) (l : List Int) (w : World) : Prop := w.heap[g]? = some (.cells (l.map (Value.int .u32)).toArray T (0, 0))
section
variable {g : Nat} {T : TypeId} {l : List Int} {w w1 : World}
theorem Wds.lt (h : Wds g T l w) : g < w.heap.size := lt_of_block h
theorem Wds.f (h : Wds g T l w) (i : Nat) : w.frozen? ⟨g, i, none⟩ = false := frozen_of_row _ _ _ _ _ h
theorem Wds.c (h : Wds g T l w) (i : Nat) (hi : i < l.length) : w.cell? ⟨g, i, none⟩ = some (.int .u32 (rdN l i)) := by
 rw [cell_of_row _ _ _ _ _ _ h]; simp [rdN, List.getD_eq_getElem?_getD, hi]
theorem Wds.set (h : Wds g T l w) (i : Nat) (x : Int) : Wds g T (l.set i x) (w.setCell ⟨g, i, none⟩ (.int .u32 x)) := by
 refine hset h ?_; rw [List.map_set]
theorem Wds.keep (h : Wds g T l w) (hb : w1.heap[g]? = w.heap[g]?) : Wds g T l w1 := Eq.trans hb h
theorem Wds.drew (h : Wds g T l w) : Wds g T l w.drew := h
theorem Wds.below (h : Wds g T l w) (hb : Below w.heap.size w w1) : Wds g T l w1 := h.keep (hb.block g h.lt)
theorem Wds.alloc (h : Wds g T l w) (o : Obj) : Wds g T l (w.alloc o) := h.keep (Below.heap_alloc _ _ _ h.lt)
end
end Go.Proofs.Ytaepebkeijmjgaa.Z
end
section
namespace Go.Proofs.Ytaepebkeijmjgaa.Z
open Go.RowKit Go.Proofs.Ytaepebkeijmjgaa Go.Proofs.YtaepebkeijmjgaaW.PrintWords Go.Proofs.YtaepebkeijmjgaaW.PrintLast
set_option linter.unusedVariables false
set_option linter.unusedSimpArgs false
set_option maxRecDepth 100000
section
variable {b : Nat} {l : List Int} {tot : Int} {w w1 : World}
end
end Go.Proofs.Ytaepebkeijmjgaa.Z
end
section
namespace Go.Proofs.Ytaepebkeijmjgaa.Z
open Go.RowKit Go.Proofs.Ytaepebkeijmjgaa Go.Proofs.YtaepebkeijmjgaaW.PrintWords Go.Proofs.YtaepebkeijmjgaaW.PrintLast
set_option linter.unusedVariables false
set_option linter.unusedSimpArgs false
set_option maxRecDepth 100000
def Wby (g : Nat) (T : TypeId) (l : List Int) (w : World) : Prop := w.heap[g]? = some (.cells (l.map (Value.int .u8)).toArray T (0, 0))
section
variable {g : Nat} {T : TypeId} {l : List Int} {w w1 : World}
theorem Wby.lt (h : Wby g T l w) : g < w.heap.size := lt_of_block h
theorem Wby.f (h : Wby g T l w) (i : Nat) : w.frozen? ⟨g, i, none⟩ = false := frozen_of_row _ _ _ _ _ h
theorem Wby.c (h : Wby g T l w) (i : Nat) (hi : i < l.length) : w.cell? ⟨g, i, none⟩ = some (.int .u8 (rdN l i)) := by
 rw [cell_of_row _ _ _ _ _ _ h]; simp [rdN, List.getD_eq_getElem?_getD, hi]
theorem Wby.set (h : Wby g T l w) (i : Nat) (x : Int) : Wby g T (l.set i x) (w.setCell ⟨g, i, none⟩ (.int .u8 x)) := by
 refine hset h ?_; rw [List.map_set]
end
end Go.Proofs.Ytaepebkeijmjgaa.Z
end
section
namespace Go.Proofs.Ytaepebkeijmjgaa.Z
open Go.RowKit Go.Proofs.Ytaepebkeijmjgaa Go.Proofs.YtaepebkeijmjgaaW.PrintWords Go.Proofs.YtaepebkeijmjgaaW.PrintLast
set_option linter.unusedVariables false
set_option linter.unusedSimpArgs false
set_option maxRecDepth 100000
end Go.Proofs.Ytaepebkeijmjgaa.Z
end
section
namespace Go.Proofs.Ytaepebkeijmjgaa.Z
open Go.RowKit Go.Proofs.Ytaepebkeijmjgaa Go.Proofs.YtaepebkeijmjgaaW.PrintWords Go.Proofs.YtaepebkeijmjgaaW.PrintLast
set_option linter.unusedVariables false
set_option linter.unusedSimpArgs false
set_option maxRecDepth 100000
end Go.Proofs.Ytaepebkeijmjgaa.Z
end
section
namespace Go.Proofs.Ytaepebkeijmjgaa.Z
open Go.RowKit Go.Proofs.Ytaepebkeijmjgaa Go.Proofs.YtaepebkeijmjgaaW.PrintWords Go.Proofs.YtaepebkeijmjgaaW.PrintLast
set_option linter.unusedVariables false
set_option linter.unusedSimpArgs false
set_option maxRecDepth 100000
def widB (x : Int) : Bool := decide (1 ≤ x ∧ x ≤ 32)
def digV (s : ByteArray) (n : Int) : ByteArray := if widB n then (shaV s).extract 0 n.toNat else ⟨#[]⟩
theorem digV_yes {s : ByteArray} {n : Int} (h : widB n = true) : digV s n = (shaV s).extract 0 n.toNat := by unfold digV; rw [h]; rfl
theorem digV_no {s : ByteArray} {n : Int} (h : widB n = false) : digV s n = ⟨#[]⟩ := by unfold digV; rw [h]; rfl
end Go.Proofs.Ytaepebkeijmjgaa.Z
end
section
namespace Go.Proofs.Ytaepebkeijmjgaa.Z
open Go.RowKit Go.Proofs.Ytaepebkeijmjgaa Go.Proofs.YtaepebkeijmjgaaW.PrintWords Go.Proofs.YtaepebkeijmjgaaW.PrintLast
set_option linter.unusedVariables false
set_option linter.unusedSimpArgs false
theorem l1Width_f (n : Int) : spec_l1Width.f n = some (widB n) := by
 unfold spec_l1Width.f widB
 by_cases h : n ≥ 1
 ·rw [if_pos h]; congr 1; simp; omega
 ·rw [if_neg h]; congr 1; simp; omega
theorem spec_Digest_f (a0 : ByteArray) (a1 : Int) (ha : a0.size ≤ 4294967296) (k : Nat) (hk : a0.size + 100 < k) : spec_Digest.f k a0 a1 = some (digV a0 a1) := by
 unfold spec_Digest.f; rw [l1Width_f]; simp only [Option.bind_some]
 by_cases hw : widB a1 = true
 ·have hr : 1 ≤ a1 ∧ a1 ≤ 32 := by unfold widB at hw; exact of_decide_eq_true hw
  rw [if_pos hw, digV_yes hw, spec_Sha256_f a0 ha k hk]; simp only [Option.bind_some]; rw [if_pos (by omega), if_pos (by rw [shaV_size]; omega)]
 ·rw [if_neg hw, digV_no (Bool.eq_false_iff.2 hw)]
theorem bt_get (s : ByteArray) (i : Nat) (h : i < s.size) : bt s (i : Int) = ((s.data.toList[i]'h).toNat : Int) := by
 unfold bt; rw [Int.toNat_natCast, dif_pos h]; rfl
theorem toList_inj {a b : ByteArray} : a.toList = b.toList ↔ a = b := by
 rw [ByteArray.toList_eq, ByteArray.toList_eq]; exact ⟨fun h => ByteArray.ext (Array.toList_inj.mp h), fun h => by rw [h]⟩
end Go.Proofs.Ytaepebkeijmjgaa.Z
end
section
namespace Go.Proofs.Ytaepebkeijmjgaa.Z
open Go.RowKit Go.Proofs.Ytaepebkeijmjgaa Go.Proofs.YtaepebkeijmjgaaW.PrintWords Go.Proofs.YtaepebkeijmjgaaW.PrintLast
set_option linter.unusedVariables false
set_option linter.unusedSimpArgs false
theorem l1Long_s (n : Int) (c : UInt8) (h0 : 0 ≤ n) (h1 : n ≤ 1000000) : ∃ s, spec_l1Long.f n ⟨#[c]⟩ = some s ∧ (s.size : Int) = n := by
 unfold spec_l1Long.f; rw [if_pos ⟨h0, by omega, rfl⟩]; exact ⟨_, rfl, by rw [rep_size]; omega⟩
theorem l2Byte_s (x : Int) : ∃ s, spec_l2Byte.f x = some s ∧ s.size = 1 := ⟨_, rfl, rfl⟩
theorem commitRecV_size (a : Int) (r : ByteArray) : (commitRecV a r).size ≤ 64 := by
 unfold commitRecV
 split
 ·rename_i h
  unfold comOk at h; rw [decide_eq_true_eq] at h; unfold commitRec; rw [arr_size]; have hl : (commitRecL a.toNat r).length = 5 + r.size := by unfold commitRecL; rw [List.length_append, List.length_append, numL_length, numL_length, ba_len]
  have := secs_length (commitRecL a.toNat r) [67] [67] (by simp) (by simp) (nSec (commitRecL a.toNat r).length); have h2 : nSec (commitRecL a.toNat r).length = 1 := by rw [hl]; unfold nSec; omega
  rw [h2] at this ⊢; omega
 ·exact Nat.zero_le _
theorem nodeRecV_size (e : ByteArray) : (nodeRecV e).size ≤ 4160 := by
 unfold nodeRecV
 split
 ·rename_i h
  unfold recOk at h; rw [decide_eq_true_eq] at h; unfold nodeRec; rw [arr_size]; have hl : (nodeRecL e).length = 4 + e.size := by unfold nodeRecL; rw [List.length_append, numL_length, ba_len]
  have := secs_length (nodeRecL e) [83] [77] (by simp) (by simp) (nSec (nodeRecL e).length); have h2 : nSec (nodeRecL e).length ≤ 65 := by rw [hl]; unfold nSec; omega
  omega
 ·exact Nat.zero_le _
theorem digV_le (s : ByteArray) (n : Int) : (digV s n).size ≤ 32 := by
 unfold digV
 split
 ·rw [ByteArray.size_extract, shaV_size]; omega
 ·exact Nat.zero_le _
theorem l2DrawWidth_s {L : List Int} (h : Code L) (p : Int) (hp : 0 ≤ p ∧ p ≤ 100000000) (k : Nat) (hk : 1 ≤ k) : ∃ w, spec_l2DrawWidth.f k L p = some (w, p + 1) ∧ 0 ≤ w ∧ w ≤ 32 := by
 obtain ⟨a, ha, h0, h1⟩ := l1Take_s h p 10 hp k hk; unfold spec_l2DrawWidth.f; rw [ha, Option.bind_some]; dsimp only
 by_cases h3 : a < 3
 ·rw [if_pos h3]; exact ⟨_, rfl, by omega, by omega⟩
 by_cases h5 : a < 5
 ·rw [if_neg h3, if_pos h5]; exact ⟨_, rfl, by omega, by omega⟩
 by_cases h7 : a < 7
 ·rw [if_neg h3, if_neg h5, if_pos h7]; exact ⟨_, rfl, by omega, by omega⟩
 ·rw [if_neg h3, if_neg h5, if_neg h7]; exact ⟨_, rfl, by omega, by omega⟩
theorem ba_sz (a b : ByteArray) : (a ++ b).size = a.size + b.size := ByteArray.size_append
theorem l2DrawVal_s {L : List Int} (h : Code L) (p : Int) (hp : 0 ≤ p ∧ p ≤ 90000000) (k : Nat) (hk : 1000 < k) : ∃ s, spec_l2DrawVal.f k L p = some (s, p + 2) ∧ s.size ≤ 240 := by
 obtain ⟨a, ha, h0, h1⟩ := l1Take_s h p 16 (by omega) k (by omega); obtain ⟨b, hb, b0, b1⟩ := l1Take_s h (p + 1) 120 (by omega) k (by omega); unfold spec_l2DrawVal.f; rw [ha, Option.bind_some]; dsimp only; rw [hb, Option.bind_some]; dsimp only; rw [show p + 1 + 1 = p + 2 by omega]
 by_cases h2 : a < 2
 ·rw [if_pos h2]; exact ⟨_, rfl, by decide⟩
 rw [if_neg h2]
 by_cases h14 : a = 14
 ·obtain ⟨s, hs, hz⟩ := l1Long_s (wrap64 (b * 2)) 118 (by rw [w64D (by omega) (by omega)]; omega) (by rw [w64D (by omega) (by omega)]; omega); rw [w64D (x := b * 2) (by omega) (by omega)] at hs hz; rw [if_pos h14, w64D (x := b * 2) (by omega) (by omega), hs, Option.bind_some]; exact ⟨_, rfl, by omega⟩
 rw [if_neg h14]
 by_cases h15 : a = 15
 ·have m63 := tmod_in b 63 b0 (by omega); obtain ⟨s, hs, hz⟩ := l1Long_s (Int.tmod b 63) 0 m63.1 (by omega); obtain ⟨s1, hs1, hz1⟩ := l1Long_s 1 114 (by omega) (by omega); have c1 := commitRecV_size (wrap64 (Int.tmod b 4 + 1)) ⟨#[]⟩; have c2 := commitRecV_size (wrap64 (Int.tmod b 3 + 1)) s1; rw [if_pos h15, hs, Option.bind_some, spec_CommitRecord_f _ _ k hk, Option.bind_some, if_pos (by omega), hs1, Option.bind_some, spec_CommitRecord_f _ _ k hk, Option.bind_some, if_pos (by rw [ba_sz]; omega)]; exact ⟨_, rfl, by rw [ba_sz, ba_sz]; omega⟩
 rw [if_neg h15]; obtain ⟨s, hs, hz⟩ := l2Byte_s (wrap64 (48 + Int.tmod b 10)); obtain ⟨s1, hs1, hz1⟩ := l2Byte_s (wrap64 (48 + wrap64 (Int.tdiv b 10))); rw [hs, Option.bind_some, if_pos (by omega), hs1, Option.bind_some, if_pos (by rw [ba_sz]; show 1 + _ + _ ≤ _; omega)]; exact ⟨_, rfl, by rw [ba_sz, ba_sz]; show 1 + _ + _ ≤ _; omega⟩
theorem l2DrawHash_s {L : List Int} (h : Code L) (p : Int) (hp : 0 ≤ p ∧ p ≤ 100000000) (w : Int) (k : Nat) (hk : 1000 < k) : ∃ s, spec_l2DrawHash.f k L p w = some (s, p + 1) ∧ s.size ≤ 32 := by
 obtain ⟨a, ha, h0, h1⟩ := l1Take_s h p 64 (by omega) k (by omega); unfold spec_l2DrawHash.f; rw [ha, Option.bind_some]; dsimp only
 by_cases h2 : a < 20
 ·rw [if_pos h2]; exact ⟨_, rfl, by decide⟩
 obtain ⟨s, hs, hz⟩ := l2Byte_s a; rw [if_neg h2, hs, Option.bind_some, spec_Digest_f s w (by omega) k (by omega), Option.bind_some]; exact ⟨_, rfl, digV_le _ _⟩
theorem l2DrawNode_s {L : List Int} (h : Code L) (p : Int) (hp : 0 ≤ p ∧ p ≤ 80000000) (w : Int) (k : Nat) (hk : 2000 < k) : ∃ a b c d q, spec_l2DrawNode.f k L p w = some (a, b, c, d, q) ∧ p ≤ q ∧ q ≤ p + 6 := by
 obtain ⟨x, hx, h0, h1⟩ := l1Take_s h p 18 (by omega) k (by omega); obtain ⟨key, hkey, _⟩ := l1DrawKey_s h (p + 1) (by omega) k (by omega); obtain ⟨val, hval, _⟩ := l2DrawVal_s h (p + 1 + 1) (by omega) k (by omega); obtain ⟨l, hl, hlz⟩ := l2DrawHash_s h (p + 1 + 1 + 2) (by omega) w k (by omega); obtain ⟨r, hr, _⟩ := l2DrawHash_s h (p + 1 + 1 + 2 + 1) (by omega) w k (by omega); unfold spec_l2DrawNode.f; rw [hx, Option.bind_some]; dsimp only; rw [hkey, Option.bind_some]; dsimp only; rw [hval, Option.bind_some]; dsimp only; rw [hl, Option.bind_some]; dsimp only; rw [hr, Option.bind_some]; dsimp only; have m2 := tmod_in (p + 1 + 1 + 2 + 1 + 1) 2 (by omega) (by omega); have hj : ∀ K : ByteArray, ∃ a b c d q, spec_l2DrawNode.j0 k x (p + 1 + 1 + 2 + 1 + 1) K val l r = some (a, b, c, d, q) ∧ p ≤ q ∧ q ≤ p + 6 := by
  intro K; obtain ⟨k, rfl⟩ : ∃ j, k = j + 1 := ⟨k - 1, by omega⟩
  rw [spec_l2DrawNode.j0]
  by_cases h16 : x = 16
  ·obtain ⟨s, hs, hz⟩ := l1Long_s (wrap64 (2000 + Int.tmod (p + 1 + 1 + 2 + 1 + 1) 2)) 118 (by rw [w64D (by omega) (by omega)]; omega) (by rw [w64D (by omega) (by omega)]; omega); rw [if_pos h16, hs, Option.bind_some, if_neg (by omega)]; exact ⟨_, _, _, _, _, rfl, by omega, by omega⟩
  ·rw [if_neg h16]
   by_cases h17 : x = 17
   ·rw [if_pos h17, if_pos (by omega)]; exact ⟨_, _, _, _, _, rfl, by omega, by omega⟩
   ·rw [if_neg h17]; exact ⟨_, _, _, _, _, rfl, by omega, by omega⟩
 by_cases h15 : x = 15
 ·obtain ⟨s, hs, hz⟩ := l1Long_s (wrap64 (257 * Int.tmod (p + 1 + 1 + 2 + 1 + 1) 2)) 107 (by rw [w64D (by omega) (by omega)]; omega) (by rw [w64D (by omega) (by omega)]; omega); rw [if_pos h15, hs, Option.bind_some]; exact hj _
 ·rw [if_neg h15]; exact hj _
theorem l2SpoilText_s {L : List Int} (h : Code L) (p : Int) (hp : 0 ≤ p ∧ p ≤ 90000000) (s : ByteArray) (hs : s.size ≤ 1000000) (k : Nat) (hk : 10 < k) : ∃ r, spec_l2SpoilText.f k L p s = some r ∧ r.size ≤ s.size + 1 := by
 obtain ⟨k, rfl⟩ : ∃ j, k = j + 2 := ⟨k - 2, by omega⟩
 have hw : wrap64 ((s.size : Int) + 1) = (s.size : Int) + 1 := w64D (by omega) (by omega); obtain ⟨a, ha, a0, a1⟩ := l1Take_s h p 6 (by omega) (k + 2) (by omega); obtain ⟨t, ht, t0, t1⟩ := l1Take_s h (p + 1) ((s.size : Int) + 1) (by omega) (k + 2) (by omega); obtain ⟨x, hx, x0, x1⟩ := l1Take_s h (p + 1 + 1) 256 (by omega) (k + 2) (by omega); obtain ⟨n, rfl⟩ := Int.eq_ofNat_of_zero_le t0; have hn : n ≤ s.size := by omega
 have hw1 : wrap64 ((n : Int) + 1) = ((n + 1 : Nat) : Int) := by rw [w64D (by omega) (by omega)]; rfl
 obtain ⟨c, hc, hcz⟩ := l2Byte_s x; have e1 : (s.extract 0 ((n : Int)).toNat).size ≤ n := by rw [ByteArray.size_extract, Int.toNat_natCast]; omega
 have e2 : (s.extract (((n + 1 : Nat) : Int)).toNat s.size).size ≤ s.size - (n + 1) := by rw [ByteArray.size_extract, Int.toNat_natCast]; omega
 have e3 : (s.extract ((n : Int)).toNat s.size).size ≤ s.size - n := by rw [ByteArray.size_extract, Int.toNat_natCast]; omega
 unfold spec_l2SpoilText.f; rw [ha, Option.bind_some]; dsimp only; rw [hw, ht, Option.bind_some]; dsimp only; rw [hx, Option.bind_some]; dsimp only; have hj1 : ∀ b : Bool, (b = true → n < s.size) → ∃ r, spec_l2SpoilText.j1 (k + 1) s a (n : Int) x b = some r ∧ r.size ≤ s.size + 1 := by
  intro b hb; rw [spec_l2SpoilText.j1]
  by_cases h3 : b = true
  ·have := hb h3; rw [if_pos h3, if_pos (by omega), if_pos (by omega), hc, Option.bind_some, if_pos (by omega), hw1, if_pos (by omega), if_pos (by omega), if_pos (by rw [ba_sz]; omega)]; exact ⟨_, rfl, by rw [ba_sz, ba_sz]; omega⟩
  ·rw [if_neg h3]
   by_cases h4 : a = 4
   ·rw [if_pos h4, if_pos (by omega), if_pos (by omega), hc, Option.bind_some, if_pos (by omega), if_pos (by rw [ba_sz]; omega)]; exact ⟨_, rfl, by rw [ba_sz, ba_sz]; omega⟩
   ·rw [if_neg h4, if_pos (by omega), if_pos (by omega)]; exact ⟨_, rfl, by omega⟩
 have hj0 : ∀ b : Bool, (b = true → n < s.size) → ∃ r, spec_l2SpoilText.j0 (k + 2) s a (n : Int) x b = some r ∧ r.size ≤ s.size + 1 := by
  intro b hb; rw [spec_l2SpoilText.j0]
  by_cases h3 : b = true
  ·have := hb h3; rw [if_pos h3, if_pos (by omega), if_pos (by omega), hw1, if_pos (by omega), if_pos (by omega), if_pos (by omega)]; exact ⟨_, rfl, by rw [ba_sz]; omega⟩
  ·rw [if_neg h3]
   by_cases h4 : a < 4
   ·rw [if_pos h4]; exact hj1 _ (fun e => by have := of_decide_eq_true e; omega)
   ·rw [if_neg h4]; exact hj1 _ (fun e => by cases e)
 by_cases h0 : a = 0
 ·rw [if_pos h0]; exact hj0 _ (fun e => by have := of_decide_eq_true e; omega)
 ·rw [if_neg h0]; exact hj0 _ (fun e => by cases e)
end Go.Proofs.Ytaepebkeijmjgaa.Z
end
section
namespace Go.Proofs.Ytaepebkeijmjgaa.Z
open Go.RowKit Go.Proofs.Ytaepebkeijmjgaa Go.Proofs.YtaepebkeijmjgaaW.PrintWords Go.Proofs.YtaepebkeijmjgaaW.PrintLast
set_option linter.unusedVariables false
set_option linter.unusedSimpArgs false
theorem ext_le2 (s : ByteArray) (a b : Nat) : (s.extract a b).size ≤ s.size := by rw [ByteArray.size_extract]; omega
theorem image_j2 (p x7 : Int) (m : Nat) (s : ByteArray) (b : Bool) (hp : 0 ≤ p ∧ p ≤ 90000000) (hs : s.size ≤ 1000000) (hb : b = true → m * 64 + 64 ≤ s.size) (h8 : x7 = 8 → m * 64 ≤ s.size) (k : Nat) (hk : 1 ≤ k) : ∃ r, spec_l2DrawImage.j2 k p x7 (m : Int) s b = some (r, p + 3) ∧ r.size ≤ s.size := by
 obtain ⟨k, rfl⟩ : ∃ j, k = j + 1 := ⟨k - 1, by omega⟩
 have hw : wrap64 (p + 3) = p + 3 := w64D (by omega) (by omega)
 by_cases hbt : b = true
 ·have hle := hb hbt; have w0 : wrap64 ((m : Int) * 64) = ((m * 64 : Nat) : Int) := by rw [w64D (by omega) (by omega)]; omega
  have w1 : wrap64 (((m * 64 : Nat) : Int) + 63) = ((m * 64 + 63 : Nat) : Int) := by rw [w64D (by omega) (by omega)]; omega
  have w2 : wrap64 (((m * 64 : Nat) : Int) + 64) = ((m * 64 + 64 : Nat) : Int) := by rw [w64D (by omega) (by omega)]; omega
  have e1 : (s.extract 0 (m * 64 + 63)).size = m * 64 + 63 := by rw [ByteArray.size_extract]; omega
  have e2 : (s.extract (m * 64 + 64) s.size).size = s.size - (m * 64 + 64) := by rw [ByteArray.size_extract]; omega
  have e3 : ByteArray.size (⟨#[0]⟩ : ByteArray) = 1 := rfl; rw [spec_l2DrawImage.j2, if_pos hbt, w0, w1, w2, hw]; simp only [Int.toNat_natCast]; rw [if_pos (by omega), if_pos (by omega), if_pos (by omega), if_pos (by omega), if_pos (by omega), if_pos (by rw [ba_sz]; omega)]
  by_cases h7 : x7 = 8
  ·rw [if_pos h7, if_pos (by omega), if_pos (by rw [ba_sz, ba_sz]; omega)]; exact ⟨_, rfl, by have := ext_le2 (s.extract 0 (m * 64 + 63) ++ (⟨#[0]⟩ : ByteArray) ++ s.extract (m * 64 + 64) s.size) 0 (m * 64); rw [ba_sz, ba_sz] at this; omega⟩
  ·rw [if_neg h7]; exact ⟨_, rfl, by rw [ba_sz, ba_sz]; omega⟩
 ·rw [spec_l2DrawImage.j2, if_neg hbt, hw]
  by_cases h7 : x7 = 8
  ·have := h8 h7; have w0 : wrap64 ((m : Int) * 64) = ((m * 64 : Nat) : Int) := by rw [w64D (by omega) (by omega)]; omega
   rw [if_pos h7, w0, if_pos (by omega), if_pos (by omega)]; exact ⟨_, rfl, ext_le2 _ _ _⟩
  ·rw [if_neg h7]; exact ⟨_, rfl, Nat.le_refl _⟩
theorem image_j1 (p x7 : Int) (m : Nat) (s : ByteArray) (hp : 0 ≤ p ∧ p ≤ 90000000) (hs : s.size ≤ 1000000) (hm : m ≤ 1000000) (h8 : x7 = 8 → m * 64 ≤ s.size) (k : Nat) (hk : 2 ≤ k) : ∃ r, spec_l2DrawImage.j1 k p x7 (m : Int) s = some (r, p + 3) ∧ r.size ≤ s.size := by
 obtain ⟨k, rfl⟩ : ∃ j, k = j + 1 := ⟨k - 1, by omega⟩
 rw [spec_l2DrawImage.j1]
 by_cases h7 : x7 = 7
 ·rw [if_pos h7]; exact image_j2 p x7 m s _ hp hs (fun e => by have := of_decide_eq_true e; rw [w64D (x := (m : Int) * 64) (by omega) (by omega), w64D (by omega) (by omega)] at this; omega) h8 k (by omega)
 ·rw [if_neg h7]; exact image_j2 p x7 m s _ hp hs (fun e => by cases e) h8 k (by omega)
theorem image_l0 {L : List Int} (h : Code L) (n : Nat) (hn : n ≤ 5) : ∀ (d i k : Nat) (p : Int) (s : ByteArray), i + d = n → 3000 + d < k → (0 ≤ p ∧ p + 10 * d ≤ 70000000) → s.size ≤ 4200 * i → ∃ r q, spec_l2DrawImage.l0 k L p (n : Int) s (i : Int) = some (r, q) ∧ p ≤ q ∧ q ≤ p + 8 * d + 5 ∧ r.size ≤ 4200 * n + 1 := by
 intro d
 induction d with
 | zero =>
  intro i k p s hi hk hp hs; obtain ⟨k, rfl⟩ : ∃ j, k = j + 1 := ⟨k - 1, by omega⟩
  obtain ⟨a, ha, a0, a1⟩ := l1Take_s h p 9 (by omega) k (by omega); have hd : Int.tdiv (s.size : Int) 64 = ((s.size / 64 : Nat) : Int) := rfl; have hd2 : (s.size : Int) / 64 = ((s.size / 64 : Nat) : Int) := rfl; have hw : wrap64 ((wrap64 ((s.size : Int) / 64)) + 1) = ((s.size / 64 + 1 : Nat) : Int) := by rw [hd2, w64D (x := ((s.size / 64 : Nat) : Int)) (by omega) (by omega), w64D (by omega) (by omega)]; omega
  obtain ⟨t, ht, t0, t1⟩ := l1Take_s h (p + 1) ((s.size / 64 + 1 : Nat) : Int) (by omega) k (by omega); obtain ⟨m, rfl⟩ := Int.eq_ofNat_of_zero_le t0; rw [spec_l2DrawImage.l0, if_neg (by omega), ha, Option.bind_some]; dsimp only; rw [hw, ht, Option.bind_some]; dsimp only
  by_cases h6 : a = 6
  ·obtain ⟨r, hr, hrs⟩ := l2SpoilText_s h (p + 1 + 1) (by omega) s (by omega) k (by omega); rw [if_pos h6, hr, Option.bind_some]; obtain ⟨r2, h2, hz⟩ := image_j1 (p + 1 + 1) a m r (by omega) (by omega) (by omega) (fun e => by omega) k (by omega); exact ⟨r2, _, h2, by omega, by omega, by omega⟩
  ·rw [if_neg h6]; obtain ⟨r2, h2, hz⟩ := image_j1 (p + 1 + 1) a m s (by omega) (by omega) (by omega) (fun e => by omega) k (by omega); exact ⟨r2, _, h2, by omega, by omega, by omega⟩
 | succ d ih =>
  intro i k p s hi hk hp hs; obtain ⟨k, rfl⟩ : ∃ j, k = j + 1 := ⟨k - 1, by omega⟩
  obtain ⟨a, ha, a0, a1⟩ := l1Take_s h p 4 (by omega) k (by omega); obtain ⟨w, hw, w0, w1⟩ := l2DrawWidth_s h (p + 1) (by omega) k (by omega); rw [spec_l2DrawImage.l0, if_pos (by omega), ha, Option.bind_some]; dsimp only; rw [hw, Option.bind_some]; dsimp only; have hi1 : wrap64 ((i : Int) + 1) = ((i + 1 : Nat) : Int) := by rw [w64D (by omega) (by omega)]; omega
  rw [hi1]
  by_cases ha0 : a = 0
  ·obtain ⟨r, hr, hrz⟩ := l2DrawHash_s h (p + 1 + 1) (by omega) w k (by omega); have hc := commitRecV_size ((i + 1 : Nat) : Int) r; rw [if_pos ha0, hr, Option.bind_some]; dsimp only; rw [spec_CommitRecord_f _ _ k (by omega), Option.bind_some, if_pos (by omega)]; obtain ⟨r2, q, h2, q1, q2, hz⟩ := ih (i + 1) k (p + 1 + 1 + 1) (s ++ commitRecV ((i + 1 : Nat) : Int) r) (by omega) (by omega) (by omega) (by rw [ba_sz]; omega); exact ⟨r2, q, h2, by omega, by omega, hz⟩
  ·obtain ⟨na, nb, nc, nd, q', hq, hq1, hq2⟩ := l2DrawNode_s h (p + 1 + 1) (by omega) w k (by omega); have hc := nodeRecV_size (encNode na nb nc nd w); rw [if_neg ha0, hq, Option.bind_some]; dsimp only; rw [show spec_EncodeNode.f na nb nc nd w = some (encNode na nb nc nd w) from rfl, Option.bind_some, spec_NodeRecord_f _ k (by omega), Option.bind_some, if_pos (by omega)]; obtain ⟨r2, q, h2, q1, q2, hz⟩ := ih (i + 1) k q' (s ++ nodeRecV (encNode na nb nc nd w)) (by omega) (by omega) (by omega) (by rw [ba_sz]; omega); exact ⟨r2, q, h2, by omega, by omega, hz⟩
theorem l2DrawImage_s {L : List Int} (h : Code L) (p : Int) (hp : 0 ≤ p ∧ p ≤ 60000000) (k : Nat) (hk : 4000 < k) : ∃ r q, spec_l2DrawImage.f k L p = some (r, q) ∧ p ≤ q ∧ q ≤ p + 50 ∧ r.size ≤ 30000 := by
 obtain ⟨a, ha, a0, a1⟩ := l1Take_s h p 6 (by omega) k (by omega); obtain ⟨n, rfl⟩ := Int.eq_ofNat_of_zero_le a0; unfold spec_l2DrawImage.f; rw [ha, Option.bind_some]; dsimp only; obtain ⟨r, q, hr, q1, q2, hz⟩ := image_l0 h n (by omega) n 0 k (p + 1) ⟨#[]⟩ (by omega) (by omega) (by omega) (Nat.zero_le _); exact ⟨r, q, hr, by omega, by omega, by omega⟩
theorem l3DrawDisk_s {L : List Int} (h : Code L) (p : Int) (hp : 0 ≤ p ∧ p ≤ 50000000) (k : Nat) (hk : 4000 < k) : ∃ s n c q, spec_l3DrawDisk.f k L p = some (s, n, c, q) ∧ p ≤ q ∧ q ≤ p + 60 ∧ n.size ≤ 30000 ∧ s.size ≤ 30000 := by
 obtain ⟨im, q, hi, q1, q2, hz⟩ := l2DrawImage_s h p (by omega) k hk; have hw : wrap64 ((im.size : Int) + 1) = (im.size : Int) + 1 := w64D (by omega) (by omega); obtain ⟨a, ha, a0, a1⟩ := l1Take_s h q ((im.size : Int) + 1) (by omega) k (by omega); obtain ⟨b, hb, b0, b1⟩ := l1Take_s h (q + 1) 8 (by omega) k (by omega); obtain ⟨m, rfl⟩ := Int.eq_ofNat_of_zero_le a0; have hd : Int.tdiv (m : Int) 64 = ((m / 64 : Nat) : Int) := rfl; have w0 : wrap64 (wrap64 ((m / 64 : Nat) : Int) * 64) = ((m / 64 * 64 : Nat) : Int) := by rw [w64D (x := ((m / 64 : Nat) : Int)) (by omega) (by omega), w64D (by omega) (by omega)]; omega
 unfold spec_l3DrawDisk.f; rw [hi, Option.bind_some]; dsimp only; rw [hw, ha, Option.bind_some]; dsimp only; rw [hb, Option.bind_some]; dsimp only; rw [if_pos (by omega), if_pos (by omega), hd, w0]
 by_cases h5 : b < 5
 ·rw [if_pos h5, if_pos (by omega), if_pos (by omega)]; exact ⟨_, _, _, _, rfl, by omega, by omega, hz, Nat.le_trans (ext_le2 _ _ _) hz⟩
 ·rw [if_neg h5]; exact ⟨_, _, _, _, rfl, by omega, by omega, hz, Nat.le_trans (ext_le2 _ _ _) hz⟩
theorem l3AnyDisk_s {L : List Int} (h : Code L) (p : Int) (hp : 0 ≤ p ∧ p ≤ 40000000) (k : Nat) (hk : 4000 < k) : ∃ s n c q, spec_l3AnyDisk.f k L p = some (s, n, c, q) ∧ p ≤ q ∧ q ≤ p + 61 ∧ n.size ≤ 30000 ∧ s.size ≤ 30006 := by
 obtain ⟨x, hx, x0, x1⟩ := l1Take_s h p 32 (by omega) k (by omega); obtain ⟨s, n, c, q, hd, q1, q2, hn, hs⟩ := l3DrawDisk_s h (p + 1) (by omega) k hk; unfold spec_l3AnyDisk.f; rw [hx, Option.bind_some]; dsimp only; rw [hd, Option.bind_some]; dsimp only; obtain ⟨k, rfl⟩ : ∃ j, k = j + 2 := ⟨k - 2, by omega⟩
 have hj1 : ∀ (t : ByteArray) (c : Int), t.size ≤ 30001 → ∃ s' c', spec_l3AnyDisk.j1 (k + 1) x q t n c = some (s', n, c', q) ∧ s'.size ≤ 30006 := by
  intro t c ht; rw [spec_l3AnyDisk.j1]; have e6 : ByteArray.size (⟨#[108, 111, 110, 103, 101, 114]⟩ : ByteArray) = 6 := rfl
  by_cases h30 : x = 30
  ·rw [if_pos h30, if_neg (by omega)]; exact ⟨_, _, rfl, by omega⟩
  ·rw [if_neg h30]
   by_cases h31 : x = 31
   ·rw [if_pos h31, if_pos (by omega)]; exact ⟨_, _, rfl, by rw [ba_sz]; omega⟩
   ·rw [if_neg h31]; exact ⟨_, _, rfl, by omega⟩
 have hj0 : ∀ c : Int, ∃ s' c', spec_l3AnyDisk.j0 (k + 2) x q s n c = some (s', n, c', q) ∧ s'.size ≤ 30006 := by
  intro c; rw [spec_l3AnyDisk.j0]; have e1 : ByteArray.size (⟨#[120]⟩ : ByteArray) = 1 := rfl
  by_cases h29 : x = 29
  ·rw [if_pos h29, if_pos (by omega)]; exact hj1 _ _ (by rw [ba_sz]; omega)
  ·rw [if_neg h29]; exact hj1 _ _ (by omega)
 by_cases h28 : x = 28
 ·rw [if_pos h28]; obtain ⟨s', c', hh, hz⟩ := hj0 (wrap64 ((n.size : Int) - 1)); exact ⟨s', n, c', q, hh, by omega, by omega, hn, hz⟩
 ·rw [if_neg h28]; obtain ⟨s', c', hh, hz⟩ := hj0 c; exact ⟨s', n, c', q, hh, by omega, by omega, hn, hz⟩
theorem l3DrawPicks_l0 {L : List Int} (h : Code L) (n : Nat) (hn : n ≤ 20) : ∀ (d i k : Nat) (p : Int) (l : List Int), i + d = n → 100 + d < k → (0 ≤ p ∧ p + 10 * d ≤ 70000000) → l.length = i → ∃ r q, spec_l3DrawPicks.l0 k L p (n : Int) l (i : Int) = some (r, q) ∧ r.length = n := by
 intro d
 induction d with
 | zero =>
  intro i k p l hi hk hp hl; obtain ⟨k, rfl⟩ : ∃ j, k = j + 1 := ⟨k - 1, by omega⟩
  rw [spec_l3DrawPicks.l0, if_neg (by omega)]; exact ⟨_, _, rfl, by omega⟩
 | succ d ih =>
  intro i k p l hi hk hp hl; obtain ⟨k, rfl⟩ : ∃ j, k = j + 1 := ⟨k - 1, by omega⟩
  obtain ⟨a, ha, a0, a1⟩ := l1Take_s h p 8 (by omega) k (by omega); obtain ⟨b, hb, b0, b1⟩ := l1Take_s h (p + 1) 64 (by omega) k (by omega); have hi1 : wrap64 ((i : Int) + 1) = ((i + 1 : Nat) : Int) := by rw [w64D (by omega) (by omega)]; omega
  have hg : ∀ x : Int, ∃ r q, spec_l3DrawPicks.l0 k L (p + 1 + 1) (n : Int) (l ++ [x]) ((i + 1 : Nat) : Int) = some (r, q) ∧ r.length = n := fun x => ih (i + 1) k (p + 1 + 1) (l ++ [x]) (by omega) (by omega) (by omega) (by rw [List.length_append, List.length_singleton]; omega)
  rw [spec_l3DrawPicks.l0, if_pos (by omega), ha, Option.bind_some]; dsimp only; rw [hb, Option.bind_some]; dsimp only; rw [hi1]
  by_cases h2 : a < 2
  ·rw [if_pos h2, if_pos (by omega)]; exact hg _
  rw [if_neg h2]
  by_cases h6 : a < 6
  ·rw [if_pos h6, if_pos (by omega)]; exact hg _
  rw [if_neg h6]
  by_cases h7 : a = 6
  ·rw [if_pos h7, if_pos (by omega)]; exact hg _
  rw [if_neg h7, if_pos (by omega)]; exact hg _
theorem spec_DrawDiskCrash_s {L : List Int} (h : Code L) (k : Nat) (hk : 4000 < k) : ∃ s n c l, spec_DrawDiskCrash.f k L = some (s, n, c, l) ∧ n.size ≤ 30000 ∧ s.size ≤ 30006 ∧ l.length ≤ 12 := by
 obtain ⟨s, n, c, q, hd, q1, q2, hn, hs⟩ := l3AnyDisk_s h 0 (by omega) k hk; obtain ⟨a, ha, a0, a1⟩ := l1Take_s h q 12 (by omega) k (by omega); obtain ⟨m, rfl⟩ := Int.eq_ofNat_of_zero_le a0; obtain ⟨r, q', hr, hrl⟩ := l3DrawPicks_l0 h m (by omega) m 0 k (q + 1) [] (by omega) (by omega) (by omega) rfl; unfold spec_DrawDiskCrash.f spec_l3DrawPicks.f; rw [hd, Option.bind_some]; dsimp only; rw [ha, Option.bind_some]; dsimp only; rw [show (0 : Int) = ((0 : Nat) : Int) from rfl, hr, Option.bind_some]; exact ⟨_, _, _, _, rfl, hn, hs, by show r.length ≤ 12; omega⟩
end Go.Proofs.Ytaepebkeijmjgaa.Z
end
section
namespace Go.Proofs.Ytaepebkeijmjgaa
set_option linter.unusedVariables false
set_option linter.unusedSimpArgs false
theorem crOut_pre (n : List UInt8) (f : Nat) (pk : List Int) (hf : f ≤ n.length) : ∀ k, (crOut n f pk k).take f = n.take f
 | 0 => by rw [crOut, List.take_take, Nat.min_self]
 | k + 1 => by
  have := crOut_length n f pk hf k; rw [crOut, List.take_append_of_le_length (by omega)]; exact crOut_pre n f pk hf k
theorem crKept_nil (f i : Nat) : crKept f [] i = false := by simp [crKept]
theorem crEnd_nil (f : Nat) : ∀ k, crEnd f [] k = f
 | 0 => rfl
 | k + 1 => by rw [crEnd, crKept_nil]; exact crEnd_nil f k
theorem crash_nil (n : List UInt8) (f : Nat) (hf : f ≤ n.length) : crash n f [] = n.take f := by
 unfold crash; rw [crEnd_nil, crOut_pre n f [] hf]
theorem crKept_all (f m i : Nat) (h : i / 64 - f / 64 < m) : crKept f (List.replicate m 64) i = true := by
 unfold crKept; have h1 : (List.replicate m (64 : Int)).getD (i / 64 - f / 64) 0 = 64 := by rw [List.getD_eq_getElem?_getD, List.getElem?_replicate, if_pos h]; rfl
 rw [h1, List.length_replicate, Bool.and_eq_true, decide_eq_true_eq, decide_eq_true_eq]; refine ⟨h, ?_⟩; omega
theorem crOut_all (n : List UInt8) (f m : Nat) (hm : n.length / 64 < m) : ∀ k, f + k ≤ n.length → crOut n f (List.replicate m 64) k = n.take (f + k) ∧ crEnd f (List.replicate m 64) k = f + k
 | 0, _ => ⟨rfl, rfl⟩
 | k + 1, h => by
  have ih := crOut_all n f m hm k (by omega); have hk : crKept f (List.replicate m 64) (f + k) = true := crKept_all f m (f + k) (by omega); refine ⟨?_, ?_⟩
  ·rw [crOut, ih.1, hk, if_pos rfl, List.getD_eq_getElem?_getD, List.getElem?_eq_getElem (by omega), ← Nat.add_assoc, List.take_succ_eq_append_getElem (by omega)]; rfl
  ·rw [crEnd, hk, if_pos rfl]; omega
theorem crash_all (n : List UInt8) (f m : Nat) (hf : f ≤ n.length) (hm : n.length / 64 < m) : crash n f (List.replicate m 64) = n := by
 have := crOut_all n f m hm (n.length - f) (by omega); unfold crash; rw [this.1, this.2, show f + (n.length - f) = n.length by omega, List.take_length, List.take_length]
theorem crash_len (n : List UInt8) (f : Nat) (pk : List Int) (hf : f ≤ n.length) : f ≤ (crash n f pk).length ∧ (crash n f pk).length ≤ n.length := by
 unfold crash; rw [List.length_take, crOut_length n f pk hf]; have := crEnd_le f pk (n.length - f); have := crEnd_ge f pk (n.length - f); omega
theorem crash_pre (n : List UInt8) (f : Nat) (pk : List Int) (hf : f ≤ n.length) : (crash n f pk).take f = n.take f := by
 unfold crash; rw [List.take_take, Nat.min_eq_left (crEnd_ge f pk _), crOut_pre n f pk hf]
theorem crOut_byte (n : List UInt8) (f : Nat) (pk : List Int) (hf : f ≤ n.length) : ∀ k i, i < f + k → (crOut n f pk k).getD i 0 = n.getD i 0 ∨ (crOut n f pk k).getD i 0 = 0
 | 0, i, h => by
  left
  rw [crOut, List.getD_eq_getElem?_getD, List.getD_eq_getElem?_getD, List.getElem?_take, if_pos (by omega)]
 | k + 1, i, h => by
  have hl := crOut_length n f pk hf k
  by_cases hi : i < f + k
  ·have := crOut_byte n f pk hf k i hi; rw [crOut, List.getD_eq_getElem?_getD, List.getElem?_append_left (by omega), ← List.getD_eq_getElem?_getD]; exact this
  ·rw [crOut, List.getD_eq_getElem?_getD, List.getElem?_append_right (by omega), show i - (crOut n f pk k).length = 0 by omega, List.getElem?_cons_zero, Option.getD_some, show i = f + k by omega]
   by_cases hc : crKept f pk (f + k) = true
   ·rw [if_pos hc]; exact .inl rfl
   ·rw [if_neg hc]; exact .inr rfl
theorem crash_byte (n : List UInt8) (f : Nat) (pk : List Int) (hf : f ≤ n.length) (i : Nat) (hi : i < (crash n f pk).length) : (crash n f pk).getD i 0 = n.getD i 0 ∨ (crash n f pk).getD i 0 = 0 := by
 unfold crash at hi ⊢; rw [List.length_take, crOut_length n f pk hf] at hi; rw [List.getD_eq_getElem?_getD, List.getElem?_take, if_pos (by omega), ← List.getD_eq_getElem?_getD]; exact crOut_byte n f pk hf _ i (by omega)
theorem crash_self (n : List UInt8) (pk : List Int) : crash n n.length pk = n := by
 unfold crash; rw [Nat.sub_self, crOut, crEnd, List.take_length, List.take_length]
namespace Z
open Go.RowKit Go.Proofs.Ytaepebkeijmjgaa Go.Proofs.YtaepebkeijmjgaaW.PrintWords Go.Proofs.YtaepebkeijmjgaaW.PrintLast
theorem baExt {a b : ByteArray} (h : a.data.toList = b.data.toList) : a = b := ByteArray.ext (Array.toList_inj.mp h)
theorem hasPre_iff (n s : ByteArray) : hasPre n s = true ↔ s.size ≤ n.size ∧ n.extract 0 s.size = s := by
 unfold hasPre; rw [Bool.and_eq_true, decide_eq_true_eq, beq_iff_eq]; refine and_congr_right fun _ => ⟨fun h => ?_, fun h => by rw [h]⟩
 rw [ByteArray.toList_eq, ByteArray.toList_eq] at h; exact baExt h
theorem Disk_valid_f (s n : ByteArray) (c : Int) : impl_Disk_valid.f s n c = some (diskOk s n c) := by
 unfold impl_Disk_valid.f diskOk hasPre strings_HasPrefix.f stringslite_HasPrefix.f
 by_cases h0 : c ≥ 0
 ·by_cases h1 : c ≤ 1048576
  ·by_cases h2 : (n.size : Int) ≤ c
   ·rw [if_pos h0, if_pos h1, if_pos h2, decide_eq_true h0, decide_eq_true h1, decide_eq_true h2]
    by_cases h3 : s.size ≤ n.size
    ·rw [if_pos (by omega), if_pos (by omega), if_pos (by omega), decide_eq_true h3]; rfl
    ·rw [if_neg (by omega), decide_eq_false h3]; rfl
   ·rw [if_pos h0, if_pos h1, if_neg h2, decide_eq_false h2, Bool.and_false, Bool.false_and]
  ·rw [if_pos h0, if_neg h1, decide_eq_false h1, Bool.and_false, Bool.false_and, Bool.false_and]
 ·rw [if_neg h0, decide_eq_false h0, Bool.false_and, Bool.false_and, Bool.false_and]
theorem l3DiskOk_f (s n : ByteArray) (c : Int) : spec_l3DiskOk.f s n c = some (diskOk s n c) := by
 unfold spec_l3DiskOk.f diskOk hasPre
 by_cases h0 : c < 0
 ·rw [if_pos h0, decide_eq_false (by omega), Bool.false_and, Bool.false_and, Bool.false_and]
 rw [if_neg h0, decide_eq_true (show 0 ≤ c by omega)]
 by_cases h1 : c > 1048576
 ·rw [if_pos h1, decide_eq_false (by omega), Bool.and_false, Bool.false_and, Bool.false_and]
 rw [if_neg h1, decide_eq_true (show c ≤ 1048576 by omega)]
 by_cases h2 : (n.size : Int) > c
 ·rw [if_pos h2, decide_eq_false (by omega), Bool.and_false, Bool.false_and]
 rw [if_neg h2, decide_eq_true (show (n.size : Int) ≤ c by omega)]
 by_cases h3 : (s.size : Int) > (n.size : Int)
 ·rw [if_pos h3, decide_eq_false (by omega)]; rfl
 ·rw [if_neg h3, if_pos (by omega), if_pos (by omega), decide_eq_true (show s.size ≤ n.size by omega)]; rfl
theorem diskOk_iff (s n : ByteArray) (c : Int) : diskOk s n c = true ↔ (0 ≤ c ∧ c ≤ 1048576 ∧ (n.size : Int) ≤ c) ∧ s.size ≤ n.size ∧ n.extract 0 s.size = s := by
 unfold diskOk; rw [Bool.and_eq_true, Bool.and_eq_true, Bool.and_eq_true, decide_eq_true_eq, decide_eq_true_eq, decide_eq_true_eq, hasPre_iff, and_assoc (a := 0 ≤ c)]
theorem ext_self (s : ByteArray) : s.extract 0 s.size = s := baExt (by simp)
theorem l1_f (s n X : ByteArray) (c : Int) (hok : diskOk s n c = true) (hz : n.size ≤ 100000) (hX : X.size ≤ n.size) (hb : ∀ i (h : i < X.size), X.data.toList.getD i 0 = n.data.toList.getD i 0 ∨ X.data.toList.getD i 0 = 0) : ∀ (d i k : Nat), i + d = X.size → d < k → laws_FnCrash.l1 k (i : Int) s n c s n c n n c X X c = some true := by
 have hok2 := (diskOk_iff s n c).1 hok; have hnn : diskOk n n c = true := (diskOk_iff n n c).2 ⟨hok2.1, Nat.le_refl _, ext_self n⟩; intro d
 induction d with
 | zero =>
  intro i k hi hk; obtain ⟨k, rfl⟩ : ∃ j, k = j + 1 := ⟨k - 1, by omega⟩
  have hcut : impl_DiskCut.f s n c (s.size : Int) = some (s, s, c, 0) := by
   unfold impl_DiskCut.f; rw [Disk_valid_f, hok, Option.bind_some, if_pos rfl, if_neg (by omega), if_neg (by omega), if_pos (by omega), if_pos (by omega), Int.toNat_natCast, hok2.2.2]
  have hlost : impl_DiskCrash.f n n c [] = some (n, n, c) := by
   unfold impl_DiskCrash.f pCrash; rw [if_pos ⟨Nat.zero_le _, by omega⟩, if_pos hnn, crash_nil _ _ (by rw [Array.length_toList]; exact Nat.le_refl _), show n.data.toList.take n.size = n.data.toList from List.take_of_length_le (by rw [Array.length_toList]; exact Nat.le_refl _)]
  rw [laws_FnCrash.l1, if_neg (by omega), hcut, Option.bind_some]; dsimp only; rw [hlost, Option.bind_some]; dsimp only; rw [if_pos rfl, if_pos rfl, if_pos rfl, beq_self_eq_true]
 | succ d ih =>
  intro i k hi hk; obtain ⟨k, rfl⟩ : ∃ j, k = j + 1 := ⟨k - 1, by omega⟩
  have hi1 : wrap64 ((i : Int) + 1) = ((i + 1 : Nat) : Int) := by rw [w64D (by omega) (by omega)]; omega
  have h1 := hb i (by omega); have hlX : i < X.data.toList.length := by rw [Array.length_toList]; show i < X.size; omega
  have hln : i < n.data.toList.length := by rw [Array.length_toList]; show i < n.size; omega
  rw [List.getD_eq_getElem?_getD, List.getD_eq_getElem?_getD, List.getElem?_eq_getElem hlX, List.getElem?_eq_getElem hln, Option.getD_some, Option.getD_some] at h1; rw [laws_FnCrash.l1, if_pos (by omega), if_pos (by omega), if_pos (by omega), bt_get X i (by omega), bt_get n i (by omega), hi1, ih (i + 1) k (by omega) (by omega)]
  rcases h1 with g | g
  ·rw [g, if_pos rfl]
  ·rw [g]
   split
   ·rfl
   ·rw [if_pos (by rfl)]
theorem l0_f (s n : ByteArray) (c : Int) (pk : List Int) (hok : diskOk s n c = true) (hz : n.size ≤ 100000) (hpk : pk.length ≤ 100) : ∀ (d i k : Nat), i + d = n.size / 64 + 1 → 200000 + d < k → laws_FnCrash.l0 k pk (List.replicate i 64) (i : Int) s n c s n c n n c = some true := by
 have hok2 := (diskOk_iff s n c).1 hok; intro d
 induction d with
 | zero =>
  intro i k hi hk; obtain ⟨k, rfl⟩ : ∃ j, k = j + 3 := ⟨k - 3, by omega⟩
  obtain ⟨h1, h2, h3⟩ := hok2; have hlen : n.data.toList.length = n.size := by rw [Array.length_toList]; rfl
  have hsn : n.data.toList.take s.size = s.data.toList := (diskOk_pre hok).2; have hd2 : (n.size : Int) / 64 = ((n.size / 64 : Nat) : Int) := rfl; have hnone : impl_DiskCrash.f s n c [] = some (s, s, c) := by
   unfold impl_DiskCrash.f pCrash; rw [if_pos ⟨Nat.zero_le _, by omega⟩, if_pos hok, crash_nil _ _ (by omega), hsn]
  have hall : impl_DiskCrash.f s n c (List.replicate i 64) = some (n, n, c) := by
   unfold impl_DiskCrash.f pCrash; rw [if_pos ⟨by rw [List.length_replicate]; omega, by omega⟩, if_pos hok, crash_all _ _ _ (by omega) (by omega)]
  obtain ⟨X, hX⟩ : ∃ X : ByteArray, X = ⟨(crash n.data.toList s.size pk).toArray⟩ := ⟨_, rfl⟩
  have hXl : X.data.toList = crash n.data.toList s.size pk := by rw [hX]
  have hXs : X.size = (crash n.data.toList s.size pk).length := by rw [← hXl, Array.length_toList]; rfl
  have hlenC := crash_len n.data.toList s.size pk (by omega); have hsome : impl_DiskCrash.f s n c pk = some (X, X, c) := by
   unfold impl_DiskCrash.f pCrash; rw [if_pos ⟨by omega, by omega⟩, if_pos hok, hX]
  have hYtaepebkeijmjgaa : diskOk X X c = true := (diskOk_iff X X c).2 ⟨⟨h1.1, h1.2.1, by omega⟩, Nat.le_refl _, ext_self X⟩; have hagain : impl_DiskCrash.f X X c pk = some (X, X, c) := by
   unfold impl_DiskCrash.f pCrash; have hl : X.data.toList.length = X.size := by rw [Array.length_toList]; rfl
   rw [if_pos ⟨by omega, by omega⟩, if_pos hYtaepebkeijmjgaa, ← hl, crash_self]
  have hpre : X.extract 0 s.size = s := baExt (by
   have := crash_pre n.data.toList s.size pk (by omega); rw [← hXl, hsn] at this
   simpa using this)
  rw [laws_FnCrash.l0, if_neg (by rw [hd2, w64D (by omega) (by omega)]; omega), hnone, Option.bind_some, hall, Option.bind_some, hsome, Option.bind_some]; dsimp only; rw [hagain, Option.bind_some]; dsimp only; rw [if_pos rfl, if_pos rfl, if_pos rfl, if_pos rfl, bne_self_eq_false, laws_FnCrash.j1, if_neg (by decide), if_neg (by omega), if_neg (by omega), if_pos (by omega), if_pos (by omega), Int.toNat_natCast, hpre, bne_self_eq_false, laws_FnCrash.j2, if_neg (by decide)]; exact l1_f s n X c hok hz (by omega) (fun i hi => by rw [hXl]; exact crash_byte _ _ _ (by omega) i (by omega)) X.size 0 k (by omega) (by omega)
 | succ d ih =>
  intro i k hi hk; obtain ⟨k, rfl⟩ : ∃ j, k = j + 1 := ⟨k - 1, by omega⟩
  have hi1 : wrap64 ((i : Int) + 1) = ((i + 1 : Nat) : Int) := by rw [w64D (by omega) (by omega)]; omega
  have hd2 : (n.size : Int) / 64 = ((n.size / 64 : Nat) : Int) := rfl; rw [laws_FnCrash.l0, if_pos (by rw [hd2, w64D (by omega) (by omega)]; omega), if_pos (by rw [List.length_replicate]; omega), hi1, ← List.replicate_succ']; exact ih (i + 1) k (by omega) (by omega)
theorem laws_FnCrash_f (L : List Int) (hb : ∀ x ∈ L, 0 ≤ x ∧ x < 256) : laws_FnCrash.f 300000 L = some true := by
 unfold laws_FnCrash.f
 by_cases hl : (L.length : Int) > 1048576
 ·rw [if_pos hl]
 rw [if_neg hl]; have hc : Code L := ⟨by omega, hb⟩
 obtain ⟨s, n, c, pk, hd, hn, hs, hpk⟩ := spec_DrawDiskCrash_s hc 300000 (by omega); rw [hd, Option.bind_some, Option.bind_some]; unfold spec_DiskSync.f impl_DiskSync.f; dsimp only; rw [l3DiskOk_f, Option.bind_some, Disk_valid_f, Option.bind_some]
 cases hok : diskOk s n c
 ·rw [if_neg (by decide), Option.bind_some, Option.bind_some]; dsimp only; rw [if_pos rfl, if_neg (by decide)]
 ·rw [if_pos rfl, Option.bind_some, Option.bind_some]; dsimp only; rw [if_pos rfl, if_pos rfl]; exact l0_f s n c pk hok (by omega) (by omega) (n.size / 64 + 1) 0 300000 (by omega) (by omega)
end Z
end Go.Proofs.Ytaepebkeijmjgaa
namespace Go.Proofs.Ytaepebkeijmjgaa
open Go.RowKit
theorem lawFnCrash (A0 : Option Addr) (c0 : Nat) (l0 : List Int) (w : World) (hr0 : YtaepebkeijmjgaaW.PrintWords.Kd.C (YtaepebkeijmjgaaW.PrintWords.Kd.int .u8) w A0 l0.length l0) (hc0 : l0.length ≤ c0) (_hl : c0 ≤ maxLen) (hs : ∀ x ∈ l0, 0 ≤ x ∧ x < 256) :
  Calls Try.prog 3 #[.slice A0 l0.length c0] w fun e w' => e = .returned (.bool true) ∧ Below w.heap.size w w' :=
 Z.laws_FnCrash.calls 300000 A0 c0 l0 true w hr0 hc0 (Z.laws_FnCrash_f l0 hs)
end Go.Proofs.Ytaepebkeijmjgaa
end
section
namespace Go.Proofs.Ytaepebkeijmjgaa.Z
open Go.RowKit Go.ChangeShapes Go.WideShapes Go.ChangeAt Go.Proofs.YtaepebkeijmjgaaW.PrintWords
set_option linter.unusedVariables false
set_option linter.unusedSimpArgs false
section
variable {H : Type} {enc : TypeId × Value → H} {P : Program} {W : World} {base : Nat} {spare : Nat → Bool} {held : Bool}
theorem add_add (a : Addr) (i j : Nat) : (a.add i).add j = a.add (i + j) := by
 unfold Addr.add
 split <;> split <;> simp_all <;> omega
theorem list_of {α : Type} (Q : Nat → α → Prop) : ∀ n, (∀ i, i < n → ∃ x, Q i x) → ∃ l : List α, l.length = n ∧ ∀ i x, l[i]? = some x → Q i x
 | 0, _ => ⟨[], rfl, fun i x h => by simp at h⟩
 | n + 1, h => by
  obtain ⟨l, hl, hq⟩ := list_of Q n (fun i hi => h i (by omega)); obtain ⟨x, hx⟩ := h n (by omega); refine ⟨l ++ [x], by simp [hl], fun i y hy => ?_⟩
  rcases Nat.lt_or_ge i l.length with h1 | h1
  ·rw [List.getElem?_append_left h1] at hy; exact hq i y hy
  ·rw [List.getElem?_append_right h1] at hy
   rcases Nat.eq_zero_or_pos (i - l.length) with h2 | h2
   ·rw [h2] at hy; obtain rfl := Option.some.inj hy; obtain rfl : i = n := by omega
    exact hx
   ·rw [List.getElem?_eq_none (by simp; omega)] at hy; cases hy
theorem open_kd {α : Type} (d : Kd α) (Q : α → Prop) {t e : TypeId} {fuel : Nat} {v : Value} {x : DataW H × List MemPlace} (ht : P.underlying t = some (.slice e)) (hc : P.cellsOf e = d.sz)
  (hK : ∀ cs n y, cs.length = d.sz → DataW.trod enc P W base spare held n e cs = some y → ∃ x, d.K W x cs ∧ Q x) (h : DataW.trod enc P W base spare held fuel t [v] = some x) :
  ∃ A c, ∃ l : List α, v = .slice A l.length c ∧ l.length ≤ c ∧ c ≤ maxLen ∧ d.C W A l.length l ∧ ∀ x ∈ l, Q x := by
 rcases DataW.trod_slice ht h with ⟨hcs, _⟩ | ⟨a, len, cap, elems, rest, m, _, hcs, hx, _, hl, hcap, hlen, hel, _⟩
 ·simp at hcs; subst hcs; refine ⟨none, 0, [], rfl, Nat.le_refl _, Nat.zero_le _, ⟨rfl, Nat.zero_le _, fun h => absurd h (Nat.lt_irrefl _)⟩, fun x hx => by cases hx⟩
 ·simp at hcs; subst hcs; have hp : ∀ i, i < len → ∃ x : α, ∃ cs, W.cells? base (a.add (i * d.sz)) d.sz = some cs ∧ cs.length = d.sz ∧ d.K W x cs ∧ Q x := by
   intro i hi; have h1 := hel i hi; rw [List.getElem?_eq_getElem (by omega), hc] at h1; obtain ⟨cs, hcs, hy⟩ := Option.bind_eq_some_iff.1 h1; have hln := (World.cells?_some hcs).2.1; obtain ⟨x, hx1, hx2⟩ := hK cs m _ hln hy; exact ⟨x, cs, hcs, hln, hx1, hx2⟩
  obtain ⟨l, hll, hq⟩ := list_of _ len hp; subst hll; refine ⟨some a, cap, l, rfl, hl, hcap, ⟨rfl, by unfold maxLen at hcap; omega, fun _ => ⟨a, rfl, fun j p hj => ?_⟩⟩, fun x hx => ?_⟩
  ·obtain ⟨cs, h1, h2, h3, _⟩ := hq j p hj; refine ⟨cs, h2, h3, fun i u hu => ?_⟩; have h4 := (World.cells?_some h1).2.2 i (by rw [← h2]; exact (List.getElem?_eq_some_iff.1 hu).1); rw [← add_add]; exact h4.trans hu
  ·obtain ⟨i, hi, rfl⟩ := List.getElem_of_mem hx; obtain ⟨cs, _, _, _, h5⟩ := hq i _ (List.getElem?_eq_getElem hi); exact h5
theorem open_code {t e : TypeId} {fuel : Nat} {v : Value} {x : DataW H × List MemPlace} (ht : P.underlying t = some (.slice e)) (he : P.underlying e = some (.int .u8)) (hc : P.cellsOf e = 1) (h : DataW.trod enc P W base spare held fuel t [v] = some x) :
  ∃ A c, ∃ l : List Int, v = .slice A l.length c ∧ l.length ≤ c ∧ c ≤ maxLen ∧ Kd.C (Kd.int .u8) W A l.length l ∧ ∀ s ∈ l, 0 ≤ s ∧ s < 256 :=
 open_kd (Kd.int .u8) (fun s => 0 ≤ s ∧ s < 256) ht hc (fun cs n y hl hy => by
  obtain ⟨s, rfl, _, hs⟩ := DataW.trod_int he hy; refine ⟨s, rfl, ?_⟩; simp [Lit.wf, IntKind.min, IntKind.max, IntKind.signed, IntKind.bits] at hs; omega) h
end
end Go.Proofs.Ytaepebkeijmjgaa.Z
end
