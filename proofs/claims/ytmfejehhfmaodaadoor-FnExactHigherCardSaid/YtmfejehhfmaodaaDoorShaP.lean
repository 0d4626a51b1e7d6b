/- SHA-256 over lists of numbers, and that the specification's schedule and block are it. -/
import Derived.Test.YtmfejehhfmaodaaDoorZ4
import Derived.Test.YtmfejehhfmaodaaDoorZ3
import Derived.Test.YtmfejehhfmaodaaDoorZ2
import Derived.Test.YtmfejehhfmaodaaDoorZ22
import Derived.Test.YtmfejehhfmaodaaDoorZ1
import Derived.Test.YtmfejehhfmaodaaDoorBase
namespace Go.Proofs.YtmfejehhfmaodaaDoor.Z
open Go.RowKit Go.Proofs.YtmfejehhfmaodaaDoor Go.Proofs.YtmfejehhfmaodaaDoorW.PrintWords Go.Proofs.YtmfejehhfmaodaaDoorW.PrintLast
set_option linter.unusedVariables false
set_option linter.unusedSimpArgs false
theorem w64 {x : Int} (h0 : -9223372036854775808 ≤ x) (h1 : x ≤ 9223372036854775807) : wrap64 x = x := by unfold wrap64; omega
def turn (x n : Int) : Int := Go.bits .or .u32 (shr .u32 x n) (shl .u32 x (32 - n))
theorem wrapU64 {x : Int} (h0 : 0 ≤ x) (h1 : x < 18446744073709551616) : IntKind.u64.wrap x = x := by
  simp [IntKind.wrap, IntKind.bits, IntKind.signed]; omega
theorem l1Turn_f (x n : Int) (h0 : 0 ≤ n) (h1 : n ≤ 32) : spec_l1Turn.f x n = some (turn x n) := by
  unfold spec_l1Turn.f turn
  rw [wrapU64 h0 (by omega), w64 (by omega) (by omega), wrapU64 (by omega) (by omega), if_pos h0, if_pos (by omega)]
theorem or_comm32 (a b : Int) : Go.bits .or .u32 a b = Go.bits .or .u32 b a := by
  show IntKind.u32.wrap (((BitVec.ofInt 32 a ||| BitVec.ofInt 32 b).toNat : Nat) : Int) = IntKind.u32.wrap (((BitVec.ofInt 32 b ||| BitVec.ofInt 32 a).toNat : Nat) : Int)
  rw [BitVec.or_comm]
theorem rot_f (x : Int) (n : Nat) (h : n ∈ [2, 6, 7, 11, 13, 17, 18, 19, 22, 25]) : bits_RotateLeft32.f x (-(n : Int)) = some (turn x n) := by
  have key : ∀ n ∈ [2, 6, 7, 11, 13, 17, 18, 19, 22, 25], Go.bits .and .u64 (IntKind.u64.wrap (-((n : Nat) : Int))) 31 = 32 - (n : Int) ∧ IntKind.u64.wrap (32 - (32 - (n : Int))) = n ∧ 0 ≤ 32 - (n : Int) := by decide
  obtain ⟨k1, k2, k3⟩ := key n h
  unfold bits_RotateLeft32.f turn
  rw [k1, k2, if_pos k3, if_pos (by omega), or_comm32]
def rdN (l : List Int) (i : Nat) : Int := l.getD i 0
theorem rd_nat (l : List Int) (i : Nat) : rd l (i : Int) = rdN l i := rfl
theorem rd_eq (l : List Int) (x : Int) (i : Nat) (h : x = i) : rd l x = rdN l i := by rw [h]; rfl
def wordP (b : List Int) (i : Nat) : Int := Go.bits .or .u32 (Go.bits .or .u32 (Go.bits .or .u32 (((rdN b (4 * i) % 4294967296) * 16777216) % 4294967296) (((rdN b (4 * i + 1) % 4294967296) * 65536) % 4294967296)) (((rdN b (4 * i + 2) % 4294967296) * 256) % 4294967296)) (rdN b (4 * i + 3) % 4294967296)
def nextP (w : List Int) (n : Nat) : Int := ((((((rdN w (n - 16)) + (Go.bits .xor .u32 (Go.bits .xor .u32 (turn (rdN w (n - 15)) 7) (turn (rdN w (n - 15)) 18)) ((rdN w (n - 15)) / 8))) % 4294967296) + (rdN w (n - 7))) % 4294967296) + (Go.bits .xor .u32 (Go.bits .xor .u32 (turn (rdN w (n - 2)) 17) (turn (rdN w (n - 2)) 19)) ((rdN w (n - 2)) / 1024))) % 4294967296
/-- The first n words of a block's schedule. -/
def schedP (b : List Int) : Nat → List Int
  | 0 => []
  | n + 1 => schedP b n ++ [if n < 16 then wordP b n else nextP (schedP b n) n]
theorem schedP_length (b : List Int) : ∀ n, (schedP b n).length = n
  | 0 => rfl
  | n + 1 => by rw [schedP, List.length_append, schedP_length b n]; rfl
def blockAt (m : List Int) (fr : Nat) : List Int := (m.drop fr).take 64
theorem rd_blockAt (m : List Int) (fr j : Nat) (h : j < 64) : rdN (blockAt m fr) j = rdN m (fr + j) := by
  unfold rdN blockAt
  rw [List.getD_eq_getElem?_getD, List.getD_eq_getElem?_getD, List.getElem?_take, if_pos h, List.getElem?_drop]
theorem sched_l1 (b : List Int) : ∀ (d n k : Nat), n + d = 64 → 16 ≤ n → d < k → spec_l1Schedule.l1 k (schedP b n) (n : Int) = some (schedP b 64) := by
  intro d
  induction d with
  | zero =>
    intro n k hn h16 hk
    obtain ⟨k, rfl⟩ : ∃ j, k = j + 1 := ⟨k - 1, by omega⟩
    obtain rfl : n = 64 := by omega
    simp only [spec_l1Schedule.l1]; rw [if_neg (by omega)]
  | succ d ih =>
    intro n k hn h16 hk
    obtain ⟨k, rfl⟩ : ∃ j, k = j + 1 := ⟨k - 1, by omega⟩
    have hl := schedP_length b n
    simp only [spec_l1Schedule.l1]
    have e15 : wrap64 ((n : Int) - 15) = ((n - 15 : Nat) : Int) := by rw [w64 (by omega) (by omega)]; omega
    have e2 : wrap64 ((n : Int) - 2) = ((n - 2 : Nat) : Int) := by rw [w64 (by omega) (by omega)]; omega
    have e16 : wrap64 ((n : Int) - 16) = ((n - 16 : Nat) : Int) := by rw [w64 (by omega) (by omega)]; omega
    have e7 : wrap64 ((n : Int) - 7) = ((n - 7 : Nat) : Int) := by rw [w64 (by omega) (by omega)]; omega
    have e1 : wrap64 ((n : Int) + 1) = ((n + 1 : Nat) : Int) := by rw [w64 (by omega) (by omega)]; omega
    rw [e15, e2, e16, e7, e1, hl]
    clear e15 e2 e16 e7 e1
    simp only [rd_nat]
    rw [if_pos (by omega), if_pos (by omega), if_pos (by omega), if_pos (by omega), if_pos (by omega)]
    rw [l1Turn_f _ _ (by omega) (by omega), l1Turn_f _ _ (by omega) (by omega), l1Turn_f _ _ (by omega) (by omega), l1Turn_f _ _ (by omega) (by omega)]
    simp only [Option.bind_some]
    rw [if_pos (by omega), if_pos (by omega), if_pos (by omega), if_pos (by omega), if_pos (by omega)]
    have hs : schedP b (n + 1) = schedP b n ++ [nextP (schedP b n) n] := by rw [schedP, if_neg (by omega)]
    have := ih (n + 1) k (by omega) (by omega) (by omega)
    rw [hs] at this
    exact this
theorem sched_l0 (m : List Int) (fr : Nat) (hm : fr + 64 ≤ m.length) (hb : m.length ≤ 1099511627776) : ∀ (d n k : Nat), n + d = 16 → d + 50 < k → spec_l1Schedule.l0 k m (fr : Int) (schedP (blockAt m fr) n) (n : Int) = some (schedP (blockAt m fr) 64) := by
  intro d
  induction d with
  | zero =>
    intro n k hn hk
    obtain ⟨k, rfl⟩ : ∃ j, k = j + 1 := ⟨k - 1, by omega⟩
    obtain rfl : n = 16 := by omega
    simp only [spec_l1Schedule.l0]; rw [if_neg (by omega)]
    exact sched_l1 _ 48 16 k (by omega) (by omega) (by omega)
  | succ d ih =>
    intro n k hn hk
    obtain ⟨k, rfl⟩ : ∃ j, k = j + 1 := ⟨k - 1, by omega⟩
    have hl := schedP_length (blockAt m fr) n
    simp only [spec_l1Schedule.l0]
    have e4 : wrap64 (4 * (n : Int)) = ((4 * n : Nat) : Int) := by rw [w64 (by omega) (by omega)]; omega
    rw [e4]
    have f0 : wrap64 ((fr : Int) + ((4 * n : Nat) : Int)) = ((fr + 4 * n : Nat) : Int) := by rw [w64 (by omega) (by omega)]; omega
    rw [f0]
    have f1 : wrap64 (((fr + 4 * n : Nat) : Int) + 1) = ((fr + 4 * n + 1 : Nat) : Int) := by rw [w64 (by omega) (by omega)]; omega
    have f2 : wrap64 (((fr + 4 * n : Nat) : Int) + 2) = ((fr + 4 * n + 2 : Nat) : Int) := by rw [w64 (by omega) (by omega)]; omega
    have f3 : wrap64 (((fr + 4 * n : Nat) : Int) + 3) = ((fr + 4 * n + 3 : Nat) : Int) := by rw [w64 (by omega) (by omega)]; omega
    have e1 : wrap64 ((n : Int) + 1) = ((n + 1 : Nat) : Int) := by rw [w64 (by omega) (by omega)]; omega
    rw [f1, f2, f3, e1, hl]
    clear f0 f1 f2 f3 e1 e4
    simp only [rd_nat]
    rw [if_pos (by omega), if_pos (by omega), if_pos (by omega), if_pos (by omega), if_pos (by omega), if_pos (by omega), if_pos (by omega), if_pos (by omega), if_pos (by omega), if_pos (by omega)]
    have hs : schedP (blockAt m fr) (n + 1) = schedP (blockAt m fr) n ++ [wordP (blockAt m fr) n] := by rw [schedP, if_pos (by omega)]
    have := ih (n + 1) k (by omega) (by omega)
    rw [hs, wordP, rd_blockAt _ _ _ (by omega), rd_blockAt _ _ _ (by omega), rd_blockAt _ _ _ (by omega), rd_blockAt _ _ _ (by omega), ← Nat.add_assoc, ← Nat.add_assoc, ← Nat.add_assoc] at this
    exact this
theorem l1Schedule_f (m : List Int) (fr k : Nat) (hm : fr + 64 ≤ m.length) (hb : m.length ≤ 1099511627776) (hk : 70 < k) : spec_l1Schedule.f k m (fr : Int) = some (schedP (blockAt m fr) 64) := by
  unfold spec_l1Schedule.f
  exact sched_l0 m fr hm hb 16 0 k rfl (by omega)
/-- Eight words. -/
structure St where
  a : Int
  b : Int
  c : Int
  d : Int
  e : Int
  f : Int
  g : Int
  z : Int
def St.t1 (s : St) (k w : Int) : Int := (((((((s.z + (Go.bits .xor .u32 (Go.bits .xor .u32 (turn s.e 6) (turn s.e 11)) (turn s.e 25))) % 4294967296) + (Go.bits .xor .u32 (Go.bits .and .u32 s.e s.f) (Go.bits .and .u32 (Go.bits .xor .u32 IntKind.u32.max s.e) s.g))) % 4294967296) + k) % 4294967296) + w) % 4294967296
def St.s0 (s : St) : Int := Go.bits .xor .u32 (Go.bits .xor .u32 (turn s.a 2) (turn s.a 13)) (turn s.a 22)
def St.maj (s : St) : Int := Go.bits .xor .u32 (Go.bits .xor .u32 (Go.bits .and .u32 s.a s.b) (Go.bits .and .u32 s.a s.c)) (Go.bits .and .u32 s.b s.c)
def St.rnd (s : St) (k w : Int) : St := ⟨(s.t1 k w + (s.s0 + s.maj) % 4294967296) % 4294967296, s.a, s.b, s.c, (s.d + s.t1 k w) % 4294967296, s.e, s.f, s.g⟩
def kTab : List Int := (spec_l1K.f).getD []
theorem kTab_f : spec_l1K.f = some kTab := rfl
theorem kTab_length : kTab.length = 64 := by decide +kernel
def St.run (s : St) (W : List Int) : Nat → St
  | 0 => s
  | n + 1 => (s.run W n).rnd (rdN kTab n) (rdN W n)
def St.of (h : List Int) : St := ⟨rdN h 0, rdN h 1, rdN h 2, rdN h 3, rdN h 4, rdN h 5, rdN h 6, rdN h 7⟩
def St.list (s : St) : List Int := [s.a, s.b, s.c, s.d, s.e, s.f, s.g, s.z]
/-- The state behind a block. -/
def compP (h b : List Int) : List Int :=
  let s := (St.of h).run (schedP b 64) 64
  [(rdN h 0 + s.a) % 4294967296, (rdN h 1 + s.b) % 4294967296, (rdN h 2 + s.c) % 4294967296, (rdN h 3 + s.d) % 4294967296, (rdN h 4 + s.e) % 4294967296, (rdN h 5 + s.f) % 4294967296, (rdN h 6 + s.g) % 4294967296, (rdN h 7 + s.z) % 4294967296]
theorem block_l0 (h W : List Int) (hh : h.length = 8) (hW : W.length = 64) : ∀ (d n k : Nat) (s : St), n + d = 64 → d < k → s = (St.of h).run W n →
    spec_l1Block.l0 k h kTab W s.a s.b s.c s.d s.e s.f s.g s.z (n : Int) = some (
      let s := (St.of h).run W 64
      [(rdN h 0 + s.a) % 4294967296, (rdN h 1 + s.b) % 4294967296, (rdN h 2 + s.c) % 4294967296, (rdN h 3 + s.d) % 4294967296, (rdN h 4 + s.e) % 4294967296, (rdN h 5 + s.f) % 4294967296, (rdN h 6 + s.g) % 4294967296, (rdN h 7 + s.z) % 4294967296]) := by
  intro d
  induction d with
  | zero =>
    intro n k s hn hk hs
    obtain ⟨k, rfl⟩ : ∃ j, k = j + 1 := ⟨k - 1, by omega⟩
    obtain rfl : n = 64 := by omega
    simp only [spec_l1Block.l0]
    rw [if_neg (by omega), hh]
    rw [if_pos (by omega), if_pos (by omega), if_pos (by omega), if_pos (by omega), if_pos (by omega), if_pos (by omega), if_pos (by omega), if_pos (by omega), ← hs]
    rfl
  | succ d ih =>
    intro n k s hn hk hs
    obtain ⟨k, rfl⟩ : ∃ j, k = j + 1 := ⟨k - 1, by omega⟩
    simp only [spec_l1Block.l0]
    have e1 : wrap64 ((n : Int) + 1) = ((n + 1 : Nat) : Int) := by rw [w64 (by omega) (by omega)]; omega
    rw [e1]
    clear e1
    rw [if_pos (by omega)]
    rw [l1Turn_f _ _ (by omega) (by omega), l1Turn_f _ _ (by omega) (by omega), l1Turn_f _ _ (by omega) (by omega), l1Turn_f _ _ (by omega) (by omega), l1Turn_f _ _ (by omega) (by omega), l1Turn_f _ _ (by omega) (by omega)]
    simp only [Option.bind_some, rd_nat]
    rw [if_pos (by omega), if_pos (by rw [kTab_length]; omega), if_pos (by rw [hW]; omega)]
    have hr : s.rnd (rdN kTab n) (rdN W n) = (St.of h).run W (n + 1) := by rw [St.run, ← hs]
    exact ih (n + 1) k (s.rnd (rdN kTab n) (rdN W n)) (by omega) (by omega) hr
theorem l1Block_f (h m : List Int) (fr k : Nat) (hh : h.length = 8) (hm : fr + 64 ≤ m.length) (hb : m.length ≤ 1099511627776) (hk : 70 < k) :
    spec_l1Block.f k h kTab m (fr : Int) = some (compP h (blockAt m fr)) := by
  unfold spec_l1Block.f
  rw [l1Schedule_f m fr k hm hb hk]
  simp only [Option.bind_some]
  rw [hh]
  rw [if_pos (by omega), if_pos (by omega), if_pos (by omega), if_pos (by omega), if_pos (by omega), if_pos (by omega), if_pos (by omega), if_pos (by omega)]
  exact block_l0 h _ hh (schedP_length _ _) 64 0 k (St.of h) rfl (by omega) rfl
end Go.Proofs.YtmfejehhfmaodaaDoor.Z
