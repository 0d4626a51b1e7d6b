/- Own texts, joined. -/
import Derived.Test.YtonbmghgbblifaaDoorRows
import Derived.WalkKit
import Derived.WalkSpells
import Derived.WalkLawsBesides
import Derived.Deep.Light
import Derived.Lib.Hide
import Derived.Handy
import Derived.Deep.QuietTactic
import Derived.BigQuiet
import Derived.Deep.AppendSrc
import Derived.Deep.Upon
import Derived.Lib.ConvBytes
import Derived.Laws.MakeOwn
import Derived.Deep.Draws
import Derived.Lib.Builder
import Derived.Lib.AppendStr
import Derived.Lib.UnsafeStr
import Derived.Lib.Walk
import Derived.Laws.Externs
import Derived.StillTailTactics
import Derived.Deep.RegionHeld3
import Derived.Lib.BufferOwn
import Derived.Lib.BufferWrite
import Derived.ArgAppend
import Derived.Below
import Derived.Deep.AppendLies
import Derived.Deep.CutBlock
import Derived.Deep.DeepCutAuto
import Derived.Deep.LoopGhost
import Derived.Deep.OwnRows
import Derived.KernelRfl
import Derived.Laws.BitsLemmas
import Derived.Laws.BytesArg
import Derived.Laws.IdiomCopy
import Derived.Laws.OwnMore
import Derived.Laws.Rows
import Derived.Laws.Slices
import Derived.Maps.AppendAt
import Derived.OrdersHeld
import Derived.OwnWalk
import Derived.RowKit
import Derived.RowKit3
import Derived.Tactics
import Derived.Test.YtonbmghgbblifaaDoorProg
import Derived.Test.YtonbmghgbblifaaDoorYFnCodec2
import Derived.Test.YtonbmghgbblifaaDoorYFnCodec3
import Derived.Test.YtonbmghgbblifaaDoorYFnCodec10
import Derived.Test.YtonbmghgbblifaaDoorYFnCodec11
import Derived.Test.YtonbmghgbblifaaDoorYFnCodec4
import Derived.Test.YtonbmghgbblifaaDoorYFnCodec9
import Derived.Test.YtonbmghgbblifaaDoorYFnCodec13
import Derived.Test.YtonbmghgbblifaaDoorYFnCodec14
import Derived.Test.YtonbmghgbblifaaDoorYFnCodec15
import Derived.Test.YtonbmghgbblifaaDoorYFnCodec16
import Derived.Test.YtonbmghgbblifaaDoorYFnCodec5
import Derived.Test.YtonbmghgbblifaaDoorYFnCodec1
import Derived.Test.YtonbmghgbblifaaDoorYFnCodec19
import Derived.Test.YtonbmghgbblifaaDoorYFnCodec8
import Derived.Test.YtonbmghgbblifaaDoorYFnCodec18
import Derived.Test.YtonbmghgbblifaaDoorYFnCodec17
import Derived.Test.YtonbmghgbblifaaDoorYFnCodec20
import Derived.Test.YtonbmghgbblifaaDoorYFnCodec6
import Derived.Test.YtonbmghgbblifaaDoorYFnCodec12
import Derived.Test.YtonbmghgbblifaaDoorYFnCodec0
import Derived.Test.YtonbmghgbblifaaDoorYFnCodec7
import Derived.WideLaws
section
namespace Go.Proofs.YtonbmghgbblifaaDoor
open Go.RowKit
set_option linter.unusedVariables false
set_option linter.unusedSimpArgs false
theorem ret_bool {a b : Bool} (h : a = b) : Ending.returned (.bool a) = .returned (.bool b) := by rw [h]
theorem ret_str {a b : ByteArray} (h : a = b) : Ending.returned (.string a) = .returned (.string b) := by rw [h]
theorem bcell {W w1 : World} (hb : Below W.heap.size W w1) : (∀ b o, b < W.heap.size → w1.cell? ⟨b, o, none⟩ = W.cell? ⟨b, o, none⟩) ∧ (∀ b o, b < W.heap.size → w1.frozen? ⟨b, o, none⟩ = W.frozen? ⟨b, o, none⟩) :=
 ⟨fun b o h => hb.cell (p := ⟨b, o, none⟩) h, fun b o h => hb.frozen (p := ⟨b, o, none⟩) h⟩
theorem below_new2 {a w : World} (h : Below a.heap.size a w) (o : Obj) : Below a.heap.size a (w.alloc o) := h.alloc h.size o
theorem bdrewN {B : Nat} {a w : World} (h : Below B a w) (n : Nat) : Below B a (w.drewN n) := ⟨h.os, h.tape, h.output, h.size, h.block⟩
theorem lt1 (n : Nat) : n < n + 1 + 1 := by omega
theorem lt2 (n : Nat) : n < n + 1 + 1 + 1 := by omega
theorem lt3 (n : Nat) : n + 1 < n + 1 + 1 + 1 := by omega
attribute [go_sem] lt1 lt2 lt3
theorem cellB {u w1 : World} {p : Addr} {v : Value} (hb : Below u.heap.size u w1) (h : u.cell? p = some v) : w1.cell? p = some v := (hb.cell (World.block_lt_of_cell? _ _ h)).trans h
theorem held4B {u w1 : World} {p q r t : Addr} {a b c d : Value} (hb : Below u.heap.size u w1) (h : u.cell? p = some a ∧ u.cell? q = some b ∧ u.cell? r = some c ∧ u.cell? t = some d) : w1.cell? p = some a ∧ w1.cell? q = some b ∧ w1.cell? r = some c ∧ w1.cell? t = some d := ⟨cellB hb h.1, cellB hb h.2.1, cellB hb h.2.2.1, cellB hb h.2.2.2⟩
theorem below_then {a w w' : World} (h : Below a.heap.size a w) (k : Below w.heap.size w w') : Below a.heap.size a w' := h.trans (k.mono h.size)
end Go.Proofs.YtonbmghgbblifaaDoor
end
section
namespace Go.Proofs.YtonbmghgbblifaaDoor
open Go.RowKit
set_option linter.unusedVariables false
set_option linter.unusedSimpArgs false
def Own (w : World) (base size : Nat) (v : Value) (n : Nat) (xs : List Value) : Prop :=
 xs.length = n * size ∧ ((v = .slice none 0 0 ∧ n = 0) ∨ ∃ g cap, v = .slice (some ⟨g, 0, none⟩) n cap ∧ base ≤ g ∧ g < w.heap.size ∧ n ≤ cap ∧ cap ≤ maxLen ∧ (∀ j, j < n * size → w.cell? ⟨g, j, none⟩ = xs[j]?) ∧ ∀ j, j < cap * size → (w.cell? ⟨g, j, none⟩).isSome = true ∧ w.frozen? ⟨g, j, none⟩ = false)
theorem Own.nil (w : World) (base size : Nat) : Own w base size (.slice none 0 0) 0 [] := ⟨by simp, .inl ⟨rfl, rfl⟩⟩
section
variable {w w1 : World} {base size : Nat} {v : Value} {n : Nat} {xs : List Value}
theorem Own.len (h : Own w base size v n xs) : xs.length = n * size := h.1
theorem Own.form (h : Own w base size v n xs) : ∃ A c, v = .slice A n c := by
 rcases h.2 with ⟨rfl, rfl⟩ | ⟨g, cap, rfl, _⟩
 ·exact ⟨none, 0, rfl⟩
 ·exact ⟨_, cap, rfl⟩
theorem Own.at (h : Own w base size v n xs) (hn : 0 < n) : ∃ g cap, v = .slice (some ⟨g, 0, none⟩) n cap ∧ base ≤ g ∧ g < w.heap.size ∧ n ≤ cap ∧ (∀ j, j < n * size → w.cell? ⟨g, j, none⟩ = xs[j]?) ∧ ∀ j, j < n * size → w.frozen? ⟨g, j, none⟩ = false := by
 rcases h.2 with ⟨_, rfl⟩ | ⟨g, cap, rfl, h1, h2, h3, h4, h5, h6⟩
 ·omega
 ·exact ⟨g, cap, rfl, h1, h2, h3, h5, fun j hj => (h6 j (Nat.lt_of_lt_of_le hj (Nat.mul_le_mul_right _ h3))).2⟩
theorem Own.keep (h : Own w base size v n xs) (hs : w.heap.size ≤ w1.heap.size) (hb : ∀ k, v.ownBlock = some k → w1.heap[k]? = w.heap[k]?) : Own w1 base size v n xs := by
 refine ⟨h.1, ?_⟩
 rcases h.2 with h2 | ⟨g, cap, rfl, h1, h2, h3, h4, h5, h6⟩
 ·exact .inl h2
 ·have e := hb g rfl; refine .inr ⟨g, cap, rfl, h1, by omega, h3, h4, fun j hj => ?_, fun j hj => ?_⟩
  ·rw [World.cell?_of_block (a := ⟨g, j, none⟩) e]; exact h5 j hj
  ·rw [World.cell?_of_block (a := ⟨g, j, none⟩) e, World.frozen?_of_block (a := ⟨g, j, none⟩) e]; exact h6 j hj
theorem Own.lt (h : Own w base size v n xs) (k : Nat) (hk : v.ownBlock = some k) : base ≤ k ∧ k < w.heap.size := by
 rcases h.2 with ⟨rfl, _⟩ | ⟨g, cap, rfl, h1, h2, _⟩
 ·simp [Value.ownBlock] at hk
 ·simp [Value.ownBlock] at hk; omega
theorem Own.below (h : Own w base size v n xs) (hb : Below w.heap.size w w1) : Own w1 base size v n xs :=
 h.keep hb.size fun k hk => hb.block k (h.lt k hk).2
theorem Own.alloc (h : Own w base size v n xs) (o : Obj) : Own (w.alloc o) base size v n xs :=
 h.below ((Below.refl _ _).alloc (Nat.le_refl _) o)
theorem Own.drew (h : Own w base size v n xs) : Own w.drew base size v n xs := h.below (Below.refl _ _).drew
theorem Own.drewN (h : Own w base size v n xs) (k : Nat) : Own (w.drewN k) base size v n xs := h.keep (Nat.le_refl _) fun _ _ => rfl
theorem Own.set (h : Own w base size v n xs) {p : Addr} (hp : v.ownBlock ≠ some p.block) (u : Value) : Own (w.setCell p u) base size v n xs :=
 h.keep (by simp) fun k hk => Below.heap_setCell w p u k (fun e => hp (by rw [hk, e]))
theorem Own.grown (h : Own w base size v n xs) {row : Option Nat} (hg : w.grownBy w1 row) (hne : ∀ k, v.ownBlock = some k → some k ≠ row) : Own w1 base size v n xs :=
 h.keep hg.size fun k hk => hg.block k (h.lt k hk).2 (hne k hk)
theorem Own.lower (h : Own w base size v n xs) {b : Nat} (hb : b ≤ base) : Own w b size v n xs := by
 refine ⟨h.1, ?_⟩
 rcases h.2 with h2 | ⟨g, cap, rfl, h1, h2⟩
 ·exact .inl h2
 ·exact .inr ⟨g, cap, rfl, by omega, h2⟩
theorem below_of_grown {B : Nat} {w0 : World} (h : Below B w0 w) (hv : Own w base size v n xs) (hB : B ≤ base) (hB2 : B ≤ w.heap.size) (hg : w.grownBy w1 v.ownBlock) : Below B w0 w1 :=
 h.grown hg hB2 fun k hk => Nat.le_trans hB (hv.lt k hk).1
end
theorem tape_setCells : ∀ (w : World) (g o : Nat) (vs : List Value), (w.setCells g o vs).tape = w.tape
 | _, _, _, [] => rfl
 | w, g, o, v :: r => by rw [World.setCells, tape_setCells (w.setCell ⟨g, o, none⟩ v) g (o + 1) r]; rfl
section
variable {P : Program} {w : World}
theorem run_app (base : Nat) (t tx ty e : TypeId) (i : TypeInfo) (z : Value) (size bytes : Nat) (ht : P.underlying t = some (.slice e)) (hi : P.info? e = some i) (hz : i.zero = some z)
  (hsize : i.size = size) (hby : i.bytes = bytes) (hzs : z.cells.size = size)
  {v : Value} {n : Nat} {xs : List Value} (hown : Own w base size v n xs) {x : Value} {m : Nat} {news : List Value} (hs : Src P size tx x m news w)
  (h63 : n + m ≤ maxLen) (hbytes : (n + m) * bytes ≤ 140737488355328) (hbase : base ≤ w.heap.size) :
  ∃ v' w', (Builtin.append_ #[t, tx] ty #[v, x]).run P w = .ok v' w' ∧ Own w' base size v' (n + m) (xs ++ news) ∧ w.grownBy w' v.ownBlock ∧ (v'.ownBlock = v.ownBlock ∨ ∀ k, v'.ownBlock = some k → w.heap.size ≤ k) := by
 subst hsize; subst hby; have hsmall : ((n + m : Nat) : Int) ≤ 9223372036854775807 := by simp only [maxLen] at h63; omega
 have hlen : (xs ++ news).length = (n + m) * i.size := by rw [List.length_append, hown.1, hs.newsLen, Nat.add_mul]
 have grow : ∀ (bs : Option Addr) (sc : Nat), v = .slice bs n sc → sc < n + m → (Builtin.firstCells i.size n (.slice bs n sc)).run P w.drew = .ok xs.toArray w.drew →
   ∃ v' w', (Builtin.append_ #[t, tx] ty #[v, x]).run P w = .ok v' w' ∧ Own w' base i.size v' (n + m) (xs ++ news) ∧ w.grownBy w' v.ownBlock ∧ (v'.ownBlock = v.ownBlock ∨ ∀ k, v'.ownBlock = some k → w.heap.size ≤ k) := by
  rintro bs sc rfl hlt hold; have hrun := run_append_grow_src (P := P) w t tx ty e i z ht hi hz bs n sc xs hold x m news hs hlt hsmall (growslice_fits hlt hbytes); have hge := grownCap_ge w (n + m) sc e; have hcm := grownCap_le_maxLen w (n + m) sc e h63; refine ⟨_, _, hrun, ⟨hlen, .inr ⟨w.heap.size, _, rfl, hbase, by simp, hge, hcm, fun j hj => ?_, fun j hj => ?_⟩⟩, ⟨rfl, rfl, rfl, by simp, fun k hk _ => Below.heap_alloc w.drew _ k hk⟩, .inr fun k hk => by simp [Value.ownBlock] at hk; omega⟩
  ·have e1 := World.cell?_alloc_new w.drew (((xs ++ news).toArray ++ Builtin.zeroCells z.cells (grownCap w (n + m) sc e - (n + m)))) e j; refine Eq.trans e1 ?_; rw [Array.getElem?_append_left (by simp only [List.size_toArray]; omega), List.getElem?_toArray]
  ·have e1 := World.cell?_alloc_new w.drew (((xs ++ news).toArray ++ Builtin.zeroCells z.cells (grownCap w (n + m) sc e - (n + m)))) e j; have hsz : ((xs ++ news).toArray ++ Builtin.zeroCells z.cells (grownCap w (n + m) sc e - (n + m))).size = grownCap w (n + m) sc e * i.size := by
    rw [Array.size_append, List.size_toArray, hlen, size_zeroCells, hzs, ← Nat.add_mul]
    congr 1
    omega
   refine ⟨?_, World.frozen?_alloc_new w.drew _ _ j⟩; have e2 : ∀ o, o = some ((((xs ++ news).toArray ++ Builtin.zeroCells z.cells (grownCap w (n + m) sc e - (n + m))))[j]'(by rw [hsz]; exact hj)) → o.isSome = true := fun o h => by rw [h]; rfl
   exact e2 _ (Eq.trans e1 (Array.getElem?_eq_getElem (by rw [hsz]; exact hj)))
 rcases hown.2 with ⟨rfl, rfl⟩ | ⟨g, cap, rfl, h1, h2, h3, h4, h5, h6⟩
 ·have hx : xs = [] := List.eq_nil_of_length_eq_zero (by simpa using hown.1); subst hx
  by_cases hm : m = 0
  ·subst hm; have hn : news = [] := List.eq_nil_of_length_eq_zero (by simpa using hs.newsLen); subst hn; exact ⟨_, w, run_append_nothing w t tx ty e i ht hi none 0 0 (Nat.le_refl _) x hs, Own.nil w base i.size, ⟨rfl, rfl, rfl, Nat.le_refl _, fun _ _ _ => rfl⟩, .inl rfl⟩
  ·exact grow none 0 rfl (by omega) (run_firstCells_none w.drew i.size 0 0 0)
 ·by_cases hroom : n + m ≤ cap
  ·have hfit : (n + m) * i.size ≤ cap * i.size := Nat.mul_le_mul_right _ hroom; have hnl := hs.newsLen; have hmul : (n + m) * i.size = n * i.size + m * i.size := Nat.add_mul ..; have hrun := run_append_room_src (P := P) w t tx ty e i ht hi g 0 n cap x m news hs hroom (fun j hj => by rw [Nat.zero_add]; exact (h6 _ (by omega)).1) (fun j hj => by rw [Nat.zero_add]; exact (h6 _ (by omega)).2); rw [Nat.zero_add] at hrun; have hk := World.keptBut_setCells g (may := fun p => p.block = g) news (n * i.size) w (fun _ _ => rfl); refine ⟨_, _, hrun, ⟨hlen, .inr ⟨g, cap, rfl, h1, Nat.lt_of_lt_of_le h2 hk.size, hroom, h4, fun j hj => ?_, fun j hj => ⟨?_, (World.frozen?_setCells g _ _ _ _).trans (h6 j hj).2⟩⟩⟩, ?_, .inl rfl⟩
   ·by_cases hjn : j < n * i.size
    ·rw [World.cell?_setCells_out g _ _ _ _ (fun _ _ => Or.inl hjn), List.getElem?_append_left (by rw [hown.1]; exact hjn)]; exact h5 j hjn
    ·have hin := World.cell?_setCells_in g news (n * i.size) w (fun j hj => (h6 _ (by omega)).1) (j - n * i.size) (by omega); rw [show n * i.size + (j - n * i.size) = j by omega] at hin; rw [hin, List.getElem?_append_right (by rw [hown.1]; omega), hown.1, List.getElem?_eq_getElem]
   ·by_cases hjn : n * i.size ≤ j ∧ j < n * i.size + news.length
    ·have hin := World.cell?_setCells_in g news (n * i.size) w (fun j hj => (h6 _ (by omega)).1) (j - n * i.size) (by omega); rw [show n * i.size + (j - n * i.size) = j by omega] at hin; rw [hin]; rfl
    ·rw [World.cell?_setCells_out g _ _ _ _ (fun _ _ => by show j < _ ∨ _ ≤ j; omega)]; exact (h6 j hj).1
   ·refine ⟨World.os_setCells _ _ _ _, tape_setCells _ _ _ _, World.output_setCells _ _ _ _, hk.size, fun k hk1 hk2 => World.heap_setCells_other w g _ news hk1 (fun e => hk2 (by simp [Value.ownBlock, e]))⟩
  ·refine grow _ cap rfl (by omega) ?_; refine run_firstCells_some w.drew i.size n ⟨g, 0, none⟩ n cap xs hown.1 (fun j u hu => ?_); rw [Addr.add_lit, Nat.zero_add]; exact (h5 j (by have := (List.getElem?_eq_some_iff.1 hu).1; rw [hown.1] at this; exact this)).trans hu
theorem wpList_app (base : Nat) {ops : Array Oper} {rest : List Oper} {o : Oper} {a : Act} {Q : Exit → Act → World → Prop} (hgd : o.guard = none) (s x : Operand) (t tx : TypeId)
  (ho : o.op = .call { callee := .builtin .append, args := #[s, x], argTypes := #[t, tx] }) (e : TypeId) (z : Value) (size bytes : Nat) (ht : P.underlying t = some (.slice e))
  (hinfo : (P.info? e).map (fun i => (i.zero, i.size, i.bytes)) = some (some z, size, bytes)) (hzs : z.cells.size = size)
  {v : Value} {n : Nat} {xs : List Value} (hv : a.eval s = v) (hown : Own w base size v n xs) (xv : Value) (m : Nat) (news : List Value) (hx : a.eval x = xv) (hs : Src P size tx xv m news w)
  (h63 : n + m ≤ maxLen) (hbytes : (n + m) * bytes ≤ 140737488355328) (hbase : base ≤ w.heap.size)
  (hK : ∀ v' w', Own w' base size v' (n + m) (xs ++ news) → w.grownBy w' v.ownBlock → (v'.ownBlock = v.ownBlock ∨ ∀ k, v'.ownBlock = some k → w.heap.size ≤ k) → wpList P ops Q rest (a.put o.dst v') w') : wpList P ops Q (o :: rest) a w := by
 obtain ⟨i, hi, hz, hsize, hby⟩ := info_parts hinfo; refine wpList_plain hgd fun K hK' => ?_
 obtain ⟨v', w', hr, h2, h3, h4⟩ := run_app (P := P) (w := w) base t tx o.type e i z size bytes ht hi hz hsize hby hzs hown hs h63 hbytes hbase; unfold Oper.wp execOp; simp only [ho, resolve, invoke, builtin, Sem.run_bind, Sem.run_pure, Result.andThen_ok, List.map_toArray, List.map_cons, List.map_nil, hv, hx, hr]; exact hK' _ _ (hK v' w' h2 h3 h4)
theorem src_one (w0 : World) (tx e' e : TypeId) (hk : P.underlying tx = some (.slice e')) (u : Value) (h1 : u.oneCell' = true) :
  Src P 1 tx (.slice (some ⟨w0.heap.size, 0, none⟩) 1 1) 1 [u] (w0.alloc (.cells #[u] e)) :=
 Src.ofSlice _ hk _ 1 1 [u] rfl (fun j u' hu => by
  match j, hu with
  | 0, hu => simp at hu; subst hu; simp [Addr.add]) (by simpa using h1)
theorem Own.bytes (w : World) (base : Nat) (e : TypeId) (s : ByteArray) (hb : base ≤ w.heap.size) (hs : s.size ≤ maxLen) :
  Own (Lib.bytesWorld w e s) base 1 (.slice (some ⟨w.heap.size, 0, none⟩) s.size (grownCap w s.size 0 e)) s.size (byteCells s) := by
 have hge := grownCap_ge w s.size 0 e; have hsz : (Lib.bytesCells w e s).size = grownCap w s.size 0 e := by
  have : s.data.size = s.size := rfl; simp [Lib.bytesCells, this]; omega
 refine ⟨by rw [byteCells_length]; omega, .inr ⟨w.heap.size, _, rfl, hb, by rw [Lib.bytesWorld_size]; omega, hge, grownCap_le_maxLen w s.size 0 e hs, fun j hj => ?_, fun j hj => ?_⟩⟩
 ·have hj' : j < s.size := by omega
  have hj2 : j < s.data.toList.length := by rw [Array.length_toList]; exact hj'
  rw [Lib.bytesWorld_cell w e s j hj']; simp only [byteCells, List.getElem?_map, List.getElem?_eq_getElem hj2, List.getD_eq_getElem?_getD, Option.map_some, Option.getD_some]
 ·have h1 := Lib.bytesWorld_at_new w e s
  constructor
  ·simp [World.cell?, h1, hsz]; omega
  ·simp [World.frozen?, h1, hsz]; omega
theorem bytes_grown (w : World) (e : TypeId) (s : ByteArray) {B : Nat} {w0 : World} (h : Below B w0 w) (hB : B ≤ w.heap.size) : Below B w0 (Lib.bytesWorld w e s) :=
 h.trans ⟨rfl, rfl, rfl, by rw [Lib.bytesWorld_size]; omega, fun k hk => Lib.bytesWorld_at_old w e s k (by omega)⟩
def bcs (l : List UInt8) : List Value := l.map fun b => Value.int .u8 b.toNat
theorem bcs_length (l : List UInt8) : (bcs l).length = l.length := by simp [bcs]
theorem bcs_append (l k : List UInt8) : bcs (l ++ k) = bcs l ++ bcs k := by simp [bcs]
theorem bcs_get (l : List UInt8) (j : Nat) (h : j < l.length) : (bcs l)[j]? = some (.int .u8 l[j].toNat) := by simp [bcs, h]
theorem byteCells_bcs (s : ByteArray) : byteCells s = bcs s.data.toList := rfl
def OwnB (w : World) (base : Nat) (v : Value) (l : List UInt8) : Prop := Own w base 1 v l.length (bcs l)
section
variable {ops : Array Oper} {rest : List Oper} {o : Oper} {a : Act} {Q : Exit → Act → World → Prop}
theorem gate_dst {N : Nat} (h : o.dst = some N) (k : wpList P ops Q (o :: rest) a w) : wpList P ops Q (o :: rest) a w := k
theorem wpList_convert (hgd : o.guard = none) (src dst : TypeId) (x : Operand) (ho : o.op = .convert src dst x) {v u : Value} {w1 : World} (hx : a.eval x = v) (hr : (convert src dst v).run P w = .ok u w1)
  (hK : wpList P ops Q rest (a.put o.dst u) w1) : wpList P ops Q (o :: rest) a w := by
 refine wpList_plain hgd fun K hK' => ?_
 unfold Oper.wp execOp; simp only [ho, hx, Sem.run_bind, Sem.run_pure, hr, Result.andThen_ok]; exact hK' _ _ hK
theorem wpList_bytes (base : Nat) (hgd : o.guard = none) (src dst e : TypeId) (x : Operand) (ho : o.op = .convert src dst x) {ud : TypeDesc} (hs : P.underlying src = some ud) (hd : P.underlying dst = some (.slice e)) (he : P.underlying e = some (.int .u8))
  (s : ByteArray) (hx : a.eval x = .string s) (hb : base ≤ w.heap.size) (hl : s.size ≤ maxLen)
  (hK : ∀ v w1, OwnB w1 base v s.data.toList → (∀ k, v.ownBlock = some k → w.heap.size ≤ k) → Below w.heap.size w w1 → wpList P ops Q rest (a.put o.dst v) w1) : wpList P ops Q (o :: rest) a w := by
 refine wpList_convert hgd src dst x ho hx (Lib.run_convert_string_bytes w src dst e s hs hd he) ?_; refine hK _ _ ?_ (fun k hk => by simp [Value.ownBlock] at hk; omega) (bytes_grown w e s (Below.refl _ _) (Nat.le_refl _)); have := Own.bytes w base e s hb hl; rw [byteCells_bcs] at this; unfold OwnB; rw [show s.data.toList.length = s.size from by rw [Array.length_toList]; rfl]; exact this
theorem wpList_appB1 (base : Nat) (hgd : o.guard = none) (s x : Operand) (t e : TypeId) (ho : o.op = .call { callee := .builtin .append, args := #[s, x], argTypes := #[t, t] }) (ht : P.underlying t = some (.slice e))
  (hinfo : (P.info? e).map (fun i => (i.zero, i.size, i.bytes)) = some (some (.int .u8 0), 1, 1)) {v : Value} {l : List UInt8} (hv : a.eval s = v) (b : UInt8) {w0 : World} (hx : a.eval x = .slice (some ⟨w0.heap.size, 0, none⟩) 1 1)
  (hw : w = w0.alloc (.cells #[.int .u8 b.toNat] e)) (hown : OwnB w0 base v l) (hl : l.length + 1 ≤ 140737488355328) (hbase : base ≤ w0.heap.size)
  (hK : ∀ v' w', OwnB w' base v' (l ++ [b]) → Below base w0 w' → wpList P ops Q rest (a.put o.dst v') w') : wpList P ops Q (o :: rest) a w := by
 subst hw; have h2 := hown.alloc (.cells #[.int .u8 b.toNat] e); refine wpList_app base hgd s x t t ho e (.int .u8 0) 1 1 ht hinfo rfl hv h2 _ 1 [.int .u8 b.toNat] hx (src_one w0 t e e ht _ rfl) (by unfold maxLen; omega) (by omega) (by simp; omega) ?_; intro v' w' h3 hg _; refine hK v' w' ?_ (below_of_grown ((Below.refl _ _).alloc hbase _) h2 (Nat.le_refl _) (by simp; omega) hg); unfold OwnB; rw [bcs_append, List.length_append]; exact h3
end
end
theorem Own.cell {w : World} {base size g n cap : Nat} {xs : List Value} (h : Own w base size (.slice (some ⟨g, 0, none⟩) n cap) n xs) (k : Nat) (hk : k < n * size) :
  w.cell? ⟨g, k, none⟩ = xs[k]? ∧ (w.cell? ⟨g, k, none⟩).isSome = true ∧ w.frozen? ⟨g, k, none⟩ = false := by
 obtain ⟨h0, h⟩ := h
 rcases h with ⟨h, rfl⟩ | ⟨g', cap', hv, h1, h2, h3, h4, h5, h6⟩
 ·cases h
 ·cases hv
  have hk' := Nat.lt_of_lt_of_le hk (Nat.mul_le_mul_right size h3); exact ⟨h5 k hk, (h6 k hk').1, (h6 k hk').2⟩
def lenOf : Value → Nat | .slice _ n _ => n | _ => 0
@[simp] theorem lenOf_slice (a : Option Addr) (n c : Nat) : lenOf (.slice a n c) = n := rfl
def Rd (w : World) (size : Nat) (v : Value) (n : Nat) (xs : List Value) : Prop :=
 xs.length = n * size ∧ ∃ A c, v = .slice A n c ∧ n ≤ c ∧ (0 < n → ∃ b off, A = some ⟨b, off, none⟩ ∧ b < w.heap.size ∧ ∀ j, j < n * size → w.cell? ⟨b, off + j, none⟩ = xs[j]?)
theorem Own.rd {w : World} {base size : Nat} {v : Value} {n : Nat} {xs : List Value} (h : Own w base size v n xs) : Rd w size v n xs := by
 refine ⟨h.1, ?_⟩
 rcases h.2 with ⟨rfl, rfl⟩ | ⟨g, cap, rfl, h1, h2, h3, h4, h5, h6⟩
 ·exact ⟨none, 0, rfl, Nat.le_refl _, fun h => absurd h (Nat.lt_irrefl 0)⟩
 ·exact ⟨_, cap, rfl, h3, fun _ => ⟨g, 0, rfl, h2, fun j hj => by rw [Nat.zero_add]; exact h5 j hj⟩⟩
theorem Rd.below {w w1 : World} {size : Nat} {v : Value} {n : Nat} {xs : List Value} (h : Rd w size v n xs) {B : Nat} (hb : Below B w w1) (hB : w.heap.size ≤ B) : Rd w1 size v n xs := by
 obtain ⟨h1, A, c, hv, h2, h3⟩ := h; refine ⟨h1, A, c, hv, h2, fun hn => ?_⟩; obtain ⟨b, off, hA, hlt, hc⟩ := h3 hn; exact ⟨b, off, hA, Nat.lt_of_lt_of_le hlt hb.size, fun j hj => by rw [hb.cell (p := ⟨b, off + j, none⟩) (by show b < B; omega)]; exact hc j hj⟩
end Go.Proofs.YtonbmghgbblifaaDoor
end
section
namespace Go.Proofs.YtonbmghgbblifaaDoor
open Go.RowKit
set_option linter.unusedVariables false
set_option linter.unusedSimpArgs false
set_option maxRecDepth 100000
structure LiesB (T : TypeId) : Prop where
 lies : liesAt Tryd.prog Tryd.prog.depth T (2 / Tryd.prog.cellsOf T) 0 107 1 = true
 ne : T ≠ 5
theorem liesBuilder : LiesB 107 := ⟨by kernel_rfl, by decide⟩
theorem liesOwn : LiesB 109 := ⟨by kernel_rfl, by decide⟩
theorem sizeBuilder : (Tryd.prog.info? 107).map (·.size) = some 2 := by kernel_rfl
theorem infoU8' : (Tryd.prog.info? 5).map (fun i => (i.zero, i.size, i.bytes)) = some (some (.int .u8 0), 1, 1) := by kernel_rfl
def Bld (T : TypeId) (B b : Nat) (l : List UInt8) (w : World) : Prop := Lib.IsBuilder T 5 B b (bcs l) w
theorem Bld.fresh (T : TypeId) (w : World) : Bld T w.heap.size w.heap.size [] (w.alloc (.cells #[.pointer none, .slice none 0 0] T)) := Lib.fresh_isBuilder T 5 w
theorem Bld.keep {T : TypeId} {B b : Nat} {l : List UInt8} {w w1 : World} (h : Bld T B b l w) (hs : w.heap.size ≤ w1.heap.size) (hb : ∀ k, k < w.heap.size → w1.heap[k]? = w.heap[k]?) : Bld T B b l w1 := by
 have one : ∀ p, Lib.BuilderAt T 5 B b p (bcs l) w → Lib.BuilderAt T 5 B b p (bcs l) w1 := by
  rintro p ⟨hB, v, hbk, hown, hne⟩; have hlt : b < w.heap.size := by
   rcases Nat.lt_or_ge b w.heap.size with h' | h'
   ·exact h'
   ·simp [Array.getElem?_eq_none h'] at hbk
  refine ⟨hB, v, (hb b hlt).trans hbk, ⟨hown.1, ?_⟩, hne⟩
  rcases hown.2 with h2 | ⟨g, cap, cur, hv, h1, h2, h3⟩
  ·exact .inl h2
  ·refine .inr ⟨g, cap, cur, hv, h1, (hb g ?_).trans h2, h3⟩
   rcases Nat.lt_or_ge g w.heap.size with h' | h'
   ·exact h'
   ·simp [Array.getElem?_eq_none h'] at h2
 rcases h with h | h
 ·exact .inl (one _ h)
 ·exact .inr (one _ h)
theorem Bld.below {T : TypeId} {B b : Nat} {l : List UInt8} {w w1 : World} (h : Bld T B b l w) (hb : Below w.heap.size w w1) : Bld T B b l w1 := h.keep hb.size fun k hk => hb.block k hk
theorem Bld.base {T : TypeId} {B b : Nat} {l : List UInt8} {w : World} (h : Bld T B b l w) : B ≤ b ∧ b < w.heap.size := by
 rcases h with h | h
 ·exact ⟨h.1, h.lt⟩
 ·exact ⟨h.1, h.lt⟩
set_option maxHeartbeats 1000000 in
theorem copyCheck_used (b : Nat) (w : World) (h0 : w.cell? ⟨b, 0, none⟩ = some (.pointer (some ⟨b, 0, none⟩))) :
  Calls Tryd.prog 143 #[.pointer (some ⟨b, 0, none⟩)] w fun e w' => e = .returned (.tuple #[]) ∧ w' = w := by
 obtain ⟨j, hj, _⟩ := Option.map_eq_some_iff.1 sizeBuilder
 go_enter Tryd.func143, Tryd.ntmps143
 go_wp2
 rw [Lib.run_neq_ptr_same w _ Tryd.underlying105 hj]
 go_wp2
 go_end0
 exact ⟨rfl, rfl⟩
set_option maxHeartbeats 1000000 in
theorem copyCheck_fresh (T : TypeId) (hT : LiesB T) (b : Nat) (w : World) (h0 : w.cell? ⟨b, 0, none⟩ = some (.pointer none)) (hsh : w.shape? b = some (T, 2)) (hfz : w.frozen? ⟨b, 0, none⟩ = false) :
  Calls Tryd.prog 143 #[.pointer (some ⟨b, 0, none⟩)] w fun e w' => e = .returned (.tuple #[]) ∧ w' = w.setCell ⟨b, 0, none⟩ (.pointer (some ⟨b, 0, none⟩)) := by
 obtain ⟨j, hj, hjs⟩ := Option.map_eq_some_iff.1 sizeBuilder
 go_enter Tryd.func143, Tryd.ntmps143
 go_wp2
 rw [Lib.run_to_unsafe w ⟨b, 0, none⟩ Tryd.underlying105 Tryd.underlying211 hj (by rw [hjs]; decide) hsh (Nat.zero_lt_succ 1)]; simp only [Result.andThen]; rw [Oper.upon_value]
 go_wp2
 rw [run_callFunc_extern Tryd.func153 (by kernel_rfl) (by kernel_rfl) (by kernel_rfl) (e := Extern.AbiNoEscape.same) (by kernel_rfl)]; rw [Lib.run_noEscape]; simp only [Result.andThen]; rw [Oper.upon_value]
 go_wp2
 rw [Lib.run_from_unsafe w ⟨b, 0, none⟩ Tryd.underlying211 Tryd.underlying105 hj hsh hT.lies]; simp only [Result.andThen]; rw [Oper.upon_value]
 go_wp2
 go_end0
 exact ⟨rfl, rfl⟩
theorem copyCheck_any (T : TypeId) (hT : LiesB T) (B b : Nat) (bs : List Value) (w : World) (h : Lib.IsBuilder T 5 B b bs w) :
  Calls Tryd.prog 143 #[.pointer (some ⟨b, 0, none⟩)] w fun e w' => e = .returned (.tuple #[]) ∧ (Lib.BuilderAt T 5 B b (.pointer (some ⟨b, 0, none⟩)) bs w' ∧ Below B w w') := by
 rcases h with h | h
 ·refine (copyCheck_fresh T hT b w h.cell0 h.shape h.frozen0).mono ?_; rintro e w' ⟨rfl, rfl⟩; exact ⟨rfl, h.used _, (Below.refl B w).setCell (p := ⟨b, 0, none⟩) h.1 _⟩
 ·refine (copyCheck_used b w h.cell0).mono ?_; rintro e w' ⟨rfl, rfl⟩; exact ⟨rfl, h, Below.refl B _⟩
theorem bcs_snoc (l : List UInt8) (c : UInt8) : bcs (l ++ [c]) = bcs l ++ [.int .u8 c.toNat] := by simp [bcs]
set_option maxHeartbeats 2000000 in
theorem writeByte_any (T : TypeId) (hT : LiesB T) (B b : Nat) (l : List UInt8) (c : UInt8) (x : Int) (hx : x = c.toNat) (w : World) (h : Bld T B b l w) (hlen : l.length + 1 ≤ 140737488355328) (hBw : B ≤ w.heap.size) :
  Calls Tryd.prog 121 #[.pointer (some ⟨b, 0, none⟩), .int .u8 x] w fun e w' => e = .returned .nilIface ∧ Bld T B b (l ++ [c]) w' ∧ Below B w w' := by
 subst hx; obtain ⟨i0, hi, hz0, hz1, hz2⟩ := info_parts infoU8'
 go_enter Tryd.func121, Tryd.ntmps121
 go_wp2_with (go_at_call 143; refine (copyCheck_any T hT B b _ _ h).mono ?_)
 rintro e w1 ⟨rfl, h1, hb1⟩; obtain ⟨hB, v, hbk, hown, hne⟩ := h1; have c0 : w1.cell? ⟨b, 0, none⟩ = some (.pointer (some ⟨b, 0, none⟩)) := by rw [Lib.cell_of_heap hbk]; rfl
 have c1 : w1.cell? ⟨b, 1, none⟩ = some v := by rw [Lib.cell_of_heap hbk]; rfl
 go_wp2_with (at_builtin; refine wpList_append_own _ rfl _ _ 47 rfl B 5 i0 (.int .u8 0) 1 1 Tryd.underlying47 hi hz0 hz1 hz2 rfl (by decide) _ _ _ rfl (hown.alloc _) ⟨w1.heap.size, 0, none⟩ 1 1 [.int .u8 c.toNat] rfl rfl ?c1 ?c2 ?c3 ?c4 ?c5 ?_)
 case c1 =>
  intro j u hj
  match j, hj with
  | 0, hj => simp at hj; subst hj; simp [Addr.add]
 case c2 => intro u hu; simp at hu; subst hu; rfl
 case c3 => rw [bcs_length]; unfold maxLen; omega
 case c4 => rw [bcs_length]; omega
 case c5 => have := hb1.size; simp; omega
 intro v' w2 hown' hgrow _; have hlt : b < w1.heap.size := by
  rcases Nat.lt_or_ge b w1.heap.size with h' | h'
  ·exact h'
  ·simp [Array.getElem?_eq_none h'] at hbk
 have hb2 : w2.heap[b]? = some (.cells #[.pointer (some ⟨b, 0, none⟩), v] T (0, 0)) := by
  rw [hgrow.block b (by simp; omega) (fun e => hne e.symm), Lib.alloc_old w1 _ b hlt]; exact hbk
 have d0 : w2.cell? ⟨b, 0, none⟩ = some (.pointer (some ⟨b, 0, none⟩)) := by rw [Lib.cell_of_heap hb2]; rfl
 have d1 : w2.cell? ⟨b, 1, none⟩ = some v := by rw [Lib.cell_of_heap hb2]; rfl
 have f1 : w2.frozen? ⟨b, 1, none⟩ = false := Lib.frozen_of_heap hb2 1; obtain ⟨g, cap, rfl⟩ : ∃ g cap, v' = .slice (some ⟨g, 0, none⟩) ((bcs l).length + 1) cap := by
  rcases hown'.2 with ⟨_, h0⟩ | ⟨g, cap, cur, hv, _⟩
  ·omega
  ·exact ⟨g, cap, hv⟩
 go_wp2
 go_ret
 refine ⟨rfl, ?_, ?_⟩
 ·rw [Bld, bcs_snoc]; exact .inr (Lib.BuilderAt.put (T := T) (e := 5) hB hb2 (bs' := bcs l ++ [.int .u8 c.toNat]) (by simpa using hown') hT.ne)
 ·exact ((hb1.alloc (by have := hb1.size; omega) _).grown hgrow (by have := hb1.size; simp; omega) (fun k hk => (hown.lt k hk).1)).setCell (p := ⟨b, 1, none⟩) hB _
set_option maxHeartbeats 2000000 in
theorem writeString_any (T : TypeId) (hT : LiesB T) (B b : Nat) (l : List UInt8) (s : ByteArray) (w : World) (h : Bld T B b l w) (hlen : l.length + s.size ≤ 140737488355328) (hBw : B ≤ w.heap.size) :
  Calls Tryd.prog 122 #[.pointer (some ⟨b, 0, none⟩), .string s] w fun e w' => e = .returned (.tuple #[.int .i64 s.size, .nilIface]) ∧ Bld T B b (l ++ s.data.toList) w' ∧ Below B w w' := by
 obtain ⟨i0, hi, hz0, hz1, hz2⟩ := info_parts infoU8'
 go_enter Tryd.func122, Tryd.ntmps122
 go_wp2_with (go_at_call 143; refine (copyCheck_any T hT B b _ _ h).mono ?_)
 rintro e w1 ⟨rfl, h1, hb1⟩; obtain ⟨hB, v, hbk, hown, hne⟩ := h1; have c0 : w1.cell? ⟨b, 0, none⟩ = some (.pointer (some ⟨b, 0, none⟩)) := by rw [Lib.cell_of_heap hbk]; rfl
 have c1 : w1.cell? ⟨b, 1, none⟩ = some v := by rw [Lib.cell_of_heap hbk]; rfl
 go_wp2_with (at_builtin; refine Lib.wpList_append_own_string _ rfl _ _ 47 9 rfl B 5 i0 Tryd.underlying47 Tryd.underlying9 hi hz0 hz1 hz2 _ _ _ rfl hown s rfl ?c3 ?c4 ?c5 ?_)
 case c3 => rw [bcs_length]; unfold maxLen; omega
 case c4 => rw [bcs_length]; omega
 case c5 => have := hb1.size; omega
 intro v' w2 hown' hgrow _; have hlt : b < w1.heap.size := by
  rcases Nat.lt_or_ge b w1.heap.size with h' | h'
  ·exact h'
  ·simp [Array.getElem?_eq_none h'] at hbk
 have hb2 : w2.heap[b]? = some (.cells #[.pointer (some ⟨b, 0, none⟩), v] T (0, 0)) := by
  rw [hgrow.block b hlt (fun e => hne e.symm)]; exact hbk
 have d0 : w2.cell? ⟨b, 0, none⟩ = some (.pointer (some ⟨b, 0, none⟩)) := by rw [Lib.cell_of_heap hb2]; rfl
 have d1 : w2.cell? ⟨b, 1, none⟩ = some v := by rw [Lib.cell_of_heap hb2]; rfl
 have f1 : w2.frozen? ⟨b, 1, none⟩ = false := Lib.frozen_of_heap hb2 1; obtain ⟨ao, n', cap, rfl⟩ : ∃ ao n' cap, v' = .slice ao n' cap := by
  rcases hown'.2 with ⟨hv, _⟩ | ⟨g, cap, cur, hv, _⟩
  ·exact ⟨_, _, _, hv⟩
  ·exact ⟨_, _, _, hv⟩
 go_wp2
 go_ret2
 have hcs : Lib.strCells s = bcs s.data.toList := rfl; refine ⟨rfl, ?_, ?_⟩
 ·rw [Bld, bcs_append, ← hcs]; exact .inr (Lib.BuilderAt.put (T := T) (e := 5) hB hb2 (bs' := bcs l ++ Lib.strCells s) (by simpa [Lib.strCells_length] using hown') hT.ne)
 ·exact (hb1.grown hgrow (by have := hb1.size; omega) (fun k hk => (hown.lt k hk).1)).setCell (p := ⟨b, 1, none⟩) hB _
set_option maxHeartbeats 1000000 in
/-- 'b.String()', of a builder that holds a byte. -/
theorem string_any (T : TypeId) (B b : Nat) (l : List UInt8) (w : World) (h : Bld T B b l w) (h0 : l ≠ []) :
  Calls Tryd.prog 55 #[.pointer (some ⟨b, 0, none⟩)] w fun e w' => e = .returned (.string ⟨l.toArray⟩) ∧ Below B w w' := by
 obtain ⟨p, hB, v, hbk, hown, hne⟩ : ∃ p, Lib.BuilderAt T 5 B b p (bcs l) w := by
  rcases h with h | h
  ·exact ⟨_, h⟩
  ·exact ⟨_, h⟩
 have hl0 : l.length ≠ 0 := by simpa using h0
 rw [bcs_length] at hown; obtain ⟨g, cap, cur, rfl, hbg, hg, hnc, hcm, hcs, htake⟩ : ∃ g cap cur, v = .slice (some ⟨g, 0, none⟩) l.length cap ∧ B ≤ g ∧ w.heap[g]? = some (.cells cur 5 (0, 0)) ∧ l.length ≤ cap ∧ cap ≤ maxLen ∧ cur.size = cap * 1 ∧ cur.toList.take (l.length * 1) = bcs l := by
  rcases hown.2 with ⟨_, hz⟩ | ⟨g, cap, cur, hv, r⟩
  ·exact absurd hz hl0
  ·exact ⟨g, cap, cur, hv, r⟩
 have c1 : w.drew.cell? ⟨b, 1, none⟩ = some (.slice (some ⟨g, 0, none⟩) l.length cap) := by
  have : w.drew.heap[b]? = some (.cells #[p, .slice (some ⟨g, 0, none⟩) l.length cap] T (0, 0)) := hbk; rw [Lib.cell_of_heap this]; rfl
 have hSD : (Builtin.unsafeSliceData_ #[47] 167 #[.slice (some ⟨g, 0, none⟩) l.length cap]).run Tryd.prog w.drew = .ok (.pointer (some ⟨g, 0, none⟩)) w.drew :=
  Lib.run_unsafeSliceData_row _ _ _ _ _ _ (by omega)
 have hUS : (Builtin.unsafeString_ #[167, 3] 9 #[.pointer (some ⟨g, 0, none⟩), .int .i64 l.length]).run Tryd.prog w.drew = .ok (.string ⟨l.toArray⟩) (w.drew.freeze ⟨g, 0, none⟩ l.length) := by
  refine Lib.run_unsafeString_row w.drew 167 3 9 5 Tryd.underlying167 (by kernel_rfl) g cur.size (by have hg' : w.drew.heap[g]? = some (.cells cur 5 (0, 0)) := hg; simp [World.shape?, hg']) l h0 (by omega) (by unfold maxLen at hcm; omega) ?_; intro j x hx; have := hown.cells (g := g) rfl j (.int .u8 x.toNat) (by simp [bcs, hx]); exact this
 have hbf : Below B w (w.drew.freeze ⟨g, 0, none⟩ l.length) := Lib.below_freeze (Below.drew (Below.refl B w)) (p := ⟨g, 0, none⟩) hbg _
 go_enter Tryd.func55, Tryd.ntmps55
 go_wp2
 go_region
 all_goals (go_wp2; go_ret; exact ⟨rfl, hbf⟩)
end Go.Proofs.YtonbmghgbblifaaDoor
end
section
namespace Go.Proofs.YtonbmghgbblifaaDoor
open Go.RowKit
set_option linter.unusedVariables false
set_option linter.unusedSimpArgs false
set_option maxRecDepth 100000
set_option maxHeartbeats 400000 in
theorem btext_any (B b : Nat) (l : List UInt8) (s : ByteArray) (w : World) (h : Bld 109 B b l w) (hlen : l.length + s.size ≤ 140737488355328) (hBw : B ≤ w.heap.size) :
  Calls Tryd.prog 79 #[.pointer (some ⟨b, 0, none⟩), .string s] w fun e w' => e = .returned (.pointer (some ⟨b, 0, none⟩)) ∧ Bld 109 B b (l ++ s.data.toList) w' ∧ Below B w w' := by
 obtain ⟨c0, hc0⟩ : ∃ v, w.cell? ⟨b, 0, none⟩ = some v := by rcases h with h | h <;> exact ⟨_, h.cell0⟩
 have H := Lib.hid h
 go_enter Tryd.func79, Tryd.ntmps79
 go_wp2_with (go_at_call 122; refine (writeString_any 109 liesOwn B b l s _ H.out hlen hBw).mono ?_; rintro e w1 ⟨rfl, h1, hb1⟩)
 go_ret
 exact ⟨rfl, h1, hb1⟩
def numByte (n k : Nat) (low : Bool) (i : Nat) : UInt8 := UInt8.ofNat (n / 2 ^ (8 * (if low then i else k - 1 - i)))
def numL (n k : Nat) (low : Bool) (m : Nat) : List UInt8 := (List.range m).map (numByte n k low)
theorem numL_succ (n k : Nat) (low : Bool) (m : Nat) : numL n k low (m + 1) = numL n k low m ++ [numByte n k low m] := by simp [numL, List.range_succ]
theorem numL_length (n k : Nat) (low : Bool) (m : Nat) : (numL n k low m).length = m := by simp [numL]
theorem div_cast (n e : Nat) : (n : Int) / 2 ^ e = ((n / 2 ^ e : Nat) : Int) := by
 rw [Int.natCast_ediv, Int.natCast_pow]; rfl
theorem ofNat_cast (q : Nat) : ((q : Nat) : Int) % 256 = ((UInt8.ofNat q).toNat : Int) := by
 rw [UInt8.toNat_ofNat']; omega
theorem numByte_low (n k m : Nat) : (n : Int) / 2 ^ (8 * m) % 256 = (numByte n k true m).toNat := by
 rw [div_cast, ofNat_cast]; rfl
theorem numByte_high (n k m : Nat) : (n : Int) / 2 ^ (8 * (k - 1 - m)) % 256 = (numByte n k false m).toNat := by
 rw [div_cast, ofNat_cast]; rfl
set_option maxHeartbeats 1000000 in
theorem bnumber_any (B b : Nat) (l : List UInt8) (n k : Nat) (low : Bool) (w : World) (h : Bld 109 B b l w) (hn : n ≤ 4294967296) (hk : k ≤ 4) (hlen : l.length ≤ 4294967296) (hBw : B ≤ w.heap.size) :
  Calls Tryd.prog 78 #[.pointer (some ⟨b, 0, none⟩), .int .i64 n, .int .i64 k, .bool low] w fun e w' => e = .returned (.pointer (some ⟨b, 0, none⟩)) ∧ Bld 109 B b (l ++ numL n k low k) w' ∧ Below B w w' := by
 have H := Lib.hid h; clear h
 go_enter Tryd.func78, Tryd.ntmps78
 go_wp2
 go_loopw [12] (fun i wr => ∃ m : Nat, m ≤ k ∧ i = .int .i64 m ∧ Bld 109 B b (l ++ numL n k low m) wr ∧ Below B w wr) (fun i _ => k - (intOf i).toNat)
 case atStart => exact ⟨0, Nat.zero_le _, rfl, by simpa [numL] using H.out, Below.refl _ _⟩
 case round =>
  obtain ⟨m, hm, rfl, h2, hB⟩ := hrel; obtain ⟨c0, hc0⟩ : ∃ v, wr.cell? ⟨b, 0, none⟩ = some v := by rcases h2 with h | h <;> exact ⟨_, h.cell0⟩
  have H2 := Lib.hid h2; clear h2
  by_cases hlt : m < k
  ·cases low
   all_goals
    go_wp2
    go_still_tail 7, (by kernel_rfl)
    change wpList _ _ _ _ _ wr.drew
    go_wp2_with (go_at_call 121; refine (writeByte_any 109 liesOwn B b _ _ _ (by first | exact numByte_low n k m | exact numByte_high n k m) _ (H2.out.below (Below.refl _ _).drew) (by rw [List.length_append, numL_length]; omega) (by have := hB.size; exact Nat.le_trans hBw this)).mono ?_; rintro e w1 ⟨rfl, h1, hb1⟩)
    go_roundw
    case rel => exact ⟨m + 1, by omega, by go_num, by rw [numL_succ, ← List.append_assoc]; exact h1, hB.trans ((Below.refl _ _).drew.trans hb1)⟩
    case measure => simp [intOf]; omega
  ·go_wp2
   go_ret
   have e : m = k := by omega
   subst e; exact ⟨rfl, H2.out, hB⟩
def sizedL (s : ByteArray) : List UInt8 := numL s.size 2 false 2 ++ s.data.toList
set_option maxHeartbeats 400000 in
theorem bsized_any (B b : Nat) (l : List UInt8) (s : ByteArray) (w : World) (h : Bld 109 B b l w) (hs : s.size ≤ 4294967296) (hlen : l.length ≤ 4294967296) (hBw : B ≤ w.heap.size) :
  Calls Tryd.prog 77 #[.pointer (some ⟨b, 0, none⟩), .string s] w fun e w' => e = .returned (.pointer (some ⟨b, 0, none⟩)) ∧ Bld 109 B b (l ++ sizedL s) w' ∧ Below B w w' := by
 have H := Lib.hid h; clear h
 go_enter Tryd.func77, Tryd.ntmps77
 go_wp2_with (go_at_call 78; refine (bnumber_any B b l s.size 2 false _ H.out hs (by omega) hlen hBw).mono ?_; rintro e w1 ⟨rfl, h1, hb1⟩; have hz1 := hb1.size; have H1 := Lib.hid h1; clear h1)
 refine (btext_any B b _ s _ H1.out (by rw [List.length_append, numL_length]; omega) (by omega)).mono ?_; rintro e w2 ⟨rfl, h2, hb2⟩
 go_wp2
 go_ret
 exact ⟨rfl, by rw [sizedL, ← List.append_assoc]; exact h2, hb1.trans hb2⟩
end Go.Proofs.YtonbmghgbblifaaDoor
end
section
namespace Go.Proofs.YtonbmghgbblifaaDoor
open Go.RowKit
set_option linter.unusedVariables false
set_option linter.unusedSimpArgs false
def isW (w : Int) : Bool := decide (1 ≤ w) && decide (w ≤ 32)
def hOk (h : ByteArray) (w : Int) : Bool := decide (h.size = 0) || decide ((h.size : Int) = w)
def nodeOk (k v l r : ByteArray) (w : Int) : Bool := isW w && decide (1 ≤ k.size) && decide (k.size ≤ 256) && decide (v.size ≤ 2000) && hOk l w && hOk r w
def byteS (x : Int) : ByteArray := ⟨#[UInt8.ofNat x.toNat]⟩
theorem byteS_size (x : Int) : (byteS x).size = 1 := rfl
def sizedS (s : ByteArray) : ByteArray := byteS (s.size / 256) ++ byteS (s.size % 256) ++ s
theorem sizedS_size (s : ByteArray) : (sizedS s).size = 2 + s.size := by simp [sizedS, byteS_size]
def flagsOf (l r : ByteArray) : Int := (if l.size = 0 then 0 else 1) + (if r.size = 0 then 0 else 2)
def encNode (k v l r : ByteArray) (w : Int) : ByteArray := if nodeOk k v l r w = true then sizedS k ++ sizedS v ++ byteS (flagsOf l r) ++ l ++ r else ⟨#[]⟩
set_option maxHeartbeats 400000 in
theorem isWidth_any (x : Int) (w : World) : Calls Tryd.prog 66 #[.int .i64 x] w fun e w' => e = .returned (.bool (isW x)) ∧ w = w' := by
 go_enter Tryd.func66, Tryd.ntmps66
 go_wp2
 all_goals
  go_ret
  refine ⟨ret_bool ?_, rfl⟩
  go_light
  unfold isW
  grind
set_option maxHeartbeats 400000 in
theorem l1Width_any (x : Int) (w : World) : Calls Tryd.prog 63 #[.int .i64 x] w fun e w' => e = .returned (.bool (isW x)) ∧ w = w' := by
 go_enter Tryd.func63, Tryd.ntmps63
 go_wp2
 all_goals
  go_ret
  refine ⟨ret_bool ?_, rfl⟩
  go_light
  unfold isW
  grind
theorem size_zero (s : ByteArray) : s = ByteArray.empty ↔ s.size = 0 := by
 constructor
 ·intro h; rw [h]; rfl
 ·intro h; exact ByteArray.ext (Array.size_eq_zero_iff.mp h)
set_option maxHeartbeats 400000 in
theorem l2HashOk_any (h : ByteArray) (x : Int) (w : World) : Calls Tryd.prog 94 #[.string h, .int .i64 x] w fun e w' => e = .returned (.bool (hOk h x)) ∧ w = w' := by
 go_enter Tryd.func94, Tryd.ntmps94
 go_wp2
 all_goals
  go_ret
  refine ⟨ret_bool ?_, rfl⟩
  go_light
  have := size_zero h; unfold hOk
  grind
theorem byte1_str (w : World) (y : Int) (T : TypeId) (g c : Nat) (hg : g = w.heap.size) :
  (convert 47 9 (.slice (some ⟨g, 0, none⟩) 1 c)).run Tryd.prog (w.alloc (.cells #[.int .u8 y] T)) = .ok (.string ⟨#[UInt8.ofNat y.toNat]⟩) (w.alloc (.cells #[.int .u8 y] T)) := by
 subst hg; have h := run_convert_bytes_arg (P := Tryd.prog) (w.alloc (.cells #[.int .u8 y] T)) 47 5 Tryd.underlying47 Tryd.underlying5 w.heap.size 0 1 c [y] rfl (fun i hi => by
  obtain rfl : i = 0 := by omega
  rw [World.cell?_alloc_new w _ _ (0 + 0)]; rfl) 9 Tryd.underlying9
 exact h
theorem byteS_mod (x : Int) (h : 0 ≤ x) : (⟨#[UInt8.ofNat (x % 256).toNat]⟩ : ByteArray) = byteS x := by
 unfold byteS
 congr 3
 apply UInt8.toNat_inj.mp
 rw [UInt8.toNat_ofNat', UInt8.toNat_ofNat']; omega
set_option maxHeartbeats 400000 in
theorem l2Byte_any (x : Int) (hx : 0 ≤ x) (w : World) : Calls Tryd.prog 82 #[.int .i64 x] w fun e w' => e = .returned (.string (byteS x)) ∧ Below w.heap.size w w' := by
 go_enter Tryd.func82, Tryd.ntmps82
 go_wp2_with ((with_reducible refine gate_dst (N := 6) rfl ?_); refine wpList_convert rfl 47 9 _ rfl rfl (byte1_str _ _ _ _ _ rfl) ?_)
 go_ret
 refine ⟨ret_str ?_, by (repeat' (first | exact Below.refl _ _ | (with_reducible assumption) | (with_reducible refine Below.setCell ?_ (by first | (simp; done) | (simp; omega)) _) | refine below_then ?_ (by assumption) | (with_reducible refine below_new2 ?_ _) | (with_reducible refine Below.drew ?_) | (with_reducible refine bdrewN ?_ _)))⟩; exact byteS_mod x hx
set_option maxHeartbeats 400000 in
theorem l2Sized_any (s : ByteArray) (hs : s.size ≤ 4294967296) (w : World) : Calls Tryd.prog 81 #[.string s] w fun e w' => e = .returned (.string (sizedS s)) ∧ Below w.heap.size w w' := by
 have z1 : (byteS (s.size / 256)).size + (byteS (s.size % 256)).size ≤ 9223372036854775807 := by rw [byteS_size, byteS_size]; omega
 have z2 : (byteS (s.size / 256)).size + (byteS (s.size % 256)).size + s.size ≤ 9223372036854775807 := by rw [byteS_size, byteS_size]; omega
 go_enter Tryd.func81, Tryd.ntmps81
 go_wp2_with fail
 (go_at_call 82; refine (l2Byte_any _ (by omega) _).mono ?_; rintro e wa ⟨rfl, hb_wa⟩; obtain ⟨hc_wa, hf_wa⟩ := bcell hb_wa; have hz_wa := hb_wa.size; (try simp only [World.size_alloc, World.size_setCell, World.size_drew] at hz_wa); (try simp only [World.size_alloc, World.size_setCell, World.size_drew] at hc_wa); (try simp only [World.size_alloc, World.size_setCell, World.size_drew] at hf_wa); skip)
 go_wp2_with fail
 (go_at_call 82; refine (l2Byte_any _ (by omega) _).mono ?_; rintro e wb ⟨rfl, hb_wb⟩; obtain ⟨hc_wb, hf_wb⟩ := bcell hb_wb; have hz_wb := hb_wb.size; (try simp only [World.size_alloc, World.size_setCell, World.size_drew] at hz_wb); (try simp only [World.size_alloc, World.size_setCell, World.size_drew] at hc_wb); (try simp only [World.size_alloc, World.size_setCell, World.size_drew] at hf_wb); skip)
 go_wp2
 go_ret
 exact ⟨rfl, by (repeat' (first | exact Below.refl _ _ | (with_reducible assumption) | (with_reducible refine Below.setCell ?_ (by first | (simp; done) | (simp; omega)) _) | refine below_then ?_ (by assumption) | (with_reducible refine below_new2 ?_ _) | (with_reducible refine Below.drew ?_) | (with_reducible refine bdrewN ?_ _)))⟩
set_option maxHeartbeats 400000 in
theorem l2NodeOk_any (a b c d : ByteArray) (x : Int) (w : World) :
  Calls Tryd.prog 80 #[.agg #[.string a, .string b, .string c, .string d], .int .i64 x] w fun e w' => e = .returned (.bool (nodeOk a b c d x)) ∧ Below w.heap.size w w' := by
 unfold nodeOk
 by_cases hw : isW x = true
 ·by_cases h2 : hOk c x = true
  all_goals
   go_enter Tryd.func80, Tryd.ntmps80
   go_wp2_with (first | (go_at_call 63; refine (l1Width_any _ _).mono ?_; rintro e wq ⟨rfl, rfl⟩) | (go_at_call 94; refine (l2HashOk_any _ _ _).mono ?_; rintro e wq ⟨rfl, rfl⟩))
   all_goals
    go_ret
    refine ⟨ret_bool ?_, by (repeat' (first | exact Below.refl _ _ | (with_reducible assumption) | (with_reducible refine Below.setCell ?_ (by first | (simp; done) | (simp; omega)) _) | refine below_then ?_ (by assumption) | (with_reducible refine below_new2 ?_ _) | (with_reducible refine Below.drew ?_) | (with_reducible refine bdrewN ?_ _)))⟩
    go_light
    grind
 ·go_enter Tryd.func80, Tryd.ntmps80
  go_wp2_with (first | (go_at_call 63; refine (l1Width_any _ _).mono ?_; rintro e wq ⟨rfl, rfl⟩) | (go_at_call 94; refine (l2HashOk_any _ _ _).mono ?_; rintro e wq ⟨rfl, rfl⟩))
  all_goals
   go_ret
   refine ⟨ret_bool ?_, by (repeat' (first | exact Below.refl _ _ | (with_reducible assumption) | (with_reducible refine Below.setCell ?_ (by first | (simp; done) | (simp; omega)) _) | refine below_then ?_ (by assumption) | (with_reducible refine below_new2 ?_ _) | (with_reducible refine Below.drew ?_) | (with_reducible refine bdrewN ?_ _)))⟩
   go_light
   grind
set_option maxHeartbeats 400000 in
theorem fits_any (h : ByteArray) (x : Int) (p : Addr) (w : World) (hp : w.cell? p = some (.int .i64 x)) :
  Calls Tryd.prog 120 #[.string h, .pointer (some p)] w fun e w' => e = .returned (.bool (hOk h x)) ∧ w = w' := by
 have he : h.toList.isEmpty = decide (h.size = 0) := by
  rw [Bool.eq_iff_iff, decide_eq_true_eq, ← size_zero, ← toList_nil_iff_emptyBytes, List.isEmpty_iff]
 unfold hOk; rw [← he]; clear he
 go_enter Tryd.func120, Tryd.ntmps120
 go_wp2
 all_goals
  go_ret
  refine ⟨ret_bool ?_, rfl⟩
  go_light
  clear hp
  grind
set_option maxHeartbeats 400000 in
theorem nodeValid_any (a b c d : ByteArray) (x : Int) (w : World) :
  Calls Tryd.prog 76 #[.agg #[.string a, .string b, .string c, .string d], .int .i64 x] w fun e w' => e = .returned (.bool (nodeOk a b c d x)) ∧ Below w.heap.size w w' := by
 unfold nodeOk
 by_cases hw : isW x = true
 ·by_cases h2 : hOk c x = true
  all_goals
   go_enter Tryd.func76, Tryd.ntmps76
   go_wp2_with (first | (go_at_call 66; refine (isWidth_any _ _).mono ?_; rintro e wq ⟨rfl, rfl⟩) | (go_at_call 120; refine (fits_any _ x _ _ (by simp [go_sem])).mono ?_; rintro e wq ⟨rfl, rfl⟩))
   all_goals
    go_ret
    refine ⟨ret_bool ?_, by (repeat' (first | exact Below.refl _ _ | (with_reducible assumption) | (with_reducible refine Below.setCell ?_ (by first | (simp; done) | (simp; omega)) _) | refine below_then ?_ (by assumption) | (with_reducible refine below_new2 ?_ _) | (with_reducible refine Below.drew ?_) | (with_reducible refine bdrewN ?_ _)))⟩
    go_light
    grind
 ·go_enter Tryd.func76, Tryd.ntmps76
  go_wp2_with (first | (go_at_call 66; refine (isWidth_any _ _).mono ?_; rintro e wq ⟨rfl, rfl⟩) | (go_at_call 120; refine (fits_any _ x _ _ (by simp [go_sem])).mono ?_; rintro e wq ⟨rfl, rfl⟩))
  all_goals
   go_ret
   refine ⟨ret_bool ?_, by (repeat' (first | exact Below.refl _ _ | (with_reducible assumption) | (with_reducible refine Below.setCell ?_ (by first | (simp; done) | (simp; omega)) _) | refine below_then ?_ (by assumption) | (with_reducible refine below_new2 ?_ _) | (with_reducible refine Below.drew ?_) | (with_reducible refine bdrewN ?_ _)))⟩
   go_light
   grind
set_option maxHeartbeats 400000 in
theorem specEncodeNode_any (a b c d : ByteArray) (x : Int) (w : World) :
  Calls Tryd.prog 28 #[.agg #[.string a, .string b, .string c, .string d], .int .i64 x] w fun e w' => e = .returned (.string (encNode a b c d x)) ∧ Below w.heap.size w w' := by
 by_cases hok : nodeOk a b c d x = true
 ·have hsz : a.size ≤ 256 ∧ b.size ≤ 2000 ∧ c.size ≤ 32 ∧ d.size ≤ 32 := by
   unfold nodeOk hOk isW at hok; simp only [Bool.and_eq_true, Bool.or_eq_true, decide_eq_true_eq] at hok; omega
  obtain ⟨h1, h2, h3, h4⟩ := hsz; have he : encNode a b c d x = sizedS a ++ sizedS b ++ byteS (flagsOf c d) ++ c ++ d := by unfold encNode; rw [if_pos hok]
  have HE := Lib.hid he; clear he; have h1b : a.size ≤ 4294967296 := by omega
  have h2b : b.size ≤ 4294967296 := by omega
  have z0 := fun x => byteS_size x
  have z1 : ¬ (9223372036854775807 < (sizedS a).size + (sizedS b).size) := by rw [sizedS_size, sizedS_size]; omega
  have z20 : ¬ (9223372036854775807 < (sizedS a).size + (sizedS b).size + (byteS 0).size) := by simp only [ByteArray.size_append, sizedS_size, byteS_size]; omega
  have z30 : ¬ (9223372036854775807 < (sizedS a).size + (sizedS b).size + (byteS 0).size + c.size) := by simp only [ByteArray.size_append, sizedS_size, byteS_size]; omega
  have z40 : ¬ (9223372036854775807 < (sizedS a).size + (sizedS b).size + (byteS 0).size + c.size + d.size) := by simp only [ByteArray.size_append, sizedS_size, byteS_size]; omega
  have z21 : ¬ (9223372036854775807 < (sizedS a).size + (sizedS b).size + (byteS 1).size) := by simp only [ByteArray.size_append, sizedS_size, byteS_size]; omega
  have z31 : ¬ (9223372036854775807 < (sizedS a).size + (sizedS b).size + (byteS 1).size + c.size) := by simp only [ByteArray.size_append, sizedS_size, byteS_size]; omega
  have z41 : ¬ (9223372036854775807 < (sizedS a).size + (sizedS b).size + (byteS 1).size + c.size + d.size) := by simp only [ByteArray.size_append, sizedS_size, byteS_size]; omega
  have z22 : ¬ (9223372036854775807 < (sizedS a).size + (sizedS b).size + (byteS 2).size) := by simp only [ByteArray.size_append, sizedS_size, byteS_size]; omega
  have z32 : ¬ (9223372036854775807 < (sizedS a).size + (sizedS b).size + (byteS 2).size + c.size) := by simp only [ByteArray.size_append, sizedS_size, byteS_size]; omega
  have z42 : ¬ (9223372036854775807 < (sizedS a).size + (sizedS b).size + (byteS 2).size + c.size + d.size) := by simp only [ByteArray.size_append, sizedS_size, byteS_size]; omega
  have z23 : ¬ (9223372036854775807 < (sizedS a).size + (sizedS b).size + (byteS 3).size) := by simp only [ByteArray.size_append, sizedS_size, byteS_size]; omega
  have z33 : ¬ (9223372036854775807 < (sizedS a).size + (sizedS b).size + (byteS 3).size + c.size) := by simp only [ByteArray.size_append, sizedS_size, byteS_size]; omega
  have z43 : ¬ (9223372036854775807 < (sizedS a).size + (sizedS b).size + (byteS 3).size + c.size + d.size) := by simp only [ByteArray.size_append, sizedS_size, byteS_size]; omega
  have z50 : ¬ (9223372036854775807 < (sizedS a).size + (sizedS b).size + (byteS 0).size + d.size) := by simp only [ByteArray.size_append, sizedS_size, byteS_size]; omega
  have z51 : ¬ (9223372036854775807 < (sizedS a).size + (sizedS b).size + (byteS 1).size + d.size) := by simp only [ByteArray.size_append, sizedS_size, byteS_size]; omega
  have z52 : ¬ (9223372036854775807 < (sizedS a).size + (sizedS b).size + (byteS 2).size + d.size) := by simp only [ByteArray.size_append, sizedS_size, byteS_size]; omega
  have z53 : ¬ (9223372036854775807 < (sizedS a).size + (sizedS b).size + (byteS 3).size + d.size) := by simp only [ByteArray.size_append, sizedS_size, byteS_size]; omega
  clear z0
  by_cases hc : c.size = 0
  all_goals
   by_cases hd : d.size = 0
   all_goals
    go_enter Tryd.func28, Tryd.ntmps28
    go_wp2_with (first | (go_at_call 80; refine (l2NodeOk_any _ _ _ _ _ _).mono ?_; rintro e wa ⟨rfl, hb_wa⟩; obtain ⟨hc_wa, hf_wa⟩ := bcell hb_wa; have hz_wa := hb_wa.size; (try simp only [World.size_alloc, World.size_setCell, World.size_drew] at hz_wa); (try simp only [World.size_alloc, World.size_setCell, World.size_drew] at hc_wa); (try simp only [World.size_alloc, World.size_setCell, World.size_drew] at hf_wa); (try have q_w_0_wa : w.heap.size < wa.heap.size := by omega)))
    have hS : wa.cell? ⟨w.heap.size, 0, none⟩ = some (.string a) ∧ wa.cell? ⟨w.heap.size, 1, none⟩ = some (.string b) ∧ wa.cell? ⟨w.heap.size, 2, none⟩ = some (.string c) ∧ wa.cell? ⟨w.heap.size, 3, none⟩ = some (.string d) := by
     refine ⟨?_, ?_, ?_, ?_⟩ <;> (rw [hc_wa _ _ (by omega)]; simp [go_sem])
    obtain ⟨e0, e1, e2, e3⟩ := hS; clear hc_wa hf_wa
    go_region_held3 (fun w' => w'.cell? ⟨w.heap.size, 0, none⟩ = some (.string a) ∧ w'.cell? ⟨w.heap.size, 1, none⟩ = some (.string b) ∧ w'.cell? ⟨w.heap.size, 2, none⟩ = some (.string c) ∧ w'.cell? ⟨w.heap.size, 3, none⟩ = some (.string d))
     (first
      | exact held4B (by assumption) (by assumption)
      | assumption
      | (simp [*]; done))
     (first
      | (go_at_call 82; refine (l2Byte_any _ (by decide) _).mono ?_; rintro e wx ⟨rfl, hbx⟩)
      | (go_at_call_of 81 (Value.string a); refine (l2Sized_any a h1b _).mono ?_; rintro e wx ⟨rfl, hbx⟩)
      | (go_at_call_of 81 (Value.string b); refine (l2Sized_any b h2b _).mono ?_; rintro e wx ⟨rfl, hbx⟩))
    go_wp2
    all_goals
     go_ret
     refine ⟨?_, by (repeat' (first | exact Below.refl _ _ | (with_reducible assumption) | (with_reducible refine Below.setCell ?_ (by first | (simp; done) | (simp; omega)) _) | refine below_then ?_ (by assumption) | (with_reducible refine below_new2 ?_ _) | (with_reducible refine Below.drew ?_) | (with_reducible refine bdrewN ?_ _)))⟩; rw [HE.out]; simp [flagsOf, hc, hd]
 ·have he : encNode a b c d x = ⟨#[]⟩ := by unfold encNode; rw [if_neg hok]
  have HE := Lib.hid he; clear he
  go_enter Tryd.func28, Tryd.ntmps28
  go_wp2_with (first | (go_at_call 80; refine (l2NodeOk_any _ _ _ _ _ _).mono ?_; rintro e wa ⟨rfl, hb_wa⟩; obtain ⟨hc_wa, hf_wa⟩ := bcell hb_wa; have hz_wa := hb_wa.size; (try simp only [World.size_alloc, World.size_setCell, World.size_drew] at hz_wa); (try simp only [World.size_alloc, World.size_setCell, World.size_drew] at hc_wa); (try simp only [World.size_alloc, World.size_setCell, World.size_drew] at hf_wa); skip))
  all_goals
   go_ret
   exact ⟨by rw [HE.out]; rfl, by (repeat' (first | exact Below.refl _ _ | (with_reducible assumption) | (with_reducible refine Below.setCell ?_ (by first | (simp; done) | (simp; omega)) _) | refine below_then ?_ (by assumption) | (with_reducible refine below_new2 ?_ _) | (with_reducible refine Below.drew ?_) | (with_reducible refine bdrewN ?_ _)))⟩
end Go.Proofs.YtonbmghgbblifaaDoor
end
section
namespace Go.Proofs.YtonbmghgbblifaaDoor
open Go.RowKit
set_option linter.unusedVariables false
set_option linter.unusedSimpArgs false
theorem isEmpty_size (h : ByteArray) : h.toList.isEmpty = decide (h.size = 0) := by
 rw [Bool.eq_iff_iff, decide_eq_true_eq, ← size_zero, ← toList_nil_iff_emptyBytes, List.isEmpty_iff]
theorem numL_one (n : Nat) (h : n < 256) : numL n 1 false 1 = [UInt8.ofNat n] := by
 simp [numL, numByte]
theorem sizedL_length (s : ByteArray) : (sizedL s).length = 2 + s.size := by
 rw [sizedL, List.length_append, numL_length]; rfl
theorem byteS_list (n : Nat) : byteS n = ⟨[UInt8.ofNat n].toArray⟩ := rfl
theorem app_list (a b : List UInt8) : (⟨(a ++ b).toArray⟩ : ByteArray) = ⟨a.toArray⟩ ++ ⟨b.toArray⟩ := by
 apply ByteArray.ext
 simp [ByteArray.data_append]
theorem self_list (s : ByteArray) : (⟨s.data.toList.toArray⟩ : ByteArray) = s := rfl
theorem sizedL_eq (s : ByteArray) : (⟨(sizedL s).toArray⟩ : ByteArray) = sizedS s := by
 unfold sizedL sizedS; rw [app_list, self_list]; have h : numL s.size 2 false 2 = [UInt8.ofNat (s.size / 256)] ++ [UInt8.ofNat s.size] := by
  simp [numL, numByte, List.range_succ]
 rw [h, app_list]
 congr 2
 ·unfold byteS
  congr 3
  apply UInt8.toNat_inj.mp
  rw [UInt8.toNat_ofNat', UInt8.toNat_ofNat']; omega
theorem encList (a b c d : ByteArray) (n : Nat) (hn : n < 256) (h : flagsOf c d = n) :
  (⟨(sizedL a ++ (sizedL b ++ (numL n 1 false 1 ++ (c.data.toList ++ d.data.toList)))).toArray⟩ : ByteArray) = sizedS a ++ sizedS b ++ byteS (flagsOf c d) ++ c ++ d := by
 simp only [← List.append_assoc]; rw [app_list, app_list, app_list, app_list, sizedL_eq, sizedL_eq, self_list, self_list, numL_one n hn, h, byteS_list]
theorem bitsOr1 : bits .or .u32 0 1 = 1 := by decide
theorem bitsOr2 : bits .or .u32 0 2 = 2 := by decide
theorem bitsOr3 : bits .or .u32 1 2 = 3 := by decide
attribute [go_sem] bitsOr1 bitsOr2 bitsOr3
theorem held4BB {B : Nat} {u w1 : World} {p q r t : Addr} {a b c d : Value} (hb : Below B u w1) (hp : p.block < B ∧ q.block < B ∧ r.block < B ∧ t.block < B) (h : u.cell? p = some a ∧ u.cell? q = some b ∧ u.cell? r = some c ∧ u.cell? t = some d) : w1.cell? p = some a ∧ w1.cell? q = some b ∧ w1.cell? r = some c ∧ w1.cell? t = some d :=
 ⟨(hb.cell hp.1).trans h.1, (hb.cell hp.2.1).trans h.2.1, (hb.cell hp.2.2.1).trans h.2.2.1, (hb.cell hp.2.2.2).trans h.2.2.2⟩
set_option maxHeartbeats 1000000 in
theorem encodeNode_any (a b c d : ByteArray) (x : Int) (w : World) :
  Calls Tryd.prog 27 #[.agg #[.string a, .string b, .string c, .string d], .int .i64 x] w fun e w' => e = .returned (.string (encNode a b c d x)) ∧ Below w.heap.size w w' := by
 by_cases hok : nodeOk a b c d x = true
 ·have hsz : a.size ≤ 256 ∧ b.size ≤ 2000 ∧ c.size ≤ 32 ∧ d.size ≤ 32 := by
   unfold nodeOk hOk isW at hok; simp only [Bool.and_eq_true, Bool.or_eq_true, decide_eq_true_eq] at hok; omega
  obtain ⟨h1, h2, h3, h4⟩ := hsz; have he : encNode a b c d x = sizedS a ++ sizedS b ++ byteS (flagsOf c d) ++ c ++ d := by unfold encNode; rw [if_pos hok]
  have HE := Lib.hid he; clear he; have la := sizedL_length a; have lb := sizedL_length b; have ln : ∀ n, (numL n 1 false 1).length = 1 := fun n => numL_length n 1 false 1
  have LA := Lib.hid la; clear la; have LB := Lib.hid lb; clear lb; have LN := Lib.hid ln; clear ln
  by_cases hc : c.toList.isEmpty = true
  ·by_cases hd : d.toList.isEmpty = true
   ·go_enter Tryd.func27, Tryd.ntmps27
    go_wp2_with (first | (go_at_call 76; refine (nodeValid_any _ _ _ _ _ _).mono ?_; rintro e wa ⟨rfl, hb_wa⟩; obtain ⟨hc_wa, hf_wa⟩ := bcell hb_wa; have hz_wa := hb_wa.size; (try simp only [World.size_alloc, World.size_setCell, World.size_drew] at hz_wa); (try simp only [World.size_alloc, World.size_setCell, World.size_drew] at hc_wa); (try simp only [World.size_alloc, World.size_setCell, World.size_drew] at hf_wa); (try have q_w_0_wa : w.heap.size < wa.heap.size := by omega)))
    have hS : wa.cell? ⟨w.heap.size, 0, none⟩ = some (.string a) ∧ wa.cell? ⟨w.heap.size, 1, none⟩ = some (.string b) ∧ wa.cell? ⟨w.heap.size, 2, none⟩ = some (.string c) ∧ wa.cell? ⟨w.heap.size, 3, none⟩ = some (.string d) := by
     refine ⟨?_, ?_, ?_, ?_⟩ <;> (rw [hc_wa _ _ (by omega)]; simp [go_sem])
    obtain ⟨e0, e1, e2, e3⟩ := hS; clear hc_wa hf_wa
    go_wp2
    go_region_held3 (fun w' => w'.cell? ⟨w.heap.size, 0, none⟩ = some (.string a) ∧ w'.cell? ⟨w.heap.size, 1, none⟩ = some (.string b) ∧ w'.cell? ⟨w.heap.size, 2, none⟩ = some (.string c) ∧ w'.cell? ⟨w.heap.size, 3, none⟩ = some (.string d))
     (first
      | exact held4BB (B := wa.heap.size) (by assumption) (by simp; omega) (by assumption)
      | assumption
      | (go_keep; done))
     (first
      | (go_at_call_of 77 (Value.string a); refine (bsized_any wa.heap.size wa.heap.size [] a _ ?_ ?_ ?_ ?_).mono ?_; (· exact Bld.fresh _ wa.drew); (· omega); (· simp; done); (· simp; done); rintro e wx ⟨rfl, hBx, hbx⟩; rw [List.nil_append] at hBx; have hzx := hbx.size; simp only [World.size_alloc, World.size_drew] at hzx)
      | (go_at_call_of 77 (Value.string b); refine (bsized_any wa.heap.size wa.heap.size (sizedL a) b _ ?_ ?_ ?_ ?_).mono ?_; (· assumption); (· omega); (· have := LA.out; omega); (· omega); rintro e wx ⟨rfl, hBx, hbx⟩; have hzx := hbx.size)
      | (go_at_call 78; refine (bnumber_any wa.heap.size wa.heap.size (sizedL a ++ sizedL b) 0 1 false _ ?_ ?_ ?_ ?_ ?_).mono ?_; (· assumption); (· omega); (· omega); (· have := LA.out; have := LB.out; rw [List.length_append]; omega); (· omega); rintro e wx ⟨rfl, hBx, hbx⟩; have hzx := hbx.size)
      | (go_at_call_of 79 (Value.string c); refine (btext_any wa.heap.size wa.heap.size (sizedL a ++ sizedL b ++ numL 0 1 false 1) c _ ?_ ?_ ?_).mono ?_; (· assumption); (· have := LA.out; have := LB.out; have := LN.out; simp only [List.length_append, this]; omega); (· omega); rintro e wx ⟨rfl, hBx, hbx⟩; have hzx := hbx.size)
      | (go_at_call_of 79 (Value.string d); refine (btext_any wa.heap.size wa.heap.size (sizedL a ++ sizedL b ++ numL 0 1 false 1 ++ c.data.toList) d _ ?_ ?_ ?_).mono ?_; (· assumption); (· have := LA.out; have := LB.out; have := LN.out; have hcl : c.data.toList.length = c.size := rfl; simp only [List.length_append, this, hcl]; omega); (· omega); rintro e wx ⟨rfl, hBx, hbx⟩; have hzx := hbx.size))
    go_wp2_with (go_at_call 55; refine (string_any 109 wa.heap.size wa.heap.size _ _ hBx ?_).mono ?_; (· intro h; have := congrArg List.length h; simp only [List.length_append, LN.out, List.length_nil] at this; omega); rintro e wz ⟨rfl, hbz⟩)
    go_ret
    have hz : Below wa.heap.size wa wz := by
     refine Below.trans ?_ hbz
     repeat' (first | (refine Below.trans ?_ (by assumption)))
     (repeat' (first | exact Below.refl _ _ | (with_reducible assumption) | (with_reducible refine Below.setCell ?_ (by first | (simp; done) | (simp; omega)) _) | refine below_then ?_ (by assumption) | (with_reducible refine below_new2 ?_ _) | (with_reducible refine Below.drew ?_) | (with_reducible refine bdrewN ?_ _)))
    refine ⟨?_, by (repeat' (first | exact Below.refl _ _ | (with_reducible assumption) | (with_reducible refine Below.setCell ?_ (by first | (simp; done) | (simp; omega)) _) | refine below_then ?_ (by assumption) | (with_reducible refine below_new2 ?_ _) | (with_reducible refine Below.drew ?_) | (with_reducible refine bdrewN ?_ _)))⟩; rw [HE.out]; refine congrArg (fun z => Ending.returned (.string z)) (encList a b c d 0 (by decide) ?_); rw [isEmpty_size, decide_eq_true_eq] at hc hd; simp [flagsOf, hc, hd]
   ·go_enter Tryd.func27, Tryd.ntmps27
    go_wp2_with (first | (go_at_call 76; refine (nodeValid_any _ _ _ _ _ _).mono ?_; rintro e wa ⟨rfl, hb_wa⟩; obtain ⟨hc_wa, hf_wa⟩ := bcell hb_wa; have hz_wa := hb_wa.size; (try simp only [World.size_alloc, World.size_setCell, World.size_drew] at hz_wa); (try simp only [World.size_alloc, World.size_setCell, World.size_drew] at hc_wa); (try simp only [World.size_alloc, World.size_setCell, World.size_drew] at hf_wa); (try have q_w_0_wa : w.heap.size < wa.heap.size := by omega)))
    have hS : wa.cell? ⟨w.heap.size, 0, none⟩ = some (.string a) ∧ wa.cell? ⟨w.heap.size, 1, none⟩ = some (.string b) ∧ wa.cell? ⟨w.heap.size, 2, none⟩ = some (.string c) ∧ wa.cell? ⟨w.heap.size, 3, none⟩ = some (.string d) := by
     refine ⟨?_, ?_, ?_, ?_⟩ <;> (rw [hc_wa _ _ (by omega)]; simp [go_sem])
    obtain ⟨e0, e1, e2, e3⟩ := hS; clear hc_wa hf_wa
    go_wp2
    go_region_held3 (fun w' => w'.cell? ⟨w.heap.size, 0, none⟩ = some (.string a) ∧ w'.cell? ⟨w.heap.size, 1, none⟩ = some (.string b) ∧ w'.cell? ⟨w.heap.size, 2, none⟩ = some (.string c) ∧ w'.cell? ⟨w.heap.size, 3, none⟩ = some (.string d))
     (first
      | exact held4BB (B := wa.heap.size) (by assumption) (by simp; omega) (by assumption)
      | assumption
      | (go_keep; done))
     (first
      | (go_at_call_of 77 (Value.string a); refine (bsized_any wa.heap.size wa.heap.size [] a _ ?_ ?_ ?_ ?_).mono ?_; (· exact Bld.fresh _ wa.drew); (· omega); (· simp; done); (· simp; done); rintro e wx ⟨rfl, hBx, hbx⟩; rw [List.nil_append] at hBx; have hzx := hbx.size; simp only [World.size_alloc, World.size_drew] at hzx)
      | (go_at_call_of 77 (Value.string b); refine (bsized_any wa.heap.size wa.heap.size (sizedL a) b _ ?_ ?_ ?_ ?_).mono ?_; (· assumption); (· omega); (· have := LA.out; omega); (· omega); rintro e wx ⟨rfl, hBx, hbx⟩; have hzx := hbx.size)
      | (go_at_call 78; refine (bnumber_any wa.heap.size wa.heap.size (sizedL a ++ sizedL b) 2 1 false _ ?_ ?_ ?_ ?_ ?_).mono ?_; (· assumption); (· omega); (· omega); (· have := LA.out; have := LB.out; rw [List.length_append]; omega); (· omega); rintro e wx ⟨rfl, hBx, hbx⟩; have hzx := hbx.size)
      | (go_at_call_of 79 (Value.string c); refine (btext_any wa.heap.size wa.heap.size (sizedL a ++ sizedL b ++ numL 2 1 false 1) c _ ?_ ?_ ?_).mono ?_; (· assumption); (· have := LA.out; have := LB.out; have := LN.out; simp only [List.length_append, this]; omega); (· omega); rintro e wx ⟨rfl, hBx, hbx⟩; have hzx := hbx.size)
      | (go_at_call_of 79 (Value.string d); refine (btext_any wa.heap.size wa.heap.size (sizedL a ++ sizedL b ++ numL 2 1 false 1 ++ c.data.toList) d _ ?_ ?_ ?_).mono ?_; (· assumption); (· have := LA.out; have := LB.out; have := LN.out; have hcl : c.data.toList.length = c.size := rfl; simp only [List.length_append, this, hcl]; omega); (· omega); rintro e wx ⟨rfl, hBx, hbx⟩; have hzx := hbx.size))
    go_wp2_with (go_at_call 55; refine (string_any 109 wa.heap.size wa.heap.size _ _ hBx ?_).mono ?_; (· intro h; have := congrArg List.length h; simp only [List.length_append, LN.out, List.length_nil] at this; omega); rintro e wz ⟨rfl, hbz⟩)
    go_ret
    have hz : Below wa.heap.size wa wz := by
     refine Below.trans ?_ hbz
     repeat' (first | (refine Below.trans ?_ (by assumption)))
     (repeat' (first | exact Below.refl _ _ | (with_reducible assumption) | (with_reducible refine Below.setCell ?_ (by first | (simp; done) | (simp; omega)) _) | refine below_then ?_ (by assumption) | (with_reducible refine below_new2 ?_ _) | (with_reducible refine Below.drew ?_) | (with_reducible refine bdrewN ?_ _)))
    refine ⟨?_, by (repeat' (first | exact Below.refl _ _ | (with_reducible assumption) | (with_reducible refine Below.setCell ?_ (by first | (simp; done) | (simp; omega)) _) | refine below_then ?_ (by assumption) | (with_reducible refine below_new2 ?_ _) | (with_reducible refine Below.drew ?_) | (with_reducible refine bdrewN ?_ _)))⟩; rw [HE.out]; refine congrArg (fun z => Ending.returned (.string z)) (encList a b c d 2 (by decide) ?_); rw [isEmpty_size, decide_eq_true_eq] at hc hd; simp [flagsOf, hc, hd]
  ·by_cases hd : d.toList.isEmpty = true
   ·go_enter Tryd.func27, Tryd.ntmps27
    go_wp2_with (first | (go_at_call 76; refine (nodeValid_any _ _ _ _ _ _).mono ?_; rintro e wa ⟨rfl, hb_wa⟩; obtain ⟨hc_wa, hf_wa⟩ := bcell hb_wa; have hz_wa := hb_wa.size; (try simp only [World.size_alloc, World.size_setCell, World.size_drew] at hz_wa); (try simp only [World.size_alloc, World.size_setCell, World.size_drew] at hc_wa); (try simp only [World.size_alloc, World.size_setCell, World.size_drew] at hf_wa); (try have q_w_0_wa : w.heap.size < wa.heap.size := by omega)))
    have hS : wa.cell? ⟨w.heap.size, 0, none⟩ = some (.string a) ∧ wa.cell? ⟨w.heap.size, 1, none⟩ = some (.string b) ∧ wa.cell? ⟨w.heap.size, 2, none⟩ = some (.string c) ∧ wa.cell? ⟨w.heap.size, 3, none⟩ = some (.string d) := by
     refine ⟨?_, ?_, ?_, ?_⟩ <;> (rw [hc_wa _ _ (by omega)]; simp [go_sem])
    obtain ⟨e0, e1, e2, e3⟩ := hS; clear hc_wa hf_wa
    go_wp2
    go_region_held3 (fun w' => w'.cell? ⟨w.heap.size, 0, none⟩ = some (.string a) ∧ w'.cell? ⟨w.heap.size, 1, none⟩ = some (.string b) ∧ w'.cell? ⟨w.heap.size, 2, none⟩ = some (.string c) ∧ w'.cell? ⟨w.heap.size, 3, none⟩ = some (.string d))
     (first
      | exact held4BB (B := wa.heap.size) (by assumption) (by simp; omega) (by assumption)
      | assumption
      | (go_keep; done))
     (first
      | (go_at_call_of 77 (Value.string a); refine (bsized_any wa.heap.size wa.heap.size [] a _ ?_ ?_ ?_ ?_).mono ?_; (· exact Bld.fresh _ wa.drew); (· omega); (· simp; done); (· simp; done); rintro e wx ⟨rfl, hBx, hbx⟩; rw [List.nil_append] at hBx; have hzx := hbx.size; simp only [World.size_alloc, World.size_drew] at hzx)
      | (go_at_call_of 77 (Value.string b); refine (bsized_any wa.heap.size wa.heap.size (sizedL a) b _ ?_ ?_ ?_ ?_).mono ?_; (· assumption); (· omega); (· have := LA.out; omega); (· omega); rintro e wx ⟨rfl, hBx, hbx⟩; have hzx := hbx.size)
      | (go_at_call 78; refine (bnumber_any wa.heap.size wa.heap.size (sizedL a ++ sizedL b) 1 1 false _ ?_ ?_ ?_ ?_ ?_).mono ?_; (· assumption); (· omega); (· omega); (· have := LA.out; have := LB.out; rw [List.length_append]; omega); (· omega); rintro e wx ⟨rfl, hBx, hbx⟩; have hzx := hbx.size)
      | (go_at_call_of 79 (Value.string c); refine (btext_any wa.heap.size wa.heap.size (sizedL a ++ sizedL b ++ numL 1 1 false 1) c _ ?_ ?_ ?_).mono ?_; (· assumption); (· have := LA.out; have := LB.out; have := LN.out; simp only [List.length_append, this]; omega); (· omega); rintro e wx ⟨rfl, hBx, hbx⟩; have hzx := hbx.size)
      | (go_at_call_of 79 (Value.string d); refine (btext_any wa.heap.size wa.heap.size (sizedL a ++ sizedL b ++ numL 1 1 false 1 ++ c.data.toList) d _ ?_ ?_ ?_).mono ?_; (· assumption); (· have := LA.out; have := LB.out; have := LN.out; have hcl : c.data.toList.length = c.size := rfl; simp only [List.length_append, this, hcl]; omega); (· omega); rintro e wx ⟨rfl, hBx, hbx⟩; have hzx := hbx.size))
    go_wp2_with (go_at_call 55; refine (string_any 109 wa.heap.size wa.heap.size _ _ hBx ?_).mono ?_; (· intro h; have := congrArg List.length h; simp only [List.length_append, LN.out, List.length_nil] at this; omega); rintro e wz ⟨rfl, hbz⟩)
    go_ret
    have hz : Below wa.heap.size wa wz := by
     refine Below.trans ?_ hbz
     repeat' (first | (refine Below.trans ?_ (by assumption)))
     (repeat' (first | exact Below.refl _ _ | (with_reducible assumption) | (with_reducible refine Below.setCell ?_ (by first | (simp; done) | (simp; omega)) _) | refine below_then ?_ (by assumption) | (with_reducible refine below_new2 ?_ _) | (with_reducible refine Below.drew ?_) | (with_reducible refine bdrewN ?_ _)))
    refine ⟨?_, by (repeat' (first | exact Below.refl _ _ | (with_reducible assumption) | (with_reducible refine Below.setCell ?_ (by first | (simp; done) | (simp; omega)) _) | refine below_then ?_ (by assumption) | (with_reducible refine below_new2 ?_ _) | (with_reducible refine Below.drew ?_) | (with_reducible refine bdrewN ?_ _)))⟩; rw [HE.out]; refine congrArg (fun z => Ending.returned (.string z)) (encList a b c d 1 (by decide) ?_); rw [isEmpty_size, decide_eq_true_eq] at hc hd; simp [flagsOf, hc, hd]
   ·go_enter Tryd.func27, Tryd.ntmps27
    go_wp2_with (first | (go_at_call 76; refine (nodeValid_any _ _ _ _ _ _).mono ?_; rintro e wa ⟨rfl, hb_wa⟩; obtain ⟨hc_wa, hf_wa⟩ := bcell hb_wa; have hz_wa := hb_wa.size; (try simp only [World.size_alloc, World.size_setCell, World.size_drew] at hz_wa); (try simp only [World.size_alloc, World.size_setCell, World.size_drew] at hc_wa); (try simp only [World.size_alloc, World.size_setCell, World.size_drew] at hf_wa); (try have q_w_0_wa : w.heap.size < wa.heap.size := by omega)))
    have hS : wa.cell? ⟨w.heap.size, 0, none⟩ = some (.string a) ∧ wa.cell? ⟨w.heap.size, 1, none⟩ = some (.string b) ∧ wa.cell? ⟨w.heap.size, 2, none⟩ = some (.string c) ∧ wa.cell? ⟨w.heap.size, 3, none⟩ = some (.string d) := by
     refine ⟨?_, ?_, ?_, ?_⟩ <;> (rw [hc_wa _ _ (by omega)]; simp [go_sem])
    obtain ⟨e0, e1, e2, e3⟩ := hS; clear hc_wa hf_wa
    go_wp2
    go_region_held3 (fun w' => w'.cell? ⟨w.heap.size, 0, none⟩ = some (.string a) ∧ w'.cell? ⟨w.heap.size, 1, none⟩ = some (.string b) ∧ w'.cell? ⟨w.heap.size, 2, none⟩ = some (.string c) ∧ w'.cell? ⟨w.heap.size, 3, none⟩ = some (.string d))
     (first
      | exact held4BB (B := wa.heap.size) (by assumption) (by simp; omega) (by assumption)
      | assumption
      | (go_keep; done))
     (first
      | (go_at_call_of 77 (Value.string a); refine (bsized_any wa.heap.size wa.heap.size [] a _ ?_ ?_ ?_ ?_).mono ?_; (· exact Bld.fresh _ wa.drew); (· omega); (· simp; done); (· simp; done); rintro e wx ⟨rfl, hBx, hbx⟩; rw [List.nil_append] at hBx; have hzx := hbx.size; simp only [World.size_alloc, World.size_drew] at hzx)
      | (go_at_call_of 77 (Value.string b); refine (bsized_any wa.heap.size wa.heap.size (sizedL a) b _ ?_ ?_ ?_ ?_).mono ?_; (· assumption); (· omega); (· have := LA.out; omega); (· omega); rintro e wx ⟨rfl, hBx, hbx⟩; have hzx := hbx.size)
      | (go_at_call 78; refine (bnumber_any wa.heap.size wa.heap.size (sizedL a ++ sizedL b) 3 1 false _ ?_ ?_ ?_ ?_ ?_).mono ?_; (· assumption); (· omega); (· omega); (· have := LA.out; have := LB.out; rw [List.length_append]; omega); (· omega); rintro e wx ⟨rfl, hBx, hbx⟩; have hzx := hbx.size)
      | (go_at_call_of 79 (Value.string c); refine (btext_any wa.heap.size wa.heap.size (sizedL a ++ sizedL b ++ numL 3 1 false 1) c _ ?_ ?_ ?_).mono ?_; (· assumption); (· have := LA.out; have := LB.out; have := LN.out; simp only [List.length_append, this]; omega); (· omega); rintro e wx ⟨rfl, hBx, hbx⟩; have hzx := hbx.size)
      | (go_at_call_of 79 (Value.string d); refine (btext_any wa.heap.size wa.heap.size (sizedL a ++ sizedL b ++ numL 3 1 false 1 ++ c.data.toList) d _ ?_ ?_ ?_).mono ?_; (· assumption); (· have := LA.out; have := LB.out; have := LN.out; have hcl : c.data.toList.length = c.size := rfl; simp only [List.length_append, this, hcl]; omega); (· omega); rintro e wx ⟨rfl, hBx, hbx⟩; have hzx := hbx.size))
    go_wp2_with (go_at_call 55; refine (string_any 109 wa.heap.size wa.heap.size _ _ hBx ?_).mono ?_; (· intro h; have := congrArg List.length h; simp only [List.length_append, LN.out, List.length_nil] at this; omega); rintro e wz ⟨rfl, hbz⟩)
    go_ret
    have hz : Below wa.heap.size wa wz := by
     refine Below.trans ?_ hbz
     repeat' (first | (refine Below.trans ?_ (by assumption)))
     (repeat' (first | exact Below.refl _ _ | (with_reducible assumption) | (with_reducible refine Below.setCell ?_ (by first | (simp; done) | (simp; omega)) _) | refine below_then ?_ (by assumption) | (with_reducible refine below_new2 ?_ _) | (with_reducible refine Below.drew ?_) | (with_reducible refine bdrewN ?_ _)))
    refine ⟨?_, by (repeat' (first | exact Below.refl _ _ | (with_reducible assumption) | (with_reducible refine Below.setCell ?_ (by first | (simp; done) | (simp; omega)) _) | refine below_then ?_ (by assumption) | (with_reducible refine below_new2 ?_ _) | (with_reducible refine Below.drew ?_) | (with_reducible refine bdrewN ?_ _)))⟩; rw [HE.out]; refine congrArg (fun z => Ending.returned (.string z)) (encList a b c d 3 (by decide) ?_); rw [isEmpty_size, decide_eq_true_eq] at hc hd; simp [flagsOf, hc, hd]
 ·have he : encNode a b c d x = ⟨#[]⟩ := by unfold encNode; rw [if_neg hok]
  have HE := Lib.hid he; clear he
  go_enter Tryd.func27, Tryd.ntmps27
  go_wp2_with (first | (go_at_call 76; refine (nodeValid_any _ _ _ _ _ _).mono ?_; rintro e wa ⟨rfl, hb_wa⟩; obtain ⟨hc_wa, hf_wa⟩ := bcell hb_wa; have hz_wa := hb_wa.size; (try simp only [World.size_alloc, World.size_setCell, World.size_drew] at hz_wa); (try simp only [World.size_alloc, World.size_setCell, World.size_drew] at hc_wa); (try simp only [World.size_alloc, World.size_setCell, World.size_drew] at hf_wa); skip))
  all_goals
   go_ret
   exact ⟨by rw [HE.out]; rfl, by (repeat' (first | exact Below.refl _ _ | (with_reducible assumption) | (with_reducible refine Below.setCell ?_ (by first | (simp; done) | (simp; omega)) _) | refine below_then ?_ (by assumption) | (with_reducible refine below_new2 ?_ _) | (with_reducible refine Below.drew ?_) | (with_reducible refine bdrewN ?_ _)))⟩
end Go.Proofs.YtonbmghgbblifaaDoor
end
section
namespace Go.Proofs.YtonbmghgbblifaaDoor
open Go.RowKit
set_option linter.unusedVariables false
set_option linter.unusedSimpArgs false
def Rdr (b : Nat) (r : ByteArray) (bad : Bool) (w : World) : Prop := w.heap[b]? = some (.cells #[.string r, .bool bad] 137)
section
variable {b : Nat} {r : ByteArray} {bad : Bool} {w w1 : World}
theorem Rdr.c0 (h : Rdr b r bad w) : w.cell? ⟨b, 0, none⟩ = some (.string r) := by
 unfold Rdr at h; simp [World.cell?, h]
theorem Rdr.c1 (h : Rdr b r bad w) : w.cell? ⟨b, 1, none⟩ = some (.bool bad) := by
 unfold Rdr at h; simp [World.cell?, h]
theorem Rdr.f (h : Rdr b r bad w) (i : Nat) : w.frozen? ⟨b, i, none⟩ = false := by
 unfold Rdr at h; simp [World.frozen?, h]
theorem Rdr.lt (h : Rdr b r bad w) : b < w.heap.size := by
 rcases Nat.lt_or_ge b w.heap.size with h' | h'
 ·exact h'
 ·unfold Rdr at h; simp [Array.getElem?_eq_none h'] at h
theorem Rdr.set0 (h : Rdr b r bad w) (s : ByteArray) : Rdr b s bad (w.setCell ⟨b, 0, none⟩ (.string s)) := by
 have hl := h.lt; unfold Rdr at h ⊢; rw [Array.getElem?_eq_getElem hl] at h; have h' := Option.some.inj h; simp [World.setCell, hl, Array.getElem_modify, h']
theorem Rdr.set1 (h : Rdr b r bad w) (s : Bool) : Rdr b r s (w.setCell ⟨b, 1, none⟩ (.bool s)) := by
 have hl := h.lt; unfold Rdr at h ⊢; rw [Array.getElem?_eq_getElem hl] at h; have h' := Option.some.inj h; simp [World.setCell, hl, Array.getElem_modify, h']
theorem Rdr.below (h : Rdr b r bad w) (hb : Below w.heap.size w w1) : Rdr b r bad w1 := (hb.block b h.lt).trans h
theorem Rdr.grown (h : Rdr b r bad w) {row : Option Nat} (hb : w.grownBy w1 row) (hn : some b ≠ row) : Rdr b r bad w1 := (hb.block b h.lt hn).trans h
theorem Rdr.fresh (s : ByteArray) (w : World) : Rdr w.heap.size s false (w.alloc (.cells #[.string s, .bool false] 137)) := by
 show (w.heap.push _)[w.heap.size]? = _; simp
end
def textR (r : ByteArray) (bad : Bool) (n : Int) : ByteArray × ByteArray × Bool :=
 if bad = true ∨ n < 0 ∨ (r.size : Int) < n then (⟨#[]⟩, r, true) else (r.extract 0 n.toNat, r.extract n.toNat r.size, false)
set_option maxHeartbeats 400000 in
theorem text_any (b : Nat) (r : ByteArray) (bad : Bool) (n : Int) (w : World) (h : Rdr b r bad w) :
  Calls Tryd.prog 87 #[.pointer (some ⟨b, 0, none⟩), .int .i64 n] w fun e w' => e = .returned (.string (textR r bad n).1) ∧ Rdr b (textR r bad n).2.1 (textR r bad n).2.2 w' ∧ w.grownBy w' (some b) := by
 have c0 := h.c0; have c1 := h.c1; have f0 := h.f 0; have f1 := h.f 1; have H := Lib.hid h; clear h
 by_cases hc : bad = true ∨ n < 0 ∨ (r.size : Int) < n
 ·have ht : textR r bad n = (⟨#[]⟩, r, true) := by unfold textR; rw [if_pos hc]
  rw [ht]; clear ht
  by_cases hb : bad = true
  ·subst hb
   go_enter Tryd.func87, Tryd.ntmps87
   go_wp2
   go_ret
   exact ⟨rfl, H.out.set1 true, Lib.grownBy_setCell _ _ _ _⟩
  ·obtain rfl : bad = false := by simpa using hb
   by_cases hn : n < 0
   ·go_enter Tryd.func87, Tryd.ntmps87
    go_wp2
    go_ret
    exact ⟨rfl, H.out.set1 true, Lib.grownBy_setCell _ _ _ _⟩
   ·have hn2 : (r.size : Int) < n := by simp at hc; omega
    go_enter Tryd.func87, Tryd.ntmps87
    go_wp2
    go_ret
    exact ⟨rfl, H.out.set1 true, Lib.grownBy_setCell _ _ _ _⟩
 ·have ht : textR r bad n = (r.extract 0 n.toNat, r.extract n.toNat r.size, false) := by unfold textR; rw [if_neg hc]
  rw [ht]; clear ht; simp only [not_or, Bool.not_eq_true] at hc; obtain ⟨rfl, hn0, hn1⟩ := hc; have hn2 : 0 ≤ n := by omega
  have hn3 : n ≤ r.size := by omega
  have hn4 : ¬ (r.size : Int) < n := by omega
  go_enter Tryd.func87, Tryd.ntmps87
  go_wp2
  go_ret
  exact ⟨rfl, H.out.set0 _, Lib.grownBy_setCell _ _ _ _⟩
theorem or_join (x y : Nat) (hy : y < 256) : (x * 256) ||| y = x * 256 + y := by
 have h := Nat.shiftLeft_add_eq_or_of_lt (i := 8) hy x; rw [Nat.shiftLeft_eq] at h; exact h.symm
theorem or_vec (n a b : Nat) : (BitVec.ofInt n (a : Int) ||| BitVec.ofInt n (b : Int)).toNat = (a % 2 ^ n) ||| (b % 2 ^ n) := by
 rw [BitVec.toNat_or, BitVec.ofInt_natCast, BitVec.ofInt_natCast, BitVec.toNat_ofNat, BitVec.toNat_ofNat]
theorem wrap_u32 (n : Nat) (h : n < 4294967296) : IntKind.u32.wrap (n : Int) = n := by
 simp [IntKind.wrap, IntKind.bits, IntKind.signed]; omega
theorem wrap_i64 (n : Nat) (h : n < 9223372036854775808) : IntKind.i64.wrap (n : Int) = n := by
 simp [IntKind.wrap, IntKind.bits, IntKind.signed]; omega
theorem bitsOrU32 (x y : Nat) (hx : x < 16777216) (hy : y < 256) : bits .or .u32 ((x : Int) * 256) (y : Int) = ((x * 256 + y : Nat) : Int) := by
 have e : ((x : Int) * 256) = ((x * 256 : Nat) : Int) := by simp
 rw [e]; show IntKind.u32.wrap (((BitVec.ofInt 32 ((x * 256 : Nat) : Int) ||| BitVec.ofInt 32 (y : Int)).toNat : Nat) : Int) = _; rw [or_vec, Nat.mod_eq_of_lt (by omega), Nat.mod_eq_of_lt (by omega), or_join x y hy, wrap_u32 _ (by omega)]
theorem bitsOrI64 (x y : Nat) (hx : x < 16777216) (hy : y < 256) : bits .or .i64 ((x : Int) * 256) (y : Int) = ((x * 256 + y : Nat) : Int) := by
 have e : ((x : Int) * 256) = ((x * 256 : Nat) : Int) := by simp
 rw [e]; show IntKind.i64.wrap (((BitVec.ofInt 64 ((x * 256 : Nat) : Int) ||| BitVec.ofInt 64 (y : Int)).toNat : Nat) : Int) = _; rw [or_vec, Nat.mod_eq_of_lt (by omega), Nat.mod_eq_of_lt (by omega), or_join x y hy, wrap_i64 _ (by omega)]
def numV (l : List UInt8) : Nat := l.foldl (fun a b => a * 256 + b.toNat) 0
theorem numV_snoc (l : List UInt8) (b : UInt8) : numV (l ++ [b]) = numV l * 256 + b.toNat := by simp [numV]
theorem numV_lt (l : List UInt8) : numV l < 256 ^ l.length := by
 have gen : ∀ (l : List UInt8) (a n : Nat), a < 256 ^ n → l.foldl (fun a b => a * 256 + b.toNat) a < 256 ^ (n + l.length) := by
  intro l
  induction l with
  | nil => intro a n h; simpa using h
  | cons x r ih =>
   intro a n h; have hx : x.toNat < 256 := x.toNat_lt; have h2 := ih (a * 256 + x.toNat) (n + 1) (by rw [Nat.pow_succ]; omega); rw [List.foldl_cons, List.length_cons, show n + (r.length + 1) = n + 1 + r.length by omega]; exact h2
 have h := gen l 0 0 (by decide)
 simpa [numV] using h
theorem numV_step (t : ByteArray) (m : Nat) (hm : m < t.size) (h2 : t.size ≤ 2) :
  numV (t.data.toList.take m) < 256 ∧ numV (t.data.toList.take (m + 1)) = numV (t.data.toList.take m) * 256 + (t.data[m]'hm).toNat := by
 constructor
 ·have h := numV_lt (t.data.toList.take m); have hl : (t.data.toList.take m).length ≤ 1 := by rw [List.length_take]; omega
  have := Nat.pow_le_pow_right (n := 256) (by decide) hl; omega
 ·rw [List.take_succ_eq_append_getElem (by simpa using hm), numV_snoc]; simp
theorem numU32_step (t : ByteArray) (m : Nat) (hm : m < t.size) (h2 : t.size ≤ 2) :
  bits .or .u32 ((numV (t.data.toList.take m) : Int) * 256 % 4294967296) (((t.data[m]'hm).toNat : Int) % 4294967296) = (numV (t.data.toList.take (m + 1)) : Int) := by
 obtain ⟨h1, h3⟩ := numV_step t m hm h2; have h4 := (t.data[m]'hm).toNat_lt; rw [Int.emod_eq_of_lt (by omega) (by omega), Int.emod_eq_of_lt (by omega) (by omega), bitsOrU32 _ _ (by omega) (by omega), h3]
set_option maxHeartbeats 1000000 in
theorem numFlag_any (b : Nat) (r : ByteArray) (bad : Bool) (k : Nat) (hk : k ≤ 2) (w : World) (h : Rdr b r bad w) :
  Calls Tryd.prog 86 #[.pointer (some ⟨b, 0, none⟩), .int .i64 k] w fun e w' => e = .returned (.int .u32 (numV (textR r bad k).1.data.toList)) ∧ Rdr b (textR r bad k).2.1 (textR r bad k).2.2 w' ∧ w.grownBy w' (some b) := by
 have hlt := h.lt; have hsz : (textR r bad k).1.size ≤ 2 := by
  unfold textR
  split
  ·exact Nat.zero_le _
  ·simp; omega
 have H := Lib.hid h; clear h; generalize ht : (textR r bad k).1 = t at hsz ⊢; have HT := Lib.hid ht; clear ht
 go_enter Tryd.func86, Tryd.ntmps86
 go_wp2_with (first | (go_at_call 87; refine (text_any b r bad k _ H.out).mono ?_; rintro e wa ⟨rfl, hRa, hga⟩; rw [HT.out]; have hza := hga.size) | (((with_reducible refine gate_dst (N := 11) rfl ?_); refine wpList_bytes wa.heap.size rfl 9 47 5 _ rfl Tryd.underlying9 Tryd.underlying47 Tryd.underlying5 t rfl (by first | assumption | (simp; omega) | omega) (by unfold maxLen; omega) ?_; rintro v_wb wb ho_wb hv_wb hb_wb; obtain ⟨hc_wb, hf_wb⟩ := bcell hb_wb; have hz_wb := hb_wb.size; (try simp only [World.size_alloc, World.size_setCell, World.size_drew] at hz_wb); (try simp only [World.size_alloc, World.size_setCell, World.size_drew] at hc_wb); (try simp only [World.size_alloc, World.size_setCell, World.size_drew] at hf_wb); skip); obtain ⟨A, c, rfl⟩ := ho_wb.form))
 have HO := Lib.hid ho_wb; clear ho_wb; have htl : t.data.toList.length = t.size := rfl; have HTL := Lib.hid htl; clear htl
 go_loopw [5, 13] (fun v i wr => ∃ m : Nat, m ≤ t.size ∧ i = .int .i64 m ∧ v = .int .u32 (numV (t.data.toList.take m)) ∧ wr = wb) (fun _ i _ => t.size - (intOf i).toNat)
 case atStart => exact ⟨0, Nat.zero_le _, rfl, rfl, rfl⟩
 case round =>
  obtain ⟨m, hm, rfl, rfl, rfl⟩ := hrel
  by_cases hlt2 : m < t.size
  ·obtain ⟨g, cap, hv, h1, h2, h3, hcell, hfr⟩ := (HO.out).at (by rw [HTL.out]; omega)
   cases hv
   have hc := hcell m (by rw [HTL.out]; omega); rw [bcs_get _ _ (by rw [HTL.out]; omega)] at hc; clear hcell hfr
   go_wp2
   refine ⟨⟨m + 1, by omega, by go_num, ?_, trivial⟩, by simp [intOf]; omega⟩; rw [numU32_step t m hlt2 hsz]
  ·have hm2 : m = t.size := by omega
   subst hm2; clear hlt2
   go_wp2
   go_ret
   refine ⟨?_, hRa.below hb_wb, Lib.grownBy_below hga hb_wb⟩; rw [List.take_of_length_le (by rw [HTL.out]; omega)]; rfl
theorem wrap64_small (n : Nat) (h : n < 9223372036854775808) : wrap64 (n : Int) = n := by unfold wrap64; omega
theorem numI64_step (t : ByteArray) (m : Nat) (hm : m < t.size) (h2 : t.size ≤ 2) :
  bits .or .i64 (wrap64 ((numV (t.data.toList.take m) : Int) * 256)) (wrap64 ((t.data[m]'hm).toNat : Int)) = (numV (t.data.toList.take (m + 1)) : Int) := by
 obtain ⟨h1, h3⟩ := numV_step t m hm h2; have h4 := (t.data[m]'hm).toNat_lt; rw [show ((numV (t.data.toList.take m) : Int) * 256) = ((numV (t.data.toList.take m) * 256 : Nat) : Int) by simp, wrap64_small _ (by omega), wrap64_small _ (by omega), Int.natCast_mul]; rw [show ((256 : Nat) : Int) = 256 from rfl, bitsOrI64 _ _ (by omega) (by omega), h3]
set_option maxHeartbeats 1000000 in
theorem numInt_any (b : Nat) (r : ByteArray) (bad : Bool) (k : Nat) (hk : k ≤ 2) (w : World) (h : Rdr b r bad w) :
  Calls Tryd.prog 126 #[.pointer (some ⟨b, 0, none⟩), .int .i64 k] w fun e w' => e = .returned (.int .i64 (numV (textR r bad k).1.data.toList)) ∧ Rdr b (textR r bad k).2.1 (textR r bad k).2.2 w' ∧ w.grownBy w' (some b) := by
 have hlt := h.lt; have hsz : (textR r bad k).1.size ≤ 2 := by
  unfold textR
  split
  ·exact Nat.zero_le _
  ·simp; omega
 have H := Lib.hid h; clear h; generalize ht : (textR r bad k).1 = t at hsz ⊢; have HT := Lib.hid ht; clear ht
 go_enter Tryd.func126, Tryd.ntmps126
 go_wp2_with (first | (go_at_call 87; refine (text_any b r bad k _ H.out).mono ?_; rintro e wa ⟨rfl, hRa, hga⟩; rw [HT.out]; have hza := hga.size) | (((with_reducible refine gate_dst (N := 11) rfl ?_); refine wpList_bytes wa.heap.size rfl 9 47 5 _ rfl Tryd.underlying9 Tryd.underlying47 Tryd.underlying5 t rfl (by first | assumption | (simp; omega) | omega) (by unfold maxLen; omega) ?_; rintro v_wb wb ho_wb hv_wb hb_wb; obtain ⟨hc_wb, hf_wb⟩ := bcell hb_wb; have hz_wb := hb_wb.size; (try simp only [World.size_alloc, World.size_setCell, World.size_drew] at hz_wb); (try simp only [World.size_alloc, World.size_setCell, World.size_drew] at hc_wb); (try simp only [World.size_alloc, World.size_setCell, World.size_drew] at hf_wb); skip); obtain ⟨A, c, rfl⟩ := ho_wb.form))
 have HO := Lib.hid ho_wb; clear ho_wb; have htl : t.data.toList.length = t.size := rfl; have HTL := Lib.hid htl; clear htl
 go_loopw [5, 13] (fun v i wr => ∃ m : Nat, m ≤ t.size ∧ i = .int .i64 m ∧ v = .int .i64 (numV (t.data.toList.take m)) ∧ wr = wb) (fun _ i _ => t.size - (intOf i).toNat)
 case atStart => exact ⟨0, Nat.zero_le _, rfl, rfl, rfl⟩
 case round =>
  obtain ⟨m, hm, rfl, rfl, rfl⟩ := hrel
  by_cases hlt2 : m < t.size
  ·obtain ⟨g, cap, hv, h1, h2, h3, hcell, hfr⟩ := (HO.out).at (by rw [HTL.out]; omega)
   cases hv
   have hc := hcell m (by rw [HTL.out]; omega); rw [bcs_get _ _ (by rw [HTL.out]; omega)] at hc; clear hcell hfr
   go_wp2
   refine ⟨⟨m + 1, by omega, by go_num, ?_, trivial⟩, by simp [intOf]; omega⟩; rw [numI64_step t m hlt2 hsz]
  ·have hm2 : m = t.size := by omega
   subst hm2; clear hlt2
   go_wp2
   go_ret
   refine ⟨?_, hRa.below hb_wb, Lib.grownBy_below hga hb_wb⟩; rw [List.take_of_length_le (by rw [HTL.out]; omega)]; rfl
def sizedR (r : ByteArray) (bad : Bool) : ByteArray × ByteArray × Bool :=
 textR (textR r bad 2).2.1 (textR r bad 2).2.2 (numV (textR r bad 2).1.data.toList)
set_option maxHeartbeats 400000 in
theorem rsized_any (b : Nat) (r : ByteArray) (bad : Bool) (w : World) (h : Rdr b r bad w) :
  Calls Tryd.prog 85 #[.pointer (some ⟨b, 0, none⟩)] w fun e w' => e = .returned (.string (sizedR r bad).1) ∧ Rdr b (sizedR r bad).2.1 (sizedR r bad).2.2 w' ∧ w.grownBy w' (some b) := by
 have H := Lib.hid h; clear h
 go_enter Tryd.func85, Tryd.ntmps85
 go_wp2_with (first | (go_at_call 126; refine (numInt_any b r bad 2 (by omega) _ H.out).mono ?_; rintro e wa ⟨rfl, hRa, hga⟩) | (go_at_call 87; refine (text_any b _ _ _ _ hRa).mono ?_; rintro e wc ⟨rfl, hRc, hgc⟩))
 go_ret
 exact ⟨rfl, hRc, hga.trans hgc⟩
end Go.Proofs.YtonbmghgbblifaaDoor
end
section
namespace Go.Proofs.YtonbmghgbblifaaDoor
open Go.RowKit
set_option linter.unusedVariables false
set_option linter.unusedSimpArgs false
theorem gcell {b : Nat} {W w1 : World} (hg : W.grownBy w1 (some b)) : (∀ k o, k < W.heap.size → k ≠ b → w1.cell? ⟨k, o, none⟩ = W.cell? ⟨k, o, none⟩) ∧ (∀ k o, k < W.heap.size → k ≠ b → w1.frozen? ⟨k, o, none⟩ = W.frozen? ⟨k, o, none⟩) :=
 ⟨fun k o h hn => World.cell?_of_block (a := ⟨k, o, none⟩) (hg.block k h (by simpa using hn)), fun k o h hn => World.frozen?_of_block (a := ⟨k, o, none⟩) (hg.block k h (by simpa using hn))⟩
theorem below_rdr {b : Nat} {a w w' : World} (h : Below a.heap.size a w) (hg : w.grownBy w' (some b)) (hb : a.heap.size ≤ b) : Below a.heap.size a w' := h.grown hg h.size fun k hk => by cases hk; exact hb
def nodeV : Option (ByteArray × ByteArray × ByteArray × ByteArray) → Value
 | some (a, b, c, d) => .tuple #[.agg #[.string a, .string b, .string c, .string d], .bool true]
 | none => .tuple #[.agg #[.string ⟨#[]⟩, .string ⟨#[]⟩, .string ⟨#[]⟩, .string ⟨#[]⟩], .bool false]
def optText (p : Bool) (t : ByteArray × ByteArray × Bool) (x : Int) : ByteArray × ByteArray × Bool := if p = true then textR t.2.1 t.2.2 x else (⟨#[]⟩, t.2.1, t.2.2)
def decI (s : ByteArray) (x : Int) : Option (ByteArray × ByteArray × ByteArray × ByteArray) :=
 let K := sizedR s false
 let V := sizedR K.2.1 K.2.2
 let F := textR V.2.1 V.2.2 1
 let f := numV F.1.data.toList
 let L := optText (decide (f % 2 = 1)) F x
 let R := optText (decide (f / 2 % 2 = 1)) L x
 if isW x = true ∧ R.2.2 = false ∧ R.2.1.size = 0 ∧ f ≤ 3 ∧ nodeOk K.1 V.1 L.1 R.1 x = true then some (K.1, V.1, L.1, R.1) else none
theorem bitsAnd1 : ∀ f : Nat, f < 256 → bits .and .u32 (f : Int) 1 = ((f % 2 : Nat) : Int) := by decide +kernel
theorem bitsAnd2 : ∀ f : Nat, f < 256 → bits .and .u32 (f : Int) 2 = ((f / 2 % 2 * 2 : Nat) : Int) := by decide +kernel
theorem text1_lt (r : ByteArray) (bad : Bool) : numV (textR r bad 1).1.data.toList < 256 := by
 have h := numV_lt (textR r bad 1).1.data.toList; have h2 : (textR r bad 1).1.data.toList.length ≤ 1 := by
  unfold textR
  split
  ·exact Nat.zero_le _
  ·simp; omega
 have := Nat.pow_le_pow_right (n := 256) (by decide) h2; omega
theorem Rdr.fresh2 {b : Nat} (s : ByteArray) (w : World) (h : b = w.heap.size) : Rdr b s false (w.alloc (.cells #[.string s, .bool false] 137)) := by
 subst h; exact Rdr.fresh s w
theorem Rdr.alloc2 {b : Nat} {r : ByteArray} {bad : Bool} {w : World} (h : Rdr b r bad w) (o : Obj) : Rdr b r bad (w.alloc o) := h.below ((Below.refl _ _).alloc (Nat.le_refl _) o)
theorem Rdr.setFar {b : Nat} {r : ByteArray} {bad : Bool} {w : World} (h : Rdr b r bad w) (p : Addr) (v : Value) (hn : b ≠ p.block) : Rdr b r bad (w.setCell p v) := (Below.heap_setCell w p v b hn).trans h
theorem numFlag1_any (b : Nat) (r : ByteArray) (bad : Bool) (w : World) (h : Rdr b r bad w) :
  Calls Tryd.prog 86 #[.pointer (some ⟨b, 0, none⟩), .int .i64 1] w fun e w' => e = .returned (.int .u32 (numV (textR r bad 1).1.data.toList)) ∧ Rdr b (textR r bad 1).2.1 (textR r bad 1).2.2 w' ∧ w.grownBy w' (some b) := numFlag_any b r bad 1 (by omega) w h
set_option maxHeartbeats 16000000 in
theorem decodeNode_any (s : ByteArray) (x : Int) (w : World) :
  Calls Tryd.prog 30 #[.string s, .int .i64 x] w fun e w' => e = .returned (nodeV (decI s x)) ∧ Below w.heap.size w w' := by
 by_cases hw : isW x = true
 ·unfold decI; have hf := text1_lt (sizedR (sizedR s false).2.1 (sizedR s false).2.2).2.1 (sizedR (sizedR s false).2.1 (sizedR s false).2.2).2.2; obtain ⟨k, rk, bk, hk⟩ : ∃ k rk bk, sizedR s false = (k, rk, bk) := ⟨_, _, _, rfl⟩
  rw [hk] at hf ⊢; have HK := Lib.hid hk; clear hk; dsimp only at hf ⊢; obtain ⟨v, rv, bv, hv⟩ : ∃ v rv bv, sizedR rk bk = (v, rv, bv) := ⟨_, _, _, rfl⟩
  rw [hv] at hf ⊢; have HV := Lib.hid hv; clear hv; dsimp only at hf ⊢; generalize hfe : numV (textR rv bv 1).1.data.toList = f at hf ⊢; obtain ⟨ft, rf, bf, hft⟩ : ∃ ft rf bf, textR rv bv 1 = (ft, rf, bf) := ⟨_, _, _, rfl⟩
  rw [hft] at hfe ⊢; have HF := Lib.hid hft; clear hft; dsimp only at hfe; have HFE := Lib.hid hfe; clear hfe; have hb1 := bitsAnd1 f hf; have hb2 := bitsAnd2 f hf; clear hf; obtain ⟨l, rl, bl, hl⟩ : ∃ l rl bl, optText (decide (f % 2 = 1)) (ft, rf, bf) x = (l, rl, bl) := ⟨_, _, _, rfl⟩
  rw [hl]; obtain ⟨r, rr, br, hr⟩ : ∃ r rr br, optText (decide (f / 2 % 2 = 1)) (l, rl, bl) x = (r, rr, br) := ⟨_, _, _, rfl⟩
  rw [hr]; dsimp only; have hcase : br = true ∨ (br = false ∧ rr.toList.isEmpty = false) ∨ (br = false ∧ rr.toList.isEmpty = true ∧ 3 < (f : Int)) ∨ (br = false ∧ rr.toList.isEmpty = true ∧ ¬ 3 < (f : Int) ∧ nodeOk k v l r x = false) ∨ (br = false ∧ rr.toList.isEmpty = true ∧ ¬ 3 < (f : Int) ∧ nodeOk k v l r x = true) := by
   cases br <;> cases rr.toList.isEmpty <;> cases nodeOk k v l r x <;> simp <;> omega
  have hgoal : ∀ z, (if isW x = true ∧ br = false ∧ rr.size = 0 ∧ f ≤ 3 ∧ nodeOk k v l r x = true then some (k, v, l, r) else none) = z → (if isW x = true ∧ br = false ∧ rr.size = 0 ∧ f ≤ 3 ∧ nodeOk k v l r x = true then some (k, v, l, r) else none) = z := fun _ h => h
  clear hgoal; obtain ⟨z, hz⟩ : ∃ z, (if isW x = true ∧ br = false ∧ rr.size = 0 ∧ f ≤ 3 ∧ nodeOk k v l r x = true then some (k, v, l, r) else none) = z := ⟨_, rfl⟩
  rw [hz]; have HZ := Lib.hid hz; clear hz; have HSZ := Lib.hid (isEmpty_size rr); have h01 : f % 2 = 0 ∨ f % 2 = 1 := by omega
  have h02 : f / 2 % 2 = 0 ∨ f / 2 % 2 = 1 := by omega
  rcases h01 with h1 | h1
  all_goals
   rcases h02 with h2 | h2
   all_goals
    rw [h1] at hb1; rw [h2] at hb2; simp only [h1, h2, optText, decide_true, if_true, Nat.zero_ne_one, decide_false, Bool.false_eq_true, if_false, Prod.mk.injEq] at hl hr; have HL := Lib.hid hl; clear hl; have HR := Lib.hid hr; clear hr; clear h1 h2
  --CASES
  --CASES
  --CASES
  --CASES
  ·obtain ⟨rfl, rfl, rfl⟩ := HL.out; obtain ⟨rfl, rfl, rfl⟩ := HR.out
   rcases hcase with h | ⟨h, h3⟩ | ⟨h, h3, h4⟩ | ⟨h, h3, h4, h5⟩ | ⟨h, h3, h4, h5⟩
   all_goals
    subst h
    go_enter Tryd.func30, Tryd.ntmps30
    go_wp2_with (first | (go_at_call 66; refine (isWidth_any _ _).mono ?_; rintro e wq ⟨rfl, rfl⟩) | (go_at_call 85; refine (rsized_any _ _ _ _ (by first | exact Rdr.fresh2 _ _ (by simp) | (first | assumption | exact Rdr.alloc2 (by assumption) _ | exact Rdr.setFar (by assumption) _ _ (by first | (simp; done) | (simp; omega) | omega)))).mono ?_; rintro e wr ⟨rfl, hR, hg⟩; (first | rw [HK.out] at hR ⊢ | rw [HV.out] at hR ⊢); dsimp only at hR ⊢; (have hz := hg.size; (try simp only [World.size_alloc, World.size_setCell, World.size_drew] at hz); obtain ⟨gc, gf⟩ := gcell hg; (try simp only [World.size_alloc, World.size_setCell, World.size_drew] at gc); (try simp only [World.size_alloc, World.size_setCell, World.size_drew] at gf); have rc := hR.c0; have rd := hR.c1; have rf := hR.f 0; have rg := hR.f 1); have q0 : w.heap.size < wr.heap.size := (by omega); have q1 : wr.heap.size ≠ w.heap.size + 1 := (by omega); have q3 : wr.heap.size ≠ w.heap.size := (by omega); have q4 : w.heap.size ≠ wr.heap.size := (by omega)) | (go_at_call 86; refine (numFlag1_any _ _ _ _ (by (first | assumption | exact Rdr.alloc2 (by assumption) _ | exact Rdr.setFar (by assumption) _ _ (by first | (simp; done) | (simp; omega) | omega)))).mono ?_; rintro e wf ⟨rfl, hR, hg⟩; rw [HF.out] at hR ⊢; dsimp only at hR ⊢; rw [HFE.out]; (have hz := hg.size; (try simp only [World.size_alloc, World.size_setCell, World.size_drew] at hz); obtain ⟨gc, gf⟩ := gcell hg; (try simp only [World.size_alloc, World.size_setCell, World.size_drew] at gc); (try simp only [World.size_alloc, World.size_setCell, World.size_drew] at gf); have rc := hR.c0; have rd := hR.c1; have rf := hR.f 0; have rg := hR.f 1); have q0 : w.heap.size < wf.heap.size := (by omega); have q2 : wr.heap.size < wf.heap.size := (by omega)) | (go_at_call 87; refine (text_any _ _ _ _ _ (by (first | assumption | exact Rdr.alloc2 (by assumption) _ | exact Rdr.setFar (by assumption) _ _ (by first | (simp; done) | (simp; omega) | omega)))).mono ?_; rintro e wt ⟨rfl, hR, hg⟩; (first | rw [HL.out] at hR ⊢ | rw [HR.out] at hR ⊢); dsimp only at hR ⊢; (have hz := hg.size; (try simp only [World.size_alloc, World.size_setCell, World.size_drew] at hz); obtain ⟨gc, gf⟩ := gcell hg; (try simp only [World.size_alloc, World.size_setCell, World.size_drew] at gc); (try simp only [World.size_alloc, World.size_setCell, World.size_drew] at gf); have rc := hR.c0; have rd := hR.c1; have rf := hR.f 0; have rg := hR.f 1); have q0 : w.heap.size < wt.heap.size := (by omega); have q2 : wr.heap.size < wt.heap.size := (by omega)) | (go_at_call 76; refine (nodeValid_any _ _ _ _ _ _).mono ?_; rintro e wy ⟨rfl, hby⟩; obtain ⟨hcy, hfy⟩ := bcell hby; have hzy := hby.size; (try simp only [World.size_alloc, World.size_setCell, World.size_drew] at hzy); (try simp only [World.size_alloc, World.size_setCell, World.size_drew] at hcy); (try simp only [World.size_alloc, World.size_setCell, World.size_drew] at hfy); have q0 : w.heap.size < wy.heap.size := (by omega); have q2 : wr.heap.size < wy.heap.size := (by omega)))
   ·all_goals
     have t0 : wf.cell? ⟨w.heap.size, 0, none⟩ = some (.string ⟨#[]⟩) := by go_simp
     have t1 : wf.cell? ⟨w.heap.size, 1, none⟩ = some (.string ⟨#[]⟩) := by go_simp
     have t2 : wf.cell? ⟨w.heap.size, 2, none⟩ = some (.string ⟨#[]⟩) := by go_simp
     have t3 : wf.cell? ⟨w.heap.size, 3, none⟩ = some (.string ⟨#[]⟩) := by go_simp
     refine bodyPost_ret (v := .tuple #[.agg #[.string ⟨#[]⟩, .string ⟨#[]⟩, .string ⟨#[]⟩, .string ⟨#[]⟩], .bool false]) (by simp [results, Tryd.results30, go_sem, t0, t1, t2, t3, q3, q4]; try rfl) rfl ⟨?_, ?_⟩
     ·have e : z = none := by rw [← HZ.out]; exact if_neg (fun q => by simp at q)
      rw [e]; rfl
     ·(repeat' (first | exact Below.refl _ _ | (with_reducible assumption) | (with_reducible refine Below.setCell ?_ (by first | (simp; done) | (simp; omega)) _) | refine below_rdr ?_ (by assumption) (by omega) | refine below_then ?_ (by assumption) | (with_reducible refine below_new2 ?_ _)))
   ·all_goals
     have t0 : wf.cell? ⟨w.heap.size, 0, none⟩ = some (.string ⟨#[]⟩) := by go_simp
     have t1 : wf.cell? ⟨w.heap.size, 1, none⟩ = some (.string ⟨#[]⟩) := by go_simp
     have t2 : wf.cell? ⟨w.heap.size, 2, none⟩ = some (.string ⟨#[]⟩) := by go_simp
     have t3 : wf.cell? ⟨w.heap.size, 3, none⟩ = some (.string ⟨#[]⟩) := by go_simp
     refine bodyPost_ret (v := .tuple #[.agg #[.string ⟨#[]⟩, .string ⟨#[]⟩, .string ⟨#[]⟩, .string ⟨#[]⟩], .bool false]) (by simp [results, Tryd.results30, go_sem, t0, t1, t2, t3, q3, q4]; try rfl) rfl ⟨?_, ?_⟩
     ·have e : z = none := by rw [← HZ.out]; exact if_neg (fun q => by have e := HSZ.out; rw [h3, q.2.2.1] at e; simp at e)
      rw [e]; rfl
     ·(repeat' (first | exact Below.refl _ _ | (with_reducible assumption) | (with_reducible refine Below.setCell ?_ (by first | (simp; done) | (simp; omega)) _) | refine below_rdr ?_ (by assumption) (by omega) | refine below_then ?_ (by assumption) | (with_reducible refine below_new2 ?_ _)))
   ·all_goals
     have t0 : wf.cell? ⟨w.heap.size, 0, none⟩ = some (.string ⟨#[]⟩) := by go_simp
     have t1 : wf.cell? ⟨w.heap.size, 1, none⟩ = some (.string ⟨#[]⟩) := by go_simp
     have t2 : wf.cell? ⟨w.heap.size, 2, none⟩ = some (.string ⟨#[]⟩) := by go_simp
     have t3 : wf.cell? ⟨w.heap.size, 3, none⟩ = some (.string ⟨#[]⟩) := by go_simp
     refine bodyPost_ret (v := .tuple #[.agg #[.string ⟨#[]⟩, .string ⟨#[]⟩, .string ⟨#[]⟩, .string ⟨#[]⟩], .bool false]) (by simp [results, Tryd.results30, go_sem, t0, t1, t2, t3, q3, q4]; try rfl) rfl ⟨?_, ?_⟩
     ·have e : z = none := by rw [← HZ.out]; exact if_neg (fun q => by have := q.2.2.2.1; omega)
      rw [e]; rfl
     ·(repeat' (first | exact Below.refl _ _ | (with_reducible assumption) | (with_reducible refine Below.setCell ?_ (by first | (simp; done) | (simp; omega)) _) | refine below_rdr ?_ (by assumption) (by omega) | refine below_then ?_ (by assumption) | (with_reducible refine below_new2 ?_ _)))
   ·all_goals
     have t0 : wy.cell? ⟨w.heap.size, 0, none⟩ = some (.string ⟨#[]⟩) := by go_simp
     have t1 : wy.cell? ⟨w.heap.size, 1, none⟩ = some (.string ⟨#[]⟩) := by go_simp
     have t2 : wy.cell? ⟨w.heap.size, 2, none⟩ = some (.string ⟨#[]⟩) := by go_simp
     have t3 : wy.cell? ⟨w.heap.size, 3, none⟩ = some (.string ⟨#[]⟩) := by go_simp
     refine bodyPost_ret (v := .tuple #[.agg #[.string ⟨#[]⟩, .string ⟨#[]⟩, .string ⟨#[]⟩, .string ⟨#[]⟩], .bool false]) (by simp [results, Tryd.results30, go_sem, t0, t1, t2, t3, q3, q4]; try rfl) rfl ⟨?_, ?_⟩
     ·have e : z = none := by rw [← HZ.out]; exact if_neg (fun q => by rw [h5] at q; simp at q)
      rw [e]; rfl
     ·(repeat' (first | exact Below.refl _ _ | (with_reducible assumption) | (with_reducible refine Below.setCell ?_ (by first | (simp; done) | (simp; omega)) _) | refine below_rdr ?_ (by assumption) (by omega) | refine below_then ?_ (by assumption) | (with_reducible refine below_new2 ?_ _)))
   ·all_goals
     have t0 : wy.cell? ⟨w.heap.size, 0, none⟩ = some (.string ⟨#[]⟩) := by go_simp
     have t1 : wy.cell? ⟨w.heap.size, 1, none⟩ = some (.string ⟨#[]⟩) := by go_simp
     have t2 : wy.cell? ⟨w.heap.size, 2, none⟩ = some (.string ⟨#[]⟩) := by go_simp
     have t3 : wy.cell? ⟨w.heap.size, 3, none⟩ = some (.string ⟨#[]⟩) := by go_simp
     refine bodyPost_ret (v := .tuple #[.agg #[.string k, .string v, .string ⟨#[]⟩, .string ⟨#[]⟩], .bool true]) (by simp [results, Tryd.results30, go_sem, t0, t1, t2, t3, q3, q4]; try rfl) rfl ⟨?_, ?_⟩
     ·have e : z = some (k, v, ⟨#[]⟩, ⟨#[]⟩) := by rw [← HZ.out]; have e := HSZ.out; rw [h3] at e; have e2 := of_decide_eq_true e.symm; have e3 : f ≤ 3 := (by omega); exact if_pos (by simp [hw, e2, h5, e3])
      rw [e]; rfl
     ·(repeat' (first | exact Below.refl _ _ | (with_reducible assumption) | (with_reducible refine Below.setCell ?_ (by first | (simp; done) | (simp; omega)) _) | refine below_rdr ?_ (by assumption) (by omega) | refine below_then ?_ (by assumption) | (with_reducible refine below_new2 ?_ _)))
  ·obtain ⟨rfl, rfl, rfl⟩ := HL.out
   rcases hcase with h | ⟨h, h3⟩ | ⟨h, h3, h4⟩ | ⟨h, h3, h4, h5⟩ | ⟨h, h3, h4, h5⟩
   all_goals
    subst h
    go_enter Tryd.func30, Tryd.ntmps30
    go_wp2_with (first | (go_at_call 66; refine (isWidth_any _ _).mono ?_; rintro e wq ⟨rfl, rfl⟩) | (go_at_call 85; refine (rsized_any _ _ _ _ (by first | exact Rdr.fresh2 _ _ (by simp) | (first | assumption | exact Rdr.alloc2 (by assumption) _ | exact Rdr.setFar (by assumption) _ _ (by first | (simp; done) | (simp; omega) | omega)))).mono ?_; rintro e wr ⟨rfl, hR, hg⟩; (first | rw [HK.out] at hR ⊢ | rw [HV.out] at hR ⊢); dsimp only at hR ⊢; (have hz := hg.size; (try simp only [World.size_alloc, World.size_setCell, World.size_drew] at hz); obtain ⟨gc, gf⟩ := gcell hg; (try simp only [World.size_alloc, World.size_setCell, World.size_drew] at gc); (try simp only [World.size_alloc, World.size_setCell, World.size_drew] at gf); have rc := hR.c0; have rd := hR.c1; have rf := hR.f 0; have rg := hR.f 1); have q0 : w.heap.size < wr.heap.size := (by omega); have q1 : wr.heap.size ≠ w.heap.size + 1 := (by omega); have q3 : wr.heap.size ≠ w.heap.size := (by omega); have q4 : w.heap.size ≠ wr.heap.size := (by omega)) | (go_at_call 86; refine (numFlag1_any _ _ _ _ (by (first | assumption | exact Rdr.alloc2 (by assumption) _ | exact Rdr.setFar (by assumption) _ _ (by first | (simp; done) | (simp; omega) | omega)))).mono ?_; rintro e wf ⟨rfl, hR, hg⟩; rw [HF.out] at hR ⊢; dsimp only at hR ⊢; rw [HFE.out]; (have hz := hg.size; (try simp only [World.size_alloc, World.size_setCell, World.size_drew] at hz); obtain ⟨gc, gf⟩ := gcell hg; (try simp only [World.size_alloc, World.size_setCell, World.size_drew] at gc); (try simp only [World.size_alloc, World.size_setCell, World.size_drew] at gf); have rc := hR.c0; have rd := hR.c1; have rf := hR.f 0; have rg := hR.f 1); have q0 : w.heap.size < wf.heap.size := (by omega); have q2 : wr.heap.size < wf.heap.size := (by omega)) | (go_at_call 87; refine (text_any _ _ _ _ _ (by (first | assumption | exact Rdr.alloc2 (by assumption) _ | exact Rdr.setFar (by assumption) _ _ (by first | (simp; done) | (simp; omega) | omega)))).mono ?_; rintro e wt ⟨rfl, hR, hg⟩; (first | rw [HL.out] at hR ⊢ | rw [HR.out] at hR ⊢); dsimp only at hR ⊢; (have hz := hg.size; (try simp only [World.size_alloc, World.size_setCell, World.size_drew] at hz); obtain ⟨gc, gf⟩ := gcell hg; (try simp only [World.size_alloc, World.size_setCell, World.size_drew] at gc); (try simp only [World.size_alloc, World.size_setCell, World.size_drew] at gf); have rc := hR.c0; have rd := hR.c1; have rf := hR.f 0; have rg := hR.f 1); have q0 : w.heap.size < wt.heap.size := (by omega); have q2 : wr.heap.size < wt.heap.size := (by omega)) | (go_at_call 76; refine (nodeValid_any _ _ _ _ _ _).mono ?_; rintro e wy ⟨rfl, hby⟩; obtain ⟨hcy, hfy⟩ := bcell hby; have hzy := hby.size; (try simp only [World.size_alloc, World.size_setCell, World.size_drew] at hzy); (try simp only [World.size_alloc, World.size_setCell, World.size_drew] at hcy); (try simp only [World.size_alloc, World.size_setCell, World.size_drew] at hfy); have q0 : w.heap.size < wy.heap.size := (by omega); have q2 : wr.heap.size < wy.heap.size := (by omega)))
   ·all_goals
     have t0 : wt.cell? ⟨w.heap.size, 0, none⟩ = some (.string ⟨#[]⟩) := by go_simp
     have t1 : wt.cell? ⟨w.heap.size, 1, none⟩ = some (.string ⟨#[]⟩) := by go_simp
     have t2 : wt.cell? ⟨w.heap.size, 2, none⟩ = some (.string ⟨#[]⟩) := by go_simp
     have t3 : wt.cell? ⟨w.heap.size, 3, none⟩ = some (.string ⟨#[]⟩) := by go_simp
     refine bodyPost_ret (v := .tuple #[.agg #[.string ⟨#[]⟩, .string ⟨#[]⟩, .string ⟨#[]⟩, .string ⟨#[]⟩], .bool false]) (by simp [results, Tryd.results30, go_sem, t0, t1, t2, t3, q3, q4]; try rfl) rfl ⟨?_, ?_⟩
     ·have e : z = none := by rw [← HZ.out]; exact if_neg (fun q => by simp at q)
      rw [e]; rfl
     ·(repeat' (first | exact Below.refl _ _ | (with_reducible assumption) | (with_reducible refine Below.setCell ?_ (by first | (simp; done) | (simp; omega)) _) | refine below_rdr ?_ (by assumption) (by omega) | refine below_then ?_ (by assumption) | (with_reducible refine below_new2 ?_ _)))
   ·all_goals
     have t0 : wt.cell? ⟨w.heap.size, 0, none⟩ = some (.string ⟨#[]⟩) := by go_simp
     have t1 : wt.cell? ⟨w.heap.size, 1, none⟩ = some (.string ⟨#[]⟩) := by go_simp
     have t2 : wt.cell? ⟨w.heap.size, 2, none⟩ = some (.string ⟨#[]⟩) := by go_simp
     have t3 : wt.cell? ⟨w.heap.size, 3, none⟩ = some (.string ⟨#[]⟩) := by go_simp
     refine bodyPost_ret (v := .tuple #[.agg #[.string ⟨#[]⟩, .string ⟨#[]⟩, .string ⟨#[]⟩, .string ⟨#[]⟩], .bool false]) (by simp [results, Tryd.results30, go_sem, t0, t1, t2, t3, q3, q4]; try rfl) rfl ⟨?_, ?_⟩
     ·have e : z = none := by rw [← HZ.out]; exact if_neg (fun q => by have e := HSZ.out; rw [h3, q.2.2.1] at e; simp at e)
      rw [e]; rfl
     ·(repeat' (first | exact Below.refl _ _ | (with_reducible assumption) | (with_reducible refine Below.setCell ?_ (by first | (simp; done) | (simp; omega)) _) | refine below_rdr ?_ (by assumption) (by omega) | refine below_then ?_ (by assumption) | (with_reducible refine below_new2 ?_ _)))
   ·all_goals
     have t0 : wt.cell? ⟨w.heap.size, 0, none⟩ = some (.string ⟨#[]⟩) := by go_simp
     have t1 : wt.cell? ⟨w.heap.size, 1, none⟩ = some (.string ⟨#[]⟩) := by go_simp
     have t2 : wt.cell? ⟨w.heap.size, 2, none⟩ = some (.string ⟨#[]⟩) := by go_simp
     have t3 : wt.cell? ⟨w.heap.size, 3, none⟩ = some (.string ⟨#[]⟩) := by go_simp
     refine bodyPost_ret (v := .tuple #[.agg #[.string ⟨#[]⟩, .string ⟨#[]⟩, .string ⟨#[]⟩, .string ⟨#[]⟩], .bool false]) (by simp [results, Tryd.results30, go_sem, t0, t1, t2, t3, q3, q4]; try rfl) rfl ⟨?_, ?_⟩
     ·have e : z = none := by rw [← HZ.out]; exact if_neg (fun q => by have := q.2.2.2.1; omega)
      rw [e]; rfl
     ·(repeat' (first | exact Below.refl _ _ | (with_reducible assumption) | (with_reducible refine Below.setCell ?_ (by first | (simp; done) | (simp; omega)) _) | refine below_rdr ?_ (by assumption) (by omega) | refine below_then ?_ (by assumption) | (with_reducible refine below_new2 ?_ _)))
   ·all_goals
     have t0 : wy.cell? ⟨w.heap.size, 0, none⟩ = some (.string ⟨#[]⟩) := by go_simp
     have t1 : wy.cell? ⟨w.heap.size, 1, none⟩ = some (.string ⟨#[]⟩) := by go_simp
     have t2 : wy.cell? ⟨w.heap.size, 2, none⟩ = some (.string ⟨#[]⟩) := by go_simp
     have t3 : wy.cell? ⟨w.heap.size, 3, none⟩ = some (.string ⟨#[]⟩) := by go_simp
     refine bodyPost_ret (v := .tuple #[.agg #[.string ⟨#[]⟩, .string ⟨#[]⟩, .string ⟨#[]⟩, .string ⟨#[]⟩], .bool false]) (by simp [results, Tryd.results30, go_sem, t0, t1, t2, t3, q3, q4]; try rfl) rfl ⟨?_, ?_⟩
     ·have e : z = none := by rw [← HZ.out]; exact if_neg (fun q => by rw [h5] at q; simp at q)
      rw [e]; rfl
     ·(repeat' (first | exact Below.refl _ _ | (with_reducible assumption) | (with_reducible refine Below.setCell ?_ (by first | (simp; done) | (simp; omega)) _) | refine below_rdr ?_ (by assumption) (by omega) | refine below_then ?_ (by assumption) | (with_reducible refine below_new2 ?_ _)))
   ·all_goals
     have t0 : wy.cell? ⟨w.heap.size, 0, none⟩ = some (.string ⟨#[]⟩) := by go_simp
     have t1 : wy.cell? ⟨w.heap.size, 1, none⟩ = some (.string ⟨#[]⟩) := by go_simp
     have t2 : wy.cell? ⟨w.heap.size, 2, none⟩ = some (.string ⟨#[]⟩) := by go_simp
     have t3 : wy.cell? ⟨w.heap.size, 3, none⟩ = some (.string ⟨#[]⟩) := by go_simp
     refine bodyPost_ret (v := .tuple #[.agg #[.string k, .string v, .string ⟨#[]⟩, .string r], .bool true]) (by simp [results, Tryd.results30, go_sem, t0, t1, t2, t3, q3, q4]; try rfl) rfl ⟨?_, ?_⟩
     ·have e : z = some (k, v, ⟨#[]⟩, r) := by rw [← HZ.out]; have e := HSZ.out; rw [h3] at e; have e2 := of_decide_eq_true e.symm; have e3 : f ≤ 3 := (by omega); exact if_pos (by simp [hw, e2, h5, e3])
      rw [e]; rfl
     ·(repeat' (first | exact Below.refl _ _ | (with_reducible assumption) | (with_reducible refine Below.setCell ?_ (by first | (simp; done) | (simp; omega)) _) | refine below_rdr ?_ (by assumption) (by omega) | refine below_then ?_ (by assumption) | (with_reducible refine below_new2 ?_ _)))
  ·obtain ⟨rfl, rfl, rfl⟩ := HR.out
   rcases hcase with h | ⟨h, h3⟩ | ⟨h, h3, h4⟩ | ⟨h, h3, h4, h5⟩ | ⟨h, h3, h4, h5⟩
   all_goals
    subst h
    go_enter Tryd.func30, Tryd.ntmps30
    go_wp2_with (first | (go_at_call 66; refine (isWidth_any _ _).mono ?_; rintro e wq ⟨rfl, rfl⟩) | (go_at_call 85; refine (rsized_any _ _ _ _ (by first | exact Rdr.fresh2 _ _ (by simp) | (first | assumption | exact Rdr.alloc2 (by assumption) _ | exact Rdr.setFar (by assumption) _ _ (by first | (simp; done) | (simp; omega) | omega)))).mono ?_; rintro e wr ⟨rfl, hR, hg⟩; (first | rw [HK.out] at hR ⊢ | rw [HV.out] at hR ⊢); dsimp only at hR ⊢; (have hz := hg.size; (try simp only [World.size_alloc, World.size_setCell, World.size_drew] at hz); obtain ⟨gc, gf⟩ := gcell hg; (try simp only [World.size_alloc, World.size_setCell, World.size_drew] at gc); (try simp only [World.size_alloc, World.size_setCell, World.size_drew] at gf); have rc := hR.c0; have rd := hR.c1; have rf := hR.f 0; have rg := hR.f 1); have q0 : w.heap.size < wr.heap.size := (by omega); have q1 : wr.heap.size ≠ w.heap.size + 1 := (by omega); have q3 : wr.heap.size ≠ w.heap.size := (by omega); have q4 : w.heap.size ≠ wr.heap.size := (by omega)) | (go_at_call 86; refine (numFlag1_any _ _ _ _ (by (first | assumption | exact Rdr.alloc2 (by assumption) _ | exact Rdr.setFar (by assumption) _ _ (by first | (simp; done) | (simp; omega) | omega)))).mono ?_; rintro e wf ⟨rfl, hR, hg⟩; rw [HF.out] at hR ⊢; dsimp only at hR ⊢; rw [HFE.out]; (have hz := hg.size; (try simp only [World.size_alloc, World.size_setCell, World.size_drew] at hz); obtain ⟨gc, gf⟩ := gcell hg; (try simp only [World.size_alloc, World.size_setCell, World.size_drew] at gc); (try simp only [World.size_alloc, World.size_setCell, World.size_drew] at gf); have rc := hR.c0; have rd := hR.c1; have rf := hR.f 0; have rg := hR.f 1); have q0 : w.heap.size < wf.heap.size := (by omega); have q2 : wr.heap.size < wf.heap.size := (by omega)) | (go_at_call 87; refine (text_any _ _ _ _ _ (by (first | assumption | exact Rdr.alloc2 (by assumption) _ | exact Rdr.setFar (by assumption) _ _ (by first | (simp; done) | (simp; omega) | omega)))).mono ?_; rintro e wt ⟨rfl, hR, hg⟩; (first | rw [HL.out] at hR ⊢ | rw [HR.out] at hR ⊢); dsimp only at hR ⊢; (have hz := hg.size; (try simp only [World.size_alloc, World.size_setCell, World.size_drew] at hz); obtain ⟨gc, gf⟩ := gcell hg; (try simp only [World.size_alloc, World.size_setCell, World.size_drew] at gc); (try simp only [World.size_alloc, World.size_setCell, World.size_drew] at gf); have rc := hR.c0; have rd := hR.c1; have rf := hR.f 0; have rg := hR.f 1); have q0 : w.heap.size < wt.heap.size := (by omega); have q2 : wr.heap.size < wt.heap.size := (by omega)) | (go_at_call 76; refine (nodeValid_any _ _ _ _ _ _).mono ?_; rintro e wy ⟨rfl, hby⟩; obtain ⟨hcy, hfy⟩ := bcell hby; have hzy := hby.size; (try simp only [World.size_alloc, World.size_setCell, World.size_drew] at hzy); (try simp only [World.size_alloc, World.size_setCell, World.size_drew] at hcy); (try simp only [World.size_alloc, World.size_setCell, World.size_drew] at hfy); have q0 : w.heap.size < wy.heap.size := (by omega); have q2 : wr.heap.size < wy.heap.size := (by omega)))
   ·all_goals
     have t0 : wt.cell? ⟨w.heap.size, 0, none⟩ = some (.string ⟨#[]⟩) := by go_simp
     have t1 : wt.cell? ⟨w.heap.size, 1, none⟩ = some (.string ⟨#[]⟩) := by go_simp
     have t2 : wt.cell? ⟨w.heap.size, 2, none⟩ = some (.string ⟨#[]⟩) := by go_simp
     have t3 : wt.cell? ⟨w.heap.size, 3, none⟩ = some (.string ⟨#[]⟩) := by go_simp
     refine bodyPost_ret (v := .tuple #[.agg #[.string ⟨#[]⟩, .string ⟨#[]⟩, .string ⟨#[]⟩, .string ⟨#[]⟩], .bool false]) (by simp [results, Tryd.results30, go_sem, t0, t1, t2, t3, q3, q4]; try rfl) rfl ⟨?_, ?_⟩
     ·have e : z = none := by rw [← HZ.out]; exact if_neg (fun q => by simp at q)
      rw [e]; rfl
     ·(repeat' (first | exact Below.refl _ _ | (with_reducible assumption) | (with_reducible refine Below.setCell ?_ (by first | (simp; done) | (simp; omega)) _) | refine below_rdr ?_ (by assumption) (by omega) | refine below_then ?_ (by assumption) | (with_reducible refine below_new2 ?_ _)))
   ·all_goals
     have t0 : wt.cell? ⟨w.heap.size, 0, none⟩ = some (.string ⟨#[]⟩) := by go_simp
     have t1 : wt.cell? ⟨w.heap.size, 1, none⟩ = some (.string ⟨#[]⟩) := by go_simp
     have t2 : wt.cell? ⟨w.heap.size, 2, none⟩ = some (.string ⟨#[]⟩) := by go_simp
     have t3 : wt.cell? ⟨w.heap.size, 3, none⟩ = some (.string ⟨#[]⟩) := by go_simp
     refine bodyPost_ret (v := .tuple #[.agg #[.string ⟨#[]⟩, .string ⟨#[]⟩, .string ⟨#[]⟩, .string ⟨#[]⟩], .bool false]) (by simp [results, Tryd.results30, go_sem, t0, t1, t2, t3, q3, q4]; try rfl) rfl ⟨?_, ?_⟩
     ·have e : z = none := by rw [← HZ.out]; exact if_neg (fun q => by have e := HSZ.out; rw [h3, q.2.2.1] at e; simp at e)
      rw [e]; rfl
     ·(repeat' (first | exact Below.refl _ _ | (with_reducible assumption) | (with_reducible refine Below.setCell ?_ (by first | (simp; done) | (simp; omega)) _) | refine below_rdr ?_ (by assumption) (by omega) | refine below_then ?_ (by assumption) | (with_reducible refine below_new2 ?_ _)))
   ·all_goals
     have t0 : wt.cell? ⟨w.heap.size, 0, none⟩ = some (.string ⟨#[]⟩) := by go_simp
     have t1 : wt.cell? ⟨w.heap.size, 1, none⟩ = some (.string ⟨#[]⟩) := by go_simp
     have t2 : wt.cell? ⟨w.heap.size, 2, none⟩ = some (.string ⟨#[]⟩) := by go_simp
     have t3 : wt.cell? ⟨w.heap.size, 3, none⟩ = some (.string ⟨#[]⟩) := by go_simp
     refine bodyPost_ret (v := .tuple #[.agg #[.string ⟨#[]⟩, .string ⟨#[]⟩, .string ⟨#[]⟩, .string ⟨#[]⟩], .bool false]) (by simp [results, Tryd.results30, go_sem, t0, t1, t2, t3, q3, q4]; try rfl) rfl ⟨?_, ?_⟩
     ·have e : z = none := by rw [← HZ.out]; exact if_neg (fun q => by have := q.2.2.2.1; omega)
      rw [e]; rfl
     ·(repeat' (first | exact Below.refl _ _ | (with_reducible assumption) | (with_reducible refine Below.setCell ?_ (by first | (simp; done) | (simp; omega)) _) | refine below_rdr ?_ (by assumption) (by omega) | refine below_then ?_ (by assumption) | (with_reducible refine below_new2 ?_ _)))
   ·all_goals
     have t0 : wy.cell? ⟨w.heap.size, 0, none⟩ = some (.string ⟨#[]⟩) := by go_simp
     have t1 : wy.cell? ⟨w.heap.size, 1, none⟩ = some (.string ⟨#[]⟩) := by go_simp
     have t2 : wy.cell? ⟨w.heap.size, 2, none⟩ = some (.string ⟨#[]⟩) := by go_simp
     have t3 : wy.cell? ⟨w.heap.size, 3, none⟩ = some (.string ⟨#[]⟩) := by go_simp
     refine bodyPost_ret (v := .tuple #[.agg #[.string ⟨#[]⟩, .string ⟨#[]⟩, .string ⟨#[]⟩, .string ⟨#[]⟩], .bool false]) (by simp [results, Tryd.results30, go_sem, t0, t1, t2, t3, q3, q4]; try rfl) rfl ⟨?_, ?_⟩
     ·have e : z = none := by rw [← HZ.out]; exact if_neg (fun q => by rw [h5] at q; simp at q)
      rw [e]; rfl
     ·(repeat' (first | exact Below.refl _ _ | (with_reducible assumption) | (with_reducible refine Below.setCell ?_ (by first | (simp; done) | (simp; omega)) _) | refine below_rdr ?_ (by assumption) (by omega) | refine below_then ?_ (by assumption) | (with_reducible refine below_new2 ?_ _)))
   ·all_goals
     have t0 : wy.cell? ⟨w.heap.size, 0, none⟩ = some (.string ⟨#[]⟩) := by go_simp
     have t1 : wy.cell? ⟨w.heap.size, 1, none⟩ = some (.string ⟨#[]⟩) := by go_simp
     have t2 : wy.cell? ⟨w.heap.size, 2, none⟩ = some (.string ⟨#[]⟩) := by go_simp
     have t3 : wy.cell? ⟨w.heap.size, 3, none⟩ = some (.string ⟨#[]⟩) := by go_simp
     refine bodyPost_ret (v := .tuple #[.agg #[.string k, .string v, .string l, .string ⟨#[]⟩], .bool true]) (by simp [results, Tryd.results30, go_sem, t0, t1, t2, t3, q3, q4]; try rfl) rfl ⟨?_, ?_⟩
     ·have e : z = some (k, v, l, ⟨#[]⟩) := by rw [← HZ.out]; have e := HSZ.out; rw [h3] at e; have e2 := of_decide_eq_true e.symm; have e3 : f ≤ 3 := (by omega); exact if_pos (by simp [hw, e2, h5, e3])
      rw [e]; rfl
     ·(repeat' (first | exact Below.refl _ _ | (with_reducible assumption) | (with_reducible refine Below.setCell ?_ (by first | (simp; done) | (simp; omega)) _) | refine below_rdr ?_ (by assumption) (by omega) | refine below_then ?_ (by assumption) | (with_reducible refine below_new2 ?_ _)))
  ·rcases hcase with h | ⟨h, h3⟩ | ⟨h, h3, h4⟩ | ⟨h, h3, h4, h5⟩ | ⟨h, h3, h4, h5⟩
   all_goals
    subst h
    go_enter Tryd.func30, Tryd.ntmps30
    go_wp2_with (first | (go_at_call 66; refine (isWidth_any _ _).mono ?_; rintro e wq ⟨rfl, rfl⟩) | (go_at_call 85; refine (rsized_any _ _ _ _ (by first | exact Rdr.fresh2 _ _ (by simp) | (first | assumption | exact Rdr.alloc2 (by assumption) _ | exact Rdr.setFar (by assumption) _ _ (by first | (simp; done) | (simp; omega) | omega)))).mono ?_; rintro e wr ⟨rfl, hR, hg⟩; (first | rw [HK.out] at hR ⊢ | rw [HV.out] at hR ⊢); dsimp only at hR ⊢; (have hz := hg.size; (try simp only [World.size_alloc, World.size_setCell, World.size_drew] at hz); obtain ⟨gc, gf⟩ := gcell hg; (try simp only [World.size_alloc, World.size_setCell, World.size_drew] at gc); (try simp only [World.size_alloc, World.size_setCell, World.size_drew] at gf); have rc := hR.c0; have rd := hR.c1; have rf := hR.f 0; have rg := hR.f 1); have q0 : w.heap.size < wr.heap.size := (by omega); have q1 : wr.heap.size ≠ w.heap.size + 1 := (by omega); have q3 : wr.heap.size ≠ w.heap.size := (by omega); have q4 : w.heap.size ≠ wr.heap.size := (by omega)) | (go_at_call 86; refine (numFlag1_any _ _ _ _ (by (first | assumption | exact Rdr.alloc2 (by assumption) _ | exact Rdr.setFar (by assumption) _ _ (by first | (simp; done) | (simp; omega) | omega)))).mono ?_; rintro e wf ⟨rfl, hR, hg⟩; rw [HF.out] at hR ⊢; dsimp only at hR ⊢; rw [HFE.out]; (have hz := hg.size; (try simp only [World.size_alloc, World.size_setCell, World.size_drew] at hz); obtain ⟨gc, gf⟩ := gcell hg; (try simp only [World.size_alloc, World.size_setCell, World.size_drew] at gc); (try simp only [World.size_alloc, World.size_setCell, World.size_drew] at gf); have rc := hR.c0; have rd := hR.c1; have rf := hR.f 0; have rg := hR.f 1); have q0 : w.heap.size < wf.heap.size := (by omega); have q2 : wr.heap.size < wf.heap.size := (by omega)) | (go_at_call 87; refine (text_any _ _ _ _ _ (by (first | assumption | exact Rdr.alloc2 (by assumption) _ | exact Rdr.setFar (by assumption) _ _ (by first | (simp; done) | (simp; omega) | omega)))).mono ?_; rintro e wt ⟨rfl, hR, hg⟩; (first | rw [HL.out] at hR ⊢ | rw [HR.out] at hR ⊢); dsimp only at hR ⊢; (have hz := hg.size; (try simp only [World.size_alloc, World.size_setCell, World.size_drew] at hz); obtain ⟨gc, gf⟩ := gcell hg; (try simp only [World.size_alloc, World.size_setCell, World.size_drew] at gc); (try simp only [World.size_alloc, World.size_setCell, World.size_drew] at gf); have rc := hR.c0; have rd := hR.c1; have rf := hR.f 0; have rg := hR.f 1); have q0 : w.heap.size < wt.heap.size := (by omega); have q2 : wr.heap.size < wt.heap.size := (by omega)) | (go_at_call 76; refine (nodeValid_any _ _ _ _ _ _).mono ?_; rintro e wy ⟨rfl, hby⟩; obtain ⟨hcy, hfy⟩ := bcell hby; have hzy := hby.size; (try simp only [World.size_alloc, World.size_setCell, World.size_drew] at hzy); (try simp only [World.size_alloc, World.size_setCell, World.size_drew] at hcy); (try simp only [World.size_alloc, World.size_setCell, World.size_drew] at hfy); have q0 : w.heap.size < wy.heap.size := (by omega); have q2 : wr.heap.size < wy.heap.size := (by omega)))
   ·all_goals
     have t0 : wt.cell? ⟨w.heap.size, 0, none⟩ = some (.string ⟨#[]⟩) := by go_simp
     have t1 : wt.cell? ⟨w.heap.size, 1, none⟩ = some (.string ⟨#[]⟩) := by go_simp
     have t2 : wt.cell? ⟨w.heap.size, 2, none⟩ = some (.string ⟨#[]⟩) := by go_simp
     have t3 : wt.cell? ⟨w.heap.size, 3, none⟩ = some (.string ⟨#[]⟩) := by go_simp
     refine bodyPost_ret (v := .tuple #[.agg #[.string ⟨#[]⟩, .string ⟨#[]⟩, .string ⟨#[]⟩, .string ⟨#[]⟩], .bool false]) (by simp [results, Tryd.results30, go_sem, t0, t1, t2, t3, q3, q4]; try rfl) rfl ⟨?_, ?_⟩
     ·have e : z = none := by rw [← HZ.out]; exact if_neg (fun q => by simp at q)
      rw [e]; rfl
     ·(repeat' (first | exact Below.refl _ _ | (with_reducible assumption) | (with_reducible refine Below.setCell ?_ (by first | (simp; done) | (simp; omega)) _) | refine below_rdr ?_ (by assumption) (by omega) | refine below_then ?_ (by assumption) | (with_reducible refine below_new2 ?_ _)))
   ·all_goals
     have t0 : wt.cell? ⟨w.heap.size, 0, none⟩ = some (.string ⟨#[]⟩) := by go_simp
     have t1 : wt.cell? ⟨w.heap.size, 1, none⟩ = some (.string ⟨#[]⟩) := by go_simp
     have t2 : wt.cell? ⟨w.heap.size, 2, none⟩ = some (.string ⟨#[]⟩) := by go_simp
     have t3 : wt.cell? ⟨w.heap.size, 3, none⟩ = some (.string ⟨#[]⟩) := by go_simp
     refine bodyPost_ret (v := .tuple #[.agg #[.string ⟨#[]⟩, .string ⟨#[]⟩, .string ⟨#[]⟩, .string ⟨#[]⟩], .bool false]) (by simp [results, Tryd.results30, go_sem, t0, t1, t2, t3, q3, q4]; try rfl) rfl ⟨?_, ?_⟩
     ·have e : z = none := by rw [← HZ.out]; exact if_neg (fun q => by have e := HSZ.out; rw [h3, q.2.2.1] at e; simp at e)
      rw [e]; rfl
     ·(repeat' (first | exact Below.refl _ _ | (with_reducible assumption) | (with_reducible refine Below.setCell ?_ (by first | (simp; done) | (simp; omega)) _) | refine below_rdr ?_ (by assumption) (by omega) | refine below_then ?_ (by assumption) | (with_reducible refine below_new2 ?_ _)))
   ·all_goals
     have t0 : wt.cell? ⟨w.heap.size, 0, none⟩ = some (.string ⟨#[]⟩) := by go_simp
     have t1 : wt.cell? ⟨w.heap.size, 1, none⟩ = some (.string ⟨#[]⟩) := by go_simp
     have t2 : wt.cell? ⟨w.heap.size, 2, none⟩ = some (.string ⟨#[]⟩) := by go_simp
     have t3 : wt.cell? ⟨w.heap.size, 3, none⟩ = some (.string ⟨#[]⟩) := by go_simp
     refine bodyPost_ret (v := .tuple #[.agg #[.string ⟨#[]⟩, .string ⟨#[]⟩, .string ⟨#[]⟩, .string ⟨#[]⟩], .bool false]) (by simp [results, Tryd.results30, go_sem, t0, t1, t2, t3, q3, q4]; try rfl) rfl ⟨?_, ?_⟩
     ·have e : z = none := by rw [← HZ.out]; exact if_neg (fun q => by have := q.2.2.2.1; omega)
      rw [e]; rfl
     ·(repeat' (first | exact Below.refl _ _ | (with_reducible assumption) | (with_reducible refine Below.setCell ?_ (by first | (simp; done) | (simp; omega)) _) | refine below_rdr ?_ (by assumption) (by omega) | refine below_then ?_ (by assumption) | (with_reducible refine below_new2 ?_ _)))
   ·all_goals
     have t0 : wy.cell? ⟨w.heap.size, 0, none⟩ = some (.string ⟨#[]⟩) := by go_simp
     have t1 : wy.cell? ⟨w.heap.size, 1, none⟩ = some (.string ⟨#[]⟩) := by go_simp
     have t2 : wy.cell? ⟨w.heap.size, 2, none⟩ = some (.string ⟨#[]⟩) := by go_simp
     have t3 : wy.cell? ⟨w.heap.size, 3, none⟩ = some (.string ⟨#[]⟩) := by go_simp
     refine bodyPost_ret (v := .tuple #[.agg #[.string ⟨#[]⟩, .string ⟨#[]⟩, .string ⟨#[]⟩, .string ⟨#[]⟩], .bool false]) (by simp [results, Tryd.results30, go_sem, t0, t1, t2, t3, q3, q4]; try rfl) rfl ⟨?_, ?_⟩
     ·have e : z = none := by rw [← HZ.out]; exact if_neg (fun q => by rw [h5] at q; simp at q)
      rw [e]; rfl
     ·(repeat' (first | exact Below.refl _ _ | (with_reducible assumption) | (with_reducible refine Below.setCell ?_ (by first | (simp; done) | (simp; omega)) _) | refine below_rdr ?_ (by assumption) (by omega) | refine below_then ?_ (by assumption) | (with_reducible refine below_new2 ?_ _)))
   ·all_goals
     have t0 : wy.cell? ⟨w.heap.size, 0, none⟩ = some (.string ⟨#[]⟩) := by go_simp
     have t1 : wy.cell? ⟨w.heap.size, 1, none⟩ = some (.string ⟨#[]⟩) := by go_simp
     have t2 : wy.cell? ⟨w.heap.size, 2, none⟩ = some (.string ⟨#[]⟩) := by go_simp
     have t3 : wy.cell? ⟨w.heap.size, 3, none⟩ = some (.string ⟨#[]⟩) := by go_simp
     refine bodyPost_ret (v := .tuple #[.agg #[.string k, .string v, .string l, .string r], .bool true]) (by simp [results, Tryd.results30, go_sem, t0, t1, t2, t3, q3, q4]; try rfl) rfl ⟨?_, ?_⟩
     ·have e : z = some (k, v, l, r) := by rw [← HZ.out]; have e := HSZ.out; rw [h3] at e; have e2 := of_decide_eq_true e.symm; have e3 : f ≤ 3 := (by omega); exact if_pos (by simp [hw, e2, h5, e3])
      rw [e]; rfl
     ·(repeat' (first | exact Below.refl _ _ | (with_reducible assumption) | (with_reducible refine Below.setCell ?_ (by first | (simp; done) | (simp; omega)) _) | refine below_rdr ?_ (by assumption) (by omega) | refine below_then ?_ (by assumption) | (with_reducible refine below_new2 ?_ _)))
 ·have hn : decI s x = none := by unfold decI; simp [hw]
  rw [hn]
  go_enter Tryd.func30, Tryd.ntmps30
  go_wp2_with (first | (go_at_call 66; refine (isWidth_any _ _).mono ?_; rintro e wq ⟨rfl, rfl⟩))
  refine bodyPost_ret (v := nodeV none) (by simp [results, Tryd.results30, go_sem, nodeV]; try rfl) rfl ⟨?_, ?_⟩
  ·rfl
  ·(repeat' (first | exact Below.refl _ _ | (with_reducible assumption) | (with_reducible refine Below.setCell ?_ (by first | (simp; done) | (simp; omega)) _) | refine below_then ?_ (by assumption) | (with_reducible refine below_new2 ?_ _) | (with_reducible refine Below.drew ?_) | (with_reducible refine bdrewN ?_ _)))
end Go.Proofs.YtonbmghgbblifaaDoor
end
section
namespace Go.Proofs.YtonbmghgbblifaaDoor
open Go.RowKit
set_option linter.unusedVariables false
set_option linter.unusedSimpArgs false
def byteAt (s : ByteArray) (i : Nat) : Nat := (s.data.toList.getD i 0).toNat
theorem byteAt_lt (s : ByteArray) (i : Nat) : byteAt s i < 256 := UInt8.toNat_lt _
def pieceS (s : ByteArray) (i : Nat) : Option (ByteArray × Nat) :=
 if s.size < i + 2 then none else if s.size < i + 2 + (byteAt s i * 256 + byteAt s (i + 1)) then none else
  some (s.extract (i + 2) (i + 2 + (byteAt s i * 256 + byteAt s (i + 1))), i + 2 + (byteAt s i * 256 + byteAt s (i + 1)))
theorem pieceS_le {s k : ByteArray} {i n : Nat} (h : pieceS s i = some (k, n)) : n ≤ s.size ∧ i + 2 ≤ n := by
 unfold pieceS at h
 split at h
 ·cases h
 ·split at h
  ·cases h
  ·simp only [Option.some.injEq, Prod.mk.injEq] at h; omega
def finS (s : ByteArray) (x : Int) (k v l r : ByteArray) : Option (ByteArray × ByteArray × ByteArray × ByteArray) := if encNode k v l r x = s then some (k, v, l, r) else none
def decS (s : ByteArray) (x : Int) : Option (ByteArray × ByteArray × ByteArray × ByteArray) :=
 match pieceS s 0 with
 | none => none
 | some (k, i) =>
  match pieceS s i with
  | none => none
  | some (v, n) =>
   if s.size ≤ n ∨ isW x = false then none else
   if byteAt s n % 2 = 1 then
    if ((s.size - (n + 1) : Nat) : Int) < x then none else finS s x k v ((s.extract (n + 1) s.size).extract 0 x.toNat) ((s.extract (n + 1) s.size).extract x.toNat (s.size - (n + 1)))
   else finS s x k v ⟨#[]⟩ (s.extract (n + 1) s.size)
end Go.Proofs.YtonbmghgbblifaaDoor
end
section
namespace Go.Proofs.YtonbmghgbblifaaDoor
open Go.RowKit
set_option linter.unusedVariables false
set_option linter.unusedSimpArgs false
theorem ext_ext (s : ByteArray) (a b c d : Nat) : (s.extract a b).extract c d = s.extract (a + c) (min (a + d) b) := by
 apply ByteArray.ext
 simp [ByteArray.data_extract, Array.extract_extract]
theorem ext_size (s : ByteArray) (a b : Nat) : (s.extract a b).size = min b s.size - a := by simp
theorem ext_list (s : ByteArray) (a b : Nat) : (s.extract a b).data.toList = (s.data.toList.drop a).take (b - a) := by
 simp [ByteArray.data_extract, Array.toList_extract, List.extract]
theorem text_ok (s : ByteArray) (i m : Nat) (h : i + m ≤ s.size) : textR (s.extract i s.size) false m = (s.extract i (i + m), s.extract (i + m) s.size, false) := by
 unfold textR; have hz := ext_size s i s.size; rw [if_neg (by simp; omega)]; rw [ext_ext, ext_ext, hz]; refine Prod.ext ?_ (Prod.ext ?_ rfl)
 ·show s.extract (i + 0) (min (i + ((m : Nat) : Int).toNat) s.size) = _
  congr 1
  simp; omega
 ·show s.extract (i + ((m : Nat) : Int).toNat) (min (i + (min s.size s.size - i)) s.size) = _
  congr 1
  simp; omega
theorem text_bad (s : ByteArray) (i : Nat) (m : Int) (h : (s.size : Int) < i + m) (hi : i ≤ s.size) : (textR (s.extract i s.size) false m).2.2 = true := by
 unfold textR; have hz := ext_size s i s.size; rw [if_pos (by right; right; rw [hz]; omega)]
theorem text_stays (r : ByteArray) (m : Int) : textR r true m = (⟨#[]⟩, r, true) := by
 unfold textR; rw [if_pos (Or.inl rfl)]
theorem sized_stays (r : ByteArray) : (sizedR r true).2.2 = true := by
 unfold sizedR; rw [text_stays, text_stays]
theorem two_bytes (s : ByteArray) (i : Nat) (h : i + 2 ≤ s.size) : numV (s.extract i (i + 2)).data.toList = byteAt s i * 256 + byteAt s (i + 1) := by
 rw [ext_list]; have hl : s.data.toList.length = s.size := rfl; unfold byteAt; rw [List.drop_eq_getElem_cons (by omega : i < s.data.toList.length), List.drop_eq_getElem_cons (by omega : i + 1 < s.data.toList.length)]; rw [show i + 2 - i = 2 by omega]; simp [numV, List.getD_eq_getElem?_getD, List.getElem?_eq_getElem (by omega : i < s.data.toList.length), List.getElem?_eq_getElem (by omega : i + 1 < s.data.toList.length)]
theorem one_byte (s : ByteArray) (i : Nat) (h : i + 1 ≤ s.size) : numV (s.extract i (i + 1)).data.toList = byteAt s i := by
 rw [ext_list]; have hl : s.data.toList.length = s.size := rfl; unfold byteAt; rw [List.drop_eq_getElem_cons (by omega : i < s.data.toList.length)]; rw [show i + 1 - i = 1 by omega]; simp [numV, List.getD_eq_getElem?_getD, List.getElem?_eq_getElem (by omega : i < s.data.toList.length)]
theorem sized_piece (s : ByteArray) (i : Nat) (hi : i ≤ s.size) : (∀ k n, pieceS s i = some (k, n) → sizedR (s.extract i s.size) false = (k, s.extract n s.size, false)) ∧ (pieceS s i = none → (sizedR (s.extract i s.size) false).2.2 = true) := by
 unfold pieceS sizedR
 by_cases h1 : s.size < i + 2
 ·rw [if_pos h1]; refine ⟨fun k n h => (by cases h), fun _ => ?_⟩; have hb := text_bad s i 2 (by omega) hi; rw [hb, text_stays]
 ·rw [if_neg h1]; have ht := text_ok s i 2 (by omega); rw [show ((2 : Nat) : Int) = 2 from rfl] at ht; rw [ht]; dsimp only; rw [two_bytes s i (by omega)]; generalize byteAt s i * 256 + byteAt s (i + 1) = m
  by_cases h2 : s.size < i + 2 + m
  ·rw [if_pos h2]; refine ⟨fun k n h => (by cases h), fun _ => text_bad s (i + 2) m (by omega) (by omega)⟩
  ·rw [if_neg h2]; refine ⟨fun k n h => ?_, fun h => (by cases h)⟩; simp only [Option.some.injEq, Prod.mk.injEq] at h; obtain ⟨rfl, rfl⟩ := h; exact text_ok s (i + 2) m (by omega)
theorem ext_full (s : ByteArray) : s.extract 0 s.size = s := by
 apply ByteArray.ext
 simp [ByteArray.data_extract]
theorem size0 (q : ByteArray) (h : q.size = 0) : q = ⟨#[]⟩ := by
 apply ByteArray.ext
 have h2 : q.data.size = 0 := h; exact Array.eq_empty_of_size_eq_zero h2
theorem ite_same {α : Type} {p q : Prop} [Decidable p] [Decidable q] (h : p ↔ q) (a b : α) : ite p a b = ite q a b := by
 by_cases hp : p
 ·rw [if_pos hp, if_pos (h.1 hp)]
 ·rw [if_neg hp, if_neg (fun hq => hp (h.2 hq))]
theorem flagsOf_cases (l r : ByteArray) : flagsOf l r = (if l.size = 0 then 0 else 1) + (if r.size = 0 then 0 else 2) := rfl
theorem nodeOk_right {k v l r : ByteArray} {x : Int} (h : nodeOk k v l r x = true) : r.size = 0 ∨ (r.size : Int) = x := by
 unfold nodeOk hOk at h; simp only [Bool.and_eq_true, Bool.or_eq_true, decide_eq_true_eq] at h; omega
theorem tail_same (k v l q : ByteArray) (x : Int) (f : Nat) (hx : isW x = true) (hl : (l.size = 0 ∧ f % 2 = 0) ∨ (l.size ≠ 0 ∧ f % 2 = 1)) :
  (if nodeOk k v l q x = true ∧ flagsOf l q = (f : Int) then some (k, v, l, q) else none) =
   (if isW x = true ∧ (optText (decide (f / 2 % 2 = 1)) (l, q, false) x).2.2 = false ∧ (optText (decide (f / 2 % 2 = 1)) (l, q, false) x).2.1.size = 0 ∧ f ≤ 3 ∧ nodeOk k v l (optText (decide (f / 2 % 2 = 1)) (l, q, false) x).1 x = true then some (k, v, l, (optText (decide (f / 2 % 2 = 1)) (l, q, false) x).1) else none) := by
 have hx2 : 1 ≤ x ∧ x ≤ 32 := by unfold isW at hx; simp at hx; omega
 rw [flagsOf_cases]
 by_cases hb : f / 2 % 2 = 1
 ·have ho : optText (decide (f / 2 % 2 = 1)) (l, q, false) x = textR q false x := by unfold optText; rw [if_pos (by simpa using hb)]
  rw [ho]
  by_cases h1 : (q.size : Int) < x
  ·have ht : textR q false x = (⟨#[]⟩, q, true) := by unfold textR; rw [if_pos (Or.inr (Or.inr h1))]
   rw [ht, if_neg, if_neg]
   ·intro h; exact Bool.noConfusion h.2.1
   ·rintro ⟨h2, h3⟩; have h4 := nodeOk_right h2; have h5 : q.size = 0 := by omega
    rw [if_pos h5] at h3
    split at h3 <;> omega
  ·have ht : textR q false x = (q.extract 0 x.toNat, q.extract x.toNat q.size, false) := by
    unfold textR; rw [if_neg (by simp; omega)]
   rw [ht]
   by_cases h2 : (q.size : Int) = x
   ·have e1 : q.extract 0 x.toNat = q := by rw [show x.toNat = q.size by omega]; exact ext_full q
    have e2 : (q.extract x.toNat q.size).size = 0 := by rw [ext_size]; omega
    have h0 : q.size ≠ 0 := by omega
    dsimp only; rw [e1, e2, if_neg h0]; refine ite_same ?_ _ _
    constructor
    ·rintro ⟨h3, h4⟩; refine ⟨hx, rfl, rfl, ?_, h3⟩
     split at h4 <;> omega
    ·rintro ⟨_, _, _, h3, h4⟩; refine ⟨h4, ?_⟩
     split <;> omega
   ·rw [if_neg, if_neg]
    ·rintro ⟨_, _, h3, _⟩; dsimp only at h3; rw [ext_size] at h3; omega
    ·rintro ⟨h3, h4⟩; have h5 := nodeOk_right h3; have h6 : q.size = 0 := by omega
     omega
 ·have ho : optText (decide (f / 2 % 2 = 1)) (l, q, false) x = (⟨#[]⟩, q, false) := by unfold optText; rw [if_neg (by simpa using hb)]
  rw [ho]; dsimp only
  by_cases h0 : q.size = 0
  ·rw [if_pos h0, size0 q h0]; refine ite_same ?_ _ _
   constructor
   ·rintro ⟨h3, h4⟩; refine ⟨hx, rfl, rfl, ?_, h3⟩
    split at h4 <;> omega
   ·rintro ⟨_, _, _, h3, h4⟩; refine ⟨h4, ?_⟩
    split <;> omega
  ·rw [if_neg, if_neg]
   ·rintro ⟨_, _, h3, _⟩; exact h0 h3
   ·rintro ⟨h3, h4⟩; rw [if_neg h0] at h4
    split at h4 <;> omega
theorem piece_parts {s k : ByteArray} {i n : Nat} (h : pieceS s i = some (k, n)) : s.extract i n = sizedS k := by
 unfold pieceS at h
 split at h
 ·cases h
 ·split at h
  ·cases h
  ·rename_i h1 h2
   simp only [Option.some.injEq, Prod.mk.injEq] at h; obtain ⟨rfl, rfl⟩ := h; have hm := byteAt_lt s i; have hl := byteAt_lt s (i + 1); have hz : (s.extract (i + 2) (i + 2 + (byteAt s i * 256 + byteAt s (i + 1)))).size = byteAt s i * 256 + byteAt s (i + 1) := by rw [ext_size]; omega
   have hs : s.data.toList.length = s.size := rfl; unfold sizedS; rw [hz, show (((byteAt s i * 256 + byteAt s (i + 1) : Nat) : Int) / 256) = (byteAt s i : Int) by omega, show (((byteAt s i * 256 + byteAt s (i + 1) : Nat) : Int) % 256) = (byteAt s (i + 1) : Int) by omega]; generalize byteAt s i * 256 + byteAt s (i + 1) = m at *; rw [byteS_list, byteS_list]
   apply ByteArray.ext
   apply Array.toList_inj.mp
   rw [ByteArray.data_append, ByteArray.data_append, Array.toList_append, Array.toList_append, ext_list, ext_list]; rw [List.drop_eq_getElem_cons (by omega : i < s.data.toList.length), List.drop_eq_getElem_cons (by omega : i + 1 < s.data.toList.length)]; rw [show i + 2 + m - i = m + 2 by omega, show i + 2 + m - (i + 2) = m by omega]; unfold byteAt; simp [List.getD_eq_getElem?_getD, List.getElem?_eq_getElem (by omega : i < s.data.toList.length), List.getElem?_eq_getElem (by omega : i + 1 < s.data.toList.length)]
theorem ext_join (s : ByteArray) (a b c : Nat) (h1 : a ≤ b) (h2 : b ≤ c) : s.extract a b ++ s.extract b c = s.extract a c := by
 apply ByteArray.ext
 apply Array.toList_inj.mp
 rw [ByteArray.data_append, Array.toList_append, ext_list, ext_list, ext_list]; rw [show c - a = (b - a) + (c - b) by omega, List.take_add, List.drop_drop, show a + (b - a) = b by omega]
theorem one_ext (s : ByteArray) (n : Nat) (h : n < s.size) : s.extract n (n + 1) = byteS (byteAt s n) := by
 have hs : s.data.toList.length = s.size := rfl; rw [byteS_list]
 apply ByteArray.ext
 apply Array.toList_inj.mp
 rw [ext_list, List.drop_eq_getElem_cons (by omega : n < s.data.toList.length), show n + 1 - n = 1 by omega]; unfold byteAt; simp [List.getD_eq_getElem?_getD, List.getElem?_eq_getElem (by omega : n < s.data.toList.length)]
theorem text_parts {s k v : ByteArray} {i n : Nat} (h1 : pieceS s 0 = some (k, i)) (h2 : pieceS s i = some (v, n)) (hn : n < s.size) :
  s = sizedS k ++ sizedS v ++ byteS (byteAt s n) ++ s.extract (n + 1) s.size := by
 have a1 := pieceS_le h1; have a2 := pieceS_le h2; rw [← piece_parts h1, ← piece_parts h2, ← one_ext s n hn, ext_join s 0 i n (by omega) (by omega), ext_join s 0 n (n + 1) (by omega) (by omega), ext_join s 0 (n + 1) s.size (by omega) (by omega), ext_full]
theorem enc_iff (s k v l q rest : ByteArray) (f : Nat) (x : Int) (hf : f < 256) (hs : s = sizedS k ++ sizedS v ++ byteS f ++ rest) (hr : rest = l ++ q) :
  encNode k v l q x = s ↔ nodeOk k v l q x = true ∧ flagsOf l q = (f : Int) := by
 subst hr; unfold encNode
 by_cases hok : nodeOk k v l q x = true
 ·rw [if_pos hok]; have hfl : flagsOf l q = 0 ∨ flagsOf l q = 1 ∨ flagsOf l q = 2 ∨ flagsOf l q = 3 := by
   rw [flagsOf_cases]
   split <;> split <;> simp
  obtain ⟨g, hg, hg2⟩ : ∃ g : Nat, flagsOf l q = (g : Int) ∧ g < 256 := by
   rcases hfl with h | h | h | h
   ·exact ⟨0, h, by omega⟩
   ·exact ⟨1, h, by omega⟩
   ·exact ⟨2, h, by omega⟩
   ·exact ⟨3, h, by omega⟩
  rw [hg]
  constructor
  ·intro h; refine ⟨hok, ?_⟩; rw [hs] at h; have h2 := congrArg (fun z : ByteArray => z.data.toList) h; simp only [byteS_list, ByteArray.data_append, Array.toList_append, List.append_assoc, List.append_cancel_left_eq] at h2; simp only [List.cons_append, List.nil_append, List.cons.injEq] at h2; have h3 := congrArg UInt8.toNat h2.1; rw [UInt8.toNat_ofNat', UInt8.toNat_ofNat'] at h3; omega
  ·rintro ⟨_, h⟩; have hgf : g = f := by omega
   rw [hs, hgf]; simp only [ByteArray.append_assoc]
 ·rw [if_neg hok]
  constructor
  ·intro h; have h2 : (0 : Nat) = (sizedS k ++ sizedS v ++ byteS f ++ (l ++ q)).size := congrArg ByteArray.size (h.trans hs); simp only [ByteArray.size_append, byteS_size] at h2; omega
  ·rintro ⟨h, _⟩; exact absurd h hok
theorem stays_text (r : ByteArray) (bad : Bool) (m : Int) (h : bad = true) : (textR r bad m).2.2 = true := by
 subst h; rw [text_stays]
theorem stays_opt (p : Bool) (t : ByteArray × ByteArray × Bool) (x : Int) (h : t.2.2 = true) : (optText p t x).2.2 = true := by
 unfold optText
 split
 ·exact stays_text _ _ _ h
 ·exact h
theorem tail_bad (k : ByteArray) (V : ByteArray × ByteArray × Bool) (x : Int) (h : V.2.2 = true) :
  (optText (decide (numV (textR V.2.1 V.2.2 1).1.data.toList / 2 % 2 = 1)) (optText (decide (numV (textR V.2.1 V.2.2 1).1.data.toList % 2 = 1)) (textR V.2.1 V.2.2 1) x) x).2.2 = true :=
 stays_opt _ _ x (stays_opt _ _ x (stays_text _ _ 1 h))
theorem dec_same (s : ByteArray) (x : Int) : decS s x = decI s x := by
 unfold decS decI; dsimp only
 by_cases hx : isW x = true
 ·rcases h1 : pieceS s 0 with _ | ⟨k, i⟩
  ·have hb := (sized_piece s 0 (Nat.zero_le _)).2 h1; rw [ext_full] at hb; have hc : (sizedR (sizedR s false).2.1 (sizedR s false).2.2).2.2 = true := by rw [hb]; exact sized_stays _
   have hd := tail_bad s _ x hc; rw [if_neg]; rintro ⟨_, h, _⟩; rw [hd] at h
   cases h
  ·have hk := (sized_piece s 0 (Nat.zero_le _)).1 k i h1; rw [ext_full] at hk; have hi := pieceS_le h1; rw [hk]; dsimp only
   rcases h2 : pieceS s i with _ | ⟨v, n⟩
   ·have hc := (sized_piece s i hi.1).2 h2; have hd := tail_bad s _ x hc; rw [if_neg]; rintro ⟨_, h, _⟩; rw [hd] at h
    cases h
   ·have hv := (sized_piece s i hi.1).1 v n h2; have hn := pieceS_le h2; rw [hv]; dsimp only
    by_cases h3 : s.size ≤ n
    ·rw [if_pos (Or.inl h3)]; have hc := text_bad s n 1 (by omega) hn.1; have hd := stays_opt (decide (numV (textR (s.extract n s.size) false 1).1.data.toList / 2 % 2 = 1)) _ x (stays_opt (decide (numV (textR (s.extract n s.size) false 1).1.data.toList % 2 = 1)) _ x hc); rw [if_neg]; rintro ⟨_, h, _⟩; rw [hd] at h
     cases h
    ·rw [if_neg (by rw [hx]; simp; omega)]; have hf := text_ok s n 1 (by omega); rw [show ((1 : Nat) : Int) = 1 from rfl] at hf; rw [hf]; dsimp only; rw [one_byte s n (by omega)]; have hp := text_parts h1 h2 (by omega); have hlt := byteAt_lt s n; generalize byteAt s n = f at hp hlt ⊢; have hrz : (s.extract (n + 1) s.size).size = s.size - (n + 1) := by rw [ext_size]; omega
     generalize s.extract (n + 1) s.size = rest at hp hrz ⊢; generalize s.extract n (n + 1) = ft
     by_cases hodd : f % 2 = 1
     ·rw [if_pos hodd, ← hrz]; have ho : optText (decide (f % 2 = 1)) (ft, rest, false) x = textR rest false x := by unfold optText; rw [if_pos (by simpa using hodd)]
      rw [ho]; have hx2 : 1 ≤ x ∧ x ≤ 32 := by unfold isW at hx; simp at hx; omega
      by_cases h4 : ((rest.size : Nat) : Int) < x
      ·rw [if_pos h4, if_neg]; rintro ⟨_, h, _⟩; have hc : (textR rest false x).2.2 = true := by unfold textR; rw [if_pos (Or.inr (Or.inr h4))]
       have hd := stays_opt (decide (f / 2 % 2 = 1)) _ x hc; rw [hd] at h
       cases h
      ·rw [if_neg h4]; have ht : textR rest false x = (rest.extract 0 x.toNat, rest.extract x.toNat rest.size, false) := by
        unfold textR; rw [if_neg (by simp; omega)]
       rw [ht]; have hj : rest = rest.extract 0 x.toNat ++ rest.extract x.toNat rest.size := by rw [ext_join rest 0 x.toNat rest.size (by omega) (by omega), ext_full]
       have hls : (rest.extract 0 x.toNat).size = x.toNat := by rw [ext_size]; omega
       unfold finS; rw [ite_same (enc_iff s k v _ _ rest f x hlt hp hj)]; exact tail_same k v _ _ x f hx (Or.inr ⟨by omega, hodd⟩)
     ·rw [if_neg hodd]; have ho : optText (decide (f % 2 = 1)) (ft, rest, false) x = (⟨#[]⟩, rest, false) := by unfold optText; rw [if_neg (by simpa using hodd)]
      rw [ho]; have hj : rest = (⟨#[]⟩ : ByteArray) ++ rest := by apply ByteArray.ext; simp [ByteArray.data_append]
      unfold finS; rw [ite_same (enc_iff s k v _ _ rest f x hlt hp hj)]; exact tail_same k v _ _ x f hx (Or.inl ⟨rfl, by omega⟩)
 ·have hx' : isW x = false := by simpa using hx
  rw [if_neg (fun h => hx h.1)]
  rcases h1 : pieceS s 0 with _ | ⟨k, i⟩
  ·rfl
  ·dsimp only
   rcases h2 : pieceS s i with _ | ⟨v, n⟩
   ·rfl
   ·dsimp only; rw [if_pos (Or.inr hx')]
end Go.Proofs.YtonbmghgbblifaaDoor
end
section
namespace Go.Proofs.YtonbmghgbblifaaDoor.Z
open Go.RowKit Go.Proofs.YtonbmghgbblifaaDoor
set_option linter.unusedVariables false
set_option linter.unusedSimpArgs false
def decT : Option (ByteArray × ByteArray × ByteArray × ByteArray) → ByteArray × ByteArray × ByteArray × ByteArray × Bool
 | none => (⟨#[]⟩, ⟨#[]⟩, ⟨#[]⟩, ⟨#[]⟩, false)
 | some (a, b, c, d) => (a, b, c, d, true)
def impl_DecodeNode.f (a0 : ByteArray) (a1 : Int) : Option (ByteArray × ByteArray × ByteArray × ByteArray × Bool) := some (decT (decI a0 a1))
theorem impl_DecodeNode.calls (a0 : ByteArray) (a1 : Int) (r1 r2 r3 r4 : ByteArray) (r5 : Bool) (w : World) (h : impl_DecodeNode.f a0 a1 = some (r1, r2, r3, r4, r5)) :
  Calls Tryd.prog 30 #[.string a0, .int .i64 a1] w fun e w' => e = .returned (.tuple #[.agg #[.string r1, .string r2, .string r3, .string r4], .bool r5]) ∧ Below w.heap.size w w' := by
 have h := Option.some.inj h; refine (decodeNode_any a0 a1 w).mono ?_; rintro e w' ⟨rfl, hb⟩; refine ⟨?_, hb⟩
 rcases hz : decI a0 a1 with _ | ⟨a, b, c, d⟩
 all_goals
  rw [hz] at h; simp only [decT, Prod.mk.injEq] at h; obtain ⟨rfl, rfl, rfl, rfl, rfl⟩ := h; rfl
end Go.Proofs.YtonbmghgbblifaaDoor.Z
end
section
namespace Go.Proofs.YtonbmghgbblifaaDoor.Z
open Go.RowKit Go.Proofs.YtonbmghgbblifaaDoor
set_option linter.unusedVariables false
set_option linter.unusedSimpArgs false
def spec_EncodeNode.f (a0_0 a0_1 a0_2 a0_3 : ByteArray) (a1 : Int) : Option ByteArray := some (encNode a0_0 a0_1 a0_2 a0_3 a1)
theorem spec_EncodeNode.calls (a0_0 a0_1 a0_2 a0_3 : ByteArray) (a1 : Int) (r : ByteArray) (w : World) (h : spec_EncodeNode.f a0_0 a0_1 a0_2 a0_3 a1 = some r) :
  Calls Tryd.prog 28 #[.agg #[.string a0_0, .string a0_1, .string a0_2, .string a0_3], .int .i64 a1] w fun e w' => e = .returned (.string r) ∧ Below w.heap.size w w' := by
 obtain rfl := Option.some.inj h; exact specEncodeNode_any _ _ _ _ _ _
def impl_EncodeNode.f (a0_0 a0_1 a0_2 a0_3 : ByteArray) (a1 : Int) : Option ByteArray := some (encNode a0_0 a0_1 a0_2 a0_3 a1)
theorem impl_EncodeNode.calls (a0_0 a0_1 a0_2 a0_3 : ByteArray) (a1 : Int) (r : ByteArray) (w : World) (h : impl_EncodeNode.f a0_0 a0_1 a0_2 a0_3 a1 = some r) :
  Calls Tryd.prog 27 #[.agg #[.string a0_0, .string a0_1, .string a0_2, .string a0_3], .int .i64 a1] w fun e w' => e = .returned (.string r) ∧ Below w.heap.size w w' := by
 obtain rfl := Option.some.inj h; exact encodeNode_any _ _ _ _ _ _
end Go.Proofs.YtonbmghgbblifaaDoor.Z
end
section
namespace Go.Proofs.YtonbmghgbblifaaDoor.Z
open Go.RowKit Go.Proofs.YtonbmghgbblifaaDoorW.PrintWords Go.Proofs.YtonbmghgbblifaaDoorW.PrintLast Go.Proofs.YtonbmghgbblifaaDoorW.PrintMore
attribute [local go_sem] max2_int min2_int max_two min_two max_three min_three max_four min_four
set_option linter.unusedVariables false
set_option linter.unusedSimpArgs false
def errW : Option Int → Value
 | none => .nilIface
 | some c => .iface 0 (.int .i64 c)
theorem errW_none : errW none = .nilIface := rfl
theorem errW_some (c : Int) : errW (some c) = .iface 0 (.int .i64 c) := rfl
theorem info5 : (Tryd.prog.info? 5).map (fun i => (i.zero, i.size, i.bytes)) = some (some (.int .u8 0), 1, 1) := by kernel_rfl
theorem info129 : (Tryd.prog.info? 129).map (fun i => (i.zero, i.size, i.bytes)) = some (some (.int .u32 0), 1, 4) := by kernel_rfl
structure S49 where
 f0 : ByteArray
 f1 : ByteArray
 f2 : ByteArray
 f3 : ByteArray
structure S61 where
 f0 : Int
 f1 : ByteArray
 f2 : Int
 f3 : ByteArray
 f4 : Int
end Go.Proofs.YtonbmghgbblifaaDoor.Z
end
section
namespace Go.Proofs.YtonbmghgbblifaaDoor.Z
open Go.RowKit Go.Proofs.YtonbmghgbblifaaDoorW.PrintWords Go.Proofs.YtonbmghgbblifaaDoorW.PrintLast Go.Proofs.YtonbmghgbblifaaDoorW.PrintMore
attribute [local go_sem] max2_int min2_int max_two min_two max_three min_three max_four min_four
set_option linter.unusedVariables false
set_option linter.unusedSimpArgs false
def spec_l1Turn.f (a0 : Int) (a1 : Int) : Option (Int) := if 0 ≤ (IntKind.u64.wrap (a1)) then (if 0 ≤ (IntKind.u64.wrap (wrap64 (32 - a1))) then (some (Go.bits .or .u32 (shr .u32 a0 (IntKind.u64.wrap (a1))) (shl .u32 a0 (IntKind.u64.wrap (wrap64 (32 - a1)))))) else (none)) else (none)
set_option maxHeartbeats 8000000 in
set_option maxRecDepth 100000 in
theorem spec_l1Turn.calls (a0 : Int) (a1 : Int) (r : Int) (w : World) (h : spec_l1Turn.f a0 a1 = some r) :
  Calls Tryd.prog 146 #[.int .u32 a0, .int .i64 a1] w fun e w' => e = .returned (.int .u32 r) ∧ Drawn0 w w' := by
 have H : (if 0 ≤ (IntKind.u64.wrap (a1)) then (if 0 ≤ (IntKind.u64.wrap (wrap64 (32 - a1))) then (some (Go.bits .or .u32 (shr .u32 a0 (IntKind.u64.wrap (a1))) (shl .u32 a0 (IntKind.u64.wrap (wrap64 (32 - a1)))))) else (none)) else (none)) = some r := h; clear h; obtain ⟨ji3, hji3⟩ : ∃ j_ : Int, (IntKind.u64.wrap (a1)) = j_ := ⟨_, rfl⟩
 replace H : (if 0 ≤ (ji3) then (if 0 ≤ (IntKind.u64.wrap (wrap64 (32 - a1))) then (some (Go.bits .or .u32 (shr .u32 a0 (ji3)) (shl .u32 a0 (IntKind.u64.wrap (wrap64 (32 - a1)))))) else (none)) else (none)) = some r := by first | (rw [hji3] at H; exact H) | (simp only [hji3] at H ⊢; exact H)
 by_cases c4 : 0 ≤ (ji3)
 ·rw [if_pos c4] at H; have c4b0 := eq_true c4; have c4b1 : decide (0 ≤ (ji3)) = true := decide_eq_true c4; clear c4; obtain ⟨ji5, hji5⟩ : ∃ j_ : Int, (shr .u32 a0 (ji3)) = j_ := ⟨_, rfl⟩
  replace H : (if 0 ≤ (IntKind.u64.wrap (wrap64 (32 - a1))) then (some (Go.bits .or .u32 (ji5) (shl .u32 a0 (IntKind.u64.wrap (wrap64 (32 - a1)))))) else (none)) = some r := by first | (rw [hji5] at H; exact H) | (simp only [hji5] at H ⊢; exact H)
  have hji5_ : (a0 / 2 ^ min (ji3).toNat 32) = ji5 := hji5; have hji5z : (ji3) ≤ 32 → (a0 / 2 ^ (ji3).toNat) = ji5 := shr_small hji5; obtain ⟨ji6, hji6⟩ : ∃ j_ : Int, (IntKind.u64.wrap (wrap64 (32 - a1))) = j_ := ⟨_, rfl⟩
  replace H : (if 0 ≤ (ji6) then (some (Go.bits .or .u32 (ji5) (shl .u32 a0 (ji6)))) else (none)) = some r := by first | (rw [hji6] at H; exact H) | (simp only [hji6] at H ⊢; exact H)
  by_cases c7 : 0 ≤ (ji6)
  ·rw [if_pos c7] at H; have c7b0 := eq_true c7; have c7b1 : decide (0 ≤ (ji6)) = true := decide_eq_true c7; clear c7; obtain ⟨ji8, hji8⟩ : ∃ j_ : Int, (shl .u32 a0 (ji6)) = j_ := ⟨_, rfl⟩
   replace H : (some (Go.bits .or .u32 (ji5) (ji8))) = some r := by first | (rw [hji8] at H; exact H) | (simp only [hji8] at H ⊢; exact H)
   have hji8_ : (IntKind.u32.wrap (a0 * 2 ^ min (ji6).toNat 32)) = ji8 := hji8; have hji8z : (ji6) ≤ 32 → (IntKind.u32.wrap (a0 * 2 ^ (ji6).toNat)) = ji8 := shl_small hji8; obtain rfl := Option.some.inj H
   go_enter Tryd.func146, Tryd.ntmps146
   go_wp2
   go_ret
   exact ⟨by first | rfl | (simp; done) | (simp only [← hji3, ← hji5, ← hji6, ← hji8] <;> (first | rfl | simp)) | (simp [*]; done), by repeat (first | exact Drawn0.refl _ | apply Drawn0.step)⟩
  ·rw [if_neg c7] at H; exact absurd H (by simp)
 ·rw [if_neg c4] at H; exact absurd H (by simp)
end Go.Proofs.YtonbmghgbblifaaDoor.Z
end
section
namespace Go.Proofs.YtonbmghgbblifaaDoor.Z
open Go.RowKit Go.Proofs.YtonbmghgbblifaaDoorW.PrintWords Go.Proofs.YtonbmghgbblifaaDoorW.PrintLast Go.Proofs.YtonbmghgbblifaaDoorW.PrintMore
attribute [local go_sem] max2_int min2_int max_two min_two max_three min_three max_four min_four
set_option linter.unusedVariables false
set_option linter.unusedSimpArgs false
mutual
def spec_l1Schedule.l0 : Nat → List Int → Int → List Int → Int → Option (List Int)
 | 0, _, _, _, _ => none
 | k + 1, x0, x1, x5, x6 => if x6 < 16 then (if 0 ≤ (wrap64 (x1 + (wrap64 (4 * x6)))) then (if (wrap64 (x1 + (wrap64 (4 * x6)))) < (x0.length : Int) then (if 0 ≤ (wrap64 ((wrap64 (x1 + (wrap64 (4 * x6)))) + 1)) then (if (wrap64 ((wrap64 (x1 + (wrap64 (4 * x6)))) + 1)) < (x0.length : Int) then (if 0 ≤ (wrap64 ((wrap64 (x1 + (wrap64 (4 * x6)))) + 2)) then (if (wrap64 ((wrap64 (x1 + (wrap64 (4 * x6)))) + 2)) < (x0.length : Int) then (if 0 ≤ (wrap64 ((wrap64 (x1 + (wrap64 (4 * x6)))) + 3)) then (if (wrap64 ((wrap64 (x1 + (wrap64 (4 * x6)))) + 3)) < (x0.length : Int) then (if x5.length < 35184372088832 then (spec_l1Schedule.l0 k x0 x1 (x5 ++ [Go.bits .or .u32 (Go.bits .or .u32 (Go.bits .or .u32 ((((rd x0 (wrap64 (x1 + (wrap64 (4 * x6))))) % 4294967296) * 16777216) % 4294967296) ((((rd x0 (wrap64 ((wrap64 (x1 + (wrap64 (4 * x6)))) + 1))) % 4294967296) * 65536) % 4294967296)) ((((rd x0 (wrap64 ((wrap64 (x1 + (wrap64 (4 * x6)))) + 2))) % 4294967296) * 256) % 4294967296)) ((rd x0 (wrap64 ((wrap64 (x1 + (wrap64 (4 * x6)))) + 3))) % 4294967296)]) (wrap64 (x6 + 1))) else (none)) else (none)) else (none)) else (none)) else (none)) else (none)) else (none)) else (none)) else (none)) else (spec_l1Schedule.l1 k x5 16)
def spec_l1Schedule.l1 : Nat → List Int → Int → Option (List Int)
 | 0, _, _ => none
 | k + 1, x5, x8 => if x8 < 64 then (if 0 ≤ (wrap64 (x8 - 15)) then (if (wrap64 (x8 - 15)) < (x5.length : Int) then (if 0 ≤ (wrap64 (x8 - 2)) then (if (wrap64 (x8 - 2)) < (x5.length : Int) then ((spec_l1Turn.f (rd x5 (wrap64 (x8 - 15))) 7).bind fun t1450013 => ((spec_l1Turn.f (rd x5 (wrap64 (x8 - 15))) 18).bind fun t1450014 => ((spec_l1Turn.f (rd x5 (wrap64 (x8 - 2))) 17).bind fun t1450015 => ((spec_l1Turn.f (rd x5 (wrap64 (x8 - 2))) 19).bind fun t1450016 => (if 0 ≤ (wrap64 (x8 - 16)) then (if (wrap64 (x8 - 16)) < (x5.length : Int) then (if 0 ≤ (wrap64 (x8 - 7)) then (if (wrap64 (x8 - 7)) < (x5.length : Int) then (if x5.length < 35184372088832 then (spec_l1Schedule.l1 k (x5 ++ [((((((rd x5 (wrap64 (x8 - 16))) + (Go.bits .xor .u32 (Go.bits .xor .u32 t1450013 t1450014) ((rd x5 (wrap64 (x8 - 15))) / 8))) % 4294967296) + (rd x5 (wrap64 (x8 - 7)))) % 4294967296) + (Go.bits .xor .u32 (Go.bits .xor .u32 t1450015 t1450016) ((rd x5 (wrap64 (x8 - 2))) / 1024))) % 4294967296]) (wrap64 (x8 + 1))) else (none)) else (none)) else (none)) else (none)) else (none)))))) else (none)) else (none)) else (none)) else (none)) else (some x5)
end
def spec_l1Schedule.f (k : Nat) (l0 : List Int) (a1 : Int) : Option (List Int) := spec_l1Schedule.l0 k l0 a1 (([] : List Int)) 0
def spec_l1Schedule.T6 : Bool × List (List Nat × List Nat) := (true, [([], []), ([], []), ([], []), ([1, 2], [1, 2]), ([3], [3]), ([4], [4]), ([5], [5]), ([], []), ([], []), ([8], [8]), ([7, 9], [7, 9]), ([10], [10]), ([11], [11]), ([12], [12]), ([6, 13], [6, 13]), ([], []), ([], []), ([16], [16]), ([15, 17], [15, 17]), ([18], [18]), ([19], [19]), ([20], [20]), ([14, 21], [14, 21]), ([], []), ([], []), ([24], [24]), ([23, 25], [23, 25]), ([26], [26]), ([27], [27]), ([22, 28], [22, 28]), ([29], [29]), ([0, 30], [0, 30]), ([31, 31, 0, 1, 2, 3, 4, 5, 6, 7, 8, 9, 10, 11, 12, 13, 14, 15, 16, 17, 18, 19, 20, 21, 22, 23, 24, 25, 26, 27, 28, 29, 30, 31], [0, 31])])
def spec_l1Schedule.B6 : List Nat := [0, 0, 0, 6, 14, 30, 62, 0, 0, 256, 896, 1920, 3968, 8064, 16382, 0, 0, 65536, 229376, 491520, 1015808, 2064384, 4194302, 0, 0, 16777216, 58720256, 125829120, 260046848, 536870910, 1073741822, 2147483647, 4294967295]
theorem spec_l1Schedule.tab6 : rtab .any (opsOf Tryd.f145 6) = spec_l1Schedule.T6 := by kernel_rfl
theorem spec_l1Schedule.bits6 : waitsOk spec_l1Schedule.T6.2 spec_l1Schedule.B6 = true := by kernel_rfl
def spec_l1Schedule.T14 : Bool × List (List Nat × List Nat) := (true, [([], []), ([], []), ([], []), ([2], [2]), ([1, 3], [1, 3]), ([4], [4]), ([], []), ([5, 6], [5, 6]), ([], []), ([], []), ([9], [9]), ([8, 10], [8, 10]), ([11], [11]), ([7, 12], [7, 12]), ([], []), ([13, 14], [13, 14]), ([15], [15]), ([0, 16], [0, 16]), ([17, 17, 0, 1, 2, 3, 4, 5, 6, 7, 8, 9, 10, 11, 12, 13, 14, 15, 16, 17], [0, 1, 8, 17])])
def spec_l1Schedule.B14 : List Nat := [0, 0, 0, 4, 14, 30, 0, 126, 0, 0, 512, 1792, 3840, 8190, 0, 32766, 65534, 131071, 262143]
theorem spec_l1Schedule.tab14 : rtab .any (opsOf Tryd.f145 14) = spec_l1Schedule.T14 := by kernel_rfl
theorem spec_l1Schedule.bits14 : waitsOk spec_l1Schedule.T14.2 spec_l1Schedule.B14 = true := by kernel_rfl
set_option maxHeartbeats 8000000 in
set_option maxRecDepth 100000 in
theorem spec_l1Schedule.calls (k : Nat) (A0 : Option Addr) (c0 : Nat) (l0 : List Int) (a1 : Int) (r : List Int) (w : World) (hr0 : Kd.C (Kd.int .u8) w A0 l0.length l0) (hc0 : l0.length ≤ c0) (h : spec_l1Schedule.f k l0 a1 = some r) :
  Calls Tryd.prog 145 #[.slice A0 l0.length c0, .int .i64 a1] w fun e w' => ∃ v0_ : Value, e = .returned (v0_) ∧ Kd.R (Kd.int .u32) 129 w' w.heap.size (fun _ => True) v0_ r ∧ Below w.heap.size w w' := by
 have HR0 := Aside0.mk hr0; have HC0 := Aside0.mk hc0; clear hr0 hc0; have HB := Aside0.mk (Below.refl w.heap.size w); have H : (spec_l1Schedule.l0 k l0 a1 (([] : List Int)) 0) = some r := h; clear h; obtain ⟨y1450001, hy1450001⟩ : ∃ y_ : List Int, y_ = (([] : List Int)) := ⟨_, rfl⟩
 replace H : (spec_l1Schedule.l0 k l0 a1 y1450001 0) = some r := by first | (rw [hy1450001]; with_reducible exact H) | (have H2_ := (Option.bind_some _ _).symm.trans H; rw [hy1450001]; with_reducible exact H2_) | (have H2_ := (Option.bind_some _ _).symm.trans H; with_reducible exact H2_) | with_reducible exact H | (rw [hy1450001]; exact H) | exact H
 have Ny1450001 := Aside0.mk hy1450001; clear hy1450001; have H' := Aside0.mk H; clear H
 go_enter Tryd.func145, Tryd.ntmps145
 go_wp2_with (first | ((with_reducible refine gate_dst (N := 13) rfl ?_); refine Kd.R_lit (Kd.int .u32) _ 129 ?hg (N := 13) ?hd (xs := ([] : List Int)) (inner := []) (ok := fun _ => True) (okp := fun _ => True) ?hr ?hp (fun _ hk => hk) trivial (Below.refl _ _) (Nat.le_refl _) (by simp) ?_; (case hd => rfl); (case hg => rfl); (case hr => first | (go_simp; done) | (go_simp; rfl)); (case hp => exact (Reps.none _ _)); intro v1450002 w3 ho4 hb hg_ hnew_; clear hg_ hnew_; (first | rw [← Ny1450001.out] at ho4 | (simp only [Int.reduceToNat] at ho4; rw [← Ny1450001.out] at ho4)); have n0_ := Aside0.mk (Kd.R_lower ho4 (below_size (by repeat (first | (with_reducible first | exact HB.out | apply below_alloc | apply pw_below_drewN | apply below_drew1) | exact HB.out)))); have n1_ := Aside0.mk (below_step (by repeat (first | (with_reducible first | exact HB.out | apply below_alloc | apply pw_below_drewN | apply below_drew1) | exact HB.out)) hb); clear HB; have HO1450003 := n0_; have HB := n1_; clear n0_ n1_; clear hb ho4))
 go_loopg [5, 6] k (fun kq v5 v6 w' => ∃ (x5_1 : List Int) (x6_1 : Int), v6 = .int .i64 x6_1 ∧ Aside0 (spec_l1Schedule.l0 kq l0 a1 x5_1 x6_1 = some r) ∧ Aside0 (kq ≤ k) ∧ Aside0 (Kd.R (Kd.int .u32) 129 w' w.heap.size (fun _ => True) v5 x5_1) ∧ Aside0 (Below w.heap.size w w'))
 case atStart => exact ⟨(y1450001), (0), (by first | rfl | (simp; done) | (simp [*]; done)), H', ⟨Nat.le_refl _⟩, ⟨by (with_reducible repeat (first | apply Kd.R_alloc | apply Kd.R_drewN | apply Kd.R_drew)); exact HO1450003.out⟩, ⟨by repeat (first | (with_reducible first | exact HB.out | apply below_alloc | apply pw_below_drewN | apply below_drew1) | exact HB.out)⟩⟩
 case round =>
  clear H'
  try clear c1
  try clear p2
  obtain ⟨x5_1, x6_1, rfl, HA, HK1, HO_5, HB⟩ := hrel
  cases gk with
  | zero => exact absurd HA.out (by simp [spec_l1Schedule.l0])
  | succ k1 =>
   have H := HA.out; clear HA; simp only [spec_l1Schedule.l0] at H
   by_cases c5 : x6_1 < 16
   ·rw [if_pos c5] at H; have c5b0 : decide (x6_1 < 16) = true := decide_eq_true c5; clear c5; obtain ⟨ji6, hji6⟩ : ∃ j_ : Int, (wrap64 (a1 + (wrap64 (4 * x6_1)))) = j_ := ⟨_, rfl⟩
    replace H : (if 0 ≤ (ji6) then (if (ji6) < (l0.length : Int) then (if 0 ≤ (wrap64 ((ji6) + 1)) then (if (wrap64 ((ji6) + 1)) < (l0.length : Int) then (if 0 ≤ (wrap64 ((ji6) + 2)) then (if (wrap64 ((ji6) + 2)) < (l0.length : Int) then (if 0 ≤ (wrap64 ((ji6) + 3)) then (if (wrap64 ((ji6) + 3)) < (l0.length : Int) then (if x5_1.length < 35184372088832 then (spec_l1Schedule.l0 k1 l0 a1 (x5_1 ++ [Go.bits .or .u32 (Go.bits .or .u32 (Go.bits .or .u32 ((((rd l0 (ji6)) % 4294967296) * 16777216) % 4294967296) ((((rd l0 (wrap64 ((ji6) + 1))) % 4294967296) * 65536) % 4294967296)) ((((rd l0 (wrap64 ((ji6) + 2))) % 4294967296) * 256) % 4294967296)) ((rd l0 (wrap64 ((ji6) + 3))) % 4294967296)]) (wrap64 (x6_1 + 1))) else (none)) else (none)) else (none)) else (none)) else (none)) else (none)) else (none)) else (none)) else (none)) = some r := by first | (rw [hji6] at H; exact H) | (simp only [hji6] at H ⊢; exact H)
    have hji6w : (IntKind.i64.wrap (a1 + (wrap64 (4 * x6_1)))) = ji6 := (i64_w _).trans hji6
    by_cases c7 : 0 ≤ (ji6)
    ·rw [if_pos c7] at H; have c7b0 : decide (0 ≤ (ji6)) = true := decide_eq_true c7; clear c7
     by_cases c8 : (ji6) < (l0.length : Int)
     ·rw [if_pos c8] at H; have c8b0 : decide ((ji6) < (l0.length : Int)) = true := decide_eq_true c8; clear c8; obtain ⟨ji9, hji9⟩ : ∃ j_ : Int, (wrap64 ((ji6) + 1)) = j_ := ⟨_, rfl⟩
      replace H : (if 0 ≤ (ji9) then (if (ji9) < (l0.length : Int) then (if 0 ≤ (wrap64 ((ji6) + 2)) then (if (wrap64 ((ji6) + 2)) < (l0.length : Int) then (if 0 ≤ (wrap64 ((ji6) + 3)) then (if (wrap64 ((ji6) + 3)) < (l0.length : Int) then (if x5_1.length < 35184372088832 then (spec_l1Schedule.l0 k1 l0 a1 (x5_1 ++ [Go.bits .or .u32 (Go.bits .or .u32 (Go.bits .or .u32 ((((rd l0 (ji6)) % 4294967296) * 16777216) % 4294967296) ((((rd l0 (ji9)) % 4294967296) * 65536) % 4294967296)) ((((rd l0 (wrap64 ((ji6) + 2))) % 4294967296) * 256) % 4294967296)) ((rd l0 (wrap64 ((ji6) + 3))) % 4294967296)]) (wrap64 (x6_1 + 1))) else (none)) else (none)) else (none)) else (none)) else (none)) else (none)) else (none)) = some r := by first | (rw [hji9] at H; exact H) | (simp only [hji9] at H ⊢; exact H)
      have hji9w : (IntKind.i64.wrap ((ji6) + 1)) = ji9 := (i64_w _).trans hji9
      by_cases c10 : 0 ≤ (ji9)
      ·rw [if_pos c10] at H; have c10b0 : decide (0 ≤ (ji9)) = true := decide_eq_true c10; clear c10
       by_cases c11 : (ji9) < (l0.length : Int)
       ·rw [if_pos c11] at H; have c11b0 : decide ((ji9) < (l0.length : Int)) = true := decide_eq_true c11; clear c11; obtain ⟨ji12, hji12⟩ : ∃ j_ : Int, (wrap64 ((ji6) + 2)) = j_ := ⟨_, rfl⟩
        replace H : (if 0 ≤ (ji12) then (if (ji12) < (l0.length : Int) then (if 0 ≤ (wrap64 ((ji6) + 3)) then (if (wrap64 ((ji6) + 3)) < (l0.length : Int) then (if x5_1.length < 35184372088832 then (spec_l1Schedule.l0 k1 l0 a1 (x5_1 ++ [Go.bits .or .u32 (Go.bits .or .u32 (Go.bits .or .u32 ((((rd l0 (ji6)) % 4294967296) * 16777216) % 4294967296) ((((rd l0 (ji9)) % 4294967296) * 65536) % 4294967296)) ((((rd l0 (ji12)) % 4294967296) * 256) % 4294967296)) ((rd l0 (wrap64 ((ji6) + 3))) % 4294967296)]) (wrap64 (x6_1 + 1))) else (none)) else (none)) else (none)) else (none)) else (none)) = some r := by first | (rw [hji12] at H; exact H) | (simp only [hji12] at H ⊢; exact H)
        have hji12w : (IntKind.i64.wrap ((ji6) + 2)) = ji12 := (i64_w _).trans hji12
        by_cases c13 : 0 ≤ (ji12)
        ·rw [if_pos c13] at H; have c13b0 : decide (0 ≤ (ji12)) = true := decide_eq_true c13; clear c13
         by_cases c14 : (ji12) < (l0.length : Int)
         ·rw [if_pos c14] at H; have c14b0 : decide ((ji12) < (l0.length : Int)) = true := decide_eq_true c14; clear c14; obtain ⟨ji15, hji15⟩ : ∃ j_ : Int, (wrap64 ((ji6) + 3)) = j_ := ⟨_, rfl⟩
          replace H : (if 0 ≤ (ji15) then (if (ji15) < (l0.length : Int) then (if x5_1.length < 35184372088832 then (spec_l1Schedule.l0 k1 l0 a1 (x5_1 ++ [Go.bits .or .u32 (Go.bits .or .u32 (Go.bits .or .u32 ((((rd l0 (ji6)) % 4294967296) * 16777216) % 4294967296) ((((rd l0 (ji9)) % 4294967296) * 65536) % 4294967296)) ((((rd l0 (ji12)) % 4294967296) * 256) % 4294967296)) ((rd l0 (ji15)) % 4294967296)]) (wrap64 (x6_1 + 1))) else (none)) else (none)) else (none)) = some r := by first | (rw [hji15] at H; exact H) | (simp only [hji15] at H ⊢; exact H)
          have hji15w : (IntKind.i64.wrap ((ji6) + 3)) = ji15 := (i64_w _).trans hji15
          by_cases c16 : 0 ≤ (ji15)
          ·rw [if_pos c16] at H; have c16b0 : decide (0 ≤ (ji15)) = true := decide_eq_true c16; clear c16
           by_cases c17 : (ji15) < (l0.length : Int)
           ·rw [if_pos c17] at H; have c17b0 : decide ((ji15) < (l0.length : Int)) = true := decide_eq_true c17; clear c17
            by_cases c18 : x5_1.length < 35184372088832
            ·rw [if_pos c18] at H; have LMc18 := Aside0.mk c18; clear c18; obtain ⟨y1450008, hy1450008⟩ : ∃ y_ : List Int, y_ = (x5_1 ++ [Go.bits .or .u32 (Go.bits .or .u32 (Go.bits .or .u32 ((((rd l0 (ji6)) % 4294967296) * 16777216) % 4294967296) ((((rd l0 (ji9)) % 4294967296) * 65536) % 4294967296)) ((((rd l0 (ji12)) % 4294967296) * 256) % 4294967296)) ((rd l0 (ji15)) % 4294967296)]) := ⟨_, rfl⟩
             replace H : (spec_l1Schedule.l0 k1 l0 a1 y1450008 (wrap64 (x6_1 + 1))) = some r := by first | (rw [hy1450008]; with_reducible exact H) | (have H2_ := (Option.bind_some _ _).symm.trans H; rw [hy1450008]; with_reducible exact H2_) | (have H2_ := (Option.bind_some _ _).symm.trans H; with_reducible exact H2_) | with_reducible exact H | (rw [hy1450008]; exact H) | exact H
             have Ny1450008 := Aside0.mk hy1450008; clear hy1450008; have H' := Aside0.mk H; clear H
             try go_wp2
             have n0_ := Aside0.mk (Kd.R_drew HO_5.out); have n1_ := Aside0.mk (below_drew1 HB.out); clear HO_5; clear HB; have HO_5 := n0_; have HB := n1_; clear n0_ n1_; have p1450004 : 0 ≤ ((ji6) : Int) := of_decide_eq_true (by first | (with_reducible assumption) | assumption); have q1450004 : (ji6) < (l0.length : Int) := of_decide_eq_true (by first | (with_reducible assumption) | assumption); obtain ⟨ad1450004, e1450004, hx1450004_0⟩ := Kd.at_int HR0.out (ji6) p1450004 q1450004; have hw1450004_0 := hx1450004_0
             cases e1450004
             replace hx1450004_0 := (HB.out.cell (World.block_lt_of_cell? w _ hx1450004_0)).trans hx1450004_0; replace p1450004 := eq_true p1450004; replace q1450004 := eq_true q1450004; have p1450005 : 0 ≤ ((ji9) : Int) := of_decide_eq_true (by first | (with_reducible assumption) | assumption); have q1450005 : (ji9) < (l0.length : Int) := of_decide_eq_true (by first | (with_reducible assumption) | assumption); obtain ⟨ad1450005, e1450005, hx1450005_0⟩ := Kd.at_int HR0.out (ji9) p1450005 q1450005; have hw1450005_0 := hx1450005_0; obtain rfl : ad1450004 = ad1450005 := (by injection e1450005)
             replace hx1450005_0 := (HB.out.cell (World.block_lt_of_cell? w _ hx1450005_0)).trans hx1450005_0; replace p1450005 := eq_true p1450005; replace q1450005 := eq_true q1450005; have p1450006 : 0 ≤ ((ji12) : Int) := of_decide_eq_true (by first | (with_reducible assumption) | assumption); have q1450006 : (ji12) < (l0.length : Int) := of_decide_eq_true (by first | (with_reducible assumption) | assumption); obtain ⟨ad1450006, e1450006, hx1450006_0⟩ := Kd.at_int HR0.out (ji12) p1450006 q1450006; have hw1450006_0 := hx1450006_0; obtain rfl : ad1450004 = ad1450006 := (by injection e1450006)
             replace hx1450006_0 := (HB.out.cell (World.block_lt_of_cell? w _ hx1450006_0)).trans hx1450006_0; replace p1450006 := eq_true p1450006; replace q1450006 := eq_true q1450006; have p1450007 : 0 ≤ ((ji15) : Int) := of_decide_eq_true (by first | (with_reducible assumption) | assumption); have q1450007 : (ji15) < (l0.length : Int) := of_decide_eq_true (by first | (with_reducible assumption) | assumption); obtain ⟨ad1450007, e1450007, hx1450007_0⟩ := Kd.at_int HR0.out (ji15) p1450007 q1450007; have hw1450007_0 := hx1450007_0; obtain rfl : ad1450004 = ad1450007 := (by injection e1450007)
             replace hx1450007_0 := (HB.out.cell (World.block_lt_of_cell? w _ hx1450007_0)).trans hx1450007_0; replace p1450007 := eq_true p1450007; replace q1450007 := eq_true q1450007; refine start_ (n := 33) (S := fun w' => w'.cell? (ad1450004.add ((ji6)).toNat) = some (.int .u8 (rd l0 (ji6))) ∧ w'.cell? (ad1450004.add ((ji9)).toNat) = some (.int .u8 (rd l0 (ji9))) ∧ w'.cell? (ad1450004.add ((ji12)).toNat) = some (.int .u8 (rd l0 (ji12))) ∧ w'.cell? (ad1450004.add ((ji15)).toNat) = some (.int .u8 (rd l0 (ji15)))) (ds := []) #[false, false, false, false, false, false, false, false, false, false, false, false, false, false, false, false, false, false, false, false, false, false, false, false, false, false, false, false, false, false, false, false, false] (by kernel_rfl) rfl rfl ⟨((HB.out.cell (World.block_lt_of_cell? w _ hw1450004_0)).trans hw1450004_0), ((HB.out.cell (World.block_lt_of_cell? w _ hw1450005_0)).trans hw1450005_0), ((HB.out.cell (World.block_lt_of_cell? w _ hw1450006_0)).trans hw1450006_0), ((HB.out.cell (World.block_lt_of_cell? w _ hw1450007_0)).trans hw1450007_0)⟩ (fun hHeld => ?_); refine with_tabW spec_l1Schedule.tab6 spec_l1Schedule.bits6 (fun HT_ HW_ => ?_); generalize wr.drew = w19 at HO_5 HB hx1450004_0 hx1450005_0 hx1450006_0 hx1450007_0 hHeld ⊢; refine pure_ (i := 0) (N := some 22) (v := ?_) (a' := ?_) #[true, false, false, false, false, false, false, false, false, false, false, false, false, false, false, false, false, false, false, false, false, false, false, false, false, false, false, false, false, false, false, false, false] rfl rfl (any_of HT_.out (by kernel_rfl)) (fun _ _ _ h => h) (Or.inl ⟨by rfl, ?_⟩) ?_ ?_; rotate_left
             ·intro w'; go_simp
              with_reducible rfl
             rotate_left
             ·simp only [Act.put, List.setIfInBounds_toArray, List.set_cons_zero, List.set_cons_succ, i64_w, i32_w]; rfl
             refine pure_ (i := 1) (N := some 23) (v := ?_) (a' := ?_) #[true, true, false, false, false, false, false, false, false, false, false, false, false, false, false, false, false, false, false, false, false, false, false, false, false, false, false, false, false, false, false, false, false] rfl rfl (any_of HT_.out (by kernel_rfl)) (fun _ _ _ h => h) (Or.inl ⟨by rfl, ?_⟩) ?_ ?_; rotate_left
             ·intro w'; go_simp
              with_reducible rfl
             rotate_left
             ·simp only [Act.put, List.setIfInBounds_toArray, List.set_cons_zero, List.set_cons_succ, i64_w, i32_w]; rfl
             refine pure_ (i := 2) (N := some 24) (v := ?_) (a' := ?_) #[true, true, true, false, false, false, false, false, false, false, false, false, false, false, false, false, false, false, false, false, false, false, false, false, false, false, false, false, false, false, false, false, false] rfl rfl (any_of HT_.out (by kernel_rfl)) (fun _ _ _ h => h) (Or.inl ⟨by rfl, ?_⟩) ?_ ?_; rotate_left
             ·intro w'; go_simp
              with_reducible rfl
             rotate_left
             ·simp only [Act.put, List.setIfInBounds_toArray, List.set_cons_zero, List.set_cons_succ, i64_w, i32_w]; rfl
             refine pure_ (i := 3) (N := some 25) (v := ?_) (a' := ?_) #[true, true, true, true, false, false, false, false, false, false, false, false, false, false, false, false, false, false, false, false, false, false, false, false, false, false, false, false, false, false, false, false, false] rfl rfl (any_of HT_.out (by kernel_rfl)) (fun _ _ _ h => h) (Or.inl ⟨by rfl, ?_⟩) ?_ ?_; rotate_left
             ·intro w'; go_simp
              with_reducible rfl
             rotate_left
             ·simp only [Act.put, List.setIfInBounds_toArray, List.set_cons_zero, List.set_cons_succ, i64_w, i32_w]; rfl
             refine pure_ (i := 7) (N := some 29) (v := ?_) (a' := ?_) #[true, true, true, true, false, false, false, true, false, false, false, false, false, false, false, false, false, false, false, false, false, false, false, false, false, false, false, false, false, false, false, false, false] rfl rfl (any_of HT_.out (by kernel_rfl)) (fun _ _ _ h => h) (Or.inl ⟨by rfl, ?_⟩) ?_ ?_; rotate_left
             ·intro w'; go_simp
              with_reducible rfl
             rotate_left
             ·simp only [Act.put, List.setIfInBounds_toArray, List.set_cons_zero, List.set_cons_succ, i64_w, i32_w]; rfl
             refine pure_ (i := 8) (N := some 30) (v := ?_) (a' := ?_) #[true, true, true, true, false, false, false, true, true, false, false, false, false, false, false, false, false, false, false, false, false, false, false, false, false, false, false, false, false, false, false, false, false] rfl rfl (any_of HT_.out (by kernel_rfl)) (fun _ _ _ h => h) (Or.inl ⟨by rfl, ?_⟩) ?_ ?_; rotate_left
             ·intro w'; go_simp
              with_reducible rfl
             rotate_left
             ·simp only [Act.put, List.setIfInBounds_toArray, List.set_cons_zero, List.set_cons_succ, i64_w, i32_w]; rfl
             refine pure_ (i := 9) (N := some 31) (v := ?_) (a' := ?_) #[true, true, true, true, false, false, false, true, true, true, false, false, false, false, false, false, false, false, false, false, false, false, false, false, false, false, false, false, false, false, false, false, false] rfl rfl (any_of HT_.out (by kernel_rfl)) (fun _ _ _ h => h) (Or.inl ⟨by rfl, ?_⟩) ?_ ?_; rotate_left
             ·intro w'; go_simp
              with_reducible rfl
             rotate_left
             ·simp only [Act.put, List.setIfInBounds_toArray, List.set_cons_zero, List.set_cons_succ, i64_w, i32_w]; rfl
             refine pure_ (i := 10) (N := some 32) (v := ?_) (a' := ?_) #[true, true, true, true, false, false, false, true, true, true, true, false, false, false, false, false, false, false, false, false, false, false, false, false, false, false, false, false, false, false, false, false, false] rfl rfl (any_of HT_.out (by kernel_rfl)) (fun _ _ _ h => h) (Or.inl ⟨by rfl, ?_⟩) ?_ ?_; rotate_left
             ·intro w'; go_simp
              with_reducible rfl
             rotate_left
             ·simp only [Act.put, List.setIfInBounds_toArray, List.set_cons_zero, List.set_cons_succ, i64_w, i32_w]; rfl
             refine pure_ (i := 15) (N := some 37) (v := ?_) (a' := ?_) #[true, true, true, true, false, false, false, true, true, true, true, false, false, false, false, true, false, false, false, false, false, false, false, false, false, false, false, false, false, false, false, false, false] rfl rfl (any_of HT_.out (by kernel_rfl)) (fun _ _ _ h => h) (Or.inl ⟨by rfl, ?_⟩) ?_ ?_; rotate_left
             ·intro w'; go_simp
              with_reducible rfl
             rotate_left
             ·simp only [Act.put, List.setIfInBounds_toArray, List.set_cons_zero, List.set_cons_succ, i64_w, i32_w]; rfl
             refine pure_ (i := 16) (N := some 38) (v := ?_) (a' := ?_) #[true, true, true, true, false, false, false, true, true, true, true, false, false, false, false, true, true, false, false, false, false, false, false, false, false, false, false, false, false, false, false, false, false] rfl rfl (any_of HT_.out (by kernel_rfl)) (fun _ _ _ h => h) (Or.inl ⟨by rfl, ?_⟩) ?_ ?_; rotate_left
             ·intro w'; go_simp
              with_reducible rfl
             rotate_left
             ·simp only [Act.put, List.setIfInBounds_toArray, List.set_cons_zero, List.set_cons_succ, i64_w, i32_w]; rfl
             refine pure_ (i := 17) (N := some 39) (v := ?_) (a' := ?_) #[true, true, true, true, false, false, false, true, true, true, true, false, false, false, false, true, true, true, false, false, false, false, false, false, false, false, false, false, false, false, false, false, false] rfl rfl (any_of HT_.out (by kernel_rfl)) (fun _ _ _ h => h) (Or.inl ⟨by rfl, ?_⟩) ?_ ?_; rotate_left
             ·intro w'; go_simp
              with_reducible rfl
             rotate_left
             ·simp only [Act.put, List.setIfInBounds_toArray, List.set_cons_zero, List.set_cons_succ, i64_w, i32_w]; rfl
             refine pure_ (i := 18) (N := some 40) (v := ?_) (a' := ?_) #[true, true, true, true, false, false, false, true, true, true, true, false, false, false, false, true, true, true, true, false, false, false, false, false, false, false, false, false, false, false, false, false, false] rfl rfl (any_of HT_.out (by kernel_rfl)) (fun _ _ _ h => h) (Or.inl ⟨by rfl, ?_⟩) ?_ ?_; rotate_left
             ·intro w'; go_simp
              with_reducible rfl
             rotate_left
             ·simp only [Act.put, List.setIfInBounds_toArray, List.set_cons_zero, List.set_cons_succ, i64_w, i32_w]; rfl
             refine pure_ (i := 23) (N := some 45) (v := ?_) (a' := ?_) #[true, true, true, true, false, false, false, true, true, true, true, false, false, false, false, true, true, true, true, false, false, false, false, true, false, false, false, false, false, false, false, false, false] rfl rfl (any_of HT_.out (by kernel_rfl)) (fun _ _ _ h => h) (Or.inl ⟨by rfl, ?_⟩) ?_ ?_; rotate_left
             ·intro w'; go_simp
              with_reducible rfl
             rotate_left
             ·simp only [Act.put, List.setIfInBounds_toArray, List.set_cons_zero, List.set_cons_succ, i64_w, i32_w]; rfl
             refine pure_ (i := 24) (N := some 46) (v := ?_) (a' := ?_) #[true, true, true, true, false, false, false, true, true, true, true, false, false, false, false, true, true, true, true, false, false, false, false, true, true, false, false, false, false, false, false, false, false] rfl rfl (any_of HT_.out (by kernel_rfl)) (fun _ _ _ h => h) (Or.inl ⟨by rfl, ?_⟩) ?_ ?_; rotate_left
             ·intro w'; go_simp
              with_reducible rfl
             rotate_left
             ·simp only [Act.put, List.setIfInBounds_toArray, List.set_cons_zero, List.set_cons_succ, i64_w, i32_w]; rfl
             refine pure_ (i := 25) (N := some 47) (v := ?_) (a' := ?_) #[true, true, true, true, false, false, false, true, true, true, true, false, false, false, false, true, true, true, true, false, false, false, false, true, true, true, false, false, false, false, false, false, false] rfl rfl (any_of HT_.out (by kernel_rfl)) (fun _ _ _ h => h) (Or.inl ⟨by rfl, ?_⟩) ?_ ?_; rotate_left
             ·intro w'; go_simp
              with_reducible rfl
             rotate_left
             ·simp only [Act.put, List.setIfInBounds_toArray, List.set_cons_zero, List.set_cons_succ, i64_w, i32_w]; rfl
             refine pure_ (i := 26) (N := some 48) (v := ?_) (a' := ?_) #[true, true, true, true, false, false, false, true, true, true, true, false, false, false, false, true, true, true, true, false, false, false, false, true, true, true, true, false, false, false, false, false, false] rfl rfl (any_of HT_.out (by kernel_rfl)) (fun _ _ _ h => h) (Or.inl ⟨by rfl, ?_⟩) ?_ ?_; rotate_left
             ·intro w'; go_simp
              with_reducible rfl
             rotate_left
             ·simp only [Act.put, List.setIfInBounds_toArray, List.set_cons_zero, List.set_cons_succ, i64_w, i32_w]; rfl
             refine take_ (i := 4) (N := some 26) (v := ?_) (a' := ?_) #[true, true, true, true, true, false, false, true, true, true, true, false, false, false, false, true, true, true, true, false, false, false, false, true, true, true, true, false, false, false, false, false, false] rfl rfl (take_ofW HT_.out HW_.out (by kernel_rfl)) (fun _ _ _ h => h) (Or.inl ⟨by rfl, ?_⟩) hHeld ?_ ?_; rotate_left
             ·rintro w' ⟨s0, s1, s2, s3⟩; go_simp
              with_reducible rfl
             rotate_left
             ·simp only [Act.put, List.setIfInBounds_toArray, List.set_cons_zero, List.set_cons_succ, i64_w, i32_w]; rfl
             refine pure_ (i := 5) (N := some 27) (v := ?_) (a' := ?_) #[true, true, true, true, true, true, false, true, true, true, true, false, false, false, false, true, true, true, true, false, false, false, false, true, true, true, true, false, false, false, false, false, false] rfl rfl (any_of HT_.out (by kernel_rfl)) (fun _ _ _ h => h) (Or.inl ⟨by rfl, ?_⟩) ?_ ?_; rotate_left
             ·intro w'; go_simp
              with_reducible rfl
             rotate_left
             ·simp only [Act.put, List.setIfInBounds_toArray, List.set_cons_zero, List.set_cons_succ, i64_w, i32_w]; rfl
             refine pure_ (i := 6) (N := some 28) (v := ?_) (a' := ?_) #[true, true, true, true, true, true, true, true, true, true, true, false, false, false, false, true, true, true, true, false, false, false, false, true, true, true, true, false, false, false, false, false, false] rfl rfl (any_of HT_.out (by kernel_rfl)) (fun _ _ _ h => h) (Or.inl ⟨by rfl, ?_⟩) ?_ ?_; rotate_left
             ·intro w'; go_simp
              with_reducible rfl
             rotate_left
             ·simp only [Act.put, List.setIfInBounds_toArray, List.set_cons_zero, List.set_cons_succ, i64_w, i32_w]; rfl
             refine take_ (i := 11) (N := some 33) (v := ?_) (a' := ?_) #[true, true, true, true, true, true, true, true, true, true, true, true, false, false, false, true, true, true, true, false, false, false, false, true, true, true, true, false, false, false, false, false, false] rfl rfl (take_ofW HT_.out HW_.out (by kernel_rfl)) (fun _ _ _ h => h) (Or.inl ⟨by rfl, ?_⟩) hHeld ?_ ?_; rotate_left
             ·rintro w' ⟨s0, s1, s2, s3⟩; go_simp
              with_reducible rfl
             rotate_left
             ·simp only [Act.put, List.setIfInBounds_toArray, List.set_cons_zero, List.set_cons_succ, i64_w, i32_w]; rfl
             refine pure_ (i := 12) (N := some 34) (v := ?_) (a' := ?_) #[true, true, true, true, true, true, true, true, true, true, true, true, true, false, false, true, true, true, true, false, false, false, false, true, true, true, true, false, false, false, false, false, false] rfl rfl (any_of HT_.out (by kernel_rfl)) (fun _ _ _ h => h) (Or.inl ⟨by rfl, ?_⟩) ?_ ?_; rotate_left
             ·intro w'; go_simp
              with_reducible rfl
             rotate_left
             ·simp only [Act.put, List.setIfInBounds_toArray, List.set_cons_zero, List.set_cons_succ, i64_w, i32_w]; rfl
             refine pure_ (i := 13) (N := some 35) (v := ?_) (a' := ?_) #[true, true, true, true, true, true, true, true, true, true, true, true, true, true, false, true, true, true, true, false, false, false, false, true, true, true, true, false, false, false, false, false, false] rfl rfl (any_of HT_.out (by kernel_rfl)) (fun _ _ _ h => h) (Or.inl ⟨by rfl, ?_⟩) ?_ ?_; rotate_left
             ·intro w'; go_simp
              with_reducible rfl
             rotate_left
             ·simp only [Act.put, List.setIfInBounds_toArray, List.set_cons_zero, List.set_cons_succ, i64_w, i32_w]; rfl
             refine pure_ (i := 14) (N := some 36) (v := ?_) (a' := ?_) #[true, true, true, true, true, true, true, true, true, true, true, true, true, true, true, true, true, true, true, false, false, false, false, true, true, true, true, false, false, false, false, false, false] rfl rfl (any_of HT_.out (by kernel_rfl)) (fun _ _ _ h => h) (Or.inl ⟨by rfl, ?_⟩) ?_ ?_; rotate_left
             ·intro w'; go_simp
              with_reducible rfl
             rotate_left
             ·simp only [Act.put, List.setIfInBounds_toArray, List.set_cons_zero, List.set_cons_succ, i64_w, i32_w]; rfl
             refine take_ (i := 19) (N := some 41) (v := ?_) (a' := ?_) #[true, true, true, true, true, true, true, true, true, true, true, true, true, true, true, true, true, true, true, true, false, false, false, true, true, true, true, false, false, false, false, false, false] rfl rfl (take_ofW HT_.out HW_.out (by kernel_rfl)) (fun _ _ _ h => h) (Or.inl ⟨by rfl, ?_⟩) hHeld ?_ ?_; rotate_left
             ·rintro w' ⟨s0, s1, s2, s3⟩; go_simp
              with_reducible rfl
             rotate_left
             ·simp only [Act.put, List.setIfInBounds_toArray, List.set_cons_zero, List.set_cons_succ, i64_w, i32_w]; rfl
             refine pure_ (i := 20) (N := some 42) (v := ?_) (a' := ?_) #[true, true, true, true, true, true, true, true, true, true, true, true, true, true, true, true, true, true, true, true, true, false, false, true, true, true, true, false, false, false, false, false, false] rfl rfl (any_of HT_.out (by kernel_rfl)) (fun _ _ _ h => h) (Or.inl ⟨by rfl, ?_⟩) ?_ ?_; rotate_left
             ·intro w'; go_simp
              with_reducible rfl
             rotate_left
             ·simp only [Act.put, List.setIfInBounds_toArray, List.set_cons_zero, List.set_cons_succ, i64_w, i32_w]; rfl
             refine pure_ (i := 21) (N := some 43) (v := ?_) (a' := ?_) #[true, true, true, true, true, true, true, true, true, true, true, true, true, true, true, true, true, true, true, true, true, true, false, true, true, true, true, false, false, false, false, false, false] rfl rfl (any_of HT_.out (by kernel_rfl)) (fun _ _ _ h => h) (Or.inl ⟨by rfl, ?_⟩) ?_ ?_; rotate_left
             ·intro w'; go_simp
              with_reducible rfl
             rotate_left
             ·simp only [Act.put, List.setIfInBounds_toArray, List.set_cons_zero, List.set_cons_succ, i64_w, i32_w]; rfl
             refine pure_ (i := 22) (N := some 44) (v := ?_) (a' := ?_) #[true, true, true, true, true, true, true, true, true, true, true, true, true, true, true, true, true, true, true, true, true, true, true, true, true, true, true, false, false, false, false, false, false] rfl rfl (any_of HT_.out (by kernel_rfl)) (fun _ _ _ h => h) (Or.inl ⟨by rfl, ?_⟩) ?_ ?_; rotate_left
             ·intro w'; go_simp
              with_reducible rfl
             rotate_left
             ·simp only [Act.put, List.setIfInBounds_toArray, List.set_cons_zero, List.set_cons_succ, i64_w, i32_w]; rfl
             refine take_ (i := 27) (N := some 49) (v := ?_) (a' := ?_) #[true, true, true, true, true, true, true, true, true, true, true, true, true, true, true, true, true, true, true, true, true, true, true, true, true, true, true, true, false, false, false, false, false] rfl rfl (take_ofW HT_.out HW_.out (by kernel_rfl)) (fun _ _ _ h => h) (Or.inl ⟨by rfl, ?_⟩) hHeld ?_ ?_; rotate_left
             ·rintro w' ⟨s0, s1, s2, s3⟩; go_simp
              with_reducible rfl
             rotate_left
             ·simp only [Act.put, List.setIfInBounds_toArray, List.set_cons_zero, List.set_cons_succ, i64_w, i32_w]; rfl
             refine pure_ (i := 28) (N := some 50) (v := ?_) (a' := ?_) #[true, true, true, true, true, true, true, true, true, true, true, true, true, true, true, true, true, true, true, true, true, true, true, true, true, true, true, true, true, false, false, false, false] rfl rfl (any_of HT_.out (by kernel_rfl)) (fun _ _ _ h => h) (Or.inl ⟨by rfl, ?_⟩) ?_ ?_; rotate_left
             ·intro w'; go_simp
              with_reducible rfl
             rotate_left
             ·simp only [Act.put, List.setIfInBounds_toArray, List.set_cons_zero, List.set_cons_succ, i64_w, i32_w]; rfl
             refine pure_ (i := 29) (N := some 51) (v := ?_) (a' := ?_) #[true, true, true, true, true, true, true, true, true, true, true, true, true, true, true, true, true, true, true, true, true, true, true, true, true, true, true, true, true, true, false, false, false] rfl rfl (any_of HT_.out (by kernel_rfl)) (fun _ _ _ h => h) (Or.inl ⟨by rfl, ?_⟩) ?_ ?_; rotate_left
             ·intro w'; go_simp
              with_reducible rfl
             rotate_left
             ·simp only [Act.put, List.setIfInBounds_toArray, List.set_cons_zero, List.set_cons_succ, i64_w, i32_w]; rfl
             refine one_ (i := 30) (N := some 52) #[true, true, true, true, true, true, true, true, true, true, true, true, true, true, true, true, true, true, true, true, true, true, true, true, true, true, true, true, true, true, true, false, false] rfl rfl (one_of HT_.out (by kernel_rfl)) (by decide) (fun K hK => ?_); refine value_ (w1 := ?_) (v := ?_) (by rfl) rfl ?_ ?_; rotate_left 2
             ·go_simp
              constructor
              ·rfl
              ·rfl
             refine hK.out _ _ ⟨(World.cell?_alloc_lt _ _ _ (World.block_lt_of_cell? _ _ (((HB.out.cell (World.block_lt_of_cell? w _ hw1450004_0)).trans hw1450004_0)))).trans (((HB.out.cell (World.block_lt_of_cell? w _ hw1450004_0)).trans hw1450004_0)), (World.cell?_alloc_lt _ _ _ (World.block_lt_of_cell? _ _ (((HB.out.cell (World.block_lt_of_cell? w _ hw1450005_0)).trans hw1450005_0)))).trans (((HB.out.cell (World.block_lt_of_cell? w _ hw1450005_0)).trans hw1450005_0)), (World.cell?_alloc_lt _ _ _ (World.block_lt_of_cell? _ _ (((HB.out.cell (World.block_lt_of_cell? w _ hw1450006_0)).trans hw1450006_0)))).trans (((HB.out.cell (World.block_lt_of_cell? w _ hw1450006_0)).trans hw1450006_0)), (World.cell?_alloc_lt _ _ _ (World.block_lt_of_cell? _ _ (((HB.out.cell (World.block_lt_of_cell? w _ hw1450007_0)).trans hw1450007_0)))).trans (((HB.out.cell (World.block_lt_of_cell? w _ hw1450007_0)).trans hw1450007_0))⟩ (fun hHeld => ?_); clear hK K; refine norm_ (a' := ?_) ?_ ?_; rotate_left
             ·show Act.put _ (some 52) _ = _; simp only [Act.put, List.setIfInBounds_toArray, List.set_cons_zero, List.set_cons_succ, i64_w, i32_w]; rfl
             refine one_ (i := 31) (N := some 53) #[true, true, true, true, true, true, true, true, true, true, true, true, true, true, true, true, true, true, true, true, true, true, true, true, true, true, true, true, true, true, true, true, false] rfl rfl (one_of HT_.out (by kernel_rfl)) (by decide) (fun K hK => ?_); refine Kd.R_append_step (Kd.int .u32) (w0 := w) w.heap.size (by rfl) (.tmp 22) (.tmp 52) 185 129 (.int .u32 0) 4 rfl Tryd.underlying185 info129 rfl (by decide) (by omega) u5 x5_1 (Go.bits .or .u32 (Go.bits .or .u32 (Go.bits .or .u32 ((((rd l0 (ji6)) % 4294967296) * 16777216) % 4294967296) ((((rd l0 (ji9)) % 4294967296) * 65536) % 4294967296)) ((((rd l0 (ji12)) % 4294967296) * 256) % 4294967296)) ((rd l0 (ji15)) % 4294967296)) [.int .u32 (Go.bits .or .u32 (Go.bits .or .u32 (Go.bits .or .u32 ((((rd l0 (ji6)) % 4294967296) * 16777216) % 4294967296) ((((rd l0 (ji9)) % 4294967296) * 65536) % 4294967296)) ((((rd l0 (ji12)) % 4294967296) * 256) % 4294967296)) ((rd l0 (ji15)) % 4294967296))] (fun _ => True) (fun _ => False) rfl rfl ?aP (fun _ hk => hk.elim) ?aF ?aO ?aB ?aS ?aL ?_; (case aP => exact rfl); (case aB => exact (by repeat (first | (with_reducible first | exact HB.out | apply below_alloc | apply pw_below_drewN | apply below_drew1) | exact HB.out))); (case aF => exact (fun _ _ => trivial)); (case aO => exact (by (with_reducible repeat (first | apply Kd.R_alloc | apply Kd.R_drewN | apply Kd.R_drew)); exact HO_5.out)); (case aS => exact (below_size (by repeat (first | (with_reducible first | exact HB.out | apply below_alloc | apply pw_below_drewN | apply below_drew1) | exact HB.out)))); (case aL => have := LMc18.out; omega); intro v1450009 w20 ho hb hg hat; rw [← Ny1450008.out] at ho; have n0_ := Aside0.mk (hb); have n1_ := Aside0.mk (ho); clear HB; clear HO_5; have HB := n0_; have HO1450010 := n1_; clear n0_ n1_; clear ho hb hg hat; refine hK.out _ _ ⟨((HB.out.cell (World.block_lt_of_cell? w _ hw1450004_0)).trans hw1450004_0), ((HB.out.cell (World.block_lt_of_cell? w _ hw1450005_0)).trans hw1450005_0), ((HB.out.cell (World.block_lt_of_cell? w _ hw1450006_0)).trans hw1450006_0), ((HB.out.cell (World.block_lt_of_cell? w _ hw1450007_0)).trans hw1450007_0)⟩ (fun hHeld => ?_); clear hK K; refine norm_ (a' := ?_) ?_ ?_; rotate_left
             ·show Act.put _ (some 53) _ = _; simp only [Act.put, List.setIfInBounds_toArray, List.set_cons_zero, List.set_cons_succ, i64_w, i32_w]; rfl
             refine pure_ (i := 32) (N := some 5) (v := ?_) (a' := ?_) #[true, true, true, true, true, true, true, true, true, true, true, true, true, true, true, true, true, true, true, true, true, true, true, true, true, true, true, true, true, true, true, true, true] rfl rfl (any_of HT_.out (by kernel_rfl)) (fun _ _ _ h => h) (Or.inl ⟨by rfl, ?_⟩) ?_ ?_; rotate_left
             ·intro w'; go_simp
              with_reducible rfl
             rotate_left
             ·simp only [Act.put, List.setIfInBounds_toArray, List.set_cons_zero, List.set_cons_succ, i64_w, i32_w]; rfl
             refine done_ (done_of HT_.out (by kernel_rfl)) ?_
             try go_wp2
             go_roundg k1
             case measure => have := HK1.out; omega
             case rel => exact ⟨(y1450008), (wrap64 (x6_1 + 1)), (by first | rfl | (simp; done) | (simp [*]; done)), H', ⟨by have := HK1.out; omega⟩, ⟨by (with_reducible repeat (first | apply Kd.R_alloc | apply Kd.R_drewN | apply Kd.R_drew)); exact HO1450010.out⟩, ⟨by repeat (first | (with_reducible first | exact HB.out | apply below_alloc | apply pw_below_drewN | apply below_drew1) | exact HB.out)⟩⟩
            ·rw [if_neg c18] at H; exact absurd H (by simp)
           ·rw [if_neg c17] at H; exact absurd H (by simp)
          ·rw [if_neg c16] at H; exact absurd H (by simp)
         ·rw [if_neg c14] at H; exact absurd H (by simp)
        ·rw [if_neg c13] at H; exact absurd H (by simp)
       ·rw [if_neg c11] at H; exact absurd H (by simp)
      ·rw [if_neg c10] at H; exact absurd H (by simp)
     ·rw [if_neg c8] at H; exact absurd H (by simp)
    ·rw [if_neg c7] at H; exact absurd H (by simp)
   ·rw [if_neg c5] at H; have c5b0 : decide (x6_1 < 16) = false := decide_eq_false c5; clear c5; have H' := Aside0.mk H; clear H
    go_wp2
    go_loopg [5, 8] k1 (fun kq v5 v8 w' => ∃ (x5_2 : List Int) (x8_2 : Int), v8 = .int .i64 x8_2 ∧ Aside0 (spec_l1Schedule.l1 kq x5_2 x8_2 = some r) ∧ Aside0 (kq ≤ k1) ∧ Aside0 (Kd.R (Kd.int .u32) 129 w' w.heap.size (fun _ => True) v5 x5_2) ∧ Aside0 (Below w.heap.size w w'))
    case atStart => exact ⟨(x5_1), (16), (by first | rfl | (simp; done) | (simp [*]; done)), H', ⟨Nat.le_refl _⟩, ⟨by (with_reducible repeat (first | apply Kd.R_alloc | apply Kd.R_drewN | apply Kd.R_drew)); exact HO_5.out⟩, ⟨by repeat (first | (with_reducible first | exact HB.out | apply below_alloc | apply pw_below_drewN | apply below_drew1) | exact HB.out)⟩⟩
    case round =>
     clear H'
     try clear c1
     try clear p1
     try clear q1
     try clear hx1
     try clear p2
     try clear c5
     try clear c5b0
     try clear p6
     try clear c7
     try clear c7b0
     try clear c8
     try clear c8b0
     try clear c10
     try clear c10b0
     try clear c11
     try clear c11b0
     try clear c13
     try clear c13b0
     try clear c14
     try clear c14b0
     try clear p14
     try clear q14
     try clear hx14
     try clear c16
     try clear c16b0
     try clear c17
     try clear c17b0
     try clear c18
     try clear hx1450004_0
     try clear hx1450005_0
     try clear hx1450006_0
     try clear hx1450007_0
     try clear p1450004
     try clear p1450005
     try clear p1450006
     try clear p1450007
     try clear p2
     try clear q1450004
     try clear q1450005
     try clear q1450006
     try clear q1450007
     obtain ⟨x5_2, x8_2, rfl, HA, HK2, HO_5, HB⟩ := hrel
     cases gk with
     | zero => exact absurd HA.out (by simp [spec_l1Schedule.l1])
     | succ k2 =>
      have H := HA.out; clear HA; simp only [spec_l1Schedule.l1] at H
      by_cases c21 : x8_2 < 64
      ·rw [if_pos c21] at H; have c21b0 : decide (x8_2 < 64) = true := decide_eq_true c21; clear c21; obtain ⟨ji22, hji22⟩ : ∃ j_ : Int, (wrap64 (x8_2 - 15)) = j_ := ⟨_, rfl⟩
       replace H : (if 0 ≤ (ji22) then (if (ji22) < (x5_2.length : Int) then (if 0 ≤ (wrap64 (x8_2 - 2)) then (if (wrap64 (x8_2 - 2)) < (x5_2.length : Int) then ((spec_l1Turn.f (rd x5_2 (ji22)) 7).bind fun t1450013 => ((spec_l1Turn.f (rd x5_2 (ji22)) 18).bind fun t1450014 => ((spec_l1Turn.f (rd x5_2 (wrap64 (x8_2 - 2))) 17).bind fun t1450015 => ((spec_l1Turn.f (rd x5_2 (wrap64 (x8_2 - 2))) 19).bind fun t1450016 => (if 0 ≤ (wrap64 (x8_2 - 16)) then (if (wrap64 (x8_2 - 16)) < (x5_2.length : Int) then (if 0 ≤ (wrap64 (x8_2 - 7)) then (if (wrap64 (x8_2 - 7)) < (x5_2.length : Int) then (if x5_2.length < 35184372088832 then (spec_l1Schedule.l1 k2 (x5_2 ++ [((((((rd x5_2 (wrap64 (x8_2 - 16))) + (Go.bits .xor .u32 (Go.bits .xor .u32 t1450013 t1450014) ((rd x5_2 (ji22)) / 8))) % 4294967296) + (rd x5_2 (wrap64 (x8_2 - 7)))) % 4294967296) + (Go.bits .xor .u32 (Go.bits .xor .u32 t1450015 t1450016) ((rd x5_2 (wrap64 (x8_2 - 2))) / 1024))) % 4294967296]) (wrap64 (x8_2 + 1))) else (none)) else (none)) else (none)) else (none)) else (none)))))) else (none)) else (none)) else (none)) else (none)) = some r := by first | (rw [hji22] at H; exact H) | (simp only [hji22] at H ⊢; exact H)
       have hji22w : (IntKind.i64.wrap (x8_2 - 15)) = ji22 := (i64_w _).trans hji22
       by_cases c23 : 0 ≤ (ji22)
       ·rw [if_pos c23] at H; have c23b0 : decide (0 ≤ (ji22)) = true := decide_eq_true c23; clear c23
        by_cases c24 : (ji22) < (x5_2.length : Int)
        ·rw [if_pos c24] at H; have c24b0 : decide ((ji22) < (x5_2.length : Int)) = true := decide_eq_true c24; clear c24; obtain ⟨ji25, hji25⟩ : ∃ j_ : Int, (wrap64 (x8_2 - 2)) = j_ := ⟨_, rfl⟩
         replace H : (if 0 ≤ (ji25) then (if (ji25) < (x5_2.length : Int) then ((spec_l1Turn.f (rd x5_2 (ji22)) 7).bind fun t1450013 => ((spec_l1Turn.f (rd x5_2 (ji22)) 18).bind fun t1450014 => ((spec_l1Turn.f (rd x5_2 (ji25)) 17).bind fun t1450015 => ((spec_l1Turn.f (rd x5_2 (ji25)) 19).bind fun t1450016 => (if 0 ≤ (wrap64 (x8_2 - 16)) then (if (wrap64 (x8_2 - 16)) < (x5_2.length : Int) then (if 0 ≤ (wrap64 (x8_2 - 7)) then (if (wrap64 (x8_2 - 7)) < (x5_2.length : Int) then (if x5_2.length < 35184372088832 then (spec_l1Schedule.l1 k2 (x5_2 ++ [((((((rd x5_2 (wrap64 (x8_2 - 16))) + (Go.bits .xor .u32 (Go.bits .xor .u32 t1450013 t1450014) ((rd x5_2 (ji22)) / 8))) % 4294967296) + (rd x5_2 (wrap64 (x8_2 - 7)))) % 4294967296) + (Go.bits .xor .u32 (Go.bits .xor .u32 t1450015 t1450016) ((rd x5_2 (ji25)) / 1024))) % 4294967296]) (wrap64 (x8_2 + 1))) else (none)) else (none)) else (none)) else (none)) else (none)))))) else (none)) else (none)) = some r := by first | (rw [hji25] at H; exact H) | (simp only [hji25] at H ⊢; exact H)
         have hji25w : (IntKind.i64.wrap (x8_2 - 2)) = ji25 := (i64_w _).trans hji25
         by_cases c26 : 0 ≤ (ji25)
         ·rw [if_pos c26] at H; have c26b0 : decide (0 ≤ (ji25)) = true := decide_eq_true c26; clear c26
          by_cases c27 : (ji25) < (x5_2.length : Int)
          ·rw [if_pos c27] at H; have c27b0 : decide ((ji25) < (x5_2.length : Int)) = true := decide_eq_true c27; clear c27; replace H := Option.bind_eq_some_iff.mp H; obtain ⟨t1450013, A280, H⟩ := H; replace H : ((spec_l1Turn.f (rd x5_2 (ji22)) 18).bind fun t1450014 => ((spec_l1Turn.f (rd x5_2 (ji25)) 17).bind fun t1450015 => ((spec_l1Turn.f (rd x5_2 (ji25)) 19).bind fun t1450016 => (if 0 ≤ (wrap64 (x8_2 - 16)) then (if (wrap64 (x8_2 - 16)) < (x5_2.length : Int) then (if 0 ≤ (wrap64 (x8_2 - 7)) then (if (wrap64 (x8_2 - 7)) < (x5_2.length : Int) then (if x5_2.length < 35184372088832 then (spec_l1Schedule.l1 k2 (x5_2 ++ [((((((rd x5_2 (wrap64 (x8_2 - 16))) + (Go.bits .xor .u32 (Go.bits .xor .u32 t1450013 t1450014) ((rd x5_2 (ji22)) / 8))) % 4294967296) + (rd x5_2 (wrap64 (x8_2 - 7)))) % 4294967296) + (Go.bits .xor .u32 (Go.bits .xor .u32 t1450015 t1450016) ((rd x5_2 (ji25)) / 1024))) % 4294967296]) (wrap64 (x8_2 + 1))) else (none)) else (none)) else (none)) else (none)) else (none))))) = some r := H; have A28 := Aside0.mk A280; clear A280; replace H := Option.bind_eq_some_iff.mp H; obtain ⟨t1450014, A290, H⟩ := H; replace H : ((spec_l1Turn.f (rd x5_2 (ji25)) 17).bind fun t1450015 => ((spec_l1Turn.f (rd x5_2 (ji25)) 19).bind fun t1450016 => (if 0 ≤ (wrap64 (x8_2 - 16)) then (if (wrap64 (x8_2 - 16)) < (x5_2.length : Int) then (if 0 ≤ (wrap64 (x8_2 - 7)) then (if (wrap64 (x8_2 - 7)) < (x5_2.length : Int) then (if x5_2.length < 35184372088832 then (spec_l1Schedule.l1 k2 (x5_2 ++ [((((((rd x5_2 (wrap64 (x8_2 - 16))) + (Go.bits .xor .u32 (Go.bits .xor .u32 t1450013 t1450014) ((rd x5_2 (ji22)) / 8))) % 4294967296) + (rd x5_2 (wrap64 (x8_2 - 7)))) % 4294967296) + (Go.bits .xor .u32 (Go.bits .xor .u32 t1450015 t1450016) ((rd x5_2 (ji25)) / 1024))) % 4294967296]) (wrap64 (x8_2 + 1))) else (none)) else (none)) else (none)) else (none)) else (none)))) = some r := H; have A29 := Aside0.mk A290; clear A290; replace H := Option.bind_eq_some_iff.mp H; obtain ⟨t1450015, A300, H⟩ := H
           replace H : ((spec_l1Turn.f (rd x5_2 (ji25)) 19).bind fun t1450016 => (if 0 ≤ (wrap64 (x8_2 - 16)) then (if (wrap64 (x8_2 - 16)) < (x5_2.length : Int) then (if 0 ≤ (wrap64 (x8_2 - 7)) then (if (wrap64 (x8_2 - 7)) < (x5_2.length : Int) then (if x5_2.length < 35184372088832 then (spec_l1Schedule.l1 k2 (x5_2 ++ [((((((rd x5_2 (wrap64 (x8_2 - 16))) + (Go.bits .xor .u32 (Go.bits .xor .u32 t1450013 t1450014) ((rd x5_2 (ji22)) / 8))) % 4294967296) + (rd x5_2 (wrap64 (x8_2 - 7)))) % 4294967296) + (Go.bits .xor .u32 (Go.bits .xor .u32 t1450015 t1450016) ((rd x5_2 (ji25)) / 1024))) % 4294967296]) (wrap64 (x8_2 + 1))) else (none)) else (none)) else (none)) else (none)) else (none))) = some r := H; have A30 := Aside0.mk A300; clear A300; replace H := Option.bind_eq_some_iff.mp H; obtain ⟨t1450016, A310, H⟩ := H; replace H : (if 0 ≤ (wrap64 (x8_2 - 16)) then (if (wrap64 (x8_2 - 16)) < (x5_2.length : Int) then (if 0 ≤ (wrap64 (x8_2 - 7)) then (if (wrap64 (x8_2 - 7)) < (x5_2.length : Int) then (if x5_2.length < 35184372088832 then (spec_l1Schedule.l1 k2 (x5_2 ++ [((((((rd x5_2 (wrap64 (x8_2 - 16))) + (Go.bits .xor .u32 (Go.bits .xor .u32 t1450013 t1450014) ((rd x5_2 (ji22)) / 8))) % 4294967296) + (rd x5_2 (wrap64 (x8_2 - 7)))) % 4294967296) + (Go.bits .xor .u32 (Go.bits .xor .u32 t1450015 t1450016) ((rd x5_2 (ji25)) / 1024))) % 4294967296]) (wrap64 (x8_2 + 1))) else (none)) else (none)) else (none)) else (none)) else (none)) = some r := H; have A31 := Aside0.mk A310; clear A310; obtain ⟨ji32, hji32⟩ : ∃ j_ : Int, (wrap64 (x8_2 - 16)) = j_ := ⟨_, rfl⟩
           replace H : (if 0 ≤ (ji32) then (if (ji32) < (x5_2.length : Int) then (if 0 ≤ (wrap64 (x8_2 - 7)) then (if (wrap64 (x8_2 - 7)) < (x5_2.length : Int) then (if x5_2.length < 35184372088832 then (spec_l1Schedule.l1 k2 (x5_2 ++ [((((((rd x5_2 (ji32)) + (Go.bits .xor .u32 (Go.bits .xor .u32 t1450013 t1450014) ((rd x5_2 (ji22)) / 8))) % 4294967296) + (rd x5_2 (wrap64 (x8_2 - 7)))) % 4294967296) + (Go.bits .xor .u32 (Go.bits .xor .u32 t1450015 t1450016) ((rd x5_2 (ji25)) / 1024))) % 4294967296]) (wrap64 (x8_2 + 1))) else (none)) else (none)) else (none)) else (none)) else (none)) = some r := by first | (rw [hji32] at H; exact H) | (simp only [hji32] at H ⊢; exact H)
           (try rw [hji32] at A28); (try rw [hji32] at A29); (try rw [hji32] at A30); (try rw [hji32] at A31); have hji32w : (IntKind.i64.wrap (x8_2 - 16)) = ji32 := (i64_w _).trans hji32
           by_cases c33 : 0 ≤ (ji32)
           ·rw [if_pos c33] at H; have c33b0 : decide (0 ≤ (ji32)) = true := decide_eq_true c33; clear c33
            by_cases c34 : (ji32) < (x5_2.length : Int)
            ·rw [if_pos c34] at H; have c34b0 : decide ((ji32) < (x5_2.length : Int)) = true := decide_eq_true c34; clear c34; obtain ⟨ji35, hji35⟩ : ∃ j_ : Int, (wrap64 (x8_2 - 7)) = j_ := ⟨_, rfl⟩
             replace H : (if 0 ≤ (ji35) then (if (ji35) < (x5_2.length : Int) then (if x5_2.length < 35184372088832 then (spec_l1Schedule.l1 k2 (x5_2 ++ [((((((rd x5_2 (ji32)) + (Go.bits .xor .u32 (Go.bits .xor .u32 t1450013 t1450014) ((rd x5_2 (ji22)) / 8))) % 4294967296) + (rd x5_2 (ji35))) % 4294967296) + (Go.bits .xor .u32 (Go.bits .xor .u32 t1450015 t1450016) ((rd x5_2 (ji25)) / 1024))) % 4294967296]) (wrap64 (x8_2 + 1))) else (none)) else (none)) else (none)) = some r := by first | (rw [hji35] at H; exact H) | (simp only [hji35] at H ⊢; exact H)
             (try rw [hji35] at A28); (try rw [hji35] at A29); (try rw [hji35] at A30); (try rw [hji35] at A31); have hji35w : (IntKind.i64.wrap (x8_2 - 7)) = ji35 := (i64_w _).trans hji35
             by_cases c36 : 0 ≤ (ji35)
             ·rw [if_pos c36] at H; have c36b0 : decide (0 ≤ (ji35)) = true := decide_eq_true c36; clear c36
              by_cases c37 : (ji35) < (x5_2.length : Int)
              ·rw [if_pos c37] at H; have c37b0 : decide ((ji35) < (x5_2.length : Int)) = true := decide_eq_true c37; clear c37
               by_cases c38 : x5_2.length < 35184372088832
               ·rw [if_pos c38] at H; have LMc38 := Aside0.mk c38; clear c38; obtain ⟨y1450019, hy1450019⟩ : ∃ y_ : List Int, y_ = (x5_2 ++ [((((((rd x5_2 (ji32)) + (Go.bits .xor .u32 (Go.bits .xor .u32 t1450013 t1450014) ((rd x5_2 (ji22)) / 8))) % 4294967296) + (rd x5_2 (ji35))) % 4294967296) + (Go.bits .xor .u32 (Go.bits .xor .u32 t1450015 t1450016) ((rd x5_2 (ji25)) / 1024))) % 4294967296]) := ⟨_, rfl⟩
                replace H : (spec_l1Schedule.l1 k2 y1450019 (wrap64 (x8_2 + 1))) = some r := by first | (rw [hy1450019]; with_reducible exact H) | (have H2_ := (Option.bind_some _ _).symm.trans H; rw [hy1450019]; with_reducible exact H2_) | (have H2_ := (Option.bind_some _ _).symm.trans H; with_reducible exact H2_) | with_reducible exact H | (rw [hy1450019]; exact H) | exact H
                have Ny1450019 := Aside0.mk hy1450019; clear hy1450019; have H' := Aside0.mk H; clear H; obtain ⟨Ao39, co39, eo39⟩ := Kd.R_slice HO_5.out; subst eo39; have p1450011 : 0 ≤ ((ji22) : Int) := of_decide_eq_true (by first | (with_reducible assumption) | assumption); have q1450011 : (ji22) < (x5_2.length : Int) := of_decide_eq_true (by first | (with_reducible assumption) | assumption); obtain ⟨ad1450011, e1450011, hx1450011_0⟩ := Kd.at_int (Kd.R_reads' HO_5.out).2.2 (ji22) p1450011 q1450011
                cases e1450011
                replace p1450011 := eq_true p1450011; replace q1450011 := eq_true q1450011; have p1450012 : 0 ≤ ((ji25) : Int) := of_decide_eq_true (by first | (with_reducible assumption) | assumption); have q1450012 : (ji25) < (x5_2.length : Int) := of_decide_eq_true (by first | (with_reducible assumption) | assumption); obtain ⟨ad1450012, e1450012, hx1450012_0⟩ := Kd.at_int (Kd.R_reads' HO_5.out).2.2 (ji25) p1450012 q1450012; obtain rfl : ad1450011 = ad1450012 := (by injection e1450012)
                replace p1450012 := eq_true p1450012; replace q1450012 := eq_true q1450012
                try go_wp2_with (first | ((with_reducible refine gate_callee (f := 146) rfl ?_); refine goesL_ (some 69) rfl rfl Tryd.func146 (by kernel_rfl) rfl #[.int .u32 (rd x5_2 (ji22)), .int .i64 7] rfl (by (try simp only [List.map_toArray, List.map_cons, List.map_nil]); first | done | (simp only [hji22]; rfl) | rfl | (simp only [List.length_drop, List.length_take]; rfl)) ?_; (with_reducible refine (spec_l1Turn.calls (rd x5_2 (ji22)) 7 t1450013 _ A28.out).mono ?_); rintro e w' ⟨rfl, ⟨nd, rfl⟩⟩; refine ⟨_, rfl, ?_⟩) | ((with_reducible refine gate_callee (f := 146) rfl ?_); refine goesL_ (some 71) rfl rfl Tryd.func146 (by kernel_rfl) rfl #[.int .u32 (rd x5_2 (ji22)), .int .i64 18] rfl (by (try simp only [List.map_toArray, List.map_cons, List.map_nil]); first | done | (simp only [hji22]; rfl) | rfl | (simp only [List.length_drop, List.length_take]; rfl)) ?_; (with_reducible refine (spec_l1Turn.calls (rd x5_2 (ji22)) 18 t1450014 _ A29.out).mono ?_); rintro e w' ⟨rfl, ⟨nd, rfl⟩⟩; refine ⟨_, rfl, ?_⟩) | ((with_reducible refine gate_callee (f := 146) rfl ?_); refine goesL_ (some 77) rfl rfl Tryd.func146 (by kernel_rfl) rfl #[.int .u32 (rd x5_2 (ji25)), .int .i64 17] rfl (by (try simp only [List.map_toArray, List.map_cons, List.map_nil]); first | done | (simp only [hji25]; rfl) | rfl | (simp only [List.length_drop, List.length_take]; rfl)) ?_; (with_reducible refine (spec_l1Turn.calls (rd x5_2 (ji25)) 17 t1450015 _ A30.out).mono ?_); rintro e w' ⟨rfl, ⟨nd, rfl⟩⟩; refine ⟨_, rfl, ?_⟩) | ((with_reducible refine gate_callee (f := 146) rfl ?_); refine goesL_ (some 79) rfl rfl Tryd.func146 (by kernel_rfl) rfl #[.int .u32 (rd x5_2 (ji25)), .int .i64 19] rfl (by (try simp only [List.map_toArray, List.map_cons, List.map_nil]); first | done | (simp only [hji25]; rfl) | rfl | (simp only [List.length_drop, List.length_take]; rfl)) ?_; (with_reducible refine (spec_l1Turn.calls (rd x5_2 (ji25)) 19 t1450016 _ A31.out).mono ?_); rintro e w' ⟨rfl, ⟨nd, rfl⟩⟩; refine ⟨_, rfl, ?_⟩))
                (try (rw [drewN_self wr]; generalize hq_ : World.drewN wr _ = wr; have n0_ : Aside0 (Kd.R (Kd.int .u32) 129 wr w.heap.size (fun _ => True) (.slice (some ad1450011) x5_2.length co39) x5_2) := ⟨by rw [← hq_]; exact (by (with_reducible repeat (first | apply Kd.R_alloc | apply Kd.R_drewN | apply Kd.R_drew)); exact HO_5.out)⟩; have n1_ : Aside0 (Below w.heap.size w wr) := ⟨by rw [← hq_]; exact (by repeat (first | (with_reducible first | exact HB.out | apply below_alloc | apply pw_below_drewN | apply below_drew1) | exact HB.out))⟩; clear HO_5 HB hq_; have HO_5 := n0_; have HB := n1_; clear n0_ n1_)); have n0_ := Aside0.mk (Kd.R_drew HO_5.out); have n1_ := Aside0.mk (below_drew1 HB.out); clear HO_5; clear HB; have HO_5 := n0_; have HB := n1_; clear n0_ n1_; have p1450017 : 0 ≤ ((ji32) : Int) := of_decide_eq_true (by first | (with_reducible assumption) | assumption); have q1450017 : (ji32) < (x5_2.length : Int) := of_decide_eq_true (by first | (with_reducible assumption) | assumption); obtain ⟨ad1450017, e1450017, hx1450017_0⟩ := Kd.at_int (Kd.R_reads' HO_5.out).2.2 (ji32) p1450017 q1450017; obtain rfl : ad1450011 = ad1450017 := (by injection e1450017)
                replace p1450017 := eq_true p1450017; replace q1450017 := eq_true q1450017; have p1450018 : 0 ≤ ((ji35) : Int) := of_decide_eq_true (by first | (with_reducible assumption) | assumption); have q1450018 : (ji35) < (x5_2.length : Int) := of_decide_eq_true (by first | (with_reducible assumption) | assumption); obtain ⟨ad1450018, e1450018, hx1450018_0⟩ := Kd.at_int (Kd.R_reads' HO_5.out).2.2 (ji35) p1450018 q1450018; obtain rfl : ad1450011 = ad1450018 := (by injection e1450018)
                replace p1450018 := eq_true p1450018; replace q1450018 := eq_true q1450018; refine start_ (n := 19) (S := fun w' => w'.cell? (ad1450011.add ((ji32)).toNat) = some (.int .u32 (rd x5_2 (ji32))) ∧ w'.cell? (ad1450011.add ((ji35)).toNat) = some (.int .u32 (rd x5_2 (ji35)))) (ds := [16, 17]) #[false, false, false, false, false, false, false, false, false, false, false, false, false, false, false, false, false, false, false] (by kernel_rfl) rfl rfl ⟨hx1450017_0, hx1450018_0⟩ (fun hHeld => ?_); refine with_tabW spec_l1Schedule.tab14 spec_l1Schedule.bits14 (fun HT_ HW_ => ?_); generalize wr.drew = w40 at HO_5 HB hx1450017_0 hx1450018_0 hHeld ⊢; refine pure_ (i := 0) (N := some 84) (v := ?_) (a' := ?_) #[true, false, false, false, false, false, false, false, false, false, false, false, false, false, false, false, false, false, false] rfl rfl (any_of HT_.out (by kernel_rfl)) (fun _ _ _ h => h) (Or.inl ⟨by rfl, ?_⟩) ?_ ?_; rotate_left
                ·intro w'; go_simp
                 with_reducible rfl
                rotate_left
                ·simp only [Act.put, List.setIfInBounds_toArray, List.set_cons_zero, List.set_cons_succ, i64_w, i32_w]; rfl
                refine pure_ (i := 1) (N := some 85) (v := ?_) (a' := ?_) #[true, true, false, false, false, false, false, false, false, false, false, false, false, false, false, false, false, false, false] rfl rfl (any_of HT_.out (by kernel_rfl)) (fun _ _ _ h => h) (Or.inl ⟨by rfl, ?_⟩) ?_ ?_; rotate_left
                ·intro w'; go_simp
                 with_reducible rfl
                rotate_left
                ·simp only [Act.put, List.setIfInBounds_toArray, List.set_cons_zero, List.set_cons_succ, i64_w, i32_w]; rfl
                refine pure_ (i := 2) (N := some 86) (v := ?_) (a' := ?_) #[true, true, true, false, false, false, false, false, false, false, false, false, false, false, false, false, false, false, false] rfl rfl (any_of HT_.out (by kernel_rfl)) (fun _ _ _ h => h) (Or.inl ⟨by rfl, ?_⟩) ?_ ?_; rotate_left
                ·intro w'; go_simp
                 with_reducible rfl
                rotate_left
                ·simp only [Act.put, List.setIfInBounds_toArray, List.set_cons_zero, List.set_cons_succ, i64_w, i32_w]; rfl
                refine pure_ (i := 3) (N := some 87) (v := ?_) (a' := ?_) #[true, true, true, true, false, false, false, false, false, false, false, false, false, false, false, false, false, false, false] rfl rfl (any_of HT_.out (by kernel_rfl)) (fun _ _ _ h => h) (Or.inl ⟨by rfl, ?_⟩) ?_ ?_; rotate_left
                ·intro w'; go_simp
                 with_reducible rfl
                rotate_left
                ·simp only [Act.put, List.setIfInBounds_toArray, List.set_cons_zero, List.set_cons_succ, i64_w, i32_w]; rfl
                refine pure_ (i := 4) (N := some 88) (v := ?_) (a' := ?_) #[true, true, true, true, true, false, false, false, false, false, false, false, false, false, false, false, false, false, false] rfl rfl (any_of HT_.out (by kernel_rfl)) (fun _ _ _ h => h) (Or.inl ⟨by rfl, ?_⟩) ?_ ?_; rotate_left
                ·intro w'; go_simp
                 with_reducible rfl
                rotate_left
                ·simp only [Act.put, List.setIfInBounds_toArray, List.set_cons_zero, List.set_cons_succ, i64_w, i32_w]; rfl
                refine pure_ (i := 6) (N := some 90) (v := ?_) (a' := ?_) #[true, true, true, true, true, false, true, false, false, false, false, false, false, false, false, false, false, false, false] rfl rfl (any_of HT_.out (by kernel_rfl)) (fun _ _ _ h => h) (Or.inl ⟨by rfl, ?_⟩) ?_ ?_; rotate_left
                ·intro w'; go_simp
                 with_reducible rfl
                rotate_left
                ·simp only [Act.put, List.setIfInBounds_toArray, List.set_cons_zero, List.set_cons_succ, i64_w, i32_w]; rfl
                refine pure_ (i := 8) (N := some 92) (v := ?_) (a' := ?_) #[true, true, true, true, true, false, true, false, true, false, false, false, false, false, false, false, false, false, false] rfl rfl (any_of HT_.out (by kernel_rfl)) (fun _ _ _ h => h) (Or.inl ⟨by rfl, ?_⟩) ?_ ?_; rotate_left
                ·intro w'; go_simp
                 with_reducible rfl
                rotate_left
                ·simp only [Act.put, List.setIfInBounds_toArray, List.set_cons_zero, List.set_cons_succ, i64_w, i32_w]; rfl
                refine pure_ (i := 9) (N := some 93) (v := ?_) (a' := ?_) #[true, true, true, true, true, false, true, false, true, true, false, false, false, false, false, false, false, false, false] rfl rfl (any_of HT_.out (by kernel_rfl)) (fun _ _ _ h => h) (Or.inl ⟨by rfl, ?_⟩) ?_ ?_; rotate_left
                ·intro w'; go_simp
                 with_reducible rfl
                rotate_left
                ·simp only [Act.put, List.setIfInBounds_toArray, List.set_cons_zero, List.set_cons_succ, i64_w, i32_w]; rfl
                refine pure_ (i := 10) (N := some 94) (v := ?_) (a' := ?_) #[true, true, true, true, true, false, true, false, true, true, true, false, false, false, false, false, false, false, false] rfl rfl (any_of HT_.out (by kernel_rfl)) (fun _ _ _ h => h) (Or.inl ⟨by rfl, ?_⟩) ?_ ?_; rotate_left
                ·intro w'; go_simp
                 with_reducible rfl
                rotate_left
                ·simp only [Act.put, List.setIfInBounds_toArray, List.set_cons_zero, List.set_cons_succ, i64_w, i32_w]; rfl
                refine pure_ (i := 11) (N := some 95) (v := ?_) (a' := ?_) #[true, true, true, true, true, false, true, false, true, true, true, true, false, false, false, false, false, false, false] rfl rfl (any_of HT_.out (by kernel_rfl)) (fun _ _ _ h => h) (Or.inl ⟨by rfl, ?_⟩) ?_ ?_; rotate_left
                ·intro w'; go_simp
                 with_reducible rfl
                rotate_left
                ·simp only [Act.put, List.setIfInBounds_toArray, List.set_cons_zero, List.set_cons_succ, i64_w, i32_w]; rfl
                refine pure_ (i := 14) (N := some 98) (v := ?_) (a' := ?_) #[true, true, true, true, true, false, true, false, true, true, true, true, false, false, true, false, false, false, false] rfl rfl (any_of HT_.out (by kernel_rfl)) (fun _ _ _ h => h) (Or.inl ⟨by rfl, ?_⟩) ?_ ?_; rotate_left
                ·intro w'; go_simp
                 with_reducible rfl
                rotate_left
                ·simp only [Act.put, List.setIfInBounds_toArray, List.set_cons_zero, List.set_cons_succ, i64_w, i32_w]; rfl
                refine take_ (i := 5) (N := some 89) (v := ?_) (a' := ?_) #[true, true, true, true, true, true, true, false, true, true, true, true, false, false, true, false, false, false, false] rfl rfl (take_ofW HT_.out HW_.out (by kernel_rfl)) (fun _ _ _ h => h) (Or.inl ⟨by rfl, ?_⟩) hHeld ?_ ?_; rotate_left
                ·rintro w' ⟨s0, s1⟩; go_simp
                 with_reducible rfl
                rotate_left
                ·simp only [Act.put, List.setIfInBounds_toArray, List.set_cons_zero, List.set_cons_succ, i64_w, i32_w]; rfl
                refine pure_ (i := 7) (N := some 91) (v := ?_) (a' := ?_) #[true, true, true, true, true, true, true, true, true, true, true, true, false, false, true, false, false, false, false] rfl rfl (any_of HT_.out (by kernel_rfl)) (fun _ _ _ h => h) (Or.inl ⟨by rfl, ?_⟩) ?_ ?_; rotate_left
                ·intro w'; go_simp
                 with_reducible rfl
                rotate_left
                ·simp only [Act.put, List.setIfInBounds_toArray, List.set_cons_zero, List.set_cons_succ, i64_w, i32_w]; rfl
                refine take_ (i := 12) (N := some 96) (v := ?_) (a' := ?_) #[true, true, true, true, true, true, true, true, true, true, true, true, true, false, true, false, false, false, false] rfl rfl (take_ofW HT_.out HW_.out (by kernel_rfl)) (fun _ _ _ h => h) (Or.inl ⟨by rfl, ?_⟩) hHeld ?_ ?_; rotate_left
                ·rintro w' ⟨s0, s1⟩; go_simp
                 with_reducible rfl
                rotate_left
                ·simp only [Act.put, List.setIfInBounds_toArray, List.set_cons_zero, List.set_cons_succ, i64_w, i32_w]; rfl
                refine pure_ (i := 13) (N := some 97) (v := ?_) (a' := ?_) #[true, true, true, true, true, true, true, true, true, true, true, true, true, true, true, false, false, false, false] rfl rfl (any_of HT_.out (by kernel_rfl)) (fun _ _ _ h => h) (Or.inl ⟨by rfl, ?_⟩) ?_ ?_; rotate_left
                ·intro w'; go_simp
                 with_reducible rfl
                rotate_left
                ·simp only [Act.put, List.setIfInBounds_toArray, List.set_cons_zero, List.set_cons_succ, i64_w, i32_w]; rfl
                refine pure_ (i := 15) (N := some 99) (v := ?_) (a' := ?_) #[true, true, true, true, true, true, true, true, true, true, true, true, true, true, true, true, false, false, false] rfl rfl (any_of HT_.out (by kernel_rfl)) (fun _ _ _ h => h) (Or.inl ⟨by rfl, ?_⟩) ?_ ?_; rotate_left
                ·intro w'; go_simp
                 with_reducible rfl
                rotate_left
                ·simp only [Act.put, List.setIfInBounds_toArray, List.set_cons_zero, List.set_cons_succ, i64_w, i32_w]; rfl
                refine last_ (i := 16) (N := some 100) #[true, true, true, true, true, true, true, true, true, true, true, true, true, true, true, true, true, false, false] rfl rfl (one_of HT_.out (by kernel_rfl)) (by decide) (fun K hK => ?_); refine value_ (w1 := ?_) (v := ?_) (by rfl) rfl ?_ ?_; rotate_left 2
                ·go_simp
                 constructor
                 ·rfl
                 ·rfl
                refine hK.out _ _ ?_; clear hK K; refine norm_ (a' := ?_) ?_ ?_; rotate_left
                ·show Act.put _ (some 100) _ = _; simp only [Act.put, List.setIfInBounds_toArray, List.set_cons_zero, List.set_cons_succ, i64_w, i32_w]; rfl
                refine last_ (i := 17) (N := some 101) #[true, true, true, true, true, true, true, true, true, true, true, true, true, true, true, true, true, true, false] rfl rfl (one_of HT_.out (by kernel_rfl)) (by decide) (fun K hK => ?_); refine Kd.R_append_step (Kd.int .u32) (w0 := w) w.heap.size (by rfl) (.tmp 84) (.tmp 100) 185 129 (.int .u32 0) 4 rfl Tryd.underlying185 info129 rfl (by decide) (by omega) (.slice (some ad1450011) x5_2.length co39) x5_2 (((((((rd x5_2 (ji32)) + (Go.bits .xor .u32 (Go.bits .xor .u32 t1450013 t1450014) ((rd x5_2 (ji22)) / 8))) % 4294967296) + (rd x5_2 (ji35))) % 4294967296) + (Go.bits .xor .u32 (Go.bits .xor .u32 t1450015 t1450016) ((rd x5_2 (ji25)) / 1024))) % 4294967296) [.int .u32 (((((((rd x5_2 (ji32)) + (Go.bits .xor .u32 (Go.bits .xor .u32 t1450013 t1450014) ((rd x5_2 (ji22)) / 8))) % 4294967296) + (rd x5_2 (ji35))) % 4294967296) + (Go.bits .xor .u32 (Go.bits .xor .u32 t1450015 t1450016) ((rd x5_2 (ji25)) / 1024))) % 4294967296)] (fun _ => True) (fun _ => False) rfl rfl ?aP (fun _ hk => hk.elim) ?aF ?aO ?aB ?aS ?aL ?_; (case aP => exact rfl); (case aB => exact (by repeat (first | (with_reducible first | exact HB.out | apply below_alloc | apply pw_below_drewN | apply below_drew1) | exact HB.out))); (case aF => exact (fun _ _ => trivial)); (case aO => exact (by (with_reducible repeat (first | apply Kd.R_alloc | apply Kd.R_drewN | apply Kd.R_drew)); exact HO_5.out)); (case aS => exact (below_size (by repeat (first | (with_reducible first | exact HB.out | apply below_alloc | apply pw_below_drewN | apply below_drew1) | exact HB.out)))); (case aL => have := LMc38.out; omega); intro v1450020 w41 ho hb hg hat; rw [← Ny1450019.out] at ho; have n0_ := Aside0.mk (hb); have n1_ := Aside0.mk (ho); clear HB; clear HO_5; have HB := n0_; have HO1450021 := n1_; clear n0_ n1_; clear ho hb hg hat; refine hK.out _ _ ?_; clear hK K; refine norm_ (a' := ?_) ?_ ?_; rotate_left
                ·show Act.put _ (some 101) _ = _; simp only [Act.put, List.setIfInBounds_toArray, List.set_cons_zero, List.set_cons_succ, i64_w, i32_w]; rfl
                refine pure_ (i := 18) (N := some 5) (v := ?_) (a' := ?_) #[true, true, true, true, true, true, true, true, true, true, true, true, true, true, true, true, true, true, true] rfl rfl (any_of HT_.out (by kernel_rfl)) (fun _ _ _ h => h) (Or.inl ⟨by rfl, ?_⟩) ?_ ?_; rotate_left
                ·intro w'; go_simp
                 with_reducible rfl
                rotate_left
                ·simp only [Act.put, List.setIfInBounds_toArray, List.set_cons_zero, List.set_cons_succ, i64_w, i32_w]; rfl
                refine done_ (done_of HT_.out (by kernel_rfl)) ?_
                try go_wp2
                go_roundg k2
                case measure => have := HK1.out; have := HK2.out; omega
                case rel => exact ⟨(y1450019), (wrap64 (x8_2 + 1)), (by first | rfl | (simp; done) | (simp [*]; done)), H', ⟨by have := HK1.out; have := HK2.out; omega⟩, ⟨by (with_reducible repeat (first | apply Kd.R_alloc | apply Kd.R_drewN | apply Kd.R_drew)); exact HO1450021.out⟩, ⟨by repeat (first | (with_reducible first | exact HB.out | apply below_alloc | apply pw_below_drewN | apply below_drew1) | exact HB.out)⟩⟩
               ·rw [if_neg c38] at H; exact absurd H (by simp)
              ·rw [if_neg c37] at H; exact absurd H (by simp)
             ·rw [if_neg c36] at H; exact absurd H (by simp)
            ·rw [if_neg c34] at H; exact absurd H (by simp)
           ·rw [if_neg c33] at H; exact absurd H (by simp)
          ·rw [if_neg c27] at H; exact absurd H (by simp)
         ·rw [if_neg c26] at H; exact absurd H (by simp)
        ·rw [if_neg c24] at H; exact absurd H (by simp)
       ·rw [if_neg c23] at H; exact absurd H (by simp)
      ·rw [if_neg c21] at H; have c21b0 : decide (x8_2 < 64) = false := decide_eq_false c21; clear c21; obtain rfl := Option.some.inj H
       go_wp2
       go_ret
       exact ⟨_, by first | rfl | (simp [errW_none, errW_some] <;> rfl) | (simp [*, errW_none, errW_some] <;> rfl), by (with_reducible repeat (first | apply Kd.R_alloc | apply Kd.R_drewN | apply Kd.R_drew)); exact HO_5.out, by repeat (first | (with_reducible first | exact HB.out | apply below_alloc | apply pw_below_drewN | apply below_drew1) | exact HB.out)⟩
end Go.Proofs.YtonbmghgbblifaaDoor.Z
end
