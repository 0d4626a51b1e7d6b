/- Own texts, joined. -/
import Derived.Test.YtonbmghgbblifaaDoorYFnExactProve25
import Derived.Test.YtonbmghgbblifaaDoorYFnExactProve26
import Derived.WalkKit
import Derived.WalkSpells
import Derived.Deep.AppendSrc
import Derived.Deep.Upon
import Derived.Lib.ConvBytes
import Derived.Laws.MakeOwn
import Derived.Deep.Draws
import Derived.ArgAppend
import Derived.Below
import Derived.BigQuiet
import Derived.Deep.AppendLies
import Derived.Deep.CutBlock
import Derived.Deep.DeepCutAuto
import Derived.Deep.LoopGhost
import Derived.Deep.OwnRows
import Derived.Deep.QuietTactic
import Derived.Deep.RegionHeld3
import Derived.KernelRfl
import Derived.Laws.BitsLemmas
import Derived.Laws.BytesArg
import Derived.Laws.IdiomCopy
import Derived.Laws.OwnMore
import Derived.Laws.Rows
import Derived.Laws.Slices
import Derived.Lib.AppendStr
import Derived.Maps.AppendAt
import Derived.OrdersHeld
import Derived.OwnWalk
import Derived.RowKit
import Derived.RowKit3
import Derived.Tactics
import Derived.Test.YtonbmghgbblifaaDoorProg
import Derived.Test.YtonbmghgbblifaaDoorYFnExactProve2
import Derived.Test.YtonbmghgbblifaaDoorYFnExactProve3
import Derived.Test.YtonbmghgbblifaaDoorYFnExactProve10
import Derived.Test.YtonbmghgbblifaaDoorYFnExactProve11
import Derived.Test.YtonbmghgbblifaaDoorYFnExactProve4
import Derived.Test.YtonbmghgbblifaaDoorYFnExactProve9
import Derived.Test.YtonbmghgbblifaaDoorYFnExactProve13
import Derived.Test.YtonbmghgbblifaaDoorYFnExactProve14
import Derived.Test.YtonbmghgbblifaaDoorYFnExactProve15
import Derived.Test.YtonbmghgbblifaaDoorYFnExactProve16
import Derived.Test.YtonbmghgbblifaaDoorYFnExactProve5
import Derived.Test.YtonbmghgbblifaaDoorYFnExactProve1
import Derived.Test.YtonbmghgbblifaaDoorYFnExactProve19
import Derived.Test.YtonbmghgbblifaaDoorYFnExactProve8
import Derived.Test.YtonbmghgbblifaaDoorYFnExactProve18
import Derived.Test.YtonbmghgbblifaaDoorYFnExactProve17
import Derived.Test.YtonbmghgbblifaaDoorYFnExactProve20
import Derived.Test.YtonbmghgbblifaaDoorYFnExactProve6
import Derived.Test.YtonbmghgbblifaaDoorYFnExactProve12
import Derived.Test.YtonbmghgbblifaaDoorYFnExactProve0
import Derived.Test.YtonbmghgbblifaaDoorYFnExactProve7
import Derived.WideLaws
import Derived.Test.YtonbmghgbblifaaDoorRows
import Derived.WalkLawsBesides
import Derived.Deep.Light
import Derived.Lib.Hide
import Derived.Handy
import Derived.Lib.BufferOwn
import Derived.Lib.BufferWrite
import Derived.StillTailTactics
import Derived.IntWalk
import Derived.Laws.NewBlocks
section
namespace Go.Proofs.YtonbmghgbblifaaDoor
open RowKit
set_option linter.all false
def Own (w : World) (base size : Nat) (v : Value) (n : Nat) (xs : List Value) : Prop :=
 xs.length = n * size ∧ ((v = .slice none 0 0 ∧ n = 0) ∨ ∃ g cap, v = .slice (some ⟨g, 0, none⟩) n cap ∧ base ≤ g ∧ g < w.heap.size ∧ n ≤ cap ∧ cap ≤ maxLen ∧ (∀ j, j < n * size → w.cell? ⟨g, j, none⟩ = xs[j]?) ∧ ∀ j, j < cap * size → (w.cell? ⟨g, j, none⟩).isSome = true ∧ w.frozen? ⟨g, j, none⟩ = false)
theorem Own.nil (w : World) (base size : Nat) : Own w base size (.slice none 0 0) 0 [] := ⟨by simp, .inl ⟨rfl, rfl⟩⟩
section
variable {w w1 : World} {base size : Nat} {v : Value} {n : Nat} {xs : List Value}
theorem Own.len (h : Own w base size v n xs) : xs.length = n * size := h.1
theorem Own.form (h : Own w base size v n xs) : ∃ A c, v = .slice A n c := by
 rcases h.2 with ⟨rfl, rfl⟩ | ⟨g, cap, rfl, _⟩
 ·exact ⟨none, 0, rfl⟩
 ·exact ⟨_, cap, rfl⟩
theorem Own.at (h : Own w base size v n xs) (hn : 0 < n) : ∃ g cap, v = .slice (some ⟨g, 0, none⟩) n cap ∧ base ≤ g ∧ g < w.heap.size ∧ n ≤ cap ∧ (∀ j, j < n * size → w.cell? ⟨g, j, none⟩ = xs[j]?) ∧ ∀ j, j < n * size → w.frozen? ⟨g, j, none⟩ = false := by
 rcases h.2 with ⟨_, rfl⟩ | ⟨g, cap, rfl, h1, h2, h3, h4, h5, h6⟩
 ·omega
 ·exact ⟨g, cap, rfl, h1, h2, h3, h5, fun j hj => (h6 j (Nat.lt_of_lt_of_le hj (Nat.mul_le_mul_right _ h3))).2⟩
theorem Own.keep (h : Own w base size v n xs) (hs : w.heap.size ≤ w1.heap.size) (hb : ∀ k, v.ownBlock = some k → w1.heap[k]? = w.heap[k]?) : Own w1 base size v n xs := by
 refine ⟨h.1, ?_⟩
 rcases h.2 with h2 | ⟨g, cap, rfl, h1, h2, h3, h4, h5, h6⟩
 ·exact .inl h2
 ·have e := hb g rfl; refine .inr ⟨g, cap, rfl, h1, by omega, h3, h4, fun j hj => ?_, fun j hj => ?_⟩
  ·rw [World.cell?_of_block (a := ⟨g, j, none⟩) e]; exact h5 j hj
  ·rw [World.cell?_of_block (a := ⟨g, j, none⟩) e, World.frozen?_of_block (a := ⟨g, j, none⟩) e]; exact h6 j hj
theorem Own.lt (h : Own w base size v n xs) (k : Nat) (hk : v.ownBlock = some k) : base ≤ k ∧ k < w.heap.size := by
 rcases h.2 with ⟨rfl, _⟩ | ⟨g, cap, rfl, h1, h2, _⟩
 ·simp [Value.ownBlock] at hk
 ·simp [Value.ownBlock] at hk; omega
theorem Own.below (h : Own w base size v n xs) (hb : Below w.heap.size w w1) : Own w1 base size v n xs :=
 h.keep hb.size fun k hk => hb.block k (h.lt k hk).2
theorem Own.alloc (h : Own w base size v n xs) (o : Obj) : Own (w.alloc o) base size v n xs :=
 h.below ((Below.refl _ _).alloc (Nat.le_refl _) o)
theorem Own.drew (h : Own w base size v n xs) : Own w.drew base size v n xs := h.below (Below.refl _ _).drew
theorem Own.drewN (h : Own w base size v n xs) (k : Nat) : Own (w.drewN k) base size v n xs := h.keep (Nat.le_refl _) fun _ _ => rfl
theorem Own.set (h : Own w base size v n xs) {p : Addr} (hp : v.ownBlock ≠ some p.block) (u : Value) : Own (w.setCell p u) base size v n xs :=
 h.keep (by simp) fun k hk => Below.heap_setCell w p u k (fun e => hp (by rw [hk, e]))
theorem Own.grown (h : Own w base size v n xs) {row : Option Nat} (hg : w.grownBy w1 row) (hne : ∀ k, v.ownBlock = some k → some k ≠ row) : Own w1 base size v n xs :=
 h.keep hg.size fun k hk => hg.block k (h.lt k hk).2 (hne k hk)
theorem Own.lower (h : Own w base size v n xs) {b : Nat} (hb : b ≤ base) : Own w b size v n xs := by
 refine ⟨h.1, ?_⟩
 rcases h.2 with h2 | ⟨g, cap, rfl, h1, h2⟩
 ·exact .inl h2
 ·exact .inr ⟨g, cap, rfl, by omega, h2⟩
theorem below_of_grown {B : Nat} {w0 : World} (h : Below B w0 w) (hv : Own w base size v n xs) (hB : B ≤ base) (hB2 : B ≤ w.heap.size) (hg : w.grownBy w1 v.ownBlock) : Below B w0 w1 :=
 h.grown hg hB2 fun k hk => Nat.le_trans hB (hv.lt k hk).1
end
theorem tape_setCells : ∀ (w : World) (g o : Nat) (vs : List Value), (w.setCells g o vs).tape = w.tape
 | _, _, _, [] => rfl
 | w, g, o, v :: r => by rw [World.setCells, tape_setCells (w.setCell ⟨g, o, none⟩ v) g (o + 1) r]; rfl
section
variable {P : Program} {w : World}
theorem run_app (base : Nat) (t tx ty e : TypeId) (i : TypeInfo) (z : Value) (size bytes : Nat) (ht : P.underlying t = some (.slice e)) (hi : P.info? e = some i) (hz : i.zero = some z)
  (hsize : i.size = size) (hby : i.bytes = bytes) (hzs : z.cells.size = size)
  {v : Value} {n : Nat} {xs : List Value} (hown : Own w base size v n xs) {x : Value} {m : Nat} {news : List Value} (hs : Src P size tx x m news w)
  (h63 : n + m ≤ maxLen) (hbytes : (n + m) * bytes ≤ 140737488355328) (hbase : base ≤ w.heap.size) :
  ∃ v' w', (Builtin.append_ #[t, tx] ty #[v, x]).run P w = .ok v' w' ∧ Own w' base size v' (n + m) (xs ++ news) ∧ w.grownBy w' v.ownBlock ∧ (v'.ownBlock = v.ownBlock ∨ ∀ k, v'.ownBlock = some k → w.heap.size ≤ k) := by
 subst hsize; subst hby; have hsmall : ((n + m : Nat) : Int) ≤ 9223372036854775807 := by simp only [maxLen] at h63; omega
 have hlen : (xs ++ news).length = (n + m) * i.size := by rw [List.length_append, hown.1, hs.newsLen, Nat.add_mul]
 have grow : ∀ (bs : Option Addr) (sc : Nat), v = .slice bs n sc → sc < n + m → (Builtin.firstCells i.size n (.slice bs n sc)).run P w.drew = .ok xs.toArray w.drew →
   ∃ v' w', (Builtin.append_ #[t, tx] ty #[v, x]).run P w = .ok v' w' ∧ Own w' base i.size v' (n + m) (xs ++ news) ∧ w.grownBy w' v.ownBlock ∧ (v'.ownBlock = v.ownBlock ∨ ∀ k, v'.ownBlock = some k → w.heap.size ≤ k) := by
  rintro bs sc rfl hlt hold; have hrun := run_append_grow_src (P := P) w t tx ty e i z ht hi hz bs n sc xs hold x m news hs hlt hsmall (growslice_fits hlt hbytes); have hge := grownCap_ge w (n + m) sc e; have hcm := grownCap_le_maxLen w (n + m) sc e h63; refine ⟨_, _, hrun, ⟨hlen, .inr ⟨w.heap.size, _, rfl, hbase, by simp, hge, hcm, fun j hj => ?_, fun j hj => ?_⟩⟩, ⟨rfl, rfl, rfl, by simp, fun k hk _ => Below.heap_alloc w.drew _ k hk⟩, .inr fun k hk => by simp [Value.ownBlock] at hk; omega⟩
  ·have e1 := World.cell?_alloc_new w.drew (((xs ++ news).toArray ++ Builtin.zeroCells z.cells (grownCap w (n + m) sc e - (n + m)))) e j; refine Eq.trans e1 ?_; rw [Array.getElem?_append_left (by simp only [List.size_toArray]; omega), List.getElem?_toArray]
  ·have e1 := World.cell?_alloc_new w.drew (((xs ++ news).toArray ++ Builtin.zeroCells z.cells (grownCap w (n + m) sc e - (n + m)))) e j; have hsz : ((xs ++ news).toArray ++ Builtin.zeroCells z.cells (grownCap w (n + m) sc e - (n + m))).size = grownCap w (n + m) sc e * i.size := by
    rw [Array.size_append, List.size_toArray, hlen, size_zeroCells, hzs, ← Nat.add_mul]
    congr 1
    omega
   refine ⟨?_, World.frozen?_alloc_new w.drew _ _ j⟩; have e2 : ∀ o, o = some ((((xs ++ news).toArray ++ Builtin.zeroCells z.cells (grownCap w (n + m) sc e - (n + m))))[j]'(by rw [hsz]; exact hj)) → o.isSome = true := fun o h => by rw [h]; rfl
   exact e2 _ (Eq.trans e1 (Array.getElem?_eq_getElem (by rw [hsz]; exact hj)))
 rcases hown.2 with ⟨rfl, rfl⟩ | ⟨g, cap, rfl, h1, h2, h3, h4, h5, h6⟩
 ·have hx : xs = [] := List.eq_nil_of_length_eq_zero (by simpa using hown.1); subst hx
  by_cases hm : m = 0
  ·subst hm; have hn : news = [] := List.eq_nil_of_length_eq_zero (by simpa using hs.newsLen); subst hn; exact ⟨_, w, run_append_nothing w t tx ty e i ht hi none 0 0 (Nat.le_refl _) x hs, Own.nil w base i.size, ⟨rfl, rfl, rfl, Nat.le_refl _, fun _ _ _ => rfl⟩, .inl rfl⟩
  ·exact grow none 0 rfl (by omega) (run_firstCells_none w.drew i.size 0 0 0)
 ·by_cases hroom : n + m ≤ cap
  ·have hfit : (n + m) * i.size ≤ cap * i.size := Nat.mul_le_mul_right _ hroom; have hnl := hs.newsLen; have hmul : (n + m) * i.size = n * i.size + m * i.size := Nat.add_mul ..; have hrun := run_append_room_src (P := P) w t tx ty e i ht hi g 0 n cap x m news hs hroom (fun j hj => by rw [Nat.zero_add]; exact (h6 _ (by omega)).1) (fun j hj => by rw [Nat.zero_add]; exact (h6 _ (by omega)).2); rw [Nat.zero_add] at hrun; have hk := World.keptBut_setCells g (may := fun p => p.block = g) news (n * i.size) w (fun _ _ => rfl); refine ⟨_, _, hrun, ⟨hlen, .inr ⟨g, cap, rfl, h1, Nat.lt_of_lt_of_le h2 hk.size, hroom, h4, fun j hj => ?_, fun j hj => ⟨?_, (World.frozen?_setCells g _ _ _ _).trans (h6 j hj).2⟩⟩⟩, ?_, .inl rfl⟩
   ·by_cases hjn : j < n * i.size
    ·rw [World.cell?_setCells_out g _ _ _ _ (fun _ _ => Or.inl hjn), List.getElem?_append_left (by rw [hown.1]; exact hjn)]; exact h5 j hjn
    ·have hin := World.cell?_setCells_in g news (n * i.size) w (fun j hj => (h6 _ (by omega)).1) (j - n * i.size) (by omega); rw [show n * i.size + (j - n * i.size) = j by omega] at hin; rw [hin, List.getElem?_append_right (by rw [hown.1]; omega), hown.1, List.getElem?_eq_getElem]
   ·by_cases hjn : n * i.size ≤ j ∧ j < n * i.size + news.length
    ·have hin := World.cell?_setCells_in g news (n * i.size) w (fun j hj => (h6 _ (by omega)).1) (j - n * i.size) (by omega); rw [show n * i.size + (j - n * i.size) = j by omega] at hin; rw [hin]; rfl
    ·rw [World.cell?_setCells_out g _ _ _ _ (fun _ _ => by show j < _ ∨ _ ≤ j; omega)]; exact (h6 j hj).1
   ·refine ⟨World.os_setCells _ _ _ _, tape_setCells _ _ _ _, World.output_setCells _ _ _ _, hk.size, fun k hk1 hk2 => World.heap_setCells_other w g _ news hk1 (fun e => hk2 (by simp [Value.ownBlock, e]))⟩
  ·refine grow _ cap rfl (by omega) ?_; refine run_firstCells_some w.drew i.size n ⟨g, 0, none⟩ n cap xs hown.1 (fun j u hu => ?_); rw [Addr.add_lit, Nat.zero_add]; exact (h5 j (by have := (List.getElem?_eq_some_iff.1 hu).1; rw [hown.1] at this; exact this)).trans hu
theorem wpList_app (base : Nat) {ops : Array Oper} {rest : List Oper} {o : Oper} {a : Act} {Q : Exit → Act → World → Prop} (hgd : o.guard = none) (s x : Operand) (t tx : TypeId)
  (ho : o.op = .call { callee := .builtin .append, args := #[s, x], argTypes := #[t, tx] }) (e : TypeId) (z : Value) (size bytes : Nat) (ht : P.underlying t = some (.slice e))
  (hinfo : (P.info? e).map (fun i => (i.zero, i.size, i.bytes)) = some (some z, size, bytes)) (hzs : z.cells.size = size)
  {v : Value} {n : Nat} {xs : List Value} (hv : a.eval s = v) (hown : Own w base size v n xs) (xv : Value) (m : Nat) (news : List Value) (hx : a.eval x = xv) (hs : Src P size tx xv m news w)
  (h63 : n + m ≤ maxLen) (hbytes : (n + m) * bytes ≤ 140737488355328) (hbase : base ≤ w.heap.size)
  (hK : ∀ v' w', Own w' base size v' (n + m) (xs ++ news) → w.grownBy w' v.ownBlock → (v'.ownBlock = v.ownBlock ∨ ∀ k, v'.ownBlock = some k → w.heap.size ≤ k) → wpList P ops Q rest (a.put o.dst v') w') : wpList P ops Q (o :: rest) a w := by
 obtain ⟨i, hi, hz, hsize, hby⟩ := info_parts hinfo; refine wpList_plain hgd fun K hK' => ?_
 obtain ⟨v', w', hr, h2, h3, h4⟩ := run_app (P := P) (w := w) base t tx o.type e i z size bytes ht hi hz hsize hby hzs hown hs h63 hbytes hbase; unfold Oper.wp execOp; simp only [ho, resolve, invoke, builtin, Sem.run_bind, Sem.run_pure, Result.andThen_ok, List.map_toArray, List.map_cons, List.map_nil, hv, hx, hr]; exact hK' _ _ (hK v' w' h2 h3 h4)
theorem src_one (w0 : World) (tx e' e : TypeId) (hk : P.underlying tx = some (.slice e')) (u : Value) (h1 : u.oneCell' = true) :
  Src P 1 tx (.slice (some ⟨w0.heap.size, 0, none⟩) 1 1) 1 [u] (w0.alloc (.cells #[u] e)) :=
 Src.ofSlice _ hk _ 1 1 [u] rfl (fun j u' hu => by
  match j, hu with
  | 0, hu => simp at hu; subst hu; simp [Addr.add]) (by simpa using h1)
theorem Own.bytes (w : World) (base : Nat) (e : TypeId) (s : ByteArray) (hb : base ≤ w.heap.size) (hs : s.size ≤ maxLen) :
  Own (Lib.bytesWorld w e s) base 1 (.slice (some ⟨w.heap.size, 0, none⟩) s.size (grownCap w s.size 0 e)) s.size (byteCells s) := by
 have hge := grownCap_ge w s.size 0 e; have hsz : (Lib.bytesCells w e s).size = grownCap w s.size 0 e := by
  have : s.data.size = s.size := rfl; simp [Lib.bytesCells, this]; omega
 refine ⟨by rw [byteCells_length]; omega, .inr ⟨w.heap.size, _, rfl, hb, by rw [Lib.bytesWorld_size]; omega, hge, grownCap_le_maxLen w s.size 0 e hs, fun j hj => ?_, fun j hj => ?_⟩⟩
 ·have hj' : j < s.size := by omega
  have hj2 : j < s.data.toList.length := by rw [Array.length_toList]; exact hj'
  rw [Lib.bytesWorld_cell w e s j hj']; simp only [byteCells, List.getElem?_map, List.getElem?_eq_getElem hj2, List.getD_eq_getElem?_getD, Option.map_some, Option.getD_some]
 ·have h1 := Lib.bytesWorld_at_new w e s
  constructor
  ·simp [World.cell?, h1, hsz]; omega
  ·simp [World.frozen?, h1, hsz]; omega
theorem bytes_grown (w : World) (e : TypeId) (s : ByteArray) {B : Nat} {w0 : World} (h : Below B w0 w) (hB : B ≤ w.heap.size) : Below B w0 (Lib.bytesWorld w e s) :=
 h.trans ⟨rfl, rfl, rfl, by rw [Lib.bytesWorld_size]; omega, fun k hk => Lib.bytesWorld_at_old w e s k (by omega)⟩
def bcs (l : List UInt8) : List Value := l.map fun b => Value.int .u8 b.toNat
theorem bcs_length (l : List UInt8) : (bcs l).length = l.length := by simp [bcs]
theorem bcs_append (l k : List UInt8) : bcs (l ++ k) = bcs l ++ bcs k := by simp [bcs]
theorem bcs_get (l : List UInt8) (j : Nat) (h : j < l.length) : (bcs l)[j]? = some (.int .u8 l[j].toNat) := by simp [bcs, h]
theorem byteCells_bcs (s : ByteArray) : byteCells s = bcs s.data.toList := rfl
def OwnB (w : World) (base : Nat) (v : Value) (l : List UInt8) : Prop := Own w base 1 v l.length (bcs l)
section
variable {ops : Array Oper} {rest : List Oper} {o : Oper} {a : Act} {Q : Exit → Act → World → Prop}
theorem gate_dst {N : Nat} (h : o.dst = some N) (k : wpList P ops Q (o :: rest) a w) : wpList P ops Q (o :: rest) a w := k
theorem wpList_convert (hgd : o.guard = none) (src dst : TypeId) (x : Operand) (ho : o.op = .convert src dst x) {v u : Value} {w1 : World} (hx : a.eval x = v) (hr : (convert src dst v).run P w = .ok u w1)
  (hK : wpList P ops Q rest (a.put o.dst u) w1) : wpList P ops Q (o :: rest) a w := by
 refine wpList_plain hgd fun K hK' => ?_
 unfold Oper.wp execOp; simp only [ho, hx, Sem.run_bind, Sem.run_pure, hr, Result.andThen_ok]; exact hK' _ _ hK
theorem wpList_bytes (base : Nat) (hgd : o.guard = none) (src dst e : TypeId) (x : Operand) (ho : o.op = .convert src dst x) {ud : TypeDesc} (hs : P.underlying src = some ud) (hd : P.underlying dst = some (.slice e)) (he : P.underlying e = some (.int .u8))
  (s : ByteArray) (hx : a.eval x = .string s) (hb : base ≤ w.heap.size) (hl : s.size ≤ maxLen)
  (hK : ∀ v w1, OwnB w1 base v s.data.toList → (∀ k, v.ownBlock = some k → w.heap.size ≤ k) → Below w.heap.size w w1 → wpList P ops Q rest (a.put o.dst v) w1) : wpList P ops Q (o :: rest) a w := by
 refine wpList_convert hgd src dst x ho hx (Lib.run_convert_string_bytes w src dst e s hs hd he) ?_; refine hK _ _ ?_ (fun k hk => by simp [Value.ownBlock] at hk; omega) (bytes_grown w e s (Below.refl _ _) (Nat.le_refl _)); have := Own.bytes w base e s hb hl; rw [byteCells_bcs] at this; unfold OwnB; rw [show s.data.toList.length = s.size from by rw [Array.length_toList]; rfl]; exact this
theorem wpList_appB1 (base : Nat) (hgd : o.guard = none) (s x : Operand) (t e : TypeId) (ho : o.op = .call { callee := .builtin .append, args := #[s, x], argTypes := #[t, t] }) (ht : P.underlying t = some (.slice e))
  (hinfo : (P.info? e).map (fun i => (i.zero, i.size, i.bytes)) = some (some (.int .u8 0), 1, 1)) {v : Value} {l : List UInt8} (hv : a.eval s = v) (b : UInt8) {w0 : World} (hx : a.eval x = .slice (some ⟨w0.heap.size, 0, none⟩) 1 1)
  (hw : w = w0.alloc (.cells #[.int .u8 b.toNat] e)) (hown : OwnB w0 base v l) (hl : l.length + 1 ≤ 140737488355328) (hbase : base ≤ w0.heap.size)
  (hK : ∀ v' w', OwnB w' base v' (l ++ [b]) → Below base w0 w' → wpList P ops Q rest (a.put o.dst v') w') : wpList P ops Q (o :: rest) a w := by
 subst hw; have h2 := hown.alloc (.cells #[.int .u8 b.toNat] e); refine wpList_app base hgd s x t t ho e (.int .u8 0) 1 1 ht hinfo rfl hv h2 _ 1 [.int .u8 b.toNat] hx (src_one w0 t e e ht _ rfl) (by unfold maxLen; omega) (by omega) (by simp; omega) ?_; intro v' w' h3 hg _; refine hK v' w' ?_ (below_of_grown ((Below.refl _ _).alloc hbase _) h2 (Nat.le_refl _) (by simp; omega) hg); unfold OwnB; rw [bcs_append, List.length_append]; exact h3
end
end
theorem Own.store {w : World} {base size g n cap : Nat} {xs : List Value} (h : Own w base size (.slice (some ⟨g, 0, none⟩) n cap) n xs) (k : Nat) (hk : k < n * size) (u : Value) :
  Own (w.setCell ⟨g, k, none⟩ u) base size (.slice (some ⟨g, 0, none⟩) n cap) n (xs.set k u) := by
 obtain ⟨h0, h⟩ := h
 rcases h with ⟨h, rfl⟩ | ⟨g', cap', hv, h1, h2, h3, h4, h5, h6⟩
 ·cases h
 ·cases hv
  refine ⟨by rw [List.length_set, h0], .inr ⟨g, cap, rfl, h1, by simpa using h2, h3, h4, fun j hj => ?_, fun j hj => ⟨?_, by rw [World.frozen?_setCell]; exact (h6 j hj).2⟩⟩⟩
  ·by_cases e : j = k
   ·subst e; rw [World.cell?_setCell_same' _ _ _ (h6 j (Nat.lt_of_lt_of_le hj (Nat.mul_le_mul_right _ h3))).1, List.getElem?_set_self (by omega)]
   ·rw [World.cell?_setCell_other _ _ _ _ (fun e' => e (by cases e'; rfl)), List.getElem?_set_ne (fun e' => e e'.symm)]; exact h5 j hj
  ·by_cases e : j = k
   ·subst e; rw [World.cell?_setCell_same' _ _ _ (h6 j hj).1]; rfl
   ·rw [World.cell?_setCell_other _ _ _ _ (fun e' => e (by cases e'; rfl))]; exact (h6 j hj).1
theorem Own.cell {w : World} {base size g n cap : Nat} {xs : List Value} (h : Own w base size (.slice (some ⟨g, 0, none⟩) n cap) n xs) (k : Nat) (hk : k < n * size) :
  w.cell? ⟨g, k, none⟩ = xs[k]? ∧ (w.cell? ⟨g, k, none⟩).isSome = true ∧ w.frozen? ⟨g, k, none⟩ = false := by
 obtain ⟨h0, h⟩ := h
 rcases h with ⟨h, rfl⟩ | ⟨g', cap', hv, h1, h2, h3, h4, h5, h6⟩
 ·cases h
 ·cases hv
  have hk' := Nat.lt_of_lt_of_le hk (Nat.mul_le_mul_right size h3); exact ⟨h5 k hk, (h6 k hk').1, (h6 k hk').2⟩
theorem Own.slot {w : World} {base size g n cap : Nat} {xs : List Value} (h : Own w base size (.slice (some ⟨g, 0, none⟩) n cap) n xs) (k : Nat) (hk : k < n * size) : ∃ u, w.cell? ⟨g, k, none⟩ = some u ∧ w.frozen? ⟨g, k, none⟩ = false := by
 obtain ⟨_, h2, h3⟩ := h.cell k hk; obtain ⟨u, hu⟩ := Option.isSome_iff_exists.1 h2; exact ⟨u, hu, h3⟩
def lenOf : Value → Nat | .slice _ n _ => n | _ => 0
@[simp] theorem lenOf_slice (a : Option Addr) (n c : Nat) : lenOf (.slice a n c) = n := rfl
def Rd (w : World) (size : Nat) (v : Value) (n : Nat) (xs : List Value) : Prop :=
 xs.length = n * size ∧ ∃ A c, v = .slice A n c ∧ n ≤ c ∧ (0 < n → ∃ b off, A = some ⟨b, off, none⟩ ∧ b < w.heap.size ∧ ∀ j, j < n * size → w.cell? ⟨b, off + j, none⟩ = xs[j]?)
theorem Own.rd {w : World} {base size : Nat} {v : Value} {n : Nat} {xs : List Value} (h : Own w base size v n xs) : Rd w size v n xs := by
 refine ⟨h.1, ?_⟩
 rcases h.2 with ⟨rfl, rfl⟩ | ⟨g, cap, rfl, h1, h2, h3, h4, h5, h6⟩
 ·exact ⟨none, 0, rfl, Nat.le_refl _, fun h => absurd h (Nat.lt_irrefl 0)⟩
 ·exact ⟨_, cap, rfl, h3, fun _ => ⟨g, 0, rfl, h2, fun j hj => by rw [Nat.zero_add]; exact h5 j hj⟩⟩
theorem Rd.below {w w1 : World} {size : Nat} {v : Value} {n : Nat} {xs : List Value} (h : Rd w size v n xs) {B : Nat} (hb : Below B w w1) (hB : w.heap.size ≤ B) : Rd w1 size v n xs := by
 obtain ⟨h1, A, c, hv, h2, h3⟩ := h; refine ⟨h1, A, c, hv, h2, fun hn => ?_⟩; obtain ⟨b, off, hA, hlt, hc⟩ := h3 hn; exact ⟨b, off, hA, Nat.lt_of_lt_of_le hlt hb.size, fun j hj => by rw [hb.cell (p := ⟨b, off + j, none⟩) (by show b < B; omega)]; exact hc j hj⟩
end Go.Proofs.YtonbmghgbblifaaDoor
end
section
namespace Go.Proofs.YtonbmghgbblifaaDoor.Z
open RowKit YtonbmghgbblifaaDoorW.PrintWords YtonbmghgbblifaaDoorW.PrintLast YtonbmghgbblifaaDoorW.PrintMore
attribute [local go_sem] max2_int min2_int max_two min_two max_three min_three max_four min_four
set_option linter.all false
def errW : Option Int → Value
 | none => .nilIface
 | some c => .iface 0 (.int .i64 c)
theorem errW_none : errW none = .nilIface := rfl
theorem errW_some (c : Int) : errW (some c) = .iface 0 (.int .i64 c) := rfl
theorem info5 : (Tryd.prog.info? 5).map (fun i => (i.zero, i.size, i.bytes)) = some (some (.int .u8 0), 1, 1) := by kernel_rfl
theorem info9 : (Tryd.prog.info? 9).map (fun i => (i.zero, i.size, i.bytes)) = some (some (.string ⟨#[]⟩), 1, 16) := by kernel_rfl
theorem info78 : (Tryd.prog.info? 78).map (fun i => (i.zero, i.size, i.bytes)) = some (some (.agg #[(.string ⟨#[]⟩), (.string ⟨#[]⟩)]), 2, 32) := by kernel_rfl
theorem info129 : (Tryd.prog.info? 129).map (fun i => (i.zero, i.size, i.bytes)) = some (some (.int .u32 0), 1, 4) := by kernel_rfl
structure S34 where
 f0 : Int
 f1 : (List ByteArray)
structure S86 where
 f0 : ByteArray
 f1 : ByteArray
structure S78 where
 f0 : ByteArray
 f1 : ByteArray
def z78 : S78 := ⟨(⟨#[]⟩ : ByteArray), (⟨#[]⟩ : ByteArray)⟩
def k78 : Kd S78 := Kd.iso (Kd.pair Kd.string Kd.string) (fun x : S78 => (x.f0, x.f1))
theorem k78_open {w : World} {x : S78} {cs : List Value} (h : k78.K w x cs) : cs = [.string x.f0, .string x.f1] := by
 obtain ⟨_, _, rfl, rfl, rfl⟩ := h; exact rfl
theorem k78_mkM (w : World) (base : Nat) (ok : Nat → Prop) (x : S78)  : k78.M w base ok x [.string x.f0, .string x.f1] := ⟨[.string x.f0], [.string x.f1], rfl, rfl, rfl⟩
def rd_T78 (xs : List S78) (i : Int) : S78 := xs.getD i.toNat z78
theorem at_T78 {w : World} {A : Option Addr} {n : Nat} {xs : List S78} (h : Kd.C k78 w A n xs) (i : Int) (h0 : 0 ≤ i) (h1 : i < n) : ∃ ad , A = some ad ∧ w.cell? (ad.add (i.toNat * 2)) = some (.string (rd_T78 xs i).f0) ∧ w.cell? ⟨(ad.add (i.toNat * 2)).block, (ad.add (i.toNat * 2)).off + 1, none⟩ = some (.string (rd_T78 xs i).f1) := by
 obtain ⟨ad, c, e, _, hK, hc0⟩ := Kd.C_get h z78 i h0 h1; have hc : ∀ j u, c[j]? = some u → w.cell? (ad.add (i.toNat * 2 + j)) = some u := hc0; obtain rfl := k78_open hK; exact ⟨ad, e, hc 0 _ rfl, by rw [← add_field _ _ 1 (by omega)]; exact hc 1 _ rfl⟩
structure S158 where
 f0 : (List S78)
 f1 : Int
 f2 : Int
structure S49 where
 f0 : ByteArray
 f1 : ByteArray
 f2 : ByteArray
 f3 : ByteArray
def spec_l1Turn.f (a0 : Int) (a1 : Int) : Option (Int) := if 0 ≤ (IntKind.u64.wrap (a1)) then (if 0 ≤ (IntKind.u64.wrap (wrap64 (32 - a1))) then (some (Go.bits .or .u32 (shr .u32 a0 (IntKind.u64.wrap (a1))) (shl .u32 a0 (IntKind.u64.wrap (wrap64 (32 - a1)))))) else (none)) else (none)
set_option maxHeartbeats 8000000 in
set_option maxRecDepth 100000 in
theorem spec_l1Turn.calls (a0 : Int) (a1 : Int) (r : Int) (w : World) (h : spec_l1Turn.f a0 a1 = some r) :
  Calls Tryd.prog 146 #[.int .u32 a0, .int .i64 a1] w fun e w' => e = .returned (.int .u32 r) ∧ Drawn0 w w' := by
 have H : (if 0 ≤ (IntKind.u64.wrap (a1)) then (if 0 ≤ (IntKind.u64.wrap (wrap64 (32 - a1))) then (some (Go.bits .or .u32 (shr .u32 a0 (IntKind.u64.wrap (a1))) (shl .u32 a0 (IntKind.u64.wrap (wrap64 (32 - a1)))))) else (none)) else (none)) = some r := h; clear h; obtain ⟨ji3, hji3⟩ : ∃ j_ : Int, (IntKind.u64.wrap (a1)) = j_ := ⟨_, rfl⟩
 replace H : (if 0 ≤ (ji3) then (if 0 ≤ (IntKind.u64.wrap (wrap64 (32 - a1))) then (some (Go.bits .or .u32 (shr .u32 a0 (ji3)) (shl .u32 a0 (IntKind.u64.wrap (wrap64 (32 - a1)))))) else (none)) else (none)) = some r := by first | (rw [hji3] at H; exact H) | (simp only [hji3] at H ⊢; exact H)
 by_cases c4 : 0 ≤ (ji3)
 ·rw [if_pos c4] at H; have c4b0 := eq_true c4; have c4b1 : decide (0 ≤ (ji3)) = true := decide_eq_true c4; clear c4; obtain ⟨ji5, hji5⟩ : ∃ j_ : Int, (shr .u32 a0 (ji3)) = j_ := ⟨_, rfl⟩
  replace H : (if 0 ≤ (IntKind.u64.wrap (wrap64 (32 - a1))) then (some (Go.bits .or .u32 (ji5) (shl .u32 a0 (IntKind.u64.wrap (wrap64 (32 - a1)))))) else (none)) = some r := by first | (rw [hji5] at H; exact H) | (simp only [hji5] at H ⊢; exact H)
  have hji5_ : (a0 / 2 ^ min (ji3).toNat 32) = ji5 := hji5; have hji5z : (ji3) ≤ 32 → (a0 / 2 ^ (ji3).toNat) = ji5 := shr_small hji5; obtain ⟨ji6, hji6⟩ : ∃ j_ : Int, (IntKind.u64.wrap (wrap64 (32 - a1))) = j_ := ⟨_, rfl⟩
  replace H : (if 0 ≤ (ji6) then (some (Go.bits .or .u32 (ji5) (shl .u32 a0 (ji6)))) else (none)) = some r := by first | (rw [hji6] at H; exact H) | (simp only [hji6] at H ⊢; exact H)
  by_cases c7 : 0 ≤ (ji6)
  ·rw [if_pos c7] at H; have c7b0 := eq_true c7; have c7b1 : decide (0 ≤ (ji6)) = true := decide_eq_true c7; clear c7; obtain ⟨ji8, hji8⟩ : ∃ j_ : Int, (shl .u32 a0 (ji6)) = j_ := ⟨_, rfl⟩
   replace H : (some (Go.bits .or .u32 (ji5) (ji8))) = some r := by first | (rw [hji8] at H; exact H) | (simp only [hji8] at H ⊢; exact H)
   have hji8_ : (IntKind.u32.wrap (a0 * 2 ^ min (ji6).toNat 32)) = ji8 := hji8; have hji8z : (ji6) ≤ 32 → (IntKind.u32.wrap (a0 * 2 ^ (ji6).toNat)) = ji8 := shl_small hji8; obtain rfl := Option.some.inj H
   go_enter Tryd.func146, Tryd.ntmps146
   go_wp2
   go_ret
   exact ⟨by first | rfl | (simp; done) | (simp only [← hji3, ← hji5, ← hji6, ← hji8] <;> (first | rfl | simp)) | (simp [*]; done), by repeat (first | exact Drawn0.refl _ | apply Drawn0.step)⟩
  ·rw [if_neg c7] at H; exact absurd H (by simp)
 ·rw [if_neg c4] at H; exact absurd H (by simp)
mutual
def spec_l1Schedule.l0 : Nat → List Int → Int → List Int → Int → Option (List Int)
 | 0, _, _, _, _ => none
 | k + 1, x0, x1, x5, x6 => if x6 < 16 then (if 0 ≤ (wrap64 (x1 + (wrap64 (4 * x6)))) then (if (wrap64 (x1 + (wrap64 (4 * x6)))) < (x0.length : Int) then (if 0 ≤ (wrap64 ((wrap64 (x1 + (wrap64 (4 * x6)))) + 1)) then (if (wrap64 ((wrap64 (x1 + (wrap64 (4 * x6)))) + 1)) < (x0.length : Int) then (if 0 ≤ (wrap64 ((wrap64 (x1 + (wrap64 (4 * x6)))) + 2)) then (if (wrap64 ((wrap64 (x1 + (wrap64 (4 * x6)))) + 2)) < (x0.length : Int) then (if 0 ≤ (wrap64 ((wrap64 (x1 + (wrap64 (4 * x6)))) + 3)) then (if (wrap64 ((wrap64 (x1 + (wrap64 (4 * x6)))) + 3)) < (x0.length : Int) then (if x5.length < 35184372088832 then (spec_l1Schedule.l0 k x0 x1 (x5 ++ [Go.bits .or .u32 (Go.bits .or .u32 (Go.bits .or .u32 ((((rd x0 (wrap64 (x1 + (wrap64 (4 * x6))))) % 4294967296) * 16777216) % 4294967296) ((((rd x0 (wrap64 ((wrap64 (x1 + (wrap64 (4 * x6)))) + 1))) % 4294967296) * 65536) % 4294967296)) ((((rd x0 (wrap64 ((wrap64 (x1 + (wrap64 (4 * x6)))) + 2))) % 4294967296) * 256) % 4294967296)) ((rd x0 (wrap64 ((wrap64 (x1 + (wrap64 (4 * x6)))) + 3))) % 4294967296)]) (wrap64 (x6 + 1))) else (none)) else (none)) else (none)) else (none)) else (none)) else (none)) else (none)) else (none)) else (none)) else (spec_l1Schedule.l1 k x5 16)
def spec_l1Schedule.l1 : Nat → List Int → Int → Option (List Int)
 | 0, _, _ => none
 | k + 1, x5, x8 => if x8 < 64 then (if 0 ≤ (wrap64 (x8 - 15)) then (if (wrap64 (x8 - 15)) < (x5.length : Int) then (if 0 ≤ (wrap64 (x8 - 2)) then (if (wrap64 (x8 - 2)) < (x5.length : Int) then ((spec_l1Turn.f (rd x5 (wrap64 (x8 - 15))) 7).bind fun t1450013 => ((spec_l1Turn.f (rd x5 (wrap64 (x8 - 15))) 18).bind fun t1450014 => ((spec_l1Turn.f (rd x5 (wrap64 (x8 - 2))) 17).bind fun t1450015 => ((spec_l1Turn.f (rd x5 (wrap64 (x8 - 2))) 19).bind fun t1450016 => (if 0 ≤ (wrap64 (x8 - 16)) then (if (wrap64 (x8 - 16)) < (x5.length : Int) then (if 0 ≤ (wrap64 (x8 - 7)) then (if (wrap64 (x8 - 7)) < (x5.length : Int) then (if x5.length < 35184372088832 then (spec_l1Schedule.l1 k (x5 ++ [((((((rd x5 (wrap64 (x8 - 16))) + (Go.bits .xor .u32 (Go.bits .xor .u32 t1450013 t1450014) ((rd x5 (wrap64 (x8 - 15))) / 8))) % 4294967296) + (rd x5 (wrap64 (x8 - 7)))) % 4294967296) + (Go.bits .xor .u32 (Go.bits .xor .u32 t1450015 t1450016) ((rd x5 (wrap64 (x8 - 2))) / 1024))) % 4294967296]) (wrap64 (x8 + 1))) else (none)) else (none)) else (none)) else (none)) else (none)))))) else (none)) else (none)) else (none)) else (none)) else (some x5)
end
def spec_l1Schedule.f (k : Nat) (l0 : List Int) (a1 : Int) : Option (List Int) := spec_l1Schedule.l0 k l0 a1 (([] : List Int)) 0
def spec_l1Schedule.T6 : Bool × List (List Nat × List Nat) := (true, [([], []), ([], []), ([], []), ([1, 2], [1, 2]), ([3], [3]), ([4], [4]), ([5], [5]), ([], []), ([], []), ([8], [8]), ([7, 9], [7, 9]), ([10], [10]), ([11], [11]), ([12], [12]), ([6, 13], [6, 13]), ([], []), ([], []), ([16], [16]), ([15, 17], [15, 17]), ([18], [18]), ([19], [19]), ([20], [20]), ([14, 21], [14, 21]), ([], []), ([], []), ([24], [24]), ([23, 25], [23, 25]), ([26], [26]), ([27], [27]), ([22, 28], [22, 28]), ([29], [29]), ([0, 30], [0, 30]), ([31, 31, 0, 1, 2, 3, 4, 5, 6, 7, 8, 9, 10, 11, 12, 13, 14, 15, 16, 17, 18, 19, 20, 21, 22, 23, 24, 25, 26, 27, 28, 29, 30, 31], [0, 31])])
def spec_l1Schedule.B6 : List Nat := [0, 0, 0, 6, 14, 30, 62, 0, 0, 256, 896, 1920, 3968, 8064, 16382, 0, 0, 65536, 229376, 491520, 1015808, 2064384, 4194302, 0, 0, 16777216, 58720256, 125829120, 260046848, 536870910, 1073741822, 2147483647, 4294967295]
theorem spec_l1Schedule.tab6 : rtab .any (opsOf Tryd.f145 6) = spec_l1Schedule.T6 := by kernel_rfl
theorem spec_l1Schedule.bits6 : waitsOk spec_l1Schedule.T6.2 spec_l1Schedule.B6 = true := by kernel_rfl
def spec_l1Schedule.T14 : Bool × List (List Nat × List Nat) := (true, [([], []), ([], []), ([], []), ([2], [2]), ([1, 3], [1, 3]), ([4], [4]), ([], []), ([5, 6], [5, 6]), ([], []), ([], []), ([9], [9]), ([8, 10], [8, 10]), ([11], [11]), ([7, 12], [7, 12]), ([], []), ([13, 14], [13, 14]), ([15], [15]), ([0, 16], [0, 16]), ([17, 17, 0, 1, 2, 3, 4, 5, 6, 7, 8, 9, 10, 11, 12, 13, 14, 15, 16, 17], [0, 1, 8, 17])])
def spec_l1Schedule.B14 : List Nat := [0, 0, 0, 4, 14, 30, 0, 126, 0, 0, 512, 1792, 3840, 8190, 0, 32766, 65534, 131071, 262143]
theorem spec_l1Schedule.tab14 : rtab .any (opsOf Tryd.f145 14) = spec_l1Schedule.T14 := by kernel_rfl
theorem spec_l1Schedule.bits14 : waitsOk spec_l1Schedule.T14.2 spec_l1Schedule.B14 = true := by kernel_rfl
set_option maxHeartbeats 8000000 in
set_option maxRecDepth 100000 in
theorem spec_l1Schedule.calls (k : Nat) (A0 : Option Addr) (c0 : Nat) (l0 : List Int) (a1 : Int) (r : List Int) (w : World) (hr0 : Kd.C (Kd.int .u8) w A0 l0.length l0) (hc0 : l0.length ≤ c0) (h : spec_l1Schedule.f k l0 a1 = some r) :
  Calls Tryd.prog 145 #[.slice A0 l0.length c0, .int .i64 a1] w fun e w' => ∃ v0_ : Value, e = .returned (v0_) ∧ Kd.R (Kd.int .u32) 129 w' w.heap.size (fun _ => True) v0_ r ∧ Below w.heap.size w w' := by
 have HR0 := Aside0.mk hr0; have HC0 := Aside0.mk hc0; clear hr0 hc0; have HB := Aside0.mk (Below.refl w.heap.size w); have H : (spec_l1Schedule.l0 k l0 a1 (([] : List Int)) 0) = some r := h; clear h; obtain ⟨y1450001, hy1450001⟩ : ∃ y_ : List Int, y_ = (([] : List Int)) := ⟨_, rfl⟩
 replace H : (spec_l1Schedule.l0 k l0 a1 y1450001 0) = some r := by first | (rw [hy1450001]; with_reducible exact H) | (have H2_ := (Option.bind_some _ _).symm.trans H; rw [hy1450001]; with_reducible exact H2_) | (have H2_ := (Option.bind_some _ _).symm.trans H; with_reducible exact H2_) | with_reducible exact H | (rw [hy1450001]; exact H) | exact H
 have Ny1450001 := Aside0.mk hy1450001; clear hy1450001; have H' := Aside0.mk H; clear H
 go_enter Tryd.func145, Tryd.ntmps145
 go_wp2_with (first | ((with_reducible refine gate_dst (N := 13) rfl ?_); refine Kd.R_lit (Kd.int .u32) _ 129 ?hg (N := 13) ?hd (xs := ([] : List Int)) (inner := []) (ok := fun _ => True) (okp := fun _ => True) ?hr ?hp (fun _ hk => hk) trivial (Below.refl _ _) (Nat.le_refl _) (by simp) ?_; (case hd => rfl); (case hg => rfl); (case hr => exact zq_14); (case hp => exact (Reps.none _ _)); intro v1450002 w3 ho4 hb hg_ hnew_; clear hg_ hnew_; (first | rw [← Ny1450001.out] at ho4 | (simp only [Int.reduceToNat] at ho4; rw [← Ny1450001.out] at ho4)); have n0_ := Aside0.mk (Kd.R_lower ho4 (below_size zq_0)); have n1_ := Aside0.mk (below_step zq_0 hb); clear HB; have HO1450003 := n0_; have HB := n1_; clear n0_ n1_; clear hb ho4))
 go_loopg [5, 6] k (fun kq v5 v6 w' => ∃ (x5_1 : List Int) (x6_1 : Int), v6 = .int .i64 x6_1 ∧ Aside0 (spec_l1Schedule.l0 kq l0 a1 x5_1 x6_1 = some r) ∧ Aside0 (kq ≤ k) ∧ Aside0 (Kd.R (Kd.int .u32) 129 w' w.heap.size (fun _ => True) v5 x5_1) ∧ Aside0 (Below w.heap.size w w'))
 case atStart => exact ⟨(y1450001), (0), zq_13, H', ⟨Nat.le_refl _⟩, ⟨by (with_reducible repeat (first | apply Kd.R_alloc | apply Kd.R_drewN | apply Kd.R_drew)); exact HO1450003.out⟩, ⟨by repeat (first | (with_reducible first | exact HB.out | apply below_alloc | apply pw_below_drewN | apply below_drew1) | exact HB.out)⟩⟩
 case round =>
  clear H'
  try clear c1
  try clear p2
  obtain ⟨x5_1, x6_1, rfl, HA, HK1, HO_5, HB⟩ := hrel
  cases gk with
  | zero => exact absurd HA.out (by simp [spec_l1Schedule.l0])
  | succ k1 =>
   have H := HA.out; clear HA; simp only [spec_l1Schedule.l0] at H
   by_cases c5 : x6_1 < 16
   ·rw [if_pos c5] at H; have c5b0 : decide (x6_1 < 16) = true := decide_eq_true c5; clear c5; obtain ⟨ji6, hji6⟩ : ∃ j_ : Int, (wrap64 (a1 + (wrap64 (4 * x6_1)))) = j_ := ⟨_, rfl⟩
    replace H : (if 0 ≤ (ji6) then (if (ji6) < (l0.length : Int) then (if 0 ≤ (wrap64 ((ji6) + 1)) then (if (wrap64 ((ji6) + 1)) < (l0.length : Int) then (if 0 ≤ (wrap64 ((ji6) + 2)) then (if (wrap64 ((ji6) + 2)) < (l0.length : Int) then (if 0 ≤ (wrap64 ((ji6) + 3)) then (if (wrap64 ((ji6) + 3)) < (l0.length : Int) then (if x5_1.length < 35184372088832 then (spec_l1Schedule.l0 k1 l0 a1 (x5_1 ++ [Go.bits .or .u32 (Go.bits .or .u32 (Go.bits .or .u32 ((((rd l0 (ji6)) % 4294967296) * 16777216) % 4294967296) ((((rd l0 (wrap64 ((ji6) + 1))) % 4294967296) * 65536) % 4294967296)) ((((rd l0 (wrap64 ((ji6) + 2))) % 4294967296) * 256) % 4294967296)) ((rd l0 (wrap64 ((ji6) + 3))) % 4294967296)]) (wrap64 (x6_1 + 1))) else (none)) else (none)) else (none)) else (none)) else (none)) else (none)) else (none)) else (none)) else (none)) = some r := by first | (rw [hji6] at H; exact H) | (simp only [hji6] at H ⊢; exact H)
    have hji6w : (IntKind.i64.wrap (a1 + (wrap64 (4 * x6_1)))) = ji6 := (i64_w _).trans hji6
    by_cases c7 : 0 ≤ (ji6)
    ·rw [if_pos c7] at H; have c7b0 : decide (0 ≤ (ji6)) = true := decide_eq_true c7; clear c7
     by_cases c8 : (ji6) < (l0.length : Int)
     ·rw [if_pos c8] at H; have c8b0 : decide ((ji6) < (l0.length : Int)) = true := decide_eq_true c8; clear c8; obtain ⟨ji9, hji9⟩ : ∃ j_ : Int, (wrap64 ((ji6) + 1)) = j_ := ⟨_, rfl⟩
      replace H : (if 0 ≤ (ji9) then (if (ji9) < (l0.length : Int) then (if 0 ≤ (wrap64 ((ji6) + 2)) then (if (wrap64 ((ji6) + 2)) < (l0.length : Int) then (if 0 ≤ (wrap64 ((ji6) + 3)) then (if (wrap64 ((ji6) + 3)) < (l0.length : Int) then (if x5_1.length < 35184372088832 then (spec_l1Schedule.l0 k1 l0 a1 (x5_1 ++ [Go.bits .or .u32 (Go.bits .or .u32 (Go.bits .or .u32 ((((rd l0 (ji6)) % 4294967296) * 16777216) % 4294967296) ((((rd l0 (ji9)) % 4294967296) * 65536) % 4294967296)) ((((rd l0 (wrap64 ((ji6) + 2))) % 4294967296) * 256) % 4294967296)) ((rd l0 (wrap64 ((ji6) + 3))) % 4294967296)]) (wrap64 (x6_1 + 1))) else (none)) else (none)) else (none)) else (none)) else (none)) else (none)) else (none)) = some r := by first | (rw [hji9] at H; exact H) | (simp only [hji9] at H ⊢; exact H)
      have hji9w : (IntKind.i64.wrap ((ji6) + 1)) = ji9 := (i64_w _).trans hji9
      by_cases c10 : 0 ≤ (ji9)
      ·rw [if_pos c10] at H; have c10b0 : decide (0 ≤ (ji9)) = true := decide_eq_true c10; clear c10
       by_cases c11 : (ji9) < (l0.length : Int)
       ·rw [if_pos c11] at H; have c11b0 : decide ((ji9) < (l0.length : Int)) = true := decide_eq_true c11; clear c11; obtain ⟨ji12, hji12⟩ : ∃ j_ : Int, (wrap64 ((ji6) + 2)) = j_ := ⟨_, rfl⟩
        replace H : (if 0 ≤ (ji12) then (if (ji12) < (l0.length : Int) then (if 0 ≤ (wrap64 ((ji6) + 3)) then (if (wrap64 ((ji6) + 3)) < (l0.length : Int) then (if x5_1.length < 35184372088832 then (spec_l1Schedule.l0 k1 l0 a1 (x5_1 ++ [Go.bits .or .u32 (Go.bits .or .u32 (Go.bits .or .u32 ((((rd l0 (ji6)) % 4294967296) * 16777216) % 4294967296) ((((rd l0 (ji9)) % 4294967296) * 65536) % 4294967296)) ((((rd l0 (ji12)) % 4294967296) * 256) % 4294967296)) ((rd l0 (wrap64 ((ji6) + 3))) % 4294967296)]) (wrap64 (x6_1 + 1))) else (none)) else (none)) else (none)) else (none)) else (none)) = some r := by first | (rw [hji12] at H; exact H) | (simp only [hji12] at H ⊢; exact H)
        have hji12w : (IntKind.i64.wrap ((ji6) + 2)) = ji12 := (i64_w _).trans hji12
        by_cases c13 : 0 ≤ (ji12)
        ·rw [if_pos c13] at H; have c13b0 : decide (0 ≤ (ji12)) = true := decide_eq_true c13; clear c13
         by_cases c14 : (ji12) < (l0.length : Int)
         ·rw [if_pos c14] at H; have c14b0 : decide ((ji12) < (l0.length : Int)) = true := decide_eq_true c14; clear c14; obtain ⟨ji15, hji15⟩ : ∃ j_ : Int, (wrap64 ((ji6) + 3)) = j_ := ⟨_, rfl⟩
          replace H : (if 0 ≤ (ji15) then (if (ji15) < (l0.length : Int) then (if x5_1.length < 35184372088832 then (spec_l1Schedule.l0 k1 l0 a1 (x5_1 ++ [Go.bits .or .u32 (Go.bits .or .u32 (Go.bits .or .u32 ((((rd l0 (ji6)) % 4294967296) * 16777216) % 4294967296) ((((rd l0 (ji9)) % 4294967296) * 65536) % 4294967296)) ((((rd l0 (ji12)) % 4294967296) * 256) % 4294967296)) ((rd l0 (ji15)) % 4294967296)]) (wrap64 (x6_1 + 1))) else (none)) else (none)) else (none)) = some r := by first | (rw [hji15] at H; exact H) | (simp only [hji15] at H ⊢; exact H)
          have hji15w : (IntKind.i64.wrap ((ji6) + 3)) = ji15 := (i64_w _).trans hji15
          by_cases c16 : 0 ≤ (ji15)
          ·rw [if_pos c16] at H; have c16b0 : decide (0 ≤ (ji15)) = true := decide_eq_true c16; clear c16
           by_cases c17 : (ji15) < (l0.length : Int)
           ·rw [if_pos c17] at H; have c17b0 : decide ((ji15) < (l0.length : Int)) = true := decide_eq_true c17; clear c17
            by_cases c18 : x5_1.length < 35184372088832
            ·rw [if_pos c18] at H; have LMc18 := Aside0.mk c18; clear c18; obtain ⟨y1450008, hy1450008⟩ : ∃ y_ : List Int, y_ = (x5_1 ++ [Go.bits .or .u32 (Go.bits .or .u32 (Go.bits .or .u32 ((((rd l0 (ji6)) % 4294967296) * 16777216) % 4294967296) ((((rd l0 (ji9)) % 4294967296) * 65536) % 4294967296)) ((((rd l0 (ji12)) % 4294967296) * 256) % 4294967296)) ((rd l0 (ji15)) % 4294967296)]) := ⟨_, rfl⟩
             replace H : (spec_l1Schedule.l0 k1 l0 a1 y1450008 (wrap64 (x6_1 + 1))) = some r := by first | (rw [hy1450008]; with_reducible exact H) | (have H2_ := (Option.bind_some _ _).symm.trans H; rw [hy1450008]; with_reducible exact H2_) | (have H2_ := (Option.bind_some _ _).symm.trans H; with_reducible exact H2_) | with_reducible exact H | (rw [hy1450008]; exact H) | exact H
             have Ny1450008 := Aside0.mk hy1450008; clear hy1450008; have H' := Aside0.mk H; clear H
             try go_wp2
             have n0_ := Aside0.mk (Kd.R_drew HO_5.out); have n1_ := Aside0.mk (below_drew1 HB.out); clear HO_5; clear HB; have HO_5 := n0_; have HB := n1_; clear n0_ n1_; have p1450004 : 0 ≤ ((ji6) : Int) := of_decide_eq_true zq_5; have q1450004 : (ji6) < (l0.length : Int) := of_decide_eq_true zq_5; obtain ⟨ad1450004, e1450004, hx1450004_0⟩ := Kd.at_int HR0.out (ji6) p1450004 q1450004; have hw1450004_0 := hx1450004_0
             cases e1450004
             replace hx1450004_0 := (HB.out.cell (World.block_lt_of_cell? w _ hx1450004_0)).trans hx1450004_0; replace p1450004 := eq_true p1450004; replace q1450004 := eq_true q1450004; have p1450005 : 0 ≤ ((ji9) : Int) := of_decide_eq_true zq_5; have q1450005 : (ji9) < (l0.length : Int) := of_decide_eq_true zq_5; obtain ⟨ad1450005, e1450005, hx1450005_0⟩ := Kd.at_int HR0.out (ji9) p1450005 q1450005; have hw1450005_0 := hx1450005_0; obtain rfl : ad1450004 = ad1450005 := (by injection e1450005)
             replace hx1450005_0 := (HB.out.cell (World.block_lt_of_cell? w _ hx1450005_0)).trans hx1450005_0; replace p1450005 := eq_true p1450005; replace q1450005 := eq_true q1450005; have p1450006 : 0 ≤ ((ji12) : Int) := of_decide_eq_true zq_5; have q1450006 : (ji12) < (l0.length : Int) := of_decide_eq_true zq_5; obtain ⟨ad1450006, e1450006, hx1450006_0⟩ := Kd.at_int HR0.out (ji12) p1450006 q1450006; have hw1450006_0 := hx1450006_0; obtain rfl : ad1450004 = ad1450006 := (by injection e1450006)
             replace hx1450006_0 := (HB.out.cell (World.block_lt_of_cell? w _ hx1450006_0)).trans hx1450006_0; replace p1450006 := eq_true p1450006; replace q1450006 := eq_true q1450006; have p1450007 : 0 ≤ ((ji15) : Int) := of_decide_eq_true zq_5; have q1450007 : (ji15) < (l0.length : Int) := of_decide_eq_true zq_5; obtain ⟨ad1450007, e1450007, hx1450007_0⟩ := Kd.at_int HR0.out (ji15) p1450007 q1450007; have hw1450007_0 := hx1450007_0; obtain rfl : ad1450004 = ad1450007 := (by injection e1450007)
             replace hx1450007_0 := (HB.out.cell (World.block_lt_of_cell? w _ hx1450007_0)).trans hx1450007_0; replace p1450007 := eq_true p1450007; replace q1450007 := eq_true q1450007; refine start_ (n := 33) (S := fun w' => w'.cell? (ad1450004.add ((ji6)).toNat) = some (.int .u8 (rd l0 (ji6))) ∧ w'.cell? (ad1450004.add ((ji9)).toNat) = some (.int .u8 (rd l0 (ji9))) ∧ w'.cell? (ad1450004.add ((ji12)).toNat) = some (.int .u8 (rd l0 (ji12))) ∧ w'.cell? (ad1450004.add ((ji15)).toNat) = some (.int .u8 (rd l0 (ji15)))) (ds := []) #[false, false, false, false, false, false, false, false, false, false, false, false, false, false, false, false, false, false, false, false, false, false, false, false, false, false, false, false, false, false, false, false, false] (by kernel_rfl) rfl rfl ⟨((HB.out.cell (World.block_lt_of_cell? w _ hw1450004_0)).trans hw1450004_0), ((HB.out.cell (World.block_lt_of_cell? w _ hw1450005_0)).trans hw1450005_0), ((HB.out.cell (World.block_lt_of_cell? w _ hw1450006_0)).trans hw1450006_0), ((HB.out.cell (World.block_lt_of_cell? w _ hw1450007_0)).trans hw1450007_0)⟩ (fun hHeld => ?_); refine with_tabW spec_l1Schedule.tab6 spec_l1Schedule.bits6 (fun HT_ HW_ => ?_); generalize wr.drew = w19 at HO_5 HB hx1450004_0 hx1450005_0 hx1450006_0 hx1450007_0 hHeld ⊢; refine pq_ (i := 0) (N := some 22) HT_.out ?_; refine pq_ (i := 1) (N := some 23) HT_.out ?_; refine pq_ (i := 2) (N := some 24) HT_.out ?_; refine pq_ (i := 3) (N := some 25) HT_.out ?_; refine pq_ (i := 7) (N := some 29) HT_.out ?_; refine pq_ (i := 8) (N := some 30) HT_.out ?_; refine pq_ (i := 9) (N := some 31) HT_.out ?_; refine pq_ (i := 10) (N := some 32) HT_.out ?_; refine pq_ (i := 15) (N := some 37) HT_.out ?_; refine pq_ (i := 16) (N := some 38) HT_.out ?_; refine pq_ (i := 17) (N := some 39) HT_.out ?_; refine pq_ (i := 18) (N := some 40) HT_.out ?_; refine pq_ (i := 23) (N := some 45) HT_.out ?_; refine pq_ (i := 24) (N := some 46) HT_.out ?_; refine pq_ (i := 25) (N := some 47) HT_.out ?_; refine pq_ (i := 26) (N := some 48) HT_.out ?_; refine tq_ (i := 4) (N := some 26) HT_.out HW_.out hHeld (hy := by rintro w' ⟨s0, s1, s2, s3⟩; go_simp; with_reducible rfl) (h := ?_); refine pq_ (i := 5) (N := some 27) HT_.out ?_; refine pq_ (i := 6) (N := some 28) HT_.out ?_; refine tq_ (i := 11) (N := some 33) HT_.out HW_.out hHeld (hy := by rintro w' ⟨s0, s1, s2, s3⟩; go_simp; with_reducible rfl) (h := ?_); refine pq_ (i := 12) (N := some 34) HT_.out ?_; refine pq_ (i := 13) (N := some 35) HT_.out ?_
             refine pq_ (i := 14) (N := some 36) HT_.out ?_; refine tq_ (i := 19) (N := some 41) HT_.out HW_.out hHeld (hy := by rintro w' ⟨s0, s1, s2, s3⟩; go_simp; with_reducible rfl) (h := ?_); refine pq_ (i := 20) (N := some 42) HT_.out ?_; refine pq_ (i := 21) (N := some 43) HT_.out ?_; refine pq_ (i := 22) (N := some 44) HT_.out ?_; refine tq_ (i := 27) (N := some 49) HT_.out HW_.out hHeld (hy := by rintro w' ⟨s0, s1, s2, s3⟩; go_simp; with_reducible rfl) (h := ?_); refine pq_ (i := 28) (N := some 50) HT_.out ?_; refine pq_ (i := 29) (N := some 51) HT_.out ?_; refine one_ (i := 30) (N := some 52) #[true, true, true, true, true, true, true, true, true, true, true, true, true, true, true, true, true, true, true, true, true, true, true, true, true, true, true, true, true, true, true, false, false] rfl rfl (one_of HT_.out (by kernel_rfl)) (by decide) (fun K hK => ?_); refine value_ (w1 := ?_) (v := ?_) (by rfl) rfl ?_ ?_; rotate_left 2
             ·go_simp
              constructor
              ·rfl
              ·rfl
             refine hK.out _ _ ⟨(World.cell?_alloc_lt _ _ _ (World.block_lt_of_cell? _ _ (((HB.out.cell (World.block_lt_of_cell? w _ hw1450004_0)).trans hw1450004_0)))).trans (((HB.out.cell (World.block_lt_of_cell? w _ hw1450004_0)).trans hw1450004_0)), (World.cell?_alloc_lt _ _ _ (World.block_lt_of_cell? _ _ (((HB.out.cell (World.block_lt_of_cell? w _ hw1450005_0)).trans hw1450005_0)))).trans (((HB.out.cell (World.block_lt_of_cell? w _ hw1450005_0)).trans hw1450005_0)), (World.cell?_alloc_lt _ _ _ (World.block_lt_of_cell? _ _ (((HB.out.cell (World.block_lt_of_cell? w _ hw1450006_0)).trans hw1450006_0)))).trans (((HB.out.cell (World.block_lt_of_cell? w _ hw1450006_0)).trans hw1450006_0)), (World.cell?_alloc_lt _ _ _ (World.block_lt_of_cell? _ _ (((HB.out.cell (World.block_lt_of_cell? w _ hw1450007_0)).trans hw1450007_0)))).trans (((HB.out.cell (World.block_lt_of_cell? w _ hw1450007_0)).trans hw1450007_0))⟩ (fun hHeld => ?_); clear hK K; refine norm_ (a' := ?_) ?_ ?_; rotate_left
             ·show Act.put _ (some 52) _ = _; simp only [Act.put, List.setIfInBounds_toArray, List.set_cons_zero, List.set_cons_succ, i64_w, i32_w]; rfl
             refine one_ (i := 31) (N := some 53) #[true, true, true, true, true, true, true, true, true, true, true, true, true, true, true, true, true, true, true, true, true, true, true, true, true, true, true, true, true, true, true, true, false] rfl rfl (one_of HT_.out (by kernel_rfl)) (by decide) (fun K hK => ?_); refine Kd.R_append_step (Kd.int .u32) (w0 := w) w.heap.size (by rfl) (.tmp 22) (.tmp 52) 185 129 (.int .u32 0) 4 rfl Tryd.underlying185 info129 rfl (by decide) (by omega) u5 x5_1 (Go.bits .or .u32 (Go.bits .or .u32 (Go.bits .or .u32 ((((rd l0 (ji6)) % 4294967296) * 16777216) % 4294967296) ((((rd l0 (ji9)) % 4294967296) * 65536) % 4294967296)) ((((rd l0 (ji12)) % 4294967296) * 256) % 4294967296)) ((rd l0 (ji15)) % 4294967296)) [.int .u32 (Go.bits .or .u32 (Go.bits .or .u32 (Go.bits .or .u32 ((((rd l0 (ji6)) % 4294967296) * 16777216) % 4294967296) ((((rd l0 (ji9)) % 4294967296) * 65536) % 4294967296)) ((((rd l0 (ji12)) % 4294967296) * 256) % 4294967296)) ((rd l0 (ji15)) % 4294967296))] (fun _ => True) (fun _ => False) rfl rfl ?aP (fun _ hk => hk.elim) ?aF ?aO ?aB ?aS ?aL ?_; (case aP => exact rfl); (case aB => exact zq_0); (case aF => exact (fun _ _ => trivial)); (case aO => exact (by (with_reducible repeat (first | apply Kd.R_alloc | apply Kd.R_drewN | apply Kd.R_drew)); exact HO_5.out)); (case aS => exact (below_size zq_0)); (case aL => have := LMc18.out; omega); intro v1450009 w20 ho hb hg hat; rw [← Ny1450008.out] at ho; have n0_ := Aside0.mk (hb); have n1_ := Aside0.mk (ho); clear HB; clear HO_5; have HB := n0_; have HO1450010 := n1_; clear n0_ n1_; clear ho hb hg hat; refine hK.out _ _ ⟨((HB.out.cell (World.block_lt_of_cell? w _ hw1450004_0)).trans hw1450004_0), ((HB.out.cell (World.block_lt_of_cell? w _ hw1450005_0)).trans hw1450005_0), ((HB.out.cell (World.block_lt_of_cell? w _ hw1450006_0)).trans hw1450006_0), ((HB.out.cell (World.block_lt_of_cell? w _ hw1450007_0)).trans hw1450007_0)⟩ (fun hHeld => ?_); clear hK K; refine norm_ (a' := ?_) ?_ ?_; rotate_left
             ·show Act.put _ (some 53) _ = _; simp only [Act.put, List.setIfInBounds_toArray, List.set_cons_zero, List.set_cons_succ, i64_w, i32_w]; rfl
             refine pq_ (i := 32) (N := some 5) HT_.out ?_; refine done_ (done_of HT_.out (by kernel_rfl)) ?_
             try go_wp2
             go_roundg k1
             case measure => have := HK1.out; omega
             case rel => exact ⟨(y1450008), (wrap64 (x6_1 + 1)), zq_13, H', ⟨by have := HK1.out; omega⟩, ⟨by (with_reducible repeat (first | apply Kd.R_alloc | apply Kd.R_drewN | apply Kd.R_drew)); exact HO1450010.out⟩, ⟨by repeat (first | (with_reducible first | exact HB.out | apply below_alloc | apply pw_below_drewN | apply below_drew1) | exact HB.out)⟩⟩
            ·rw [if_neg c18] at H; exact absurd H (by simp)
           ·rw [if_neg c17] at H; exact absurd H (by simp)
          ·rw [if_neg c16] at H; exact absurd H (by simp)
         ·rw [if_neg c14] at H; exact absurd H (by simp)
        ·rw [if_neg c13] at H; exact absurd H (by simp)
       ·rw [if_neg c11] at H; exact absurd H (by simp)
      ·rw [if_neg c10] at H; exact absurd H (by simp)
     ·rw [if_neg c8] at H; exact absurd H (by simp)
    ·rw [if_neg c7] at H; exact absurd H (by simp)
   ·rw [if_neg c5] at H; have c5b0 : decide (x6_1 < 16) = false := decide_eq_false c5; clear c5; have H' := Aside0.mk H; clear H
    go_wp2
    go_loopg [5, 8] k1 (fun kq v5 v8 w' => ∃ (x5_2 : List Int) (x8_2 : Int), v8 = .int .i64 x8_2 ∧ Aside0 (spec_l1Schedule.l1 kq x5_2 x8_2 = some r) ∧ Aside0 (kq ≤ k1) ∧ Aside0 (Kd.R (Kd.int .u32) 129 w' w.heap.size (fun _ => True) v5 x5_2) ∧ Aside0 (Below w.heap.size w w'))
    case atStart => exact ⟨(x5_1), (16), zq_13, H', ⟨Nat.le_refl _⟩, ⟨by (with_reducible repeat (first | apply Kd.R_alloc | apply Kd.R_drewN | apply Kd.R_drew)); exact HO_5.out⟩, ⟨by repeat (first | (with_reducible first | exact HB.out | apply below_alloc | apply pw_below_drewN | apply below_drew1) | exact HB.out)⟩⟩
    case round =>
     clear H'
     try clear c1
     try clear p1
     try clear q1
     try clear hx1
     try clear p2
     try clear c5
     try clear c5b0
     try clear p6
     try clear c7
     try clear c7b0
     try clear c8
     try clear c8b0
     try clear c10
     try clear c10b0
     try clear c11
     try clear c11b0
     try clear c13
     try clear c13b0
     try clear c14
     try clear c14b0
     try clear p14
     try clear q14
     try clear hx14
     try clear c16
     try clear c16b0
     try clear c17
     try clear c17b0
     try clear c18
     try clear hx1450004_0
     try clear hx1450005_0
     try clear hx1450006_0
     try clear hx1450007_0
     try clear p1450004
     try clear p1450005
     try clear p1450006
     try clear p1450007
     try clear p2
     try clear q1450004
     try clear q1450005
     try clear q1450006
     try clear q1450007
     obtain ⟨x5_2, x8_2, rfl, HA, HK2, HO_5, HB⟩ := hrel
     cases gk with
     | zero => exact absurd HA.out (by simp [spec_l1Schedule.l1])
     | succ k2 =>
      have H := HA.out; clear HA; simp only [spec_l1Schedule.l1] at H
      by_cases c21 : x8_2 < 64
      ·rw [if_pos c21] at H; have c21b0 : decide (x8_2 < 64) = true := decide_eq_true c21; clear c21; obtain ⟨ji22, hji22⟩ : ∃ j_ : Int, (wrap64 (x8_2 - 15)) = j_ := ⟨_, rfl⟩
       replace H : (if 0 ≤ (ji22) then (if (ji22) < (x5_2.length : Int) then (if 0 ≤ (wrap64 (x8_2 - 2)) then (if (wrap64 (x8_2 - 2)) < (x5_2.length : Int) then ((spec_l1Turn.f (rd x5_2 (ji22)) 7).bind fun t1450013 => ((spec_l1Turn.f (rd x5_2 (ji22)) 18).bind fun t1450014 => ((spec_l1Turn.f (rd x5_2 (wrap64 (x8_2 - 2))) 17).bind fun t1450015 => ((spec_l1Turn.f (rd x5_2 (wrap64 (x8_2 - 2))) 19).bind fun t1450016 => (if 0 ≤ (wrap64 (x8_2 - 16)) then (if (wrap64 (x8_2 - 16)) < (x5_2.length : Int) then (if 0 ≤ (wrap64 (x8_2 - 7)) then (if (wrap64 (x8_2 - 7)) < (x5_2.length : Int) then (if x5_2.length < 35184372088832 then (spec_l1Schedule.l1 k2 (x5_2 ++ [((((((rd x5_2 (wrap64 (x8_2 - 16))) + (Go.bits .xor .u32 (Go.bits .xor .u32 t1450013 t1450014) ((rd x5_2 (ji22)) / 8))) % 4294967296) + (rd x5_2 (wrap64 (x8_2 - 7)))) % 4294967296) + (Go.bits .xor .u32 (Go.bits .xor .u32 t1450015 t1450016) ((rd x5_2 (wrap64 (x8_2 - 2))) / 1024))) % 4294967296]) (wrap64 (x8_2 + 1))) else (none)) else (none)) else (none)) else (none)) else (none)))))) else (none)) else (none)) else (none)) else (none)) = some r := by first | (rw [hji22] at H; exact H) | (simp only [hji22] at H ⊢; exact H)
       have hji22w : (IntKind.i64.wrap (x8_2 - 15)) = ji22 := (i64_w _).trans hji22
       by_cases c23 : 0 ≤ (ji22)
       ·rw [if_pos c23] at H; have c23b0 : decide (0 ≤ (ji22)) = true := decide_eq_true c23; clear c23
        by_cases c24 : (ji22) < (x5_2.length : Int)
        ·rw [if_pos c24] at H; have c24b0 : decide ((ji22) < (x5_2.length : Int)) = true := decide_eq_true c24; clear c24; obtain ⟨ji25, hji25⟩ : ∃ j_ : Int, (wrap64 (x8_2 - 2)) = j_ := ⟨_, rfl⟩
         replace H : (if 0 ≤ (ji25) then (if (ji25) < (x5_2.length : Int) then ((spec_l1Turn.f (rd x5_2 (ji22)) 7).bind fun t1450013 => ((spec_l1Turn.f (rd x5_2 (ji22)) 18).bind fun t1450014 => ((spec_l1Turn.f (rd x5_2 (ji25)) 17).bind fun t1450015 => ((spec_l1Turn.f (rd x5_2 (ji25)) 19).bind fun t1450016 => (if 0 ≤ (wrap64 (x8_2 - 16)) then (if (wrap64 (x8_2 - 16)) < (x5_2.length : Int) then (if 0 ≤ (wrap64 (x8_2 - 7)) then (if (wrap64 (x8_2 - 7)) < (x5_2.length : Int) then (if x5_2.length < 35184372088832 then (spec_l1Schedule.l1 k2 (x5_2 ++ [((((((rd x5_2 (wrap64 (x8_2 - 16))) + (Go.bits .xor .u32 (Go.bits .xor .u32 t1450013 t1450014) ((rd x5_2 (ji22)) / 8))) % 4294967296) + (rd x5_2 (wrap64 (x8_2 - 7)))) % 4294967296) + (Go.bits .xor .u32 (Go.bits .xor .u32 t1450015 t1450016) ((rd x5_2 (ji25)) / 1024))) % 4294967296]) (wrap64 (x8_2 + 1))) else (none)) else (none)) else (none)) else (none)) else (none)))))) else (none)) else (none)) = some r := by first | (rw [hji25] at H; exact H) | (simp only [hji25] at H ⊢; exact H)
         have hji25w : (IntKind.i64.wrap (x8_2 - 2)) = ji25 := (i64_w _).trans hji25
         by_cases c26 : 0 ≤ (ji25)
         ·rw [if_pos c26] at H; have c26b0 : decide (0 ≤ (ji25)) = true := decide_eq_true c26; clear c26
          by_cases c27 : (ji25) < (x5_2.length : Int)
          ·rw [if_pos c27] at H; have c27b0 : decide ((ji25) < (x5_2.length : Int)) = true := decide_eq_true c27; clear c27; replace H := Option.bind_eq_some_iff.mp H; obtain ⟨t1450013, A280, H⟩ := H; (try dsimp only at H); have A28 := Aside0.mk A280; clear A280; replace H := Option.bind_eq_some_iff.mp H; obtain ⟨t1450014, A290, H⟩ := H; (try dsimp only at H); have A29 := Aside0.mk A290; clear A290; replace H := Option.bind_eq_some_iff.mp H; obtain ⟨t1450015, A300, H⟩ := H; (try dsimp only at H); have A30 := Aside0.mk A300; clear A300; replace H := Option.bind_eq_some_iff.mp H; obtain ⟨t1450016, A310, H⟩ := H; (try dsimp only at H); have A31 := Aside0.mk A310; clear A310; obtain ⟨ji32, hji32⟩ : ∃ j_ : Int, (wrap64 (x8_2 - 16)) = j_ := ⟨_, rfl⟩
           replace H : (if 0 ≤ (ji32) then (if (ji32) < (x5_2.length : Int) then (if 0 ≤ (wrap64 (x8_2 - 7)) then (if (wrap64 (x8_2 - 7)) < (x5_2.length : Int) then (if x5_2.length < 35184372088832 then (spec_l1Schedule.l1 k2 (x5_2 ++ [((((((rd x5_2 (ji32)) + (Go.bits .xor .u32 (Go.bits .xor .u32 t1450013 t1450014) ((rd x5_2 (ji22)) / 8))) % 4294967296) + (rd x5_2 (wrap64 (x8_2 - 7)))) % 4294967296) + (Go.bits .xor .u32 (Go.bits .xor .u32 t1450015 t1450016) ((rd x5_2 (ji25)) / 1024))) % 4294967296]) (wrap64 (x8_2 + 1))) else (none)) else (none)) else (none)) else (none)) else (none)) = some r := by first | (rw [hji32] at H; exact H) | (simp only [hji32] at H ⊢; exact H)
           (try rw [hji32] at A28); (try rw [hji32] at A29); (try rw [hji32] at A30); (try rw [hji32] at A31); have hji32w : (IntKind.i64.wrap (x8_2 - 16)) = ji32 := (i64_w _).trans hji32
           by_cases c33 : 0 ≤ (ji32)
           ·rw [if_pos c33] at H; have c33b0 : decide (0 ≤ (ji32)) = true := decide_eq_true c33; clear c33
            by_cases c34 : (ji32) < (x5_2.length : Int)
            ·rw [if_pos c34] at H; have c34b0 : decide ((ji32) < (x5_2.length : Int)) = true := decide_eq_true c34; clear c34; obtain ⟨ji35, hji35⟩ : ∃ j_ : Int, (wrap64 (x8_2 - 7)) = j_ := ⟨_, rfl⟩
             replace H : (if 0 ≤ (ji35) then (if (ji35) < (x5_2.length : Int) then (if x5_2.length < 35184372088832 then (spec_l1Schedule.l1 k2 (x5_2 ++ [((((((rd x5_2 (ji32)) + (Go.bits .xor .u32 (Go.bits .xor .u32 t1450013 t1450014) ((rd x5_2 (ji22)) / 8))) % 4294967296) + (rd x5_2 (ji35))) % 4294967296) + (Go.bits .xor .u32 (Go.bits .xor .u32 t1450015 t1450016) ((rd x5_2 (ji25)) / 1024))) % 4294967296]) (wrap64 (x8_2 + 1))) else (none)) else (none)) else (none)) = some r := by first | (rw [hji35] at H; exact H) | (simp only [hji35] at H ⊢; exact H)
             (try rw [hji35] at A28); (try rw [hji35] at A29); (try rw [hji35] at A30); (try rw [hji35] at A31); have hji35w : (IntKind.i64.wrap (x8_2 - 7)) = ji35 := (i64_w _).trans hji35
             by_cases c36 : 0 ≤ (ji35)
             ·rw [if_pos c36] at H; have c36b0 : decide (0 ≤ (ji35)) = true := decide_eq_true c36; clear c36
              by_cases c37 : (ji35) < (x5_2.length : Int)
              ·rw [if_pos c37] at H; have c37b0 : decide ((ji35) < (x5_2.length : Int)) = true := decide_eq_true c37; clear c37
               by_cases c38 : x5_2.length < 35184372088832
               ·rw [if_pos c38] at H; have LMc38 := Aside0.mk c38; clear c38; obtain ⟨y1450019, hy1450019⟩ : ∃ y_ : List Int, y_ = (x5_2 ++ [((((((rd x5_2 (ji32)) + (Go.bits .xor .u32 (Go.bits .xor .u32 t1450013 t1450014) ((rd x5_2 (ji22)) / 8))) % 4294967296) + (rd x5_2 (ji35))) % 4294967296) + (Go.bits .xor .u32 (Go.bits .xor .u32 t1450015 t1450016) ((rd x5_2 (ji25)) / 1024))) % 4294967296]) := ⟨_, rfl⟩
                replace H : (spec_l1Schedule.l1 k2 y1450019 (wrap64 (x8_2 + 1))) = some r := by first | (rw [hy1450019]; with_reducible exact H) | (have H2_ := (Option.bind_some _ _).symm.trans H; rw [hy1450019]; with_reducible exact H2_) | (have H2_ := (Option.bind_some _ _).symm.trans H; with_reducible exact H2_) | with_reducible exact H | (rw [hy1450019]; exact H) | exact H
                have Ny1450019 := Aside0.mk hy1450019; clear hy1450019; have H' := Aside0.mk H; clear H; obtain ⟨Ao39, co39, eo39⟩ := Kd.R_slice HO_5.out; subst eo39; have p1450011 : 0 ≤ ((ji22) : Int) := of_decide_eq_true zq_5; have q1450011 : (ji22) < (x5_2.length : Int) := of_decide_eq_true zq_5; obtain ⟨ad1450011, e1450011, hx1450011_0⟩ := Kd.at_int (Kd.R_reads' HO_5.out).2.2 (ji22) p1450011 q1450011
                cases e1450011
                replace p1450011 := eq_true p1450011; replace q1450011 := eq_true q1450011; have p1450012 : 0 ≤ ((ji25) : Int) := of_decide_eq_true zq_5; have q1450012 : (ji25) < (x5_2.length : Int) := of_decide_eq_true zq_5; obtain ⟨ad1450012, e1450012, hx1450012_0⟩ := Kd.at_int (Kd.R_reads' HO_5.out).2.2 (ji25) p1450012 q1450012; obtain rfl : ad1450011 = ad1450012 := (by injection e1450012)
                replace p1450012 := eq_true p1450012; replace q1450012 := eq_true q1450012
                try go_wp2_with (first | ((with_reducible refine gate_callee (f := 146) rfl ?_); refine goesL_ (some 69) rfl rfl Tryd.func146 (by kernel_rfl) rfl #[.int .u32 (rd x5_2 (ji22)), .int .i64 7] rfl (by (try simp only [List.map_toArray, List.map_cons, List.map_nil]); first | done | (simp only [hji22]; rfl) | rfl | (simp only [List.length_drop, List.length_take]; rfl)) ?_; (with_reducible refine (spec_l1Turn.calls (rd x5_2 (ji22)) 7 t1450013 _ A28.out).mono ?_); rintro e w' ⟨rfl, ⟨nd, rfl⟩⟩; refine ⟨_, rfl, ?_⟩) | ((with_reducible refine gate_callee (f := 146) rfl ?_); refine goesL_ (some 71) rfl rfl Tryd.func146 (by kernel_rfl) rfl #[.int .u32 (rd x5_2 (ji22)), .int .i64 18] rfl (by (try simp only [List.map_toArray, List.map_cons, List.map_nil]); first | done | (simp only [hji22]; rfl) | rfl | (simp only [List.length_drop, List.length_take]; rfl)) ?_; (with_reducible refine (spec_l1Turn.calls (rd x5_2 (ji22)) 18 t1450014 _ A29.out).mono ?_); rintro e w' ⟨rfl, ⟨nd, rfl⟩⟩; refine ⟨_, rfl, ?_⟩) | ((with_reducible refine gate_callee (f := 146) rfl ?_); refine goesL_ (some 77) rfl rfl Tryd.func146 (by kernel_rfl) rfl #[.int .u32 (rd x5_2 (ji25)), .int .i64 17] rfl (by (try simp only [List.map_toArray, List.map_cons, List.map_nil]); first | done | (simp only [hji25]; rfl) | rfl | (simp only [List.length_drop, List.length_take]; rfl)) ?_; (with_reducible refine (spec_l1Turn.calls (rd x5_2 (ji25)) 17 t1450015 _ A30.out).mono ?_); rintro e w' ⟨rfl, ⟨nd, rfl⟩⟩; refine ⟨_, rfl, ?_⟩) | ((with_reducible refine gate_callee (f := 146) rfl ?_); refine goesL_ (some 79) rfl rfl Tryd.func146 (by kernel_rfl) rfl #[.int .u32 (rd x5_2 (ji25)), .int .i64 19] rfl (by (try simp only [List.map_toArray, List.map_cons, List.map_nil]); first | done | (simp only [hji25]; rfl) | rfl | (simp only [List.length_drop, List.length_take]; rfl)) ?_; (with_reducible refine (spec_l1Turn.calls (rd x5_2 (ji25)) 19 t1450016 _ A31.out).mono ?_); rintro e w' ⟨rfl, ⟨nd, rfl⟩⟩; refine ⟨_, rfl, ?_⟩))
                (try (rw [drewN_self wr]; generalize hq_ : World.drewN wr _ = wr; have n0_ : Aside0 (Kd.R (Kd.int .u32) 129 wr w.heap.size (fun _ => True) (.slice (some ad1450011) x5_2.length co39) x5_2) := ⟨by rw [← hq_]; exact (by (with_reducible repeat (first | apply Kd.R_alloc | apply Kd.R_drewN | apply Kd.R_drew)); exact HO_5.out)⟩; have n1_ : Aside0 (Below w.heap.size w wr) := ⟨by rw [← hq_]; exact zq_0⟩; clear HO_5 HB hq_; have HO_5 := n0_; have HB := n1_; clear n0_ n1_)); have n0_ := Aside0.mk (Kd.R_drew HO_5.out); have n1_ := Aside0.mk (below_drew1 HB.out); clear HO_5; clear HB; have HO_5 := n0_; have HB := n1_; clear n0_ n1_; have p1450017 : 0 ≤ ((ji32) : Int) := of_decide_eq_true zq_5; have q1450017 : (ji32) < (x5_2.length : Int) := of_decide_eq_true zq_5; obtain ⟨ad1450017, e1450017, hx1450017_0⟩ := Kd.at_int (Kd.R_reads' HO_5.out).2.2 (ji32) p1450017 q1450017; obtain rfl : ad1450011 = ad1450017 := (by injection e1450017)
                replace p1450017 := eq_true p1450017; replace q1450017 := eq_true q1450017; have p1450018 : 0 ≤ ((ji35) : Int) := of_decide_eq_true zq_5; have q1450018 : (ji35) < (x5_2.length : Int) := of_decide_eq_true zq_5; obtain ⟨ad1450018, e1450018, hx1450018_0⟩ := Kd.at_int (Kd.R_reads' HO_5.out).2.2 (ji35) p1450018 q1450018; obtain rfl : ad1450011 = ad1450018 := (by injection e1450018)
                replace p1450018 := eq_true p1450018; replace q1450018 := eq_true q1450018; refine start_ (n := 19) (S := fun w' => w'.cell? (ad1450011.add ((ji32)).toNat) = some (.int .u32 (rd x5_2 (ji32))) ∧ w'.cell? (ad1450011.add ((ji35)).toNat) = some (.int .u32 (rd x5_2 (ji35)))) (ds := [16, 17]) #[false, false, false, false, false, false, false, false, false, false, false, false, false, false, false, false, false, false, false] (by kernel_rfl) rfl rfl ⟨hx1450017_0, hx1450018_0⟩ (fun hHeld => ?_); refine with_tabW spec_l1Schedule.tab14 spec_l1Schedule.bits14 (fun HT_ HW_ => ?_); generalize wr.drew = w40 at HO_5 HB hx1450017_0 hx1450018_0 hHeld ⊢; refine pq_ (i := 0) (N := some 84) HT_.out ?_; refine pq_ (i := 1) (N := some 85) HT_.out ?_; refine pq_ (i := 2) (N := some 86) HT_.out ?_; refine pq_ (i := 3) (N := some 87) HT_.out ?_; refine pq_ (i := 4) (N := some 88) HT_.out ?_; refine pq_ (i := 6) (N := some 90) HT_.out ?_; refine pq_ (i := 8) (N := some 92) HT_.out ?_; refine pq_ (i := 9) (N := some 93) HT_.out ?_; refine pq_ (i := 10) (N := some 94) HT_.out ?_; refine pq_ (i := 11) (N := some 95) HT_.out ?_; refine pq_ (i := 14) (N := some 98) HT_.out ?_; refine tq_ (i := 5) (N := some 89) HT_.out HW_.out hHeld (hy := by rintro w' ⟨s0, s1⟩; go_simp; with_reducible rfl) (h := ?_); refine pq_ (i := 7) (N := some 91) HT_.out ?_; refine tq_ (i := 12) (N := some 96) HT_.out HW_.out hHeld (hy := by rintro w' ⟨s0, s1⟩; go_simp; with_reducible rfl) (h := ?_); refine pq_ (i := 13) (N := some 97) HT_.out ?_; refine pq_ (i := 15) (N := some 99) HT_.out ?_; refine last_ (i := 16) (N := some 100) #[true, true, true, true, true, true, true, true, true, true, true, true, true, true, true, true, true, false, false] rfl rfl (one_of HT_.out (by kernel_rfl)) (by decide) (fun K hK => ?_); refine value_ (w1 := ?_) (v := ?_) (by rfl) rfl ?_ ?_; rotate_left 2
                ·go_simp
                 constructor
                 ·rfl
                 ·rfl
                refine hK.out _ _ ?_; clear hK K; refine norm_ (a' := ?_) ?_ ?_; rotate_left
                ·show Act.put _ (some 100) _ = _; simp only [Act.put, List.setIfInBounds_toArray, List.set_cons_zero, List.set_cons_succ, i64_w, i32_w]; rfl
                refine last_ (i := 17) (N := some 101) #[true, true, true, true, true, true, true, true, true, true, true, true, true, true, true, true, true, true, false] rfl rfl (one_of HT_.out (by kernel_rfl)) (by decide) (fun K hK => ?_); refine Kd.R_append_step (Kd.int .u32) (w0 := w) w.heap.size (by rfl) (.tmp 84) (.tmp 100) 185 129 (.int .u32 0) 4 rfl Tryd.underlying185 info129 rfl (by decide) (by omega) (.slice (some ad1450011) x5_2.length co39) x5_2 (((((((rd x5_2 (ji32)) + (Go.bits .xor .u32 (Go.bits .xor .u32 t1450013 t1450014) ((rd x5_2 (ji22)) / 8))) % 4294967296) + (rd x5_2 (ji35))) % 4294967296) + (Go.bits .xor .u32 (Go.bits .xor .u32 t1450015 t1450016) ((rd x5_2 (ji25)) / 1024))) % 4294967296) [.int .u32 (((((((rd x5_2 (ji32)) + (Go.bits .xor .u32 (Go.bits .xor .u32 t1450013 t1450014) ((rd x5_2 (ji22)) / 8))) % 4294967296) + (rd x5_2 (ji35))) % 4294967296) + (Go.bits .xor .u32 (Go.bits .xor .u32 t1450015 t1450016) ((rd x5_2 (ji25)) / 1024))) % 4294967296)] (fun _ => True) (fun _ => False) rfl rfl ?aP (fun _ hk => hk.elim) ?aF ?aO ?aB ?aS ?aL ?_; (case aP => exact rfl); (case aB => exact zq_0); (case aF => exact (fun _ _ => trivial)); (case aO => exact (by (with_reducible repeat (first | apply Kd.R_alloc | apply Kd.R_drewN | apply Kd.R_drew)); exact HO_5.out)); (case aS => exact (below_size zq_0)); (case aL => have := LMc38.out; omega); intro v1450020 w41 ho hb hg hat; rw [← Ny1450019.out] at ho; have n0_ := Aside0.mk (hb); have n1_ := Aside0.mk (ho); clear HB; clear HO_5; have HB := n0_; have HO1450021 := n1_; clear n0_ n1_; clear ho hb hg hat; refine hK.out _ _ ?_; clear hK K; refine norm_ (a' := ?_) ?_ ?_; rotate_left
                ·show Act.put _ (some 101) _ = _; simp only [Act.put, List.setIfInBounds_toArray, List.set_cons_zero, List.set_cons_succ, i64_w, i32_w]; rfl
                refine pq_ (i := 18) (N := some 5) HT_.out ?_; refine done_ (done_of HT_.out (by kernel_rfl)) ?_
                try go_wp2
                go_roundg k2
                case measure => have := HK1.out; have := HK2.out; omega
                case rel => exact ⟨(y1450019), (wrap64 (x8_2 + 1)), zq_13, H', ⟨by have := HK1.out; have := HK2.out; omega⟩, ⟨by (with_reducible repeat (first | apply Kd.R_alloc | apply Kd.R_drewN | apply Kd.R_drew)); exact HO1450021.out⟩, ⟨by repeat (first | (with_reducible first | exact HB.out | apply below_alloc | apply pw_below_drewN | apply below_drew1) | exact HB.out)⟩⟩
               ·rw [if_neg c38] at H; exact absurd H (by simp)
              ·rw [if_neg c37] at H; exact absurd H (by simp)
             ·rw [if_neg c36] at H; exact absurd H (by simp)
            ·rw [if_neg c34] at H; exact absurd H (by simp)
           ·rw [if_neg c33] at H; exact absurd H (by simp)
          ·rw [if_neg c27] at H; exact absurd H (by simp)
         ·rw [if_neg c26] at H; exact absurd H (by simp)
        ·rw [if_neg c24] at H; exact absurd H (by simp)
       ·rw [if_neg c23] at H; exact absurd H (by simp)
      ·rw [if_neg c21] at H; have c21b0 : decide (x8_2 < 64) = false := decide_eq_false c21; clear c21; obtain rfl := Option.some.inj H
       go_wp2
       go_ret
       exact ⟨_, by first | rfl | (simp [errW_none, errW_some] <;> rfl) | (simp [*, errW_none, errW_some] <;> rfl), by (with_reducible repeat (first | apply Kd.R_alloc | apply Kd.R_drewN | apply Kd.R_drew)); exact HO_5.out, by repeat (first | (with_reducible first | exact HB.out | apply below_alloc | apply pw_below_drewN | apply below_drew1) | exact HB.out)⟩
def spec_l1Block.l0 : Nat → List Int → List Int → List Int → Int → Int → Int → Int → Int → Int → Int → Int → Int → Option (List Int)
 | 0, _, _, _, _, _, _, _, _, _, _, _, _ => none
 | k + 1, x0, x1, x9, x10, x11, x12, x13, x14, x15, x16, x17, x18 => if x18 < 64 then ((spec_l1Turn.f x14 6).bind fun t1290023 => ((spec_l1Turn.f x14 11).bind fun t1290024 => ((spec_l1Turn.f x14 25).bind fun t1290025 => (if 0 ≤ x18 then (if x18 < (x1.length : Int) then (if x18 < (x9.length : Int) then ((spec_l1Turn.f x10 2).bind fun t1290028 => ((spec_l1Turn.f x10 13).bind fun t1290029 => ((spec_l1Turn.f x10 22).bind fun t1290030 => (spec_l1Block.l0 k x0 x1 x9 ((((((((((x17 + (Go.bits .xor .u32 (Go.bits .xor .u32 t1290023 t1290024) t1290025)) % 4294967296) + (Go.bits .xor .u32 (Go.bits .and .u32 x14 x15) (Go.bits .and .u32 (Go.bits .xor .u32 IntKind.u32.max x14) x16))) % 4294967296) + (rd x1 x18)) % 4294967296) + (rd x9 x18)) % 4294967296) + (((Go.bits .xor .u32 (Go.bits .xor .u32 t1290028 t1290029) t1290030) + (Go.bits .xor .u32 (Go.bits .xor .u32 (Go.bits .and .u32 x10 x11) (Go.bits .and .u32 x10 x12)) (Go.bits .and .u32 x11 x12))) % 4294967296)) % 4294967296) x10 x11 x12 ((x13 + ((((((((x17 + (Go.bits .xor .u32 (Go.bits .xor .u32 t1290023 t1290024) t1290025)) % 4294967296) + (Go.bits .xor .u32 (Go.bits .and .u32 x14 x15) (Go.bits .and .u32 (Go.bits .xor .u32 IntKind.u32.max x14) x16))) % 4294967296) + (rd x1 x18)) % 4294967296) + (rd x9 x18)) % 4294967296)) % 4294967296) x14 x15 x16 (wrap64 (x18 + 1)))))) else (none)) else (none)) else (none))))) else (if 0 < (x0.length : Int) then (if 1 < (x0.length : Int) then (if 2 < (x0.length : Int) then (if 3 < (x0.length : Int) then (if 4 < (x0.length : Int) then (if 5 < (x0.length : Int) then (if 6 < (x0.length : Int) then (if 7 < (x0.length : Int) then (some (([((rd x0 0) + x10) % 4294967296, ((rd x0 1) + x11) % 4294967296, ((rd x0 2) + x12) % 4294967296, ((rd x0 3) + x13) % 4294967296, ((rd x0 4) + x14) % 4294967296, ((rd x0 5) + x15) % 4294967296, ((rd x0 6) + x16) % 4294967296, ((rd x0 7) + x17) % 4294967296] : List Int))) else (none)) else (none)) else (none)) else (none)) else (none)) else (none)) else (none)) else (none))
def spec_l1Block.f (k : Nat) (l0 : List Int) (l1 : List Int) (l2 : List Int) (a3 : Int) : Option (List Int) := (spec_l1Schedule.f k l2 a3).bind fun t1290001 => (if 0 < (l0.length : Int) then (if 1 < (l0.length : Int) then (if 2 < (l0.length : Int) then (if 3 < (l0.length : Int) then (if 4 < (l0.length : Int) then (if 5 < (l0.length : Int) then (if 6 < (l0.length : Int) then (if 7 < (l0.length : Int) then (spec_l1Block.l0 k l0 l1 t1290001 (rd l0 0) (rd l0 1) (rd l0 2) (rd l0 3) (rd l0 4) (rd l0 5) (rd l0 6) (rd l0 7) 0) else (none)) else (none)) else (none)) else (none)) else (none)) else (none)) else (none)) else (none))
def spec_l1Block.T14 : Bool × List (List Nat × List Nat) := (true, [([], []), ([], []), ([0, 1], [0, 1]), ([], []), ([], []), ([3, 4], [3, 4]), ([], []), ([6], [6]), ([], []), ([7, 8], [7, 8]), ([5, 9], [5, 9]), ([2, 10], [2, 10]), ([], []), ([], []), ([12, 13], [12, 13]), ([14], [14]), ([11, 15], [11, 15]), ([], []), ([], []), ([17, 18], [17, 18]), ([19], [19]), ([16, 20], [16, 20]), ([21, 0, 1, 2, 3, 4, 5, 6, 7, 8, 9, 10, 11, 12, 13, 14, 15, 16, 17, 18, 19, 20, 21], [21])])
def spec_l1Block.B14 : List Nat := [0, 0, 3, 0, 0, 24, 0, 64, 0, 448, 1016, 2047, 0, 0, 12288, 28672, 65535, 0, 0, 393216, 917504, 2097151, 4194303]
theorem spec_l1Block.tab14 : rtab .any (opsOf Tryd.f129 14) = spec_l1Block.T14 := by kernel_rfl
theorem spec_l1Block.bits14 : waitsOk spec_l1Block.T14.2 spec_l1Block.B14 = true := by kernel_rfl
def spec_l1Block.T25 : Bool × List (List Nat × List Nat) := (true, [([], []), ([0], [0]), ([1], [1]), ([], []), ([2, 3], [2, 3]), ([], []), ([5], [5]), ([6], [6]), ([], []), ([7, 8], [7, 8]), ([], []), ([10], [10]), ([11], [11]), ([], []), ([12, 13], [12, 13]), ([], []), ([15], [15]), ([16], [16]), ([], []), ([17, 18], [17, 18]), ([], []), ([20], [20]), ([21], [21]), ([], []), ([22, 23], [22, 23]), ([], []), ([25], [25]), ([26], [26]), ([], []), ([27, 28], [27, 28]), ([], []), ([30], [30]), ([31], [31]), ([], []), ([32, 33], [32, 33]), ([], []), ([35], [35]), ([36], [36]), ([], []), ([37, 38], [37, 38]), ([4, 9, 14, 19, 24, 29, 34, 39], [4, 9, 14, 19, 24, 29, 34, 39]), ([40, 0, 1, 2, 3, 4, 5, 6, 7, 8, 9, 10, 11, 12, 13, 14, 15, 16, 17, 18, 19, 20, 21, 22, 23, 24, 25, 26, 27, 28, 29, 30, 31, 32, 33, 34, 35, 36, 37, 38, 39, 40], [40])])
def spec_l1Block.B25 : List Nat := [0, 1, 3, 0, 15, 0, 32, 96, 0, 480, 0, 1024, 3072, 0, 15360, 0, 32768, 98304, 0, 491520, 0, 1048576, 3145728, 0, 15728640, 0, 33554432, 100663296, 0, 503316480, 0, 1073741824, 3221225472, 0, 16106127360, 0, 34359738368, 103079215104, 0, 515396075520, 1099511627775, 2199023255551]
theorem spec_l1Block.tab25 : rtab .any (opsOf Tryd.f129 25) = spec_l1Block.T25 := by kernel_rfl
theorem spec_l1Block.bits25 : waitsOk spec_l1Block.T25.2 spec_l1Block.B25 = true := by kernel_rfl
set_option maxHeartbeats 8000000 in
set_option maxRecDepth 100000 in
theorem spec_l1Block.calls (k : Nat) (A0 : Option Addr) (c0 : Nat) (l0 : List Int) (A1 : Option Addr) (c1 : Nat) (l1 : List Int) (A2 : Option Addr) (c2 : Nat) (l2 : List Int) (a3 : Int) (r : List Int) (w : World) (hr0 : Kd.C (Kd.int .u32) w A0 l0.length l0) (hc0 : l0.length ≤ c0) (hr1 : Kd.C (Kd.int .u32) w A1 l1.length l1) (hc1 : l1.length ≤ c1) (hr2 : Kd.C (Kd.int .u8) w A2 l2.length l2) (hc2 : l2.length ≤ c2) (h : spec_l1Block.f k l0 l1 l2 a3 = some r) :
  Calls Tryd.prog 129 #[.slice A0 l0.length c0, .slice A1 l1.length c1, .slice A2 l2.length c2, .int .i64 a3] w fun e w' => ∃ v0_ : Value, e = .returned (v0_) ∧ Kd.R (Kd.int .u32) 129 w' w.heap.size (fun _ => True) v0_ r ∧ Below w.heap.size w w' := by
 have HR0 := Aside0.mk hr0; have HC0 := Aside0.mk hc0; clear hr0 hc0; have HR1 := Aside0.mk hr1; have HC1 := Aside0.mk hc1; clear hr1 hc1; have HR2 := Aside0.mk hr2; have HC2 := Aside0.mk hc2; clear hr2 hc2; have HB := Aside0.mk (Below.refl w.heap.size w); have H : ((spec_l1Schedule.f k l2 a3).bind fun t1290001 => (if 0 < (l0.length : Int) then (if 1 < (l0.length : Int) then (if 2 < (l0.length : Int) then (if 3 < (l0.length : Int) then (if 4 < (l0.length : Int) then (if 5 < (l0.length : Int) then (if 6 < (l0.length : Int) then (if 7 < (l0.length : Int) then (spec_l1Block.l0 k l0 l1 t1290001 (rd l0 0) (rd l0 1) (rd l0 2) (rd l0 3) (rd l0 4) (rd l0 5) (rd l0 6) (rd l0 7) 0) else (none)) else (none)) else (none)) else (none)) else (none)) else (none)) else (none)) else (none))) = some r := h; clear h; replace H := Option.bind_eq_some_iff.mp H; obtain ⟨t1290001, A50, H⟩ := H; (try dsimp only at H); have A5 := Aside0.mk A50; clear A50
 by_cases c6 : 0 < (l0.length : Int)
 ·rw [if_pos c6] at H; have c6b0 : decide (0 < (l0.length : Int)) = true := decide_eq_true c6; have c6b1 : decide (0 < l0.length) = true := decide_eq_true (by omega); clear c6
  by_cases c7 : 1 < (l0.length : Int)
  ·rw [if_pos c7] at H; have c7b0 : decide (1 < (l0.length : Int)) = true := decide_eq_true c7; have c7b1 : decide (1 < l0.length) = true := decide_eq_true (by omega); clear c7
   by_cases c8 : 2 < (l0.length : Int)
   ·rw [if_pos c8] at H; have c8b0 : decide (2 < (l0.length : Int)) = true := decide_eq_true c8; have c8b1 : decide (2 < l0.length) = true := decide_eq_true (by omega); clear c8
    by_cases c9 : 3 < (l0.length : Int)
    ·rw [if_pos c9] at H; have c9b0 : decide (3 < (l0.length : Int)) = true := decide_eq_true c9; have c9b1 : decide (3 < l0.length) = true := decide_eq_true (by omega); clear c9
     by_cases c10 : 4 < (l0.length : Int)
     ·rw [if_pos c10] at H; have c10b0 : decide (4 < (l0.length : Int)) = true := decide_eq_true c10; have c10b1 : decide (4 < l0.length) = true := decide_eq_true (by omega); clear c10
      by_cases c11 : 5 < (l0.length : Int)
      ·rw [if_pos c11] at H; have c11b0 : decide (5 < (l0.length : Int)) = true := decide_eq_true c11; have c11b1 : decide (5 < l0.length) = true := decide_eq_true (by omega); clear c11
       by_cases c12 : 6 < (l0.length : Int)
       ·rw [if_pos c12] at H; have c12b0 : decide (6 < (l0.length : Int)) = true := decide_eq_true c12; have c12b1 : decide (6 < l0.length) = true := decide_eq_true (by omega); clear c12
        by_cases c13 : 7 < (l0.length : Int)
        ·rw [if_pos c13] at H; have c13b0 : decide (7 < (l0.length : Int)) = true := decide_eq_true c13; have c13b1 : decide (7 < l0.length) = true := decide_eq_true (by omega); clear c13; have H' := Aside0.mk H; clear H
         go_enter Tryd.func129, Tryd.ntmps129
         go_wp2_with (first | ((with_reducible refine gate_callee (f := 145) rfl ?_); refine goesL_ (some 25) rfl rfl Tryd.func145 (by kernel_rfl) rfl #[.slice A2 l2.length c2, .int .i64 a3] rfl zq_1 ?_; (with_reducible refine (spec_l1Schedule.calls k _ _ l2 a3 t1290001 _ ?side1 ?side2 A5.out).mono ?_); (case side1 => repeat (first | exact HR2.out | (with_reducible refine Kd.C_alloc ?_ _) | (with_reducible refine Kd.C_drewN ?_ _) | (with_reducible refine Kd.C_drew ?_))); (case side2 => exact HC2.out); rintro e w14 ⟨v1290002, rfl, ho0, hb⟩; refine ⟨_, rfl, ?_⟩; have n0_ := Aside0.mk (Kd.R_lower ho0 (below_size zq_0)); have n1_ := Aside0.mk (below_step zq_0 hb); clear HB; have HO1290003 := n0_; have HB := n1_; clear n0_ n1_; (try clear hb); (try clear hb2); (try clear hk); (try clear hi); (try clear ho0); have p1290004 : 0 ≤ (0 : Int) := (by omega); have q1290004 : 0 < (l0.length : Int) := of_decide_eq_true zq_5; obtain ⟨ad1290004, e1290004, hx1290004_0⟩ := Kd.at_int HR0.out 0 p1290004 q1290004; cases e1290004; have qi1290004 : (0 < l0.length) = True := eq_true (by omega); (try rw [show ((0 : Int)).toNat = 0 from rfl] at hx1290004_0); (try rw [Addr.add_zero'] at hx1290004_0); replace hx1290004_0 := (HB.out.cell (World.block_lt_of_cell? w _ hx1290004_0)).trans hx1290004_0; replace p1290004 := eq_true p1290004; replace q1290004 := eq_true q1290004; have p1290005 : 0 ≤ (1 : Int) := (by omega); have q1290005 : 1 < (l0.length : Int) := of_decide_eq_true zq_5; obtain ⟨ad1290005, e1290005, hx1290005_0⟩ := Kd.at_int HR0.out 1 p1290005 q1290005; obtain rfl : ad1290004 = ad1290005 := (by injection e1290005); (try simp only [show (1 : Int).toNat = 1 from rfl, Nat.reduceMul, Nat.reduceEqDiff, Go.Addr.add, ↓reduceIte] at hx1290005_0); have qi1290005 : (1 < l0.length) = True := eq_true (by omega); (try rw [show ((1 : Int)).toNat = 1 from rfl] at hx1290005_0); replace hx1290005_0 := (HB.out.cell (World.block_lt_of_cell? w _ hx1290005_0)).trans hx1290005_0; replace p1290005 := eq_true p1290005; replace q1290005 := eq_true q1290005; have p1290006 : 0 ≤ (2 : Int) := (by omega); have q1290006 : 2 < (l0.length : Int) := of_decide_eq_true zq_5; obtain ⟨ad1290006, e1290006, hx1290006_0⟩ := Kd.at_int HR0.out 2 p1290006 q1290006; obtain rfl : ad1290004 = ad1290006 := (by injection e1290006); (try simp only [show (2 : Int).toNat = 2 from rfl, Nat.reduceMul, Nat.reduceEqDiff, Go.Addr.add, ↓reduceIte] at hx1290006_0); have qi1290006 : (2 < l0.length) = True := eq_true (by omega); (try rw [show ((2 : Int)).toNat = 2 from rfl] at hx1290006_0); replace hx1290006_0 := (HB.out.cell (World.block_lt_of_cell? w _ hx1290006_0)).trans hx1290006_0; replace p1290006 := eq_true p1290006; replace q1290006 := eq_true q1290006; have p1290007 : 0 ≤ (3 : Int) := (by omega); have q1290007 : 3 < (l0.length : Int) := of_decide_eq_true zq_5; obtain ⟨ad1290007, e1290007, hx1290007_0⟩ := Kd.at_int HR0.out 3 p1290007 q1290007; obtain rfl : ad1290004 = ad1290007 := (by injection e1290007); (try simp only [show (3 : Int).toNat = 3 from rfl, Nat.reduceMul, Nat.reduceEqDiff, Go.Addr.add, ↓reduceIte] at hx1290007_0); have qi1290007 : (3 < l0.length) = True := eq_true (by omega); (try rw [show ((3 : Int)).toNat = 3 from rfl] at hx1290007_0); replace hx1290007_0 := (HB.out.cell (World.block_lt_of_cell? w _ hx1290007_0)).trans hx1290007_0; replace p1290007 := eq_true p1290007; replace q1290007 := eq_true q1290007; have p1290008 : 0 ≤ (4 : Int) := (by omega); have q1290008 : 4 < (l0.length : Int) := of_decide_eq_true zq_5; obtain ⟨ad1290008, e1290008, hx1290008_0⟩ := Kd.at_int HR0.out 4 p1290008 q1290008; obtain rfl : ad1290004 = ad1290008 := (by injection e1290008); (try simp only [show (4 : Int).toNat = 4 from rfl, Nat.reduceMul, Nat.reduceEqDiff, Go.Addr.add, ↓reduceIte] at hx1290008_0); have qi1290008 : (4 < l0.length) = True := eq_true (by omega); (try rw [show ((4 : Int)).toNat = 4 from rfl] at hx1290008_0); replace hx1290008_0 := (HB.out.cell (World.block_lt_of_cell? w _ hx1290008_0)).trans hx1290008_0; replace p1290008 := eq_true p1290008; replace q1290008 := eq_true q1290008; have p1290009 : 0 ≤ (5 : Int) := (by omega); have q1290009 : 5 < (l0.length : Int) := of_decide_eq_true zq_5; obtain ⟨ad1290009, e1290009, hx1290009_0⟩ := Kd.at_int HR0.out 5 p1290009 q1290009; obtain rfl : ad1290004 = ad1290009 := (by injection e1290009); (try simp only [show (5 : Int).toNat = 5 from rfl, Nat.reduceMul, Nat.reduceEqDiff, Go.Addr.add, ↓reduceIte] at hx1290009_0); have qi1290009 : (5 < l0.length) = True := eq_true (by omega); (try rw [show ((5 : Int)).toNat = 5 from rfl] at hx1290009_0); replace hx1290009_0 := (HB.out.cell (World.block_lt_of_cell? w _ hx1290009_0)).trans hx1290009_0; replace p1290009 := eq_true p1290009; replace q1290009 := eq_true q1290009; have p1290010 : 0 ≤ (6 : Int) := (by omega); have q1290010 : 6 < (l0.length : Int) := of_decide_eq_true zq_5; obtain ⟨ad1290010, e1290010, hx1290010_0⟩ := Kd.at_int HR0.out 6 p1290010 q1290010; obtain rfl : ad1290004 = ad1290010 := (by injection e1290010); (try simp only [show (6 : Int).toNat = 6 from rfl, Nat.reduceMul, Nat.reduceEqDiff, Go.Addr.add, ↓reduceIte] at hx1290010_0); have qi1290010 : (6 < l0.length) = True := eq_true (by omega); (try rw [show ((6 : Int)).toNat = 6 from rfl] at hx1290010_0); replace hx1290010_0 := (HB.out.cell (World.block_lt_of_cell? w _ hx1290010_0)).trans hx1290010_0; replace p1290010 := eq_true p1290010; replace q1290010 := eq_true q1290010; have p1290011 : 0 ≤ (7 : Int) := (by omega); have q1290011 : 7 < (l0.length : Int) := of_decide_eq_true zq_5; obtain ⟨ad1290011, e1290011, hx1290011_0⟩ := Kd.at_int HR0.out 7 p1290011 q1290011; obtain rfl : ad1290004 = ad1290011 := (by injection e1290011); (try simp only [show (7 : Int).toNat = 7 from rfl, Nat.reduceMul, Nat.reduceEqDiff, Go.Addr.add, ↓reduceIte] at hx1290011_0); have qi1290011 : (7 < l0.length) = True := eq_true (by omega); (try rw [show ((7 : Int)).toNat = 7 from rfl] at hx1290011_0); replace hx1290011_0 := (HB.out.cell (World.block_lt_of_cell? w _ hx1290011_0)).trans hx1290011_0; replace p1290011 := eq_true p1290011; replace q1290011 := eq_true q1290011))
         go_loopg [10, 11, 12, 13, 14, 15, 16, 17, 18] k (fun kq v10 v11 v12 v13 v14 v15 v16 v17 v18 w' => ∃ (x10_1 : Int) (x11_1 : Int) (x12_1 : Int) (x13_1 : Int) (x14_1 : Int) (x15_1 : Int) (x16_1 : Int) (x17_1 : Int) (x18_1 : Int), v10 = .int .u32 x10_1 ∧ v11 = .int .u32 x11_1 ∧ v12 = .int .u32 x12_1 ∧ v13 = .int .u32 x13_1 ∧ v14 = .int .u32 x14_1 ∧ v15 = .int .u32 x15_1 ∧ v16 = .int .u32 x16_1 ∧ v17 = .int .u32 x17_1 ∧ v18 = .int .i64 x18_1 ∧ Aside0 (spec_l1Block.l0 kq l0 l1 t1290001 x10_1 x11_1 x12_1 x13_1 x14_1 x15_1 x16_1 x17_1 x18_1 = some r) ∧ Aside0 (kq ≤ k) ∧ Aside0 (Kd.R (Kd.int .u32) 129 w' w.heap.size (fun _ => True) v1290002 t1290001) ∧ Aside0 (Below w.heap.size w w'))
         case atStart => exact ⟨(rd l0 0), (rd l0 1), (rd l0 2), (rd l0 3), (rd l0 4), (rd l0 5), (rd l0 6), (rd l0 7), (0), zq_13, zq_13, zq_13, zq_13, zq_13, zq_13, zq_13, zq_13, zq_13, H', ⟨Nat.le_refl _⟩, ⟨by (with_reducible repeat (first | apply Kd.R_alloc | apply Kd.R_drewN | apply Kd.R_drew)); exact HO1290003.out⟩, ⟨by repeat (first | (with_reducible first | exact HB.out | apply below_alloc | apply pw_below_drewN | apply below_drew1) | exact HB.out)⟩⟩
         case round =>
          clear H'
          try clear c1
          try clear p1
          try clear q1
          try clear hx1
          try clear qi1
          try clear c2
          try clear p2
          try clear c6
          try clear c6b0
          try clear c6b1
          try clear c7
          try clear c7b0
          try clear c7b1
          try clear c8
          try clear c8b0
          try clear c8b1
          try clear c9
          try clear c9b0
          try clear c9b1
          try clear c10
          try clear c10b0
          try clear c10b1
          try clear c11
          try clear c11b0
          try clear c11b1
          try clear c12
          try clear c12b0
          try clear c12b1
          try clear p12
          try clear q12
          try clear hx12
          try clear qi12
          try clear c13
          try clear c13b0
          try clear c13b1
          try clear c14
          try clear hx1290004_0
          try clear hx1290005_0
          try clear hx1290006_0
          try clear hx1290007_0
          try clear hx1290008_0
          try clear hx1290009_0
          try clear hx1290010_0
          try clear hx1290011_0
          try clear p1290004
          try clear p1290005
          try clear p1290006
          try clear p1290007
          try clear p1290008
          try clear p1290009
          try clear p1290010
          try clear p1290011
          try clear q1290004
          try clear q1290005
          try clear q1290006
          try clear q1290007
          try clear q1290008
          try clear q1290009
          try clear q1290010
          try clear q1290011
          obtain ⟨x10_1, x11_1, x12_1, x13_1, x14_1, x15_1, x16_1, x17_1, x18_1, rfl, rfl, rfl, rfl, rfl, rfl, rfl, rfl, rfl, HA, HK1, HO_9, HB⟩ := hrel
          cases gk with
          | zero => exact absurd HA.out (by simp [spec_l1Block.l0])
          | succ k1 =>
           have H := HA.out; clear HA; simp only [spec_l1Block.l0] at H
           by_cases c15 : x18_1 < 64
           ·rw [if_pos c15] at H; have c15b0 : decide (x18_1 < 64) = true := decide_eq_true c15; clear c15; replace H := Option.bind_eq_some_iff.mp H; obtain ⟨t1290023, A160, H⟩ := H; (try dsimp only at H); have A16 := Aside0.mk A160; clear A160; replace H := Option.bind_eq_some_iff.mp H; obtain ⟨t1290024, A170, H⟩ := H; (try dsimp only at H); have A17 := Aside0.mk A170; clear A170; replace H := Option.bind_eq_some_iff.mp H; obtain ⟨t1290025, A180, H⟩ := H; (try dsimp only at H); have A18 := Aside0.mk A180; clear A180
            by_cases c19 : 0 ≤ x18_1
            ·rw [if_pos c19] at H; have c19b0 : decide (0 ≤ x18_1) = true := decide_eq_true c19; clear c19
             by_cases c20 : x18_1 < (l1.length : Int)
             ·rw [if_pos c20] at H; have c20b0 : decide (x18_1 < (l1.length : Int)) = true := decide_eq_true c20; clear c20
              by_cases c21 : x18_1 < (t1290001.length : Int)
              ·rw [if_pos c21] at H; have c21b0 : decide (x18_1 < (t1290001.length : Int)) = true := decide_eq_true c21; clear c21; replace H := Option.bind_eq_some_iff.mp H; obtain ⟨t1290028, A220, H⟩ := H; (try dsimp only at H); have A22 := Aside0.mk A220; clear A220; replace H := Option.bind_eq_some_iff.mp H; obtain ⟨t1290029, A230, H⟩ := H; (try dsimp only at H); have A23 := Aside0.mk A230; clear A230; replace H := Option.bind_eq_some_iff.mp H; obtain ⟨t1290030, A240, H⟩ := H; (try dsimp only at H); have A24 := Aside0.mk A240; clear A240; have H' := Aside0.mk H; clear H
               try go_wp2_with (first | ((with_reducible refine gate_callee (f := 146) rfl ?_); refine goesL_ (some 55) rfl rfl Tryd.func146 (by kernel_rfl) rfl #[.int .u32 x14_1, .int .i64 6] rfl zq_1 ?_; (with_reducible refine (spec_l1Turn.calls x14_1 6 t1290023 _ A16.out).mono ?_); rintro e w' ⟨rfl, ⟨nd, rfl⟩⟩; refine ⟨_, rfl, ?_⟩) | ((with_reducible refine gate_callee (f := 146) rfl ?_); refine goesL_ (some 57) rfl rfl Tryd.func146 (by kernel_rfl) rfl #[.int .u32 x14_1, .int .i64 11] rfl zq_1 ?_; (with_reducible refine (spec_l1Turn.calls x14_1 11 t1290024 _ A17.out).mono ?_); rintro e w' ⟨rfl, ⟨nd, rfl⟩⟩; refine ⟨_, rfl, ?_⟩) | ((with_reducible refine gate_callee (f := 146) rfl ?_); refine goesL_ (some 60) rfl rfl Tryd.func146 (by kernel_rfl) rfl #[.int .u32 x14_1, .int .i64 25] rfl zq_1 ?_; (with_reducible refine (spec_l1Turn.calls x14_1 25 t1290025 _ A18.out).mono ?_); rintro e w' ⟨rfl, ⟨nd, rfl⟩⟩; refine ⟨_, rfl, ?_⟩))
               (try (rw [drewN_self wr]; generalize hq_ : World.drewN wr _ = wr; have n0_ : Aside0 (Kd.R (Kd.int .u32) 129 wr w.heap.size (fun _ => True) v1290002 t1290001) := ⟨by rw [← hq_]; exact (by (with_reducible repeat (first | apply Kd.R_alloc | apply Kd.R_drewN | apply Kd.R_drew)); exact HO_9.out)⟩; have n1_ : Aside0 (Below w.heap.size w wr) := ⟨by rw [← hq_]; exact zq_0⟩; clear HO_9 HB hq_; have HO_9 := n0_; have HB := n1_; clear n0_ n1_)); have n0_ := Aside0.mk (Kd.R_drew HO_9.out); have n1_ := Aside0.mk (below_drew1 HB.out); clear HO_9; clear HB; have HO_9 := n0_; have HB := n1_; clear n0_ n1_; have p1290026 : 0 ≤ (x18_1 : Int) := of_decide_eq_true zq_5; have q1290026 : x18_1 < (l1.length : Int) := of_decide_eq_true zq_5; obtain ⟨ad1290026, e1290026, hx1290026_0⟩ := Kd.at_int HR1.out x18_1 p1290026 q1290026; have hw1290026_0 := hx1290026_0
               cases e1290026
               replace hx1290026_0 := (HB.out.cell (World.block_lt_of_cell? w _ hx1290026_0)).trans hx1290026_0; replace p1290026 := eq_true p1290026; replace q1290026 := eq_true q1290026; obtain ⟨Ao26, co26, eo26⟩ := Kd.R_slice HO_9.out; (first | subst eo26 | (injection eo26 with f1_ f2_ f3_; have f4_ := f1_.symm; have f5_ := f3_.symm; clear f1_ f2_ f3_; subst f4_; subst f5_)); have p1290027 : 0 ≤ (x18_1 : Int) := of_decide_eq_true zq_5; have q1290027 : x18_1 < (t1290001.length : Int) := of_decide_eq_true zq_5; obtain ⟨ad1290027, e1290027, hx1290027_0⟩ := Kd.at_int (Kd.R_reads' HO_9.out).2.2 x18_1 p1290027 q1290027
               cases e1290027
               replace p1290027 := eq_true p1290027; replace q1290027 := eq_true q1290027; refine start_ (n := 23) (S := fun w' => w'.cell? (ad1290026.add (x18_1).toNat) = some (.int .u32 (rd l1 x18_1)) ∧ w'.cell? (ad1290027.add (x18_1).toNat) = some (.int .u32 (rd t1290001 x18_1))) (ds := []) #[false, false, false, false, false, false, false, false, false, false, false, false, false, false, false, false, false, false, false, false, false, false, false] (by kernel_rfl) rfl rfl ⟨((HB.out.cell (World.block_lt_of_cell? w _ hw1290026_0)).trans hw1290026_0), hx1290027_0⟩ (fun hHeld => ?_); refine with_tabW spec_l1Block.tab14 spec_l1Block.bits14 (fun HT_ HW_ => ?_); generalize wr.drew = w25 at HO_9 HB hx1290026_0 hx1290027_0 hHeld ⊢; refine pq_ (i := 0) (N := some 62) HT_.out ?_; refine pq_ (i := 1) (N := some 63) HT_.out ?_; refine pq_ (i := 2) (N := some 64) HT_.out ?_; refine pq_ (i := 3) (N := some 65) HT_.out ?_; refine pq_ (i := 4) (N := some 66) HT_.out ?_; refine pq_ (i := 5) (N := some 67) HT_.out ?_; refine pq_ (i := 6) (N := some 68) HT_.out ?_; refine pq_ (i := 7) (N := some 69) HT_.out ?_; refine pq_ (i := 8) (N := some 70) HT_.out ?_; refine pq_ (i := 9) (N := some 71) HT_.out ?_; refine pq_ (i := 10) (N := some 72) HT_.out ?_; refine pq_ (i := 11) (N := some 73) HT_.out ?_; refine pq_ (i := 12) (N := some 74) HT_.out ?_; refine pq_ (i := 13) (N := some 75) HT_.out ?_; refine pq_ (i := 14) (N := some 76) HT_.out ?_; refine pq_ (i := 17) (N := some 79) HT_.out ?_; refine pq_ (i := 18) (N := some 80) HT_.out ?_; refine pq_ (i := 19) (N := some 81) HT_.out ?_; refine tq_ (i := 15) (N := some 77) HT_.out HW_.out hHeld (hy := by rintro w' ⟨s0, s1⟩; go_simp; with_reducible rfl) (h := ?_); refine pq_ (i := 16) (N := some 78) HT_.out ?_; refine tq_ (i := 20) (N := some 82) HT_.out HW_.out hHeld (hy := by rintro w' ⟨s0, s1⟩; go_simp; with_reducible rfl) (h := ?_); refine pq_ (i := 21) (N := some 83) HT_.out ?_; refine pq_ (i := 22) (N := some 20) HT_.out ?_; refine done_ (done_of HT_.out (by kernel_rfl)) ?_
               try go_wp2_with (first | ((with_reducible refine gate_callee (f := 146) rfl ?_); refine goesL_ (some 85) rfl rfl Tryd.func146 (by kernel_rfl) rfl #[.int .u32 x10_1, .int .i64 2] rfl zq_1 ?_; (with_reducible refine (spec_l1Turn.calls x10_1 2 t1290028 _ A22.out).mono ?_); rintro e w' ⟨rfl, ⟨nd, rfl⟩⟩; refine ⟨_, rfl, ?_⟩) | ((with_reducible refine gate_callee (f := 146) rfl ?_); refine goesL_ (some 87) rfl rfl Tryd.func146 (by kernel_rfl) rfl #[.int .u32 x10_1, .int .i64 13] rfl zq_1 ?_; (with_reducible refine (spec_l1Turn.calls x10_1 13 t1290029 _ A23.out).mono ?_); rintro e w' ⟨rfl, ⟨nd, rfl⟩⟩; refine ⟨_, rfl, ?_⟩) | ((with_reducible refine gate_callee (f := 146) rfl ?_); refine goesL_ (some 90) rfl rfl Tryd.func146 (by kernel_rfl) rfl #[.int .u32 x10_1, .int .i64 22] rfl zq_1 ?_; (with_reducible refine (spec_l1Turn.calls x10_1 22 t1290030 _ A24.out).mono ?_); rintro e w' ⟨rfl, ⟨nd, rfl⟩⟩; refine ⟨_, rfl, ?_⟩))
               go_roundg k1
               case measure => have := HK1.out; omega
               case rel => exact ⟨((((((((((x17_1 + (Go.bits .xor .u32 (Go.bits .xor .u32 t1290023 t1290024) t1290025)) % 4294967296) + (Go.bits .xor .u32 (Go.bits .and .u32 x14_1 x15_1) (Go.bits .and .u32 (Go.bits .xor .u32 IntKind.u32.max x14_1) x16_1))) % 4294967296) + (rd l1 x18_1)) % 4294967296) + (rd t1290001 x18_1)) % 4294967296) + (((Go.bits .xor .u32 (Go.bits .xor .u32 t1290028 t1290029) t1290030) + (Go.bits .xor .u32 (Go.bits .xor .u32 (Go.bits .and .u32 x10_1 x11_1) (Go.bits .and .u32 x10_1 x12_1)) (Go.bits .and .u32 x11_1 x12_1))) % 4294967296)) % 4294967296), (x10_1), (x11_1), (x12_1), ((x13_1 + ((((((((x17_1 + (Go.bits .xor .u32 (Go.bits .xor .u32 t1290023 t1290024) t1290025)) % 4294967296) + (Go.bits .xor .u32 (Go.bits .and .u32 x14_1 x15_1) (Go.bits .and .u32 (Go.bits .xor .u32 IntKind.u32.max x14_1) x16_1))) % 4294967296) + (rd l1 x18_1)) % 4294967296) + (rd t1290001 x18_1)) % 4294967296)) % 4294967296), (x14_1), (x15_1), (x16_1), (wrap64 (x18_1 + 1)), zq_13, zq_13, zq_13, zq_13, zq_13, zq_13, zq_13, zq_13, zq_13, H', ⟨by have := HK1.out; omega⟩, ⟨by (with_reducible repeat (first | apply Kd.R_alloc | apply Kd.R_drewN | apply Kd.R_drew)); exact HO_9.out⟩, ⟨by repeat (first | (with_reducible first | exact HB.out | apply below_alloc | apply pw_below_drewN | apply below_drew1) | exact HB.out)⟩⟩
              ·rw [if_neg c21] at H; exact absurd H (by simp)
             ·rw [if_neg c20] at H; exact absurd H (by simp)
            ·rw [if_neg c19] at H; exact absurd H (by simp)
           ·rw [if_neg c15] at H; have c15b0 : decide (x18_1 < 64) = false := decide_eq_false c15; clear c15
            by_cases c27 : 0 < (l0.length : Int)
            ·rw [if_pos c27] at H; have c27b0 : decide (0 < (l0.length : Int)) = true := decide_eq_true c27; have c27b1 : decide (0 < l0.length) = true := decide_eq_true (by omega); clear c27
             by_cases c28 : 1 < (l0.length : Int)
             ·rw [if_pos c28] at H; have c28b0 : decide (1 < (l0.length : Int)) = true := decide_eq_true c28; have c28b1 : decide (1 < l0.length) = true := decide_eq_true (by omega); clear c28
              by_cases c29 : 2 < (l0.length : Int)
              ·rw [if_pos c29] at H; have c29b0 : decide (2 < (l0.length : Int)) = true := decide_eq_true c29; have c29b1 : decide (2 < l0.length) = true := decide_eq_true (by omega); clear c29
               by_cases c30 : 3 < (l0.length : Int)
               ·rw [if_pos c30] at H; have c30b0 : decide (3 < (l0.length : Int)) = true := decide_eq_true c30; have c30b1 : decide (3 < l0.length) = true := decide_eq_true (by omega); clear c30
                by_cases c31 : 4 < (l0.length : Int)
                ·rw [if_pos c31] at H; have c31b0 : decide (4 < (l0.length : Int)) = true := decide_eq_true c31; have c31b1 : decide (4 < l0.length) = true := decide_eq_true (by omega); clear c31
                 by_cases c32 : 5 < (l0.length : Int)
                 ·rw [if_pos c32] at H; have c32b0 : decide (5 < (l0.length : Int)) = true := decide_eq_true c32; have c32b1 : decide (5 < l0.length) = true := decide_eq_true (by omega); clear c32
                  by_cases c33 : 6 < (l0.length : Int)
                  ·rw [if_pos c33] at H; have c33b0 : decide (6 < (l0.length : Int)) = true := decide_eq_true c33; have c33b1 : decide (6 < l0.length) = true := decide_eq_true (by omega); clear c33
                   by_cases c34 : 7 < (l0.length : Int)
                   ·rw [if_pos c34] at H; have c34b0 : decide (7 < (l0.length : Int)) = true := decide_eq_true c34; have c34b1 : decide (7 < l0.length) = true := decide_eq_true (by omega); clear c34; obtain ⟨y1290020, hy1290020⟩ : ∃ y_ : List Int, y_ = (([((rd l0 0) + x10_1) % 4294967296, ((rd l0 1) + x11_1) % 4294967296, ((rd l0 2) + x12_1) % 4294967296, ((rd l0 3) + x13_1) % 4294967296, ((rd l0 4) + x14_1) % 4294967296, ((rd l0 5) + x15_1) % 4294967296, ((rd l0 6) + x16_1) % 4294967296, ((rd l0 7) + x17_1) % 4294967296] : List Int)) := ⟨_, rfl⟩
                    replace H : (some y1290020) = some r := by first | (rw [hy1290020]; with_reducible exact H) | (have H2_ := (Option.bind_some _ _).symm.trans H; rw [hy1290020]; with_reducible exact H2_) | (have H2_ := (Option.bind_some _ _).symm.trans H; with_reducible exact H2_) | with_reducible exact H | (rw [hy1290020]; exact H) | exact H
                    have Ny1290020 := Aside0.mk hy1290020; clear hy1290020; obtain rfl := Option.some.inj H
                    try go_wp2
                    have n0_ := Aside0.mk (Kd.R_drew HO_9.out); have n1_ := Aside0.mk (below_drew1 HB.out); clear HO_9; clear HB; have HO_9 := n0_; have HB := n1_; clear n0_ n1_; have p1290012 : 0 ≤ (0 : Int) := (by omega)
                    have q1290012 : 0 < (l0.length : Int) := of_decide_eq_true zq_5; obtain ⟨ad1290012, e1290012, hx1290012_0⟩ := Kd.at_int HR0.out 0 p1290012 q1290012; have hw1290012_0 := hx1290012_0; (try rw [show ((0 : Int)).toNat = 0 from rfl] at hw1290012_0); (try rw [show 0 * 1 = 0 from rfl] at hw1290012_0); (try rw [Addr.add_zero'] at hw1290012_0); obtain rfl : ad1290004 = ad1290012 := (by injection e1290012)
                    have qi1290012 : (0 < l0.length) = True := eq_true (by omega); (try rw [show ((0 : Int)).toNat = 0 from rfl] at hx1290012_0); (try rw [Addr.add_zero'] at hx1290012_0); replace hx1290012_0 := (HB.out.cell (World.block_lt_of_cell? w _ hx1290012_0)).trans hx1290012_0; replace p1290012 := eq_true p1290012; replace q1290012 := eq_true q1290012; have p1290013 : 0 ≤ (1 : Int) := (by omega)
                    have q1290013 : 1 < (l0.length : Int) := of_decide_eq_true zq_5; obtain ⟨ad1290013, e1290013, hx1290013_0⟩ := Kd.at_int HR0.out 1 p1290013 q1290013; have hw1290013_0 := hx1290013_0; (try rw [show ((1 : Int)).toNat = 1 from rfl] at hw1290013_0); (try rw [show 1 * 1 = 1 from rfl] at hw1290013_0); (try simp only [Nat.reduceMul, Nat.reduceEqDiff, Go.Addr.add, ↓reduceIte] at hw1290013_0); obtain rfl : ad1290004 = ad1290013 := (by injection e1290013)
                    (try simp only [show (1 : Int).toNat = 1 from rfl, Nat.reduceMul, Nat.reduceEqDiff, Go.Addr.add, ↓reduceIte] at hx1290013_0); have qi1290013 : (1 < l0.length) = True := eq_true (by omega); (try rw [show ((1 : Int)).toNat = 1 from rfl] at hx1290013_0); replace hx1290013_0 := (HB.out.cell (World.block_lt_of_cell? w _ hx1290013_0)).trans hx1290013_0; replace p1290013 := eq_true p1290013; replace q1290013 := eq_true q1290013; have p1290014 : 0 ≤ (2 : Int) := (by omega)
                    have q1290014 : 2 < (l0.length : Int) := of_decide_eq_true zq_5; obtain ⟨ad1290014, e1290014, hx1290014_0⟩ := Kd.at_int HR0.out 2 p1290014 q1290014; have hw1290014_0 := hx1290014_0; (try rw [show ((2 : Int)).toNat = 2 from rfl] at hw1290014_0); (try rw [show 2 * 1 = 2 from rfl] at hw1290014_0); (try simp only [Nat.reduceMul, Nat.reduceEqDiff, Go.Addr.add, ↓reduceIte] at hw1290014_0); obtain rfl : ad1290004 = ad1290014 := (by injection e1290014)
                    (try simp only [show (2 : Int).toNat = 2 from rfl, Nat.reduceMul, Nat.reduceEqDiff, Go.Addr.add, ↓reduceIte] at hx1290014_0); have qi1290014 : (2 < l0.length) = True := eq_true (by omega); (try rw [show ((2 : Int)).toNat = 2 from rfl] at hx1290014_0); replace hx1290014_0 := (HB.out.cell (World.block_lt_of_cell? w _ hx1290014_0)).trans hx1290014_0; replace p1290014 := eq_true p1290014; replace q1290014 := eq_true q1290014; have p1290015 : 0 ≤ (3 : Int) := (by omega)
                    have q1290015 : 3 < (l0.length : Int) := of_decide_eq_true zq_5; obtain ⟨ad1290015, e1290015, hx1290015_0⟩ := Kd.at_int HR0.out 3 p1290015 q1290015; have hw1290015_0 := hx1290015_0; (try rw [show ((3 : Int)).toNat = 3 from rfl] at hw1290015_0); (try rw [show 3 * 1 = 3 from rfl] at hw1290015_0); (try simp only [Nat.reduceMul, Nat.reduceEqDiff, Go.Addr.add, ↓reduceIte] at hw1290015_0); obtain rfl : ad1290004 = ad1290015 := (by injection e1290015)
                    (try simp only [show (3 : Int).toNat = 3 from rfl, Nat.reduceMul, Nat.reduceEqDiff, Go.Addr.add, ↓reduceIte] at hx1290015_0); have qi1290015 : (3 < l0.length) = True := eq_true (by omega); (try rw [show ((3 : Int)).toNat = 3 from rfl] at hx1290015_0); replace hx1290015_0 := (HB.out.cell (World.block_lt_of_cell? w _ hx1290015_0)).trans hx1290015_0; replace p1290015 := eq_true p1290015; replace q1290015 := eq_true q1290015; have p1290016 : 0 ≤ (4 : Int) := (by omega)
                    have q1290016 : 4 < (l0.length : Int) := of_decide_eq_true zq_5; obtain ⟨ad1290016, e1290016, hx1290016_0⟩ := Kd.at_int HR0.out 4 p1290016 q1290016; have hw1290016_0 := hx1290016_0; (try rw [show ((4 : Int)).toNat = 4 from rfl] at hw1290016_0); (try rw [show 4 * 1 = 4 from rfl] at hw1290016_0); (try simp only [Nat.reduceMul, Nat.reduceEqDiff, Go.Addr.add, ↓reduceIte] at hw1290016_0); obtain rfl : ad1290004 = ad1290016 := (by injection e1290016)
                    (try simp only [show (4 : Int).toNat = 4 from rfl, Nat.reduceMul, Nat.reduceEqDiff, Go.Addr.add, ↓reduceIte] at hx1290016_0); have qi1290016 : (4 < l0.length) = True := eq_true (by omega); (try rw [show ((4 : Int)).toNat = 4 from rfl] at hx1290016_0); replace hx1290016_0 := (HB.out.cell (World.block_lt_of_cell? w _ hx1290016_0)).trans hx1290016_0; replace p1290016 := eq_true p1290016; replace q1290016 := eq_true q1290016; have p1290017 : 0 ≤ (5 : Int) := (by omega)
                    have q1290017 : 5 < (l0.length : Int) := of_decide_eq_true zq_5; obtain ⟨ad1290017, e1290017, hx1290017_0⟩ := Kd.at_int HR0.out 5 p1290017 q1290017; have hw1290017_0 := hx1290017_0; (try rw [show ((5 : Int)).toNat = 5 from rfl] at hw1290017_0); (try rw [show 5 * 1 = 5 from rfl] at hw1290017_0); (try simp only [Nat.reduceMul, Nat.reduceEqDiff, Go.Addr.add, ↓reduceIte] at hw1290017_0); obtain rfl : ad1290004 = ad1290017 := (by injection e1290017)
                    (try simp only [show (5 : Int).toNat = 5 from rfl, Nat.reduceMul, Nat.reduceEqDiff, Go.Addr.add, ↓reduceIte] at hx1290017_0); have qi1290017 : (5 < l0.length) = True := eq_true (by omega); (try rw [show ((5 : Int)).toNat = 5 from rfl] at hx1290017_0); replace hx1290017_0 := (HB.out.cell (World.block_lt_of_cell? w _ hx1290017_0)).trans hx1290017_0; replace p1290017 := eq_true p1290017; replace q1290017 := eq_true q1290017; have p1290018 : 0 ≤ (6 : Int) := (by omega)
                    have q1290018 : 6 < (l0.length : Int) := of_decide_eq_true zq_5; obtain ⟨ad1290018, e1290018, hx1290018_0⟩ := Kd.at_int HR0.out 6 p1290018 q1290018; have hw1290018_0 := hx1290018_0; (try rw [show ((6 : Int)).toNat = 6 from rfl] at hw1290018_0); (try rw [show 6 * 1 = 6 from rfl] at hw1290018_0); (try simp only [Nat.reduceMul, Nat.reduceEqDiff, Go.Addr.add, ↓reduceIte] at hw1290018_0); obtain rfl : ad1290004 = ad1290018 := (by injection e1290018)
                    (try simp only [show (6 : Int).toNat = 6 from rfl, Nat.reduceMul, Nat.reduceEqDiff, Go.Addr.add, ↓reduceIte] at hx1290018_0); have qi1290018 : (6 < l0.length) = True := eq_true (by omega); (try rw [show ((6 : Int)).toNat = 6 from rfl] at hx1290018_0); replace hx1290018_0 := (HB.out.cell (World.block_lt_of_cell? w _ hx1290018_0)).trans hx1290018_0; replace p1290018 := eq_true p1290018; replace q1290018 := eq_true q1290018; have p1290019 : 0 ≤ (7 : Int) := (by omega)
                    have q1290019 : 7 < (l0.length : Int) := of_decide_eq_true zq_5; obtain ⟨ad1290019, e1290019, hx1290019_0⟩ := Kd.at_int HR0.out 7 p1290019 q1290019; have hw1290019_0 := hx1290019_0; (try rw [show ((7 : Int)).toNat = 7 from rfl] at hw1290019_0); (try rw [show 7 * 1 = 7 from rfl] at hw1290019_0); (try simp only [Nat.reduceMul, Nat.reduceEqDiff, Go.Addr.add, ↓reduceIte] at hw1290019_0); obtain rfl : ad1290004 = ad1290019 := (by injection e1290019)
                    (try simp only [show (7 : Int).toNat = 7 from rfl, Nat.reduceMul, Nat.reduceEqDiff, Go.Addr.add, ↓reduceIte] at hx1290019_0); have qi1290019 : (7 < l0.length) = True := eq_true (by omega); (try rw [show ((7 : Int)).toNat = 7 from rfl] at hx1290019_0); replace hx1290019_0 := (HB.out.cell (World.block_lt_of_cell? w _ hx1290019_0)).trans hx1290019_0; replace p1290019 := eq_true p1290019; replace q1290019 := eq_true q1290019; refine start_ (n := 42) (S := fun w' => w'.cell? ad1290004 = some (.int .u32 (rd l0 0)) ∧ w'.cell? ⟨ad1290004.block, ad1290004.off + 1, none⟩ = some (.int .u32 (rd l0 1)) ∧ w'.cell? ⟨ad1290004.block, ad1290004.off + 2, none⟩ = some (.int .u32 (rd l0 2)) ∧ w'.cell? ⟨ad1290004.block, ad1290004.off + 3, none⟩ = some (.int .u32 (rd l0 3)) ∧ w'.cell? ⟨ad1290004.block, ad1290004.off + 4, none⟩ = some (.int .u32 (rd l0 4)) ∧ w'.cell? ⟨ad1290004.block, ad1290004.off + 5, none⟩ = some (.int .u32 (rd l0 5)) ∧ w'.cell? ⟨ad1290004.block, ad1290004.off + 6, none⟩ = some (.int .u32 (rd l0 6)) ∧ w'.cell? ⟨ad1290004.block, ad1290004.off + 7, none⟩ = some (.int .u32 (rd l0 7))) (ds := []) #[false, false, false, false, false, false, false, false, false, false, false, false, false, false, false, false, false, false, false, false, false, false, false, false, false, false, false, false, false, false, false, false, false, false, false, false, false, false, false, false, false, false] (by kernel_rfl) rfl rfl ⟨((HB.out.cell (World.block_lt_of_cell? w _ hw1290012_0)).trans hw1290012_0), ((HB.out.cell (World.block_lt_of_cell? w _ hw1290013_0)).trans hw1290013_0), ((HB.out.cell (World.block_lt_of_cell? w _ hw1290014_0)).trans hw1290014_0), ((HB.out.cell (World.block_lt_of_cell? w _ hw1290015_0)).trans hw1290015_0), ((HB.out.cell (World.block_lt_of_cell? w _ hw1290016_0)).trans hw1290016_0), ((HB.out.cell (World.block_lt_of_cell? w _ hw1290017_0)).trans hw1290017_0), ((HB.out.cell (World.block_lt_of_cell? w _ hw1290018_0)).trans hw1290018_0), ((HB.out.cell (World.block_lt_of_cell? w _ hw1290019_0)).trans hw1290019_0)⟩ (fun hHeld => ?_); refine with_tabW spec_l1Block.tab25 spec_l1Block.bits25 (fun HT_ HW_ => ?_); generalize wr.drew = w35 at HO_9 HB hx1290012_0 hx1290013_0 hx1290014_0 hx1290015_0 hx1290016_0 hx1290017_0 hx1290018_0 hx1290019_0 hHeld ⊢; refine pq_ (i := 0) (N := some 117) HT_.out ?_; refine pq_ (i := 1) (N := some 118) HT_.out ?_; refine pq_ (i := 3) (N := some 120) HT_.out ?_; refine pq_ (i := 5) (N := some 122) HT_.out ?_
                    refine pq_ (i := 6) (N := some 123) HT_.out ?_; refine pq_ (i := 8) (N := some 125) HT_.out ?_; refine pq_ (i := 10) (N := some 127) HT_.out ?_; refine pq_ (i := 11) (N := some 128) HT_.out ?_; refine pq_ (i := 13) (N := some 130) HT_.out ?_; refine pq_ (i := 15) (N := some 132) HT_.out ?_; refine pq_ (i := 16) (N := some 133) HT_.out ?_; refine pq_ (i := 18) (N := some 135) HT_.out ?_; refine pq_ (i := 20) (N := some 137) HT_.out ?_; refine pq_ (i := 21) (N := some 138) HT_.out ?_; refine pq_ (i := 23) (N := some 140) HT_.out ?_; refine pq_ (i := 25) (N := some 142) HT_.out ?_; refine pq_ (i := 26) (N := some 143) HT_.out ?_; refine pq_ (i := 28) (N := some 145) HT_.out ?_; refine pq_ (i := 30) (N := some 147) HT_.out ?_; refine pq_ (i := 31) (N := some 148) HT_.out ?_; refine pq_ (i := 33) (N := some 150) HT_.out ?_; refine pq_ (i := 35) (N := some 152) HT_.out ?_; refine pq_ (i := 36) (N := some 153) HT_.out ?_; refine pq_ (i := 38) (N := some 155) HT_.out ?_; refine tq_ (i := 2) (N := some 119) HT_.out HW_.out hHeld (hy := by rintro w' ⟨s0, s1, s2, s3, s4, s5, s6, s7⟩; go_simp; with_reducible rfl) (h := ?_); refine pq_ (i := 4) (N := some 121) HT_.out ?_; refine tq_ (i := 7) (N := some 124) HT_.out HW_.out hHeld (hy := by rintro w' ⟨s0, s1, s2, s3, s4, s5, s6, s7⟩; go_simp; with_reducible rfl) (h := ?_); refine pq_ (i := 9) (N := some 126) HT_.out ?_; refine tq_ (i := 12) (N := some 129) HT_.out HW_.out hHeld (hy := by rintro w' ⟨s0, s1, s2, s3, s4, s5, s6, s7⟩; go_simp; with_reducible rfl) (h := ?_); refine pq_ (i := 14) (N := some 131) HT_.out ?_; refine tq_ (i := 17) (N := some 134) HT_.out HW_.out hHeld (hy := by rintro w' ⟨s0, s1, s2, s3, s4, s5, s6, s7⟩; go_simp; with_reducible rfl) (h := ?_); refine pq_ (i := 19) (N := some 136) HT_.out ?_; refine tq_ (i := 22) (N := some 139) HT_.out HW_.out hHeld (hy := by rintro w' ⟨s0, s1, s2, s3, s4, s5, s6, s7⟩; go_simp; with_reducible rfl) (h := ?_); refine pq_ (i := 24) (N := some 141) HT_.out ?_; refine tq_ (i := 27) (N := some 144) HT_.out HW_.out hHeld (hy := by rintro w' ⟨s0, s1, s2, s3, s4, s5, s6, s7⟩; go_simp; with_reducible rfl) (h := ?_); refine pq_ (i := 29) (N := some 146) HT_.out ?_; refine tq_ (i := 32) (N := some 149) HT_.out HW_.out hHeld (hy := by rintro w' ⟨s0, s1, s2, s3, s4, s5, s6, s7⟩; go_simp; with_reducible rfl) (h := ?_); refine pq_ (i := 34) (N := some 151) HT_.out ?_
                    refine tq_ (i := 37) (N := some 154) HT_.out HW_.out hHeld (hy := by rintro w' ⟨s0, s1, s2, s3, s4, s5, s6, s7⟩; go_simp; with_reducible rfl) (h := ?_); refine pq_ (i := 39) (N := some 156) HT_.out ?_; refine one_ (i := 40) (N := some 157) #[true, true, true, true, true, true, true, true, true, true, true, true, true, true, true, true, true, true, true, true, true, true, true, true, true, true, true, true, true, true, true, true, true, true, true, true, true, true, true, true, true, false] rfl rfl (one_of HT_.out (by kernel_rfl)) (by decide) (fun K hK => ?_)
                    refine Kd.R_lit_step (Kd.int .u32) _ 129 ?hg (N := 157) ?hd (xs := ([((rd l0 0) + x10_1) % 4294967296, ((rd l0 1) + x11_1) % 4294967296, ((rd l0 2) + x12_1) % 4294967296, ((rd l0 3) + x13_1) % 4294967296, ((rd l0 4) + x14_1) % 4294967296, ((rd l0 5) + x15_1) % 4294967296, ((rd l0 6) + x16_1) % 4294967296, ((rd l0 7) + x17_1) % 4294967296] : List Int)) (inner := [.int .u32 (((rd l0 0) + x10_1) % 4294967296), .int .u32 (((rd l0 1) + x11_1) % 4294967296), .int .u32 (((rd l0 2) + x12_1) % 4294967296), .int .u32 (((rd l0 3) + x13_1) % 4294967296), .int .u32 (((rd l0 4) + x14_1) % 4294967296), .int .u32 (((rd l0 5) + x15_1) % 4294967296), .int .u32 (((rd l0 6) + x16_1) % 4294967296), .int .u32 (((rd l0 7) + x17_1) % 4294967296)]) (ok := fun _ => True) (okp := fun _ => True) ?hr ?hp (fun _ hk => hk) trivial (Below.refl _ _) (Nat.le_refl _) (by simp) ?_; (case hd => rfl); (case hg => rfl); (case hr => exact zq_14); (case hp => exact (Reps.one (show Kd.M (Kd.int .u32) _ _ _ (((rd l0 0) + x10_1) % 4294967296) [.int .u32 (((rd l0 0) + x10_1) % 4294967296)] from rfl) (Reps.one (show Kd.M (Kd.int .u32) _ _ _ (((rd l0 1) + x11_1) % 4294967296) [.int .u32 (((rd l0 1) + x11_1) % 4294967296)] from rfl) (Reps.one (show Kd.M (Kd.int .u32) _ _ _ (((rd l0 2) + x12_1) % 4294967296) [.int .u32 (((rd l0 2) + x12_1) % 4294967296)] from rfl) (Reps.one (show Kd.M (Kd.int .u32) _ _ _ (((rd l0 3) + x13_1) % 4294967296) [.int .u32 (((rd l0 3) + x13_1) % 4294967296)] from rfl) (Reps.one (show Kd.M (Kd.int .u32) _ _ _ (((rd l0 4) + x14_1) % 4294967296) [.int .u32 (((rd l0 4) + x14_1) % 4294967296)] from rfl) (Reps.one (show Kd.M (Kd.int .u32) _ _ _ (((rd l0 5) + x15_1) % 4294967296) [.int .u32 (((rd l0 5) + x15_1) % 4294967296)] from rfl) (Reps.one (show Kd.M (Kd.int .u32) _ _ _ (((rd l0 6) + x16_1) % 4294967296) [.int .u32 (((rd l0 6) + x16_1) % 4294967296)] from rfl) (Reps.one (show Kd.M (Kd.int .u32) _ _ _ (((rd l0 7) + x17_1) % 4294967296) [.int .u32 (((rd l0 7) + x17_1) % 4294967296)] from rfl) (Reps.none _ _)))))))))); intro v1290021 w36 ho37 hb hg_ hnew_; clear hg_ hnew_; (first | rw [← Ny1290020.out] at ho37 | (simp only [Int.reduceToNat] at ho37; rw [← Ny1290020.out] at ho37)); have n0_ := Aside0.mk (Kd.R_elder' (by (with_reducible repeat (first | apply Kd.R_alloc | apply Kd.R_drewN | apply Kd.R_drew)); exact HO_9.out) (Kd.R_base ho37) hb)
                    have n1_ := Aside0.mk (Kd.R_lower (Kd.R_new' ho37 (Kd.R_lt (by (with_reducible repeat (first | apply Kd.R_alloc | apply Kd.R_drewN | apply Kd.R_drew)); exact HO_9.out))) (below_size zq_0)); have n2_ := Aside0.mk (below_step zq_0 hb); clear HO_9; clear HB; have HO_9 := n0_; have HO1290022 := n1_; have HB := n2_; clear n0_ n1_ n2_; clear hb ho37; refine hK.out _ _ ⟨((HB.out.cell (World.block_lt_of_cell? w _ hw1290012_0)).trans hw1290012_0), ((HB.out.cell (World.block_lt_of_cell? w _ hw1290013_0)).trans hw1290013_0), ((HB.out.cell (World.block_lt_of_cell? w _ hw1290014_0)).trans hw1290014_0), ((HB.out.cell (World.block_lt_of_cell? w _ hw1290015_0)).trans hw1290015_0), ((HB.out.cell (World.block_lt_of_cell? w _ hw1290016_0)).trans hw1290016_0), ((HB.out.cell (World.block_lt_of_cell? w _ hw1290017_0)).trans hw1290017_0), ((HB.out.cell (World.block_lt_of_cell? w _ hw1290018_0)).trans hw1290018_0), ((HB.out.cell (World.block_lt_of_cell? w _ hw1290019_0)).trans hw1290019_0)⟩ (fun hHeld => ?_); clear hK K; refine norm_ (a' := ?_) ?_ ?_; rotate_left
                    ·show Act.put _ (some 157) _ = _; simp only [Act.put, List.setIfInBounds_toArray, List.set_cons_zero, List.set_cons_succ, i64_w, i32_w]; rfl
                    refine pq_ (i := 41) (N := some 8) HT_.out ?_; refine done_ (done_of HT_.out (by kernel_rfl)) ?_
                    try go_wp2
                    go_ret
                    exact ⟨_, by first | rfl | (simp [errW_none, errW_some] <;> rfl) | (simp [*, errW_none, errW_some] <;> rfl), by (with_reducible repeat (first | apply Kd.R_alloc | apply Kd.R_drewN | apply Kd.R_drew)); exact Kd.R_mono HO1290022.out (fun _ hk => trivial), by repeat (first | (with_reducible first | exact HB.out | apply below_alloc | apply pw_below_drewN | apply below_drew1) | exact HB.out)⟩
                   ·rw [if_neg c34] at H; exact absurd H (by simp)
                  ·rw [if_neg c33] at H; exact absurd H (by simp)
                 ·rw [if_neg c32] at H; exact absurd H (by simp)
                ·rw [if_neg c31] at H; exact absurd H (by simp)
               ·rw [if_neg c30] at H; exact absurd H (by simp)
              ·rw [if_neg c29] at H; exact absurd H (by simp)
             ·rw [if_neg c28] at H; exact absurd H (by simp)
            ·rw [if_neg c27] at H; exact absurd H (by simp)
        ·rw [if_neg c13] at H; exact absurd H (by simp)
       ·rw [if_neg c12] at H; exact absurd H (by simp)
      ·rw [if_neg c11] at H; exact absurd H (by simp)
     ·rw [if_neg c10] at H; exact absurd H (by simp)
    ·rw [if_neg c9] at H; exact absurd H (by simp)
   ·rw [if_neg c8] at H; exact absurd H (by simp)
  ·rw [if_neg c7] at H; exact absurd H (by simp)
 ·rw [if_neg c6] at H; exact absurd H (by simp)
def bits_RotateLeft32.f (a0 : Int) (a1 : Int) : Option (Int) := if 0 ≤ (Go.bits .and .u64 (IntKind.u64.wrap (a1)) 31) then (if 0 ≤ (IntKind.u64.wrap (32 - (Go.bits .and .u64 (IntKind.u64.wrap (a1)) 31))) then (some (Go.bits .or .u32 (shl .u32 a0 (Go.bits .and .u64 (IntKind.u64.wrap (a1)) 31)) (shr .u32 a0 (IntKind.u64.wrap (32 - (Go.bits .and .u64 (IntKind.u64.wrap (a1)) 31)))))) else (none)) else (none)
set_option maxHeartbeats 8000000 in
set_option maxRecDepth 100000 in
theorem bits_RotateLeft32.calls (a0 : Int) (a1 : Int) (r : Int) (w : World) (h : bits_RotateLeft32.f a0 a1 = some r) :
  Calls Tryd.prog 166 #[.int .u32 a0, .int .i64 a1] w fun e w' => e = .returned (.int .u32 r) ∧ Drawn0 w w' := by
 have H : (if 0 ≤ (Go.bits .and .u64 (IntKind.u64.wrap (a1)) 31) then (if 0 ≤ (IntKind.u64.wrap (32 - (Go.bits .and .u64 (IntKind.u64.wrap (a1)) 31))) then (some (Go.bits .or .u32 (shl .u32 a0 (Go.bits .and .u64 (IntKind.u64.wrap (a1)) 31)) (shr .u32 a0 (IntKind.u64.wrap (32 - (Go.bits .and .u64 (IntKind.u64.wrap (a1)) 31)))))) else (none)) else (none)) = some r := h; clear h; obtain ⟨ji3, hji3⟩ : ∃ j_ : Int, (Go.bits .and .u64 (IntKind.u64.wrap (a1)) 31) = j_ := ⟨_, rfl⟩
 replace H : (if 0 ≤ (ji3) then (if 0 ≤ (IntKind.u64.wrap (32 - (ji3))) then (some (Go.bits .or .u32 (shl .u32 a0 (ji3)) (shr .u32 a0 (IntKind.u64.wrap (32 - (ji3)))))) else (none)) else (none)) = some r := by first | (rw [hji3] at H; exact H) | (simp only [hji3] at H ⊢; exact H)
 by_cases c4 : 0 ≤ (ji3)
 ·rw [if_pos c4] at H; have c4b0 := eq_true c4; have c4b1 : decide (0 ≤ (ji3)) = true := decide_eq_true c4; clear c4; obtain ⟨ji5, hji5⟩ : ∃ j_ : Int, (shl .u32 a0 (ji3)) = j_ := ⟨_, rfl⟩
  replace H : (if 0 ≤ (IntKind.u64.wrap (32 - (ji3))) then (some (Go.bits .or .u32 (ji5) (shr .u32 a0 (IntKind.u64.wrap (32 - (ji3)))))) else (none)) = some r := by first | (rw [hji5] at H; exact H) | (simp only [hji5] at H ⊢; exact H)
  have hji5_ : (IntKind.u32.wrap (a0 * 2 ^ min (ji3).toNat 32)) = ji5 := hji5; have hji5z : (ji3) ≤ 32 → (IntKind.u32.wrap (a0 * 2 ^ (ji3).toNat)) = ji5 := shl_small hji5; obtain ⟨ji6, hji6⟩ : ∃ j_ : Int, (IntKind.u64.wrap (32 - (ji3))) = j_ := ⟨_, rfl⟩
  replace H : (if 0 ≤ (ji6) then (some (Go.bits .or .u32 (ji5) (shr .u32 a0 (ji6)))) else (none)) = some r := by first | (rw [hji6] at H; exact H) | (simp only [hji6] at H ⊢; exact H)
  by_cases c7 : 0 ≤ (ji6)
  ·rw [if_pos c7] at H; have c7b0 := eq_true c7; have c7b1 : decide (0 ≤ (ji6)) = true := decide_eq_true c7; clear c7; obtain ⟨ji8, hji8⟩ : ∃ j_ : Int, (shr .u32 a0 (ji6)) = j_ := ⟨_, rfl⟩
   replace H : (some (Go.bits .or .u32 (ji5) (ji8))) = some r := by first | (rw [hji8] at H; exact H) | (simp only [hji8] at H ⊢; exact H)
   have hji8_ : (a0 / 2 ^ min (ji6).toNat 32) = ji8 := hji8; have hji8z : (ji6) ≤ 32 → (a0 / 2 ^ (ji6).toNat) = ji8 := shr_small hji8; obtain rfl := Option.some.inj H
   go_enter Tryd.func166, Tryd.ntmps166
   go_wp2
   go_ret
   exact ⟨by first | rfl | (simp; done) | (simp only [← hji3, ← hji5, ← hji6, ← hji8] <;> (first | rfl | simp)) | (simp [*]; done), by repeat (first | exact Drawn0.refl _ | apply Drawn0.step)⟩
  ·rw [if_neg c7] at H; exact absurd H (by simp)
 ·rw [if_neg c4] at H; exact absurd H (by simp)
def spec_l1K.f  : Option (List Int) := some (([1116352408, 1899447441, 3049323471, 3921009573, 961987163, 1508970993, 2453635748, 2870763221, 3624381080, 310598401, 607225278, 1426881987, 1925078388, 2162078206, 2614888103, 3248222580, 3835390401, 4022224774, 264347078, 604807628, 770255983, 1249150122, 1555081692, 1996064986, 2554220882, 2821834349, 2952996808, 3210313671, 3336571891, 3584528711, 113926993, 338241895, 666307205, 773529912, 1294757372, 1396182291, 1695183700, 1986661051, 2177026350, 2456956037, 2730485921, 2820302411, 3259730800, 3345764771, 3516065817, 3600352804, 4094571909, 275423344, 430227734, 506948616, 659060556, 883997877, 958139571, 1322822218, 1537002063, 1747873779, 1955562222, 2024104815, 2227730452, 2361852424, 2428436474, 2756734187, 3204031479, 3329325298] : List Int))
set_option maxHeartbeats 8000000 in
set_option maxRecDepth 100000 in
theorem spec_l1K.calls  (r : List Int) (w : World) (h : spec_l1K.f  = some r) :
  Calls Tryd.prog 127 #[] w fun e w' => ∃ v0_ : Value, e = .returned (v0_) ∧ Kd.R (Kd.int .u32) 129 w' w.heap.size (fun _ => True) v0_ r ∧ Below w.heap.size w w' := by
 have HB := Aside0.mk (Below.refl w.heap.size w); have H : (some (([1116352408, 1899447441, 3049323471, 3921009573, 961987163, 1508970993, 2453635748, 2870763221, 3624381080, 310598401, 607225278, 1426881987, 1925078388, 2162078206, 2614888103, 3248222580, 3835390401, 4022224774, 264347078, 604807628, 770255983, 1249150122, 1555081692, 1996064986, 2554220882, 2821834349, 2952996808, 3210313671, 3336571891, 3584528711, 113926993, 338241895, 666307205, 773529912, 1294757372, 1396182291, 1695183700, 1986661051, 2177026350, 2456956037, 2730485921, 2820302411, 3259730800, 3345764771, 3516065817, 3600352804, 4094571909, 275423344, 430227734, 506948616, 659060556, 883997877, 958139571, 1322822218, 1537002063, 1747873779, 1955562222, 2024104815, 2227730452, 2361852424, 2428436474, 2756734187, 3204031479, 3329325298] : List Int))) = some r := h; clear h; obtain ⟨y1270001, hy1270001⟩ : ∃ y_ : List Int, y_ = (([1116352408, 1899447441, 3049323471, 3921009573, 961987163, 1508970993, 2453635748, 2870763221, 3624381080, 310598401, 607225278, 1426881987, 1925078388, 2162078206, 2614888103, 3248222580, 3835390401, 4022224774, 264347078, 604807628, 770255983, 1249150122, 1555081692, 1996064986, 2554220882, 2821834349, 2952996808, 3210313671, 3336571891, 3584528711, 113926993, 338241895, 666307205, 773529912, 1294757372, 1396182291, 1695183700, 1986661051, 2177026350, 2456956037, 2730485921, 2820302411, 3259730800, 3345764771, 3516065817, 3600352804, 4094571909, 275423344, 430227734, 506948616, 659060556, 883997877, 958139571, 1322822218, 1537002063, 1747873779, 1955562222, 2024104815, 2227730452, 2361852424, 2428436474, 2756734187, 3204031479, 3329325298] : List Int)) := ⟨_, rfl⟩
 replace H : (some y1270001) = some r := by first | (rw [hy1270001]; with_reducible exact H) | (have H2_ := (Option.bind_some _ _).symm.trans H; rw [hy1270001]; with_reducible exact H2_) | (have H2_ := (Option.bind_some _ _).symm.trans H; with_reducible exact H2_) | with_reducible exact H | (rw [hy1270001]; exact H) | exact H
 have Ny1270001 := Aside0.mk hy1270001; clear hy1270001; obtain rfl := Option.some.inj H
 go_enter Tryd.func127, Tryd.ntmps127
 go_wp2_with (first | ((with_reducible refine gate_dst (N := 1) rfl ?_); refine Kd.R_lit (Kd.int .u32) _ 129 ?hg (N := 1) ?hd (xs := ([1116352408, 1899447441, 3049323471, 3921009573, 961987163, 1508970993, 2453635748, 2870763221, 3624381080, 310598401, 607225278, 1426881987, 1925078388, 2162078206, 2614888103, 3248222580, 3835390401, 4022224774, 264347078, 604807628, 770255983, 1249150122, 1555081692, 1996064986, 2554220882, 2821834349, 2952996808, 3210313671, 3336571891, 3584528711, 113926993, 338241895, 666307205, 773529912, 1294757372, 1396182291, 1695183700, 1986661051, 2177026350, 2456956037, 2730485921, 2820302411, 3259730800, 3345764771, 3516065817, 3600352804, 4094571909, 275423344, 430227734, 506948616, 659060556, 883997877, 958139571, 1322822218, 1537002063, 1747873779, 1955562222, 2024104815, 2227730452, 2361852424, 2428436474, 2756734187, 3204031479, 3329325298] : List Int)) (inner := [.int .u32 1116352408, .int .u32 1899447441, .int .u32 3049323471, .int .u32 3921009573, .int .u32 961987163, .int .u32 1508970993, .int .u32 2453635748, .int .u32 2870763221, .int .u32 3624381080, .int .u32 310598401, .int .u32 607225278, .int .u32 1426881987, .int .u32 1925078388, .int .u32 2162078206, .int .u32 2614888103, .int .u32 3248222580, .int .u32 3835390401, .int .u32 4022224774, .int .u32 264347078, .int .u32 604807628, .int .u32 770255983, .int .u32 1249150122, .int .u32 1555081692, .int .u32 1996064986, .int .u32 2554220882, .int .u32 2821834349, .int .u32 2952996808, .int .u32 3210313671, .int .u32 3336571891, .int .u32 3584528711, .int .u32 113926993, .int .u32 338241895, .int .u32 666307205, .int .u32 773529912, .int .u32 1294757372, .int .u32 1396182291, .int .u32 1695183700, .int .u32 1986661051, .int .u32 2177026350, .int .u32 2456956037, .int .u32 2730485921, .int .u32 2820302411, .int .u32 3259730800, .int .u32 3345764771, .int .u32 3516065817, .int .u32 3600352804, .int .u32 4094571909, .int .u32 275423344, .int .u32 430227734, .int .u32 506948616, .int .u32 659060556, .int .u32 883997877, .int .u32 958139571, .int .u32 1322822218, .int .u32 1537002063, .int .u32 1747873779, .int .u32 1955562222, .int .u32 2024104815, .int .u32 2227730452, .int .u32 2361852424, .int .u32 2428436474, .int .u32 2756734187, .int .u32 3204031479, .int .u32 3329325298]) (ok := fun _ => True) (okp := fun _ => True) ?hr ?hp (fun _ hk => hk) trivial (Below.refl _ _) (Nat.le_refl _) (by simp) ?_; (case hd => rfl); (case hg => rfl); (case hr => exact zq_14); (case hp => exact (Reps.one (show Kd.M (Kd.int .u32) _ _ _ 1116352408 [.int .u32 1116352408] from rfl) (Reps.one (show Kd.M (Kd.int .u32) _ _ _ 1899447441 [.int .u32 1899447441] from rfl) (Reps.one (show Kd.M (Kd.int .u32) _ _ _ 3049323471 [.int .u32 3049323471] from rfl) (Reps.one (show Kd.M (Kd.int .u32) _ _ _ 3921009573 [.int .u32 3921009573] from rfl) (Reps.one (show Kd.M (Kd.int .u32) _ _ _ 961987163 [.int .u32 961987163] from rfl) (Reps.one (show Kd.M (Kd.int .u32) _ _ _ 1508970993 [.int .u32 1508970993] from rfl) (Reps.one (show Kd.M (Kd.int .u32) _ _ _ 2453635748 [.int .u32 2453635748] from rfl) (Reps.one (show Kd.M (Kd.int .u32) _ _ _ 2870763221 [.int .u32 2870763221] from rfl) (Reps.one (show Kd.M (Kd.int .u32) _ _ _ 3624381080 [.int .u32 3624381080] from rfl) (Reps.one (show Kd.M (Kd.int .u32) _ _ _ 310598401 [.int .u32 310598401] from rfl) (Reps.one (show Kd.M (Kd.int .u32) _ _ _ 607225278 [.int .u32 607225278] from rfl) (Reps.one (show Kd.M (Kd.int .u32) _ _ _ 1426881987 [.int .u32 1426881987] from rfl) (Reps.one (show Kd.M (Kd.int .u32) _ _ _ 1925078388 [.int .u32 1925078388] from rfl) (Reps.one (show Kd.M (Kd.int .u32) _ _ _ 2162078206 [.int .u32 2162078206] from rfl) (Reps.one (show Kd.M (Kd.int .u32) _ _ _ 2614888103 [.int .u32 2614888103] from rfl) (Reps.one (show Kd.M (Kd.int .u32) _ _ _ 3248222580 [.int .u32 3248222580] from rfl) (Reps.one (show Kd.M (Kd.int .u32) _ _ _ 3835390401 [.int .u32 3835390401] from rfl) (Reps.one (show Kd.M (Kd.int .u32) _ _ _ 4022224774 [.int .u32 4022224774] from rfl) (Reps.one (show Kd.M (Kd.int .u32) _ _ _ 264347078 [.int .u32 264347078] from rfl) (Reps.one (show Kd.M (Kd.int .u32) _ _ _ 604807628 [.int .u32 604807628] from rfl) (Reps.one (show Kd.M (Kd.int .u32) _ _ _ 770255983 [.int .u32 770255983] from rfl) (Reps.one (show Kd.M (Kd.int .u32) _ _ _ 1249150122 [.int .u32 1249150122] from rfl) (Reps.one (show Kd.M (Kd.int .u32) _ _ _ 1555081692 [.int .u32 1555081692] from rfl) (Reps.one (show Kd.M (Kd.int .u32) _ _ _ 1996064986 [.int .u32 1996064986] from rfl) (Reps.one (show Kd.M (Kd.int .u32) _ _ _ 2554220882 [.int .u32 2554220882] from rfl) (Reps.one (show Kd.M (Kd.int .u32) _ _ _ 2821834349 [.int .u32 2821834349] from rfl) (Reps.one (show Kd.M (Kd.int .u32) _ _ _ 2952996808 [.int .u32 2952996808] from rfl) (Reps.one (show Kd.M (Kd.int .u32) _ _ _ 3210313671 [.int .u32 3210313671] from rfl) (Reps.one (show Kd.M (Kd.int .u32) _ _ _ 3336571891 [.int .u32 3336571891] from rfl) (Reps.one (show Kd.M (Kd.int .u32) _ _ _ 3584528711 [.int .u32 3584528711] from rfl) (Reps.one (show Kd.M (Kd.int .u32) _ _ _ 113926993 [.int .u32 113926993] from rfl) (Reps.one (show Kd.M (Kd.int .u32) _ _ _ 338241895 [.int .u32 338241895] from rfl) (Reps.one (show Kd.M (Kd.int .u32) _ _ _ 666307205 [.int .u32 666307205] from rfl) (Reps.one (show Kd.M (Kd.int .u32) _ _ _ 773529912 [.int .u32 773529912] from rfl) (Reps.one (show Kd.M (Kd.int .u32) _ _ _ 1294757372 [.int .u32 1294757372] from rfl) (Reps.one (show Kd.M (Kd.int .u32) _ _ _ 1396182291 [.int .u32 1396182291] from rfl) (Reps.one (show Kd.M (Kd.int .u32) _ _ _ 1695183700 [.int .u32 1695183700] from rfl) (Reps.one (show Kd.M (Kd.int .u32) _ _ _ 1986661051 [.int .u32 1986661051] from rfl) (Reps.one (show Kd.M (Kd.int .u32) _ _ _ 2177026350 [.int .u32 2177026350] from rfl) (Reps.one (show Kd.M (Kd.int .u32) _ _ _ 2456956037 [.int .u32 2456956037] from rfl) (Reps.one (show Kd.M (Kd.int .u32) _ _ _ 2730485921 [.int .u32 2730485921] from rfl) (Reps.one (show Kd.M (Kd.int .u32) _ _ _ 2820302411 [.int .u32 2820302411] from rfl) (Reps.one (show Kd.M (Kd.int .u32) _ _ _ 3259730800 [.int .u32 3259730800] from rfl) (Reps.one (show Kd.M (Kd.int .u32) _ _ _ 3345764771 [.int .u32 3345764771] from rfl) (Reps.one (show Kd.M (Kd.int .u32) _ _ _ 3516065817 [.int .u32 3516065817] from rfl) (Reps.one (show Kd.M (Kd.int .u32) _ _ _ 3600352804 [.int .u32 3600352804] from rfl) (Reps.one (show Kd.M (Kd.int .u32) _ _ _ 4094571909 [.int .u32 4094571909] from rfl) (Reps.one (show Kd.M (Kd.int .u32) _ _ _ 275423344 [.int .u32 275423344] from rfl) (Reps.one (show Kd.M (Kd.int .u32) _ _ _ 430227734 [.int .u32 430227734] from rfl) (Reps.one (show Kd.M (Kd.int .u32) _ _ _ 506948616 [.int .u32 506948616] from rfl) (Reps.one (show Kd.M (Kd.int .u32) _ _ _ 659060556 [.int .u32 659060556] from rfl) (Reps.one (show Kd.M (Kd.int .u32) _ _ _ 883997877 [.int .u32 883997877] from rfl) (Reps.one (show Kd.M (Kd.int .u32) _ _ _ 958139571 [.int .u32 958139571] from rfl) (Reps.one (show Kd.M (Kd.int .u32) _ _ _ 1322822218 [.int .u32 1322822218] from rfl) (Reps.one (show Kd.M (Kd.int .u32) _ _ _ 1537002063 [.int .u32 1537002063] from rfl) (Reps.one (show Kd.M (Kd.int .u32) _ _ _ 1747873779 [.int .u32 1747873779] from rfl) (Reps.one (show Kd.M (Kd.int .u32) _ _ _ 1955562222 [.int .u32 1955562222] from rfl) (Reps.one (show Kd.M (Kd.int .u32) _ _ _ 2024104815 [.int .u32 2024104815] from rfl) (Reps.one (show Kd.M (Kd.int .u32) _ _ _ 2227730452 [.int .u32 2227730452] from rfl) (Reps.one (show Kd.M (Kd.int .u32) _ _ _ 2361852424 [.int .u32 2361852424] from rfl) (Reps.one (show Kd.M (Kd.int .u32) _ _ _ 2428436474 [.int .u32 2428436474] from rfl) (Reps.one (show Kd.M (Kd.int .u32) _ _ _ 2756734187 [.int .u32 2756734187] from rfl) (Reps.one (show Kd.M (Kd.int .u32) _ _ _ 3204031479 [.int .u32 3204031479] from rfl) (Reps.one (show Kd.M (Kd.int .u32) _ _ _ 3329325298 [.int .u32 3329325298] from rfl) (Reps.none _ _)))))))))))))))))))))))))))))))))))))))))))))))))))))))))))))))))); intro v1270002 w1 ho2 hb hg_ hnew_; clear hg_ hnew_; (first | rw [← Ny1270001.out] at ho2 | (simp only [Int.reduceToNat] at ho2; rw [← Ny1270001.out] at ho2)); have n0_ := Aside0.mk (Kd.R_lower ho2 (below_size zq_0)); have n1_ := Aside0.mk (below_step zq_0 hb); clear HB; have HO1270003 := n0_; have HB := n1_; clear n0_ n1_; clear hb ho2))
 go_ret
 exact ⟨_, by first | rfl | (simp [errW_none, errW_some] <;> rfl) | (simp [*, errW_none, errW_some] <;> rfl), by (with_reducible repeat (first | apply Kd.R_alloc | apply Kd.R_drewN | apply Kd.R_drew)); exact HO1270003.out, by repeat (first | (with_reducible first | exact HB.out | apply below_alloc | apply pw_below_drewN | apply below_drew1) | exact HB.out)⟩
end Go.Proofs.YtonbmghgbblifaaDoor.Z
end
section
namespace Go.Proofs.YtonbmghgbblifaaDoor
open RowKit
set_option linter.all false
theorem ret_bool {a b : Bool} (h : a = b) : Ending.returned (.bool a) = .returned (.bool b) := by rw [h]
theorem ret_str {a b : ByteArray} (h : a = b) : Ending.returned (.string a) = .returned (.string b) := by rw [h]
theorem bcell {W w1 : World} (hb : Below W.heap.size W w1) : (∀ b o, b < W.heap.size → w1.cell? ⟨b, o, none⟩ = W.cell? ⟨b, o, none⟩) ∧ (∀ b o, b < W.heap.size → w1.frozen? ⟨b, o, none⟩ = W.frozen? ⟨b, o, none⟩) :=
 ⟨fun b o h => hb.cell (p := ⟨b, o, none⟩) h, fun b o h => hb.frozen (p := ⟨b, o, none⟩) h⟩
theorem below_new2 {a w : World} (h : Below a.heap.size a w) (o : Obj) : Below a.heap.size a (w.alloc o) := h.alloc h.size o
theorem bdrewN {B : Nat} {a w : World} (h : Below B a w) (n : Nat) : Below B a (w.drewN n) := ⟨h.os, h.tape, h.output, h.size, h.block⟩
theorem lt1 (n : Nat) : n < n + 1 + 1 := by omega
theorem lt2 (n : Nat) : n < n + 1 + 1 + 1 := by omega
theorem lt3 (n : Nat) : n + 1 < n + 1 + 1 + 1 := by omega
attribute [go_sem] lt1 lt2 lt3
theorem cellB {u w1 : World} {p : Addr} {v : Value} (hb : Below u.heap.size u w1) (h : u.cell? p = some v) : w1.cell? p = some v := (hb.cell (World.block_lt_of_cell? _ _ h)).trans h
theorem held4B {u w1 : World} {p q r t : Addr} {a b c d : Value} (hb : Below u.heap.size u w1) (h : u.cell? p = some a ∧ u.cell? q = some b ∧ u.cell? r = some c ∧ u.cell? t = some d) : w1.cell? p = some a ∧ w1.cell? q = some b ∧ w1.cell? r = some c ∧ w1.cell? t = some d := ⟨cellB hb h.1, cellB hb h.2.1, cellB hb h.2.2.1, cellB hb h.2.2.2⟩
theorem below_then {a w w' : World} (h : Below a.heap.size a w) (k : Below w.heap.size w w') : Below a.heap.size a w' := h.trans (k.mono h.size)
theorem str_eq (s t : ByteArray) : (s.toList == t.toList) = decide (s = t) := by
 rw [Bool.eq_iff_iff]; simp only [beq_iff_eq, decide_eq_true_eq]; rw [ByteArray.toList_eq, ByteArray.toList_eq]
 constructor
 ·intro h; exact ByteArray.ext (Array.toList_inj.mp h)
 ·intro h; rw [h]
end Go.Proofs.YtonbmghgbblifaaDoor
end
section
namespace Go.Proofs.YtonbmghgbblifaaDoor.Z
open RowKit YtonbmghgbblifaaDoor YtonbmghgbblifaaDoorW.PrintWords YtonbmghgbblifaaDoorW.PrintLast
set_option linter.all false
theorem w64 {x : Int} (h0 : -9223372036854775808 ≤ x) (h1 : x ≤ 9223372036854775807) : wrap64 x = x := by unfold wrap64; omega
def turn (x n : Int) : Int := Go.bits .or .u32 (shr .u32 x n) (shl .u32 x (32 - n))
theorem wrapU64 {x : Int} (h0 : 0 ≤ x) (h1 : x < 18446744073709551616) : IntKind.u64.wrap x = x := by
 simp [IntKind.wrap, IntKind.bits, IntKind.signed]; omega
theorem l1Turn_f (x n : Int) (h0 : 0 ≤ n) (h1 : n ≤ 32) : spec_l1Turn.f x n = some (turn x n) := by
 unfold spec_l1Turn.f turn; rw [wrapU64 h0 (by omega), w64 (by omega) (by omega), wrapU64 (by omega) (by omega), if_pos h0, if_pos (by omega)]
theorem or_comm32 (a b : Int) : Go.bits .or .u32 a b = Go.bits .or .u32 b a := by
 show IntKind.u32.wrap (((BitVec.ofInt 32 a ||| BitVec.ofInt 32 b).toNat : Nat) : Int) = IntKind.u32.wrap (((BitVec.ofInt 32 b ||| BitVec.ofInt 32 a).toNat : Nat) : Int); rw [BitVec.or_comm]
theorem rot_f (x : Int) (n : Nat) (h : n ∈ [2, 6, 7, 11, 13, 17, 18, 19, 22, 25]) : bits_RotateLeft32.f x (-(n : Int)) = some (turn x n) := by
 have key : ∀ n ∈ [2, 6, 7, 11, 13, 17, 18, 19, 22, 25], Go.bits .and .u64 (IntKind.u64.wrap (-((n : Nat) : Int))) 31 = 32 - (n : Int) ∧ IntKind.u64.wrap (32 - (32 - (n : Int))) = n ∧ 0 ≤ 32 - (n : Int) := by decide
 obtain ⟨k1, k2, k3⟩ := key n h; unfold bits_RotateLeft32.f turn; rw [k1, k2, if_pos k3, if_pos (by omega), or_comm32]
def rdN (l : List Int) (i : Nat) : Int := l.getD i 0
theorem rd_nat (l : List Int) (i : Nat) : rd l (i : Int) = rdN l i := rfl
def wordP (b : List Int) (i : Nat) : Int := Go.bits .or .u32 (Go.bits .or .u32 (Go.bits .or .u32 (((rdN b (4 * i) % 4294967296) * 16777216) % 4294967296) (((rdN b (4 * i + 1) % 4294967296) * 65536) % 4294967296)) (((rdN b (4 * i + 2) % 4294967296) * 256) % 4294967296)) (rdN b (4 * i + 3) % 4294967296)
def nextP (w : List Int) (n : Nat) : Int := ((((((rdN w (n - 16)) + (Go.bits .xor .u32 (Go.bits .xor .u32 (turn (rdN w (n - 15)) 7) (turn (rdN w (n - 15)) 18)) ((rdN w (n - 15)) / 8))) % 4294967296) + (rdN w (n - 7))) % 4294967296) + (Go.bits .xor .u32 (Go.bits .xor .u32 (turn (rdN w (n - 2)) 17) (turn (rdN w (n - 2)) 19)) ((rdN w (n - 2)) / 1024))) % 4294967296
def schedP (b : List Int) : Nat → List Int
 | 0 => []
 | n + 1 => schedP b n ++ [if n < 16 then wordP b n else nextP (schedP b n) n]
theorem schedP_length (b : List Int) : ∀ n, (schedP b n).length = n
 | 0 => rfl
 | n + 1 => by rw [schedP, List.length_append, schedP_length b n]; rfl
def blockAt (m : List Int) (fr : Nat) : List Int := (m.drop fr).take 64
theorem rd_blockAt (m : List Int) (fr j : Nat) (h : j < 64) : rdN (blockAt m fr) j = rdN m (fr + j) := by
 unfold rdN blockAt; rw [List.getD_eq_getElem?_getD, List.getD_eq_getElem?_getD, List.getElem?_take, if_pos h, List.getElem?_drop]
theorem sched_l1 (b : List Int) : ∀ (d n k : Nat), n + d = 64 → 16 ≤ n → d < k → spec_l1Schedule.l1 k (schedP b n) (n : Int) = some (schedP b 64) := by
 intro d
 induction d with
 | zero =>
  intro n k hn h16 hk; obtain ⟨k, rfl⟩ : ∃ j, k = j + 1 := ⟨k - 1, by omega⟩
  obtain rfl : n = 64 := by omega
  simp only [spec_l1Schedule.l1]; rw [if_neg (by omega)]
 | succ d ih =>
  intro n k hn h16 hk; obtain ⟨k, rfl⟩ : ∃ j, k = j + 1 := ⟨k - 1, by omega⟩
  have hl := schedP_length b n; simp only [spec_l1Schedule.l1]; have e15 : wrap64 ((n : Int) - 15) = ((n - 15 : Nat) : Int) := by rw [w64 (by omega) (by omega)]; omega
  have e2 : wrap64 ((n : Int) - 2) = ((n - 2 : Nat) : Int) := by rw [w64 (by omega) (by omega)]; omega
  have e16 : wrap64 ((n : Int) - 16) = ((n - 16 : Nat) : Int) := by rw [w64 (by omega) (by omega)]; omega
  have e7 : wrap64 ((n : Int) - 7) = ((n - 7 : Nat) : Int) := by rw [w64 (by omega) (by omega)]; omega
  have e1 : wrap64 ((n : Int) + 1) = ((n + 1 : Nat) : Int) := by rw [w64 (by omega) (by omega)]; omega
  rw [e15, e2, e16, e7, e1, hl]; clear e15 e2 e16 e7 e1; simp only [rd_nat]; rw [if_pos (by omega), if_pos (by omega), if_pos (by omega), if_pos (by omega), if_pos (by omega)]; rw [l1Turn_f _ _ (by omega) (by omega), l1Turn_f _ _ (by omega) (by omega), l1Turn_f _ _ (by omega) (by omega), l1Turn_f _ _ (by omega) (by omega)]; simp only [Option.bind_some]; rw [if_pos (by omega), if_pos (by omega), if_pos (by omega), if_pos (by omega), if_pos (by omega)]; have hs : schedP b (n + 1) = schedP b n ++ [nextP (schedP b n) n] := by rw [schedP, if_neg (by omega)]
  have := ih (n + 1) k (by omega) (by omega) (by omega); rw [hs] at this; exact this
theorem sched_l0 (m : List Int) (fr : Nat) (hm : fr + 64 ≤ m.length) (hb : m.length ≤ 1099511627776) : ∀ (d n k : Nat), n + d = 16 → d + 50 < k → spec_l1Schedule.l0 k m (fr : Int) (schedP (blockAt m fr) n) (n : Int) = some (schedP (blockAt m fr) 64) := by
 intro d
 induction d with
 | zero =>
  intro n k hn hk; obtain ⟨k, rfl⟩ : ∃ j, k = j + 1 := ⟨k - 1, by omega⟩
  obtain rfl : n = 16 := by omega
  simp only [spec_l1Schedule.l0]; rw [if_neg (by omega)]; exact sched_l1 _ 48 16 k (by omega) (by omega) (by omega)
 | succ d ih =>
  intro n k hn hk; obtain ⟨k, rfl⟩ : ∃ j, k = j + 1 := ⟨k - 1, by omega⟩
  have hl := schedP_length (blockAt m fr) n; simp only [spec_l1Schedule.l0]; have e4 : wrap64 (4 * (n : Int)) = ((4 * n : Nat) : Int) := by rw [w64 (by omega) (by omega)]; omega
  rw [e4]; have f0 : wrap64 ((fr : Int) + ((4 * n : Nat) : Int)) = ((fr + 4 * n : Nat) : Int) := by rw [w64 (by omega) (by omega)]; omega
  rw [f0]; have f1 : wrap64 (((fr + 4 * n : Nat) : Int) + 1) = ((fr + 4 * n + 1 : Nat) : Int) := by rw [w64 (by omega) (by omega)]; omega
  have f2 : wrap64 (((fr + 4 * n : Nat) : Int) + 2) = ((fr + 4 * n + 2 : Nat) : Int) := by rw [w64 (by omega) (by omega)]; omega
  have f3 : wrap64 (((fr + 4 * n : Nat) : Int) + 3) = ((fr + 4 * n + 3 : Nat) : Int) := by rw [w64 (by omega) (by omega)]; omega
  have e1 : wrap64 ((n : Int) + 1) = ((n + 1 : Nat) : Int) := by rw [w64 (by omega) (by omega)]; omega
  rw [f1, f2, f3, e1, hl]; clear f0 f1 f2 f3 e1 e4; simp only [rd_nat]; rw [if_pos (by omega), if_pos (by omega), if_pos (by omega), if_pos (by omega), if_pos (by omega), if_pos (by omega), if_pos (by omega), if_pos (by omega), if_pos (by omega), if_pos (by omega)]; have hs : schedP (blockAt m fr) (n + 1) = schedP (blockAt m fr) n ++ [wordP (blockAt m fr) n] := by rw [schedP, if_pos (by omega)]
  have := ih (n + 1) k (by omega) (by omega); rw [hs, wordP, rd_blockAt _ _ _ (by omega), rd_blockAt _ _ _ (by omega), rd_blockAt _ _ _ (by omega), rd_blockAt _ _ _ (by omega), ← Nat.add_assoc, ← Nat.add_assoc, ← Nat.add_assoc] at this; exact this
theorem l1Schedule_f (m : List Int) (fr k : Nat) (hm : fr + 64 ≤ m.length) (hb : m.length ≤ 1099511627776) (hk : 70 < k) : spec_l1Schedule.f k m (fr : Int) = some (schedP (blockAt m fr) 64) := by
 unfold spec_l1Schedule.f; exact sched_l0 m fr hm hb 16 0 k rfl (by omega)
structure St where
 a : Int
 b : Int
 c : Int
 d : Int
 e : Int
 f : Int
 g : Int
 z : Int
def St.t1 (s : St) (k w : Int) : Int := (((((((s.z + (Go.bits .xor .u32 (Go.bits .xor .u32 (turn s.e 6) (turn s.e 11)) (turn s.e 25))) % 4294967296) + (Go.bits .xor .u32 (Go.bits .and .u32 s.e s.f) (Go.bits .and .u32 (Go.bits .xor .u32 IntKind.u32.max s.e) s.g))) % 4294967296) + k) % 4294967296) + w) % 4294967296
def St.s0 (s : St) : Int := Go.bits .xor .u32 (Go.bits .xor .u32 (turn s.a 2) (turn s.a 13)) (turn s.a 22)
def St.maj (s : St) : Int := Go.bits .xor .u32 (Go.bits .xor .u32 (Go.bits .and .u32 s.a s.b) (Go.bits .and .u32 s.a s.c)) (Go.bits .and .u32 s.b s.c)
def St.rnd (s : St) (k w : Int) : St := ⟨(s.t1 k w + (s.s0 + s.maj) % 4294967296) % 4294967296, s.a, s.b, s.c, (s.d + s.t1 k w) % 4294967296, s.e, s.f, s.g⟩
def kTab : List Int := (spec_l1K.f).getD []
theorem kTab_f : spec_l1K.f = some kTab := rfl
theorem kTab_length : kTab.length = 64 := by decide +kernel
def St.run (s : St) (W : List Int) : Nat → St
 | 0 => s
 | n + 1 => (s.run W n).rnd (rdN kTab n) (rdN W n)
def St.of (h : List Int) : St := ⟨rdN h 0, rdN h 1, rdN h 2, rdN h 3, rdN h 4, rdN h 5, rdN h 6, rdN h 7⟩
def St.list (s : St) : List Int := [s.a, s.b, s.c, s.d, s.e, s.f, s.g, s.z]
def compP (h b : List Int) : List Int :=
 let s := (St.of h).run (schedP b 64) 64
 [(rdN h 0 + s.a) % 4294967296, (rdN h 1 + s.b) % 4294967296, (rdN h 2 + s.c) % 4294967296, (rdN h 3 + s.d) % 4294967296, (rdN h 4 + s.e) % 4294967296, (rdN h 5 + s.f) % 4294967296, (rdN h 6 + s.g) % 4294967296, (rdN h 7 + s.z) % 4294967296]
theorem block_l0 (h W : List Int) (hh : h.length = 8) (hW : W.length = 64) : ∀ (d n k : Nat) (s : St), n + d = 64 → d < k → s = (St.of h).run W n →
  spec_l1Block.l0 k h kTab W s.a s.b s.c s.d s.e s.f s.g s.z (n : Int) = some (
   let s := (St.of h).run W 64
   [(rdN h 0 + s.a) % 4294967296, (rdN h 1 + s.b) % 4294967296, (rdN h 2 + s.c) % 4294967296, (rdN h 3 + s.d) % 4294967296, (rdN h 4 + s.e) % 4294967296, (rdN h 5 + s.f) % 4294967296, (rdN h 6 + s.g) % 4294967296, (rdN h 7 + s.z) % 4294967296]) := by
 intro d
 induction d with
 | zero =>
  intro n k s hn hk hs; obtain ⟨k, rfl⟩ : ∃ j, k = j + 1 := ⟨k - 1, by omega⟩
  obtain rfl : n = 64 := by omega
  simp only [spec_l1Block.l0]; rw [if_neg (by omega), hh]; rw [if_pos (by omega), if_pos (by omega), if_pos (by omega), if_pos (by omega), if_pos (by omega), if_pos (by omega), if_pos (by omega), if_pos (by omega), ← hs]; rfl
 | succ d ih =>
  intro n k s hn hk hs; obtain ⟨k, rfl⟩ : ∃ j, k = j + 1 := ⟨k - 1, by omega⟩
  simp only [spec_l1Block.l0]; have e1 : wrap64 ((n : Int) + 1) = ((n + 1 : Nat) : Int) := by rw [w64 (by omega) (by omega)]; omega
  rw [e1]; clear e1; rw [if_pos (by omega)]; rw [l1Turn_f _ _ (by omega) (by omega), l1Turn_f _ _ (by omega) (by omega), l1Turn_f _ _ (by omega) (by omega), l1Turn_f _ _ (by omega) (by omega), l1Turn_f _ _ (by omega) (by omega), l1Turn_f _ _ (by omega) (by omega)]; simp only [Option.bind_some, rd_nat]; rw [if_pos (by omega), if_pos (by rw [kTab_length]; omega), if_pos (by rw [hW]; omega)]; have hr : s.rnd (rdN kTab n) (rdN W n) = (St.of h).run W (n + 1) := by rw [St.run, ← hs]
  exact ih (n + 1) k (s.rnd (rdN kTab n) (rdN W n)) (by omega) (by omega) hr
theorem l1Block_f (h m : List Int) (fr k : Nat) (hh : h.length = 8) (hm : fr + 64 ≤ m.length) (hb : m.length ≤ 1099511627776) (hk : 70 < k) :
  spec_l1Block.f k h kTab m (fr : Int) = some (compP h (blockAt m fr)) := by
 unfold spec_l1Block.f; rw [l1Schedule_f m fr k hm hb hk]; simp only [Option.bind_some]; rw [hh]; rw [if_pos (by omega), if_pos (by omega), if_pos (by omega), if_pos (by omega), if_pos (by omega), if_pos (by omega), if_pos (by omega), if_pos (by omega)]; exact block_l0 h _ hh (schedP_length _ _) 64 0 k (St.of h) rfl (by omega) rfl
end Go.Proofs.YtonbmghgbblifaaDoor.Z
end
section
namespace Go.Proofs.YtonbmghgbblifaaDoor.Z
open RowKit YtonbmghgbblifaaDoor YtonbmghgbblifaaDoorW.PrintWords YtonbmghgbblifaaDoorW.PrintLast
set_option linter.all false
def zerosN (n : Nat) : Nat := (119 - n % 64) % 64
theorem zerosN_lt (n : Nat) : zerosN n < 64 := by unfold zerosN; omega
theorem zerosN_mod (n : Nat) : (n + 1 + zerosN n) % 64 = 56 := by unfold zerosN; omega
def lenByte (n j : Nat) : UInt8 := UInt8.ofNat (8 * n / 2 ^ (8 * (7 - j)))
def lenB (n m : Nat) : List UInt8 := (List.range m).map (lenByte n)
theorem lenB_succ (n m : Nat) : lenB n (m + 1) = lenB n m ++ [lenByte n m] := by simp [lenB, List.range_succ]
theorem lenB_length (n m : Nat) : (lenB n m).length = m := by simp [lenB]
def padZ (l : List UInt8) (j : Nat) : List UInt8 := l ++ [128] ++ List.replicate j 0
theorem padZ_length (l : List UInt8) (j : Nat) : (padZ l j).length = l.length + 1 + j := by simp [padZ]; omega
theorem padZ_succ (l : List UInt8) (j : Nat) : padZ l (j + 1) = padZ l j ++ [0] := by simp [padZ, List.replicate_succ']
def padP (l : List UInt8) : List UInt8 := padZ l (zerosN l.length) ++ lenB l.length 8
theorem padP_length (l : List UInt8) : (padP l).length = 64 * ((l.length + 72) / 64) := by
 rw [padP, List.length_append, padZ_length, lenB_length]; unfold zerosN; omega
theorem infoU8 : (Tryd.prog.info? 5).map (fun i => (i.zero, i.size, i.bytes)) = some (some (.int .u8 0), 1, 1) := by kernel_rfl
theorem len_byte_eq (n i : Nat) (hi : i ≤ 7) (hn : n ≤ 4294967296) : (((8 * n : Nat) : Int) / 2 ^ (8 * i)) % 256 = ((lenByte n (7 - i)).toNat : Int) := by
 unfold lenByte; rw [show 7 - (7 - i) = i by omega, UInt8.toNat_ofNat']; rw [show ((2 : Int) ^ (8 * i)) = ((2 ^ (8 * i) : Nat) : Int) by rw [Int.natCast_pow]; rfl]; rw [← Int.natCast_ediv]; generalize 8 * n / 2 ^ (8 * i) = q; omega
set_option maxHeartbeats 1000000 in
theorem padded_any (s : ByteArray) (w : World) (hs : s.size ≤ 4294967296) :
  Calls Tryd.prog 128 #[.string s] w fun e w' => ∃ v, e = .returned v ∧ OwnB w' w.heap.size v (padP s.data.toList) ∧ Below w.heap.size w w' := by
 have hl : s.data.toList.length = s.size := rfl; have hzl := zerosN_lt s.size; have hzm := zerosN_mod s.size; have HL := Lib.hid hl; clear hl; have HZM := Lib.hid hzm; clear hzm
 go_enter Tryd.func128, Tryd.ntmps128
 go_wp2_with (first | ((with_reducible refine gate_dst (N := 7) rfl ?_); refine wpList_bytes w.heap.size rfl 9 47 5 _ rfl Tryd.underlying9 Tryd.underlying47 Tryd.underlying5 s rfl (by first | assumption | (simp; omega) | omega) (by unfold maxLen; omega) ?_; rintro v_wb wb ho_wb hv_wb hb_wb; obtain ⟨hc_wb, hf_wb⟩ := bcell hb_wb; have hz_wb := hb_wb.size; (try simp only [World.size_alloc, World.size_setCell, World.size_drew] at hz_wb); (try simp only [World.size_alloc, World.size_setCell, World.size_drew] at hc_wb); (try simp only [World.size_alloc, World.size_setCell, World.size_drew] at hf_wb); skip) | ((with_reducible refine gate_dst (N := 10) rfl ?_); refine wpList_appB1 (w0 := wb) w.heap.size rfl _ _ 47 5 rfl Tryd.underlying47 infoU8 rfl 128 rfl rfl ho_wb (by have := HL.out; omega) (by omega) ?_; rintro v1 w1 ho1 hb1))
 go_loopw [3] (fun v wr => ∃ j : Nat, j ≤ zerosN s.size ∧ OwnB wr w.heap.size v (padZ s.data.toList j) ∧ Below w.heap.size w wr) (fun v _ => match v with | .slice _ n _ => s.size + 1 + zerosN s.size - n | _ => 0)
 case atStart => exact ⟨0, Nat.zero_le _, by simpa [padZ] using ho1, hb_wb.trans hb1⟩
 case round =>
  obtain ⟨j, hj, hO, hB⟩ := hrel; obtain ⟨A5, c5, rfl⟩ := hO.form; have hz := hB.size; have hpl := padZ_length s.data.toList j; rw [HL.out] at hpl; rw [hpl] at hO ⊢; have HPL := Lib.hid hpl; clear hpl
  by_cases hlt : j < zerosN s.size
  ·have hne : (((s.size : Int) + 1 + (j : Int)) % 64 != 56) = true := by rw [bne_iff_ne]; have := HZM.out; unfold zerosN at *; omega
   go_wp2_with ((with_reducible refine gate_dst (N := 17) rfl ?_); refine wpList_appB1 (w0 := wr) w.heap.size rfl _ _ 47 5 rfl Tryd.underlying47 infoU8 rfl 0 rfl rfl hO (by have := HPL.out; omega) (by omega) ?_; rintro v2 w2 ho2 hb2)
   obtain ⟨A6, c6, hv6⟩ := ho2.form; subst hv6
   go_roundw
   case rel => exact ⟨j + 1, by omega, by rw [padZ_succ]; exact ho2, hB.trans hb2⟩
   case measure => rw [List.length_append, HPL.out]; simp; omega
  ·obtain rfl : j = zerosN s.size := by omega
   have hne : (((s.size : Int) + 1 + (zerosN s.size : Int)) % 64 != 56) = false := by rw [bne_eq_false_iff_eq]; have := HZM.out; omega
   generalize hzz : zerosN s.size = zz at *; have HZZ := Lib.hid hzz; clear hzz
   go_wp2
   go_loopw [3, 5] (fun v i wr2 => ∃ m : Nat, m ≤ 8 ∧ i = .int .i64 (7 - (m : Int)) ∧ OwnB wr2 w.heap.size v (padZ s.data.toList zz ++ lenB s.size m) ∧ Below w.heap.size w wr2) (fun _ i _ => (intOf i + 1).toNat)
   case atStart => exact ⟨0, by omega, rfl, by simpa [lenB] using hO, hB⟩
   case round =>
    obtain ⟨m, hm, rfl, hO2, hB2⟩ := hrel; have hz2 := hB2.size; obtain ⟨A7, c7, rfl⟩ := hO2.form; have hl2 : (padZ s.data.toList zz ++ lenB s.size m).length = s.size + 1 + zz + m := by rw [List.length_append, HPL.out, lenB_length]
    rw [hl2] at hO2 ⊢; have HL2 := Lib.hid hl2; clear hl2
    by_cases h8 : m < 8
    ·have t0 : (0 : Int) ≤ 7 - (m : Int) := by omega
     have hbyte : (s.size : Int) * 8 / 2 ^ (8 * (7 - m)) % 256 = ((lenByte s.size m).toNat : Int) := by
      have := len_byte_eq s.size (7 - m) (by omega) hs; rw [show 7 - (7 - m) = m by omega, show ((8 * s.size : Nat) : Int) = (s.size : Int) * 8 by omega] at this; exact this
     go_wp2_with ((with_reducible refine gate_dst (N := 34) rfl ?_); refine wpList_appB1 (w0 := wr) w.heap.size rfl _ _ 47 5 rfl Tryd.underlying47 infoU8 rfl (lenByte s.size m) rfl rfl hO2 (by have := HL2.out; omega) (by omega) ?_; rintro v3 w3 ho3 hb3)
     obtain ⟨A8, c8, hv8⟩ := ho3.form; subst hv8; clear hbyte
     go_roundw
     case rel => exact ⟨m + 1, by omega, by go_num, by rw [lenB_succ, ← List.append_assoc]; exact ho3, hB2.trans hb3⟩
     case measure => simp [intOf]; omega
    ·obtain rfl : m = 8 := by omega
     go_wp2
     go_ret
     refine ⟨_, rfl, ?_, hB2⟩; have := HZZ.out; rw [padP, HL.out, this]; exact hO2
def ints (l : List UInt8) : List Int := l.map fun b => (b.toNat : Int)
theorem ints_length (l : List UInt8) : (ints l).length = l.length := by simp [ints]
def RB (w : World) (v : Value) (xs : List Int) : Prop := ∃ base l, OwnB w base v l ∧ xs = ints l
section
variable {w w1 : World} {v : Value} {xs : List Int}
theorem RB.below (h : RB w v xs) (hb : Below w.heap.size w w1) : RB w1 v xs := by
 obtain ⟨b, l, h1, h2⟩ := h; exact ⟨b, l, h1.below hb, h2⟩
theorem RB.alloc (h : RB w v xs) (o : Obj) : RB (w.alloc o) v xs := h.below (below_alloc (Below.refl _ _) o)
theorem RB.drew (h : RB w v xs) : RB w.drew v xs := h.below (below_drew (Below.refl _ _))
theorem RB.drewN (h : RB w v xs) (m : Nat) : RB (w.drewN m) v xs := h.below (pw_below_drewN (Below.refl _ _) m)
theorem RB.lower {a b : Nat} (h : RB w v xs) (_ : a ≤ b) : RB w v xs := h
theorem RB.slice (h : RB w v xs) : ∃ A c, v = .slice A xs.length c := by
 obtain ⟨b, l, h1, rfl⟩ := h; obtain ⟨A, c, rfl⟩ := h1.form; exact ⟨A, c, by rw [ints_length]⟩
theorem RB.reads {A : Option Addr} {n c : Nat} (h : RB w (.slice A n c) xs) : n = xs.length ∧ n ≤ c ∧ Kd.C (Kd.int .u8) w A xs.length xs := by
 obtain ⟨b, l, h1, rfl⟩ := h
 rcases h1.2 with ⟨hv, h0⟩ | ⟨g, cap, hv, h1', h2, h3, h4, h5, h6⟩
 ·cases hv
  rw [ints_length]; refine ⟨by omega, Nat.le_refl _, ?_⟩; have : l = [] := List.eq_nil_of_length_eq_zero h0; subst this; exact Kd.C_of_reads (d := (0 : Int)) (h1 := fun _ => rfl) (show ReadsInt w .u8 none 0 [] from ⟨rfl, by omega, fun h => by omega⟩)
 ·cases hv
  rw [ints_length]; refine ⟨rfl, h3, ?_⟩; refine Kd.C_of_reads (d := (0 : Int)) (h1 := fun _ => rfl) (show ReadsInt w .u8 (some ⟨g, 0, none⟩) l.length (ints l) from ⟨ints_length l, by unfold maxLen at h4; omega, fun _ => ⟨_, rfl, fun i hi => ?_⟩⟩); have h5' := h5 i (by omega); rw [bcs_get l i hi] at h5'; have e : (⟨g, 0, none⟩ : Addr).add i = ⟨g, i, none⟩ := by simp [Addr.add]; omega
  rw [e, h5']; simp [ints, List.getD_eq_getElem?_getD, hi]
end
def spec_l1Padded.f (a0 : ByteArray) : Option (List Int) := if a0.size ≤ 4294967296 then some (ints (padP a0.data.toList)) else none
theorem spec_l1Padded.calls (a0 : ByteArray) (r : List Int) (w : World) (h : spec_l1Padded.f a0 = some r) :
  Calls Tryd.prog 128 #[.string a0] w fun e w' => ∃ v0_ : Value, e = .returned (v0_) ∧ RB w' v0_ r ∧ Below w.heap.size w w' := by
 unfold spec_l1Padded.f at h
 split at h
 ·obtain rfl := Option.some.inj h; refine (padded_any a0 w (by assumption)).mono ?_; rintro e w' ⟨v, rfl, ho, hb⟩; exact ⟨v, rfl, ⟨_, _, ho, rfl⟩, hb⟩
 ·cases h
end Go.Proofs.YtonbmghgbblifaaDoor.Z
end
section
namespace Go.Proofs.YtonbmghgbblifaaDoor.Z
open RowKit YtonbmghgbblifaaDoorW.PrintWords YtonbmghgbblifaaDoorW.PrintLast YtonbmghgbblifaaDoorW.PrintMore
attribute [local go_sem] max2_int min2_int max_two min_two max_three min_three max_four min_four
set_option linter.all false
mutual
def spec_Sha256.l0 : Nat → List Int → List Int → List Int → Int → Option (ByteArray)
 | 0, _, _, _, _ => none
 | k + 1, x3, x4, x5, x6 => if x6 < (x5.length : Int) then ((spec_l1Block.f k x3 x4 x5 x6).bind fun t880010 => (spec_Sha256.l0 k t880010 x4 x5 (wrap64 (x6 + 64)))) else (spec_Sha256.l1 k x3 (([] : List Int)) 0)
def spec_Sha256.l1 : Nat → List Int → List Int → Int → Option (ByteArray)
 | 0, _, _, _ => none
 | k + 1, x3, x7, x8 => if x8 < 8 then (if 0 ≤ x8 then (if x8 < (x3.length : Int) then ((some (([((rd x3 x8) / 16777216) % 256, ((rd x3 x8) / 65536) % 256, ((rd x3 x8) / 256) % 256, (rd x3 x8) % 256] : List Int) : List Int)).bind fun y880020 => (if x7.length + y880020.length < 140737488355328 then (spec_Sha256.l1 k x3 (x7 ++ y880020) (wrap64 (x8 + 1))) else (none))) else (none)) else (none)) else (some (strOfNums x7))
end
def spec_Sha256.f (k : Nat) (a0 : ByteArray) : Option (ByteArray) := (spec_l1K.f).bind fun t880004 => ((spec_l1Padded.f a0).bind fun t880007 => (spec_Sha256.l0 k (([1779033703, 3144134277, 1013904242, 2773480762, 1359893119, 2600822924, 528734635, 1541459225] : List Int)) t880004 t880007 0))
def spec_Sha256.T12 : Bool × List (List Nat × List Nat) := (true, [([], []), ([], []), ([], []), ([1, 2], [1, 2]), ([3], [3]), ([4], [4]), ([5], [5]), ([], []), ([], []), ([7, 8], [7, 8]), ([9], [9]), ([10], [10]), ([11], [11]), ([], []), ([], []), ([13, 14], [13, 14]), ([15], [15]), ([16], [16]), ([17], [17]), ([], []), ([], []), ([19, 20], [19, 20]), ([21], [21]), ([22], [22]), ([6, 12, 18, 23], [6, 12, 18, 23]), ([0, 24], [0, 24]), ([25, 25, 0, 1, 2, 3, 4, 5, 6, 7, 8, 9, 10, 11, 12, 13, 14, 15, 16, 17, 18, 19, 20, 21, 22, 23, 24, 25], [0, 25])])
def spec_Sha256.B12 : List Nat := [0, 0, 0, 6, 14, 30, 62, 0, 0, 384, 896, 1920, 3968, 0, 0, 24576, 57344, 122880, 253952, 0, 0, 1572864, 3670016, 7864320, 16777214, 33554431, 67108863]
theorem spec_Sha256.tab12 : rtab .any (opsOf Tryd.f88 12) = spec_Sha256.T12 := by kernel_rfl
theorem spec_Sha256.bits12 : waitsOk spec_Sha256.T12.2 spec_Sha256.B12 = true := by kernel_rfl
set_option maxHeartbeats 8000000 in
set_option maxRecDepth 100000 in
theorem spec_Sha256.calls (k : Nat) (a0 : ByteArray) (r : ByteArray) (w : World) (h : spec_Sha256.f k a0 = some r) :
  Calls Tryd.prog 88 #[.string a0] w fun e w' => e = .returned (.string r) ∧ Below w.heap.size w w' := by
 have HB := Aside0.mk (Below.refl w.heap.size w); have H : ((spec_l1K.f).bind fun t880004 => ((spec_l1Padded.f a0).bind fun t880007 => (spec_Sha256.l0 k (([1779033703, 3144134277, 1013904242, 2773480762, 1359893119, 2600822924, 528734635, 1541459225] : List Int)) t880004 t880007 0))) = some r := h; clear h; obtain ⟨y880001, hy880001⟩ : ∃ y_ : List Int, y_ = (([1779033703, 3144134277, 1013904242, 2773480762, 1359893119, 2600822924, 528734635, 1541459225] : List Int)) := ⟨_, rfl⟩
 replace H : ((spec_l1K.f).bind fun t880004 => ((spec_l1Padded.f a0).bind fun t880007 => (spec_Sha256.l0 k y880001 t880004 t880007 0))) = some r := by first | (rw [hy880001]; with_reducible exact H) | (have H2_ := (Option.bind_some _ _).symm.trans H; rw [hy880001]; with_reducible exact H2_) | (have H2_ := (Option.bind_some _ _).symm.trans H; with_reducible exact H2_) | with_reducible exact H | (rw [hy880001]; exact H) | exact H
 have Ny880001 := Aside0.mk hy880001; clear hy880001; replace H := Option.bind_eq_some_iff.mp H; obtain ⟨t880004, A20, H⟩ := H; (try dsimp only at H); have A2 := Aside0.mk A20; clear A20; replace H := Option.bind_eq_some_iff.mp H; obtain ⟨t880007, A30, H⟩ := H; (try dsimp only at H); have A3 := Aside0.mk A30; clear A30; have H' := Aside0.mk H; clear H
 go_enter Tryd.func88, Tryd.ntmps88
 go_wp2_with (first | ((with_reducible refine gate_dst (N := 9) rfl ?_); refine Kd.R_lit (Kd.int .u32) _ 129 ?hg (N := 9) ?hd (xs := ([1779033703, 3144134277, 1013904242, 2773480762, 1359893119, 2600822924, 528734635, 1541459225] : List Int)) (inner := [.int .u32 1779033703, .int .u32 3144134277, .int .u32 1013904242, .int .u32 2773480762, .int .u32 1359893119, .int .u32 2600822924, .int .u32 528734635, .int .u32 1541459225]) (ok := fun _ => True) (okp := fun _ => True) ?hr ?hp (fun _ hk => hk) trivial (Below.refl _ _) (Nat.le_refl _) (by simp) ?_; (case hd => rfl); (case hg => rfl); (case hr => exact zq_14); (case hp => exact (Reps.one (show Kd.M (Kd.int .u32) _ _ _ 1779033703 [.int .u32 1779033703] from rfl) (Reps.one (show Kd.M (Kd.int .u32) _ _ _ 3144134277 [.int .u32 3144134277] from rfl) (Reps.one (show Kd.M (Kd.int .u32) _ _ _ 1013904242 [.int .u32 1013904242] from rfl) (Reps.one (show Kd.M (Kd.int .u32) _ _ _ 2773480762 [.int .u32 2773480762] from rfl) (Reps.one (show Kd.M (Kd.int .u32) _ _ _ 1359893119 [.int .u32 1359893119] from rfl) (Reps.one (show Kd.M (Kd.int .u32) _ _ _ 2600822924 [.int .u32 2600822924] from rfl) (Reps.one (show Kd.M (Kd.int .u32) _ _ _ 528734635 [.int .u32 528734635] from rfl) (Reps.one (show Kd.M (Kd.int .u32) _ _ _ 1541459225 [.int .u32 1541459225] from rfl) (Reps.none _ _)))))))))); intro v880002 w4 ho5 hb hg_ hnew_; clear hg_ hnew_; (first | rw [← Ny880001.out] at ho5 | (simp only [Int.reduceToNat] at ho5; rw [← Ny880001.out] at ho5)); have n0_ := Aside0.mk (Kd.R_lower ho5 (below_size zq_0)); have n1_ := Aside0.mk (below_step zq_0 hb); clear HB; have HO880003 := n0_; have HB := n1_; clear n0_ n1_; clear hb ho5) | ((with_reducible refine gate_callee (f := 127) rfl ?_); refine goesL_ (some 10) rfl rfl Tryd.func127 (by kernel_rfl) rfl #[] rfl zq_1 ?_; (with_reducible refine (spec_l1K.calls  t880004 _ A2.out).mono ?_); rintro e w6 ⟨v880005, rfl, ho0, hb⟩; refine ⟨_, rfl, ?_⟩; have n0_ := Aside0.mk (Kd.R_elder' zq_50 (Kd.R_base ho0) hb); have n1_ := Aside0.mk (Kd.R_lower (Kd.R_new' ho0 (Kd.R_lt zq_50)) (below_size zq_0)); have n2_ := Aside0.mk (below_step zq_0 hb); clear HO880003; clear HB; have HO880003 := n0_; have HO880006 := n1_; have HB := n2_; clear n0_ n1_ n2_; (try clear hb); (try clear hb2); (try clear hk); (try clear hi); (try clear ho0)) | ((with_reducible refine gate_callee (f := 128) rfl ?_); refine goesL_ (some 12) rfl rfl Tryd.func128 (by kernel_rfl) rfl #[.string a0] rfl zq_1 ?_; (with_reducible refine (spec_l1Padded.calls a0 t880007 _ A3.out).mono ?_); rintro e w7 ⟨v880008, rfl, ho0, hb⟩; refine ⟨_, rfl, ?_⟩; have n0_ := Aside0.mk (Kd.R_below zq_50 hb); have n1_ := Aside0.mk (Kd.R_below (by (with_reducible repeat (first | apply RB.alloc | apply RB.drewN | apply RB.drew | apply Kd.R_alloc | apply Kd.R_drewN | apply Kd.R_drew)); exact HO880006.out) hb); have n2_ := Aside0.mk (RB.lower ho0 (below_size zq_0)); have n3_ := Aside0.mk (below_step zq_0 hb); clear HO880003; clear HO880006; clear HB; have HO880003 := n0_; have HO880006 := n1_; have HO880009 := n2_; have HB := n3_; clear n0_ n1_ n2_ n3_; (try clear hb); (try clear hb2); (try clear hk); (try clear hi); (try clear ho0)))
 go_loopg [3, 6] k (fun kq v3 v6 w' => ∃ (x3_1 : List Int) (x6_1 : Int), v6 = .int .i64 x6_1 ∧ Aside0 (spec_Sha256.l0 kq x3_1 t880004 t880007 x6_1 = some r) ∧ Aside0 (kq ≤ k) ∧ Aside0 (Kd.R (Kd.int .u32) 129 w' w.heap.size (fun k_ => some k_ ≠ (v880005 : Value).ownBlock) v3 x3_1) ∧ Aside0 (Kd.R (Kd.int .u32) 129 w' w.heap.size (fun k_ => some k_ ≠ (v3 : Value).ownBlock) v880005 t880004) ∧ Aside0 (RB w' v880008 t880007) ∧ Aside0 (Below w.heap.size w w'))
 case atStart => exact ⟨(y880001), (0), zq_13, H', ⟨Nat.le_refl _⟩, ⟨by (with_reducible repeat (first | apply RB.alloc | apply RB.drewN | apply RB.drew | apply Kd.R_alloc | apply Kd.R_drewN | apply Kd.R_drew)); exact Kd.R_mono HO880003.out (fun _ hk => hk.2)⟩, ⟨by (with_reducible repeat (first | apply RB.alloc | apply RB.drewN | apply RB.drew | apply Kd.R_alloc | apply Kd.R_drewN | apply Kd.R_drew)); exact Kd.R_mono HO880006.out (fun _ hk => hk.2)⟩, ⟨by (with_reducible repeat (first | apply RB.alloc | apply RB.drewN | apply RB.drew | apply Kd.R_alloc | apply Kd.R_drewN | apply Kd.R_drew)); exact HO880009.out⟩, ⟨by repeat (first | (with_reducible first | exact HB.out | apply below_alloc | apply pw_below_drewN | apply below_drew1) | exact HB.out)⟩⟩
 case round =>
  clear H'
  try clear c1
  try clear p2
  obtain ⟨x3_1, x6_1, rfl, HA, HK1, HO_3, HO_4, HO_5, HB⟩ := hrel
  cases gk with
  | zero => exact absurd HA.out (by simp [spec_Sha256.l0])
  | succ k1 =>
   have H := HA.out; clear HA; simp only [spec_Sha256.l0] at H
   by_cases c8 : x6_1 < (t880007.length : Int)
   ·rw [if_pos c8] at H; have c8b0 : decide (x6_1 < (t880007.length : Int)) = true := decide_eq_true c8; clear c8; replace H := Option.bind_eq_some_iff.mp H; obtain ⟨t880010, A90, H⟩ := H; (try dsimp only at H); have A9 := Aside0.mk A90; clear A90; have H' := Aside0.mk H; clear H; obtain ⟨Ao10, co10, eo10⟩ := RB.slice HO_5.out; subst eo10; obtain ⟨Ao11, co11, eo11⟩ := Kd.R_slice HO_3.out; subst eo11; obtain ⟨Ao12, co12, eo12⟩ := Kd.R_slice HO_4.out; subst eo12
    go_wp2_with (first | ((with_reducible refine gate_callee (f := 129) rfl ?_); refine goesL_ (some 23) rfl rfl Tryd.func129 (by kernel_rfl) rfl #[.slice Ao11 x3_1.length co11, .slice Ao12 t880004.length co12, .slice Ao10 t880007.length co10, .int .i64 x6_1] rfl zq_1 ?_; (with_reducible refine (spec_l1Block.calls k1 _ _ x3_1 _ _ t880004 _ _ t880007 x6_1 t880010 _ ?side1 ?side2 ?side3 ?side4 ?side5 ?side6 A9.out).mono ?_); (case side1 => repeat (first | exact (Kd.R_reads' HO_3.out).2.2 | (with_reducible refine Kd.C_alloc ?_ _) | (with_reducible refine Kd.C_drewN ?_ _) | (with_reducible refine Kd.C_drew ?_))); (case side2 => exact (Kd.R_reads' HO_3.out).2.1); (case side3 => repeat (first | exact (Kd.R_reads' HO_4.out).2.2 | (with_reducible refine Kd.C_alloc ?_ _) | (with_reducible refine Kd.C_drewN ?_ _) | (with_reducible refine Kd.C_drew ?_))); (case side4 => exact (Kd.R_reads' HO_4.out).2.1); (case side5 => repeat (first | exact (RB.reads HO_5.out).2.2 | (with_reducible refine Kd.C_alloc ?_ _) | (with_reducible refine Kd.C_drewN ?_ _) | (with_reducible refine Kd.C_drew ?_))); (case side6 => exact (RB.reads HO_5.out).2.1); rintro e w13 ⟨v880011, rfl, ho0, hb⟩; refine ⟨_, rfl, ?_⟩; have n0_ := Aside0.mk (Kd.R_elder' zq_36 (Kd.R_base ho0) hb); have n1_ := Aside0.mk (Kd.R_elder' zq_52 (Kd.R_base ho0) hb); have n2_ := Aside0.mk (RB.below (by (with_reducible repeat (first | apply RB.alloc | apply RB.drewN | apply RB.drew | apply Kd.R_alloc | apply Kd.R_drewN | apply Kd.R_drew)); exact HO_5.out) hb); have n3_ := Aside0.mk (Kd.R_lower (Kd.R_new' (Kd.R_new' ho0 (Kd.R_lt zq_36)) (Kd.R_lt zq_52)) (below_size zq_0)); have n4_ := Aside0.mk (below_step zq_0 hb); clear HO_3; clear HO_4; clear HO_5; clear HB; have HO_3 := n0_; have HO_4 := n1_; have HO_5 := n2_; have HO880012 := n3_; have HB := n4_; clear n0_ n1_ n2_ n3_ n4_; (try clear hb); (try clear hb2); (try clear hk); (try clear hi); (try clear ho0)))
    go_roundg k1
    case measure => have := HK1.out; omega
    case rel => exact ⟨(t880010), (wrap64 (x6_1 + 64)), zq_13, H', ⟨by have := HK1.out; omega⟩, ⟨by (with_reducible repeat (first | apply RB.alloc | apply RB.drewN | apply RB.drew | apply Kd.R_alloc | apply Kd.R_drewN | apply Kd.R_drew)); exact Kd.R_mono HO880012.out (fun _ hk => hk.2)⟩, ⟨by (with_reducible repeat (first | apply RB.alloc | apply RB.drewN | apply RB.drew | apply Kd.R_alloc | apply Kd.R_drewN | apply Kd.R_drew)); exact Kd.R_mono HO_4.out (fun _ hk => hk.2)⟩, ⟨by (with_reducible repeat (first | apply RB.alloc | apply RB.drewN | apply RB.drew | apply Kd.R_alloc | apply Kd.R_drewN | apply Kd.R_drew)); exact HO_5.out⟩, ⟨by repeat (first | (with_reducible first | exact HB.out | apply below_alloc | apply pw_below_drewN | apply below_drew1) | exact HB.out)⟩⟩
   ·rw [if_neg c8] at H; have c8b0 : decide (x6_1 < (t880007.length : Int)) = false := decide_eq_false c8; clear c8; obtain ⟨y880013, hy880013⟩ : ∃ y_ : List Int, y_ = (([] : List Int)) := ⟨_, rfl⟩
    replace H : (spec_Sha256.l1 k1 x3_1 y880013 0) = some r := by first | (rw [hy880013]; with_reducible exact H) | (have H2_ := (Option.bind_some _ _).symm.trans H; rw [hy880013]; with_reducible exact H2_) | (have H2_ := (Option.bind_some _ _).symm.trans H; with_reducible exact H2_) | with_reducible exact H | (rw [hy880013]; exact H) | exact H
    have Ny880013 := Aside0.mk hy880013; clear hy880013; have H' := Aside0.mk H; clear H; obtain ⟨Ao14, co14, eo14⟩ := RB.slice HO_5.out; subst eo14
    go_wp2_with (first | ((with_reducible refine gate_dst (N := 24) rfl ?_); refine Kd.R_lit (Kd.int .u8) _ 5 ?hg (N := 24) ?hd (xs := ([] : List Int)) (inner := []) (ok := fun _ => True) (okp := fun _ => True) ?hr ?hp (fun _ hk => hk) trivial (Below.refl _ _) (Nat.le_refl _) (by simp) ?_; (case hd => rfl); (case hg => rfl); (case hr => exact zq_14); (case hp => exact (Reps.none _ _)); intro v880014 w15 ho16 hb hg_ hnew_; clear hg_ hnew_; (first | rw [← Ny880013.out] at ho16 | (simp only [Int.reduceToNat] at ho16; rw [← Ny880013.out] at ho16)); have n0_ := Aside0.mk (Kd.R_below zq_36 hb); have n1_ := Aside0.mk (Kd.R_below zq_52 hb); have n2_ := Aside0.mk (RB.below (by (with_reducible repeat (first | apply RB.alloc | apply RB.drewN | apply RB.drew | apply Kd.R_alloc | apply Kd.R_drewN | apply Kd.R_drew)); exact HO_5.out) hb); have n3_ := Aside0.mk (Kd.R_lower ho16 (below_size zq_0)); have n4_ := Aside0.mk (below_step zq_0 hb); clear HO_3; clear HO_4; clear HO_5; clear HB; have HO_3 := n0_; have HO_4 := n1_; have HO_5 := n2_; have HO880015 := n3_; have HB := n4_; clear n0_ n1_ n2_ n3_ n4_; clear hb ho16))
    go_loopg [7, 8] k1 (fun kq v7 v8 w' => ∃ (x7_2 : List Int) (x8_2 : Int), v8 = .int .i64 x8_2 ∧ Aside0 (spec_Sha256.l1 kq x3_1 x7_2 x8_2 = some r) ∧ Aside0 (kq ≤ k1) ∧ Aside0 (Kd.R (Kd.int .u32) 129 w' w.heap.size (fun _ => True) u3 x3_1) ∧ Aside0 (Kd.R (Kd.int .u8) 5 w' w.heap.size (fun _ => True) v7 x7_2) ∧ Aside0 (Below w.heap.size w w'))
    case atStart => exact ⟨(y880013), (0), zq_13, H', ⟨Nat.le_refl _⟩, ⟨by (with_reducible repeat (first | apply RB.alloc | apply RB.drewN | apply RB.drew | apply Kd.R_alloc | apply Kd.R_drewN | apply Kd.R_drew)); exact Kd.R_mono HO_3.out (fun _ hk => trivial)⟩, ⟨by (with_reducible repeat (first | apply RB.alloc | apply RB.drewN | apply RB.drew | apply Kd.R_alloc | apply Kd.R_drewN | apply Kd.R_drew)); exact Kd.R_mono HO880015.out (fun _ hk => trivial)⟩, ⟨by repeat (first | (with_reducible first | exact HB.out | apply below_alloc | apply pw_below_drewN | apply below_drew1) | exact HB.out)⟩⟩
    case round =>
     clear H'
     try clear c1
     try clear p2
     try clear p6
     try clear c8
     try clear c8b0
     try clear c12
     try clear p2
     obtain ⟨x7_2, x8_2, rfl, HA, HK2, HO_3, HO_7, HB⟩ := hrel
     cases gk with
     | zero => exact absurd HA.out (by simp [spec_Sha256.l1])
     | succ k2 =>
      have H := HA.out; clear HA; simp only [spec_Sha256.l1] at H
      by_cases c17 : x8_2 < 8
      ·rw [if_pos c17] at H; have c17b0 : decide (x8_2 < 8) = true := decide_eq_true c17; clear c17
       by_cases c18 : 0 ≤ x8_2
       ·rw [if_pos c18] at H; have c18b0 : decide (0 ≤ x8_2) = true := decide_eq_true c18; clear c18
        by_cases c19 : x8_2 < (x3_1.length : Int)
        ·rw [if_pos c19] at H; have c19b0 : decide (x8_2 < (x3_1.length : Int)) = true := decide_eq_true c19; clear c19; obtain ⟨y880020, hy880020⟩ : ∃ y_ : List Int, y_ = (([((rd x3_1 x8_2) / 16777216) % 256, ((rd x3_1 x8_2) / 65536) % 256, ((rd x3_1 x8_2) / 256) % 256, (rd x3_1 x8_2) % 256] : List Int)) := ⟨_, rfl⟩
         replace H : (if x7_2.length + y880020.length < 140737488355328 then (spec_Sha256.l1 k2 x3_1 (x7_2 ++ y880020) (wrap64 (x8_2 + 1))) else (none)) = some r := by first | (rw [hy880020]; with_reducible exact H) | (have H2_ := (Option.bind_some _ _).symm.trans H; rw [hy880020]; with_reducible exact H2_) | (have H2_ := (Option.bind_some _ _).symm.trans H; with_reducible exact H2_) | with_reducible exact H | (rw [hy880020]; exact H) | exact H
         have Ny880020 := Aside0.mk hy880020; clear hy880020
         by_cases c20 : x7_2.length + y880020.length < 140737488355328
         ·rw [if_pos c20] at H; have LMc20 := Aside0.mk c20; clear c20; obtain ⟨y880023, hy880023⟩ : ∃ y_ : List Int, y_ = (x7_2 ++ y880020) := ⟨_, rfl⟩
          replace H : (spec_Sha256.l1 k2 x3_1 y880023 (wrap64 (x8_2 + 1))) = some r := by first | (rw [hy880023]; with_reducible exact H) | (have H2_ := (Option.bind_some _ _).symm.trans H; rw [hy880023]; with_reducible exact H2_) | (have H2_ := (Option.bind_some _ _).symm.trans H; with_reducible exact H2_) | with_reducible exact H | (rw [hy880023]; exact H) | exact H
          have Ny880023 := Aside0.mk hy880023; clear hy880023; have H' := Aside0.mk H; clear H
          try go_wp2
          have n0_ := Aside0.mk (Kd.R_drew HO_3.out); have n1_ := Aside0.mk (Kd.R_drew HO_7.out); have n2_ := Aside0.mk (below_drew1 HB.out); clear HO_3; clear HO_7; clear HB; have HO_3 := n0_; have HO_7 := n1_; have HB := n2_; clear n0_ n1_ n2_; obtain ⟨Ao22, co22, eo22⟩ := Kd.R_slice HO_3.out; (first | subst eo22 | (injection eo22 with f1_ f2_ f3_; have f4_ := f1_.symm; have f5_ := f3_.symm; clear f1_ f2_ f3_; subst f4_; subst f5_)); have p880016 : 0 ≤ (x8_2 : Int) := of_decide_eq_true zq_5; have q880016 : x8_2 < (x3_1.length : Int) := of_decide_eq_true zq_5; obtain ⟨ad880016, e880016, hx880016_0⟩ := Kd.at_int (Kd.R_reads' HO_3.out).2.2 x8_2 p880016 q880016
          cases e880016
          replace p880016 := eq_true p880016; replace q880016 := eq_true q880016; have p880017 : 0 ≤ (x8_2 : Int) := of_decide_eq_true zq_5; have q880017 : x8_2 < (x3_1.length : Int) := of_decide_eq_true zq_5; obtain ⟨ad880017, e880017, hx880017_0⟩ := Kd.at_int (Kd.R_reads' HO_3.out).2.2 x8_2 p880017 q880017; obtain rfl : ad880016 = ad880017 := (by injection e880017)
          replace p880017 := eq_true p880017; replace q880017 := eq_true q880017; have p880018 : 0 ≤ (x8_2 : Int) := of_decide_eq_true zq_5; have q880018 : x8_2 < (x3_1.length : Int) := of_decide_eq_true zq_5; obtain ⟨ad880018, e880018, hx880018_0⟩ := Kd.at_int (Kd.R_reads' HO_3.out).2.2 x8_2 p880018 q880018; obtain rfl : ad880016 = ad880018 := (by injection e880018)
          replace p880018 := eq_true p880018; replace q880018 := eq_true q880018; have p880019 : 0 ≤ (x8_2 : Int) := of_decide_eq_true zq_5; have q880019 : x8_2 < (x3_1.length : Int) := of_decide_eq_true zq_5; obtain ⟨ad880019, e880019, hx880019_0⟩ := Kd.at_int (Kd.R_reads' HO_3.out).2.2 x8_2 p880019 q880019; obtain rfl : ad880016 = ad880019 := (by injection e880019)
          replace p880019 := eq_true p880019; replace q880019 := eq_true q880019; refine start_ (n := 27) (S := fun w' => w'.cell? (ad880016.add (x8_2).toNat) = some (.int .u32 (rd x3_1 x8_2)) ∧ w'.cell? (ad880016.add (x8_2).toNat) = some (.int .u32 (rd x3_1 x8_2)) ∧ w'.cell? (ad880016.add (x8_2).toNat) = some (.int .u32 (rd x3_1 x8_2)) ∧ w'.cell? (ad880016.add (x8_2).toNat) = some (.int .u32 (rd x3_1 x8_2))) (ds := [25]) #[false, false, false, false, false, false, false, false, false, false, false, false, false, false, false, false, false, false, false, false, false, false, false, false, false, false, false] (by kernel_rfl) rfl rfl ⟨hx880016_0, hx880017_0, hx880018_0, hx880019_0⟩ (fun hHeld => ?_); refine with_tabW spec_Sha256.tab12 spec_Sha256.bits12 (fun HT_ HW_ => ?_); generalize wr.drew = w21 at HO_3 HO_7 HB hx880016_0 hx880017_0 hx880018_0 hx880019_0 hHeld ⊢; refine pq_ (i := 0) (N := some 29) HT_.out ?_; refine pq_ (i := 1) (N := some 30) HT_.out ?_; refine pq_ (i := 2) (N := some 31) HT_.out ?_; refine pq_ (i := 3) (N := some 32) HT_.out ?_; refine pq_ (i := 7) (N := some 36) HT_.out ?_; refine pq_ (i := 8) (N := some 37) HT_.out ?_; refine pq_ (i := 9) (N := some 38) HT_.out ?_; refine pq_ (i := 13) (N := some 42) HT_.out ?_; refine pq_ (i := 14) (N := some 43) HT_.out ?_; refine pq_ (i := 15) (N := some 44) HT_.out ?_; refine pq_ (i := 19) (N := some 48) HT_.out ?_; refine pq_ (i := 20) (N := some 49) HT_.out ?_; refine pq_ (i := 21) (N := some 50) HT_.out ?_; refine tq_ (i := 4) (N := some 33) HT_.out HW_.out hHeld (hy := by rintro w' ⟨s0, s1, s2, s3⟩; go_simp; with_reducible rfl) (h := ?_); refine pq_ (i := 5) (N := some 34) HT_.out ?_; refine pq_ (i := 6) (N := some 35) HT_.out ?_; refine tq_ (i := 10) (N := some 39) HT_.out HW_.out hHeld (hy := by rintro w' ⟨s0, s1, s2, s3⟩; go_simp; with_reducible rfl) (h := ?_); refine pq_ (i := 11) (N := some 40) HT_.out ?_; refine pq_ (i := 12) (N := some 41) HT_.out ?_; refine tq_ (i := 16) (N := some 45) HT_.out HW_.out hHeld (hy := by rintro w' ⟨s0, s1, s2, s3⟩; go_simp; with_reducible rfl) (h := ?_); refine pq_ (i := 17) (N := some 46) HT_.out ?_; refine pq_ (i := 18) (N := some 47) HT_.out ?_; refine tq_ (i := 22) (N := some 51) HT_.out HW_.out hHeld (hy := by rintro w' ⟨s0, s1, s2, s3⟩; go_simp; with_reducible rfl) (h := ?_); refine pq_ (i := 23) (N := some 52) HT_.out ?_
          refine one_ (i := 24) (N := some 53) #[true, true, true, true, true, true, true, true, true, true, true, true, true, true, true, true, true, true, true, true, true, true, true, true, true, false, false] rfl rfl (one_of HT_.out (by kernel_rfl)) (by decide) (fun K hK => ?_); refine Kd.R_lit_step (Kd.int .u8) _ 5 ?hg (N := 53) ?hd (xs := ([((rd x3_1 x8_2) / 16777216) % 256, ((rd x3_1 x8_2) / 65536) % 256, ((rd x3_1 x8_2) / 256) % 256, (rd x3_1 x8_2) % 256] : List Int)) (inner := [.int .u8 (((rd x3_1 x8_2) / 16777216) % 256), .int .u8 (((rd x3_1 x8_2) / 65536) % 256), .int .u8 (((rd x3_1 x8_2) / 256) % 256), .int .u8 ((rd x3_1 x8_2) % 256)]) (ok := fun _ => True) (okp := fun _ => True) ?hr ?hp (fun _ hk => hk) trivial (Below.refl _ _) (Nat.le_refl _) (by simp) ?_; (case hd => rfl); (case hg => rfl); (case hr => exact zq_14); (case hp => exact (Reps.one (show Kd.M (Kd.int .u8) _ _ _ (((rd x3_1 x8_2) / 16777216) % 256) [.int .u8 (((rd x3_1 x8_2) / 16777216) % 256)] from rfl) (Reps.one (show Kd.M (Kd.int .u8) _ _ _ (((rd x3_1 x8_2) / 65536) % 256) [.int .u8 (((rd x3_1 x8_2) / 65536) % 256)] from rfl) (Reps.one (show Kd.M (Kd.int .u8) _ _ _ (((rd x3_1 x8_2) / 256) % 256) [.int .u8 (((rd x3_1 x8_2) / 256) % 256)] from rfl) (Reps.one (show Kd.M (Kd.int .u8) _ _ _ ((rd x3_1 x8_2) % 256) [.int .u8 ((rd x3_1 x8_2) % 256)] from rfl) (Reps.none _ _)))))); intro v880021 w23 ho24 hb hg_ hnew_; have HS0_ := (hb.cell (World.block_lt_of_cell? _ _ (hHeld.1))).trans (hHeld.1); have HS1_ := (hb.cell (World.block_lt_of_cell? _ _ (hHeld.2.1))).trans (hHeld.2.1); have HS2_ := (hb.cell (World.block_lt_of_cell? _ _ (hHeld.2.2.1))).trans (hHeld.2.2.1); have HS3_ := (hb.cell (World.block_lt_of_cell? _ _ (hHeld.2.2.2))).trans (hHeld.2.2.2); clear hg_ hnew_; (first | rw [← Ny880020.out] at ho24 | (simp only [Int.reduceToNat] at ho24; rw [← Ny880020.out] at ho24)); have n0_ := Aside0.mk (Kd.R_below zq_36 hb); have n1_ := Aside0.mk (Kd.R_elder' zq_53 (Kd.R_base ho24) hb)
          have n2_ := Aside0.mk (Kd.R_lower (Kd.R_new' ho24 (Kd.R_lt zq_53)) (below_size zq_0)); have n3_ := Aside0.mk (below_step zq_0 hb); clear HO_3; clear HO_7; clear HB; have HO_3 := n0_; have HO_7 := n1_; have HO880022 := n2_; have HB := n3_; clear n0_ n1_ n2_ n3_; clear hb ho24; obtain ⟨Ao26, co26, eo26⟩ := Kd.R_slice HO880022.out; (first | subst eo26 | (injection eo26 with f1_ f2_ f3_; have f4_ := f1_.symm; have f5_ := f3_.symm; clear f1_ f2_ f3_; subst f4_; subst f5_)); refine hK.out _ _ ⟨HS0_, HS1_, HS2_, HS3_⟩ (fun hHeld => ?_); clear hK K; refine norm_ (a' := ?_) ?_ ?_; rotate_left
          ·show Act.put _ (some 53) _ = _; simp only [Act.put, List.setIfInBounds_toArray, List.set_cons_zero, List.set_cons_succ, i64_w, i32_w]; rfl
          refine last_ (i := 25) (N := some 54) #[true, true, true, true, true, true, true, true, true, true, true, true, true, true, true, true, true, true, true, true, true, true, true, true, true, true, false] rfl rfl (one_of HT_.out (by kernel_rfl)) (by decide) (fun K hK => ?_); refine Kd.R_append_rows_step (Kd.int .u8) (w0 := w) w.heap.size (by rfl) (.tmp 29) (.tmp 53) 47 5 (.int .u8 0) 1 rfl Tryd.underlying47 info5 rfl (by decide) (by omega) u7 x7_2 y880020 _ _ _ (fun k_ => some k_ ≠ (.slice Ao26 y880020.length co26 : Value).ownBlock) (fun _ => False) rfl rfl ?aO ?aR (fun _ _ h => h) (fun _ h => h.elim) ?aF ?aB ?aS ?aL ?_; (case aR => repeat (first | exact (Kd.R_reads' HO880022.out).2.2 | (with_reducible refine Kd.C_alloc ?_ _) | (with_reducible refine Kd.C_drewN ?_ _) | (with_reducible refine Kd.C_drew ?_))); (case aB => exact zq_0); (case aF => exact (fun k_ hk => Kd.fresh' (Kd.R_lt (by (with_reducible repeat (first | apply RB.alloc | apply RB.drewN | apply RB.drew | apply Kd.R_alloc | apply Kd.R_drewN | apply Kd.R_drew)); exact HO880022.out)) k_ hk)); (case aO => exact (by (with_reducible repeat (first | apply RB.alloc | apply RB.drewN | apply RB.drew | apply Kd.R_alloc | apply Kd.R_drewN | apply Kd.R_drew)); exact Kd.R_mono HO_7.out (fun _ hk => hk.2))); (case aS => exact (below_size zq_0)); (case aL => have := LMc20.out; omega); intro v880024 w25 ho hb hg hat; rw [← Ny880023.out] at ho; have n0_ := Aside0.mk (Kd.R_over' zq_36 (Kd.R_typed zq_53) (by decide) hg); have n1_ := Aside0.mk (Kd.R_after (ok := (fun _ => True)) (by (with_reducible repeat (first | apply RB.alloc | apply RB.drewN | apply RB.drew | apply Kd.R_alloc | apply Kd.R_drewN | apply Kd.R_drew)); exact HO880022.out) hg hat); have n2_ := Aside0.mk (hb); have n3_ := Aside0.mk (ho); clear HO_3; clear HO880022; clear HB; clear HO_7; have HO_3 := n0_; have HO880022 := n1_; have HB := n2_; have HO880025 := n3_; clear n0_ n1_ n2_ n3_
          clear ho hb hg hat; refine hK.out _ _ ?_; clear hK K; refine norm_ (a' := ?_) ?_ ?_; rotate_left
          ·show Act.put _ (some 54) _ = _; simp only [Act.put, List.setIfInBounds_toArray, List.set_cons_zero, List.set_cons_succ, i64_w, i32_w]; rfl
          refine pq_ (i := 26) (N := some 7) HT_.out ?_; refine done_ (done_of HT_.out (by kernel_rfl)) ?_
          try go_wp2
          go_roundg k2
          case measure => have := HK1.out; have := HK2.out; omega
          case rel => exact ⟨(y880023), (wrap64 (x8_2 + 1)), zq_13, H', ⟨by have := HK1.out; have := HK2.out; omega⟩, ⟨by (with_reducible repeat (first | apply RB.alloc | apply RB.drewN | apply RB.drew | apply Kd.R_alloc | apply Kd.R_drewN | apply Kd.R_drew)); exact HO_3.out⟩, ⟨by (with_reducible repeat (first | apply RB.alloc | apply RB.drewN | apply RB.drew | apply Kd.R_alloc | apply Kd.R_drewN | apply Kd.R_drew)); exact Kd.R_mono HO880025.out (fun _ hk => trivial)⟩, ⟨by repeat (first | (with_reducible first | exact HB.out | apply below_alloc | apply pw_below_drewN | apply below_drew1) | exact HB.out)⟩⟩
         ·rw [if_neg c20] at H; exact absurd H (by simp)
        ·rw [if_neg c19] at H; exact absurd H (by simp)
       ·rw [if_neg c18] at H; exact absurd H (by simp)
      ·rw [if_neg c17] at H; have c17b0 : decide (x8_2 < 8) = false := decide_eq_false c17; clear c17; obtain rfl := Option.some.inj H; have hcv27 := own_string (P := Tryd.prog) Tryd.underlying47 Tryd.underlying5 Tryd.underlying9 (Kd.own_of_R HO_7.out)
       go_wp2
       go_ret
       exact ⟨by first | rfl | (simp [errW_none, errW_some] <;> rfl) | (simp [*, errW_none, errW_some] <;> rfl), by repeat (first | (with_reducible first | exact HB.out | apply below_alloc | apply pw_below_drewN | apply below_drew1) | exact HB.out)⟩
end Go.Proofs.YtonbmghgbblifaaDoor.Z
end
section
namespace Go.Proofs.YtonbmghgbblifaaDoor.Z
open RowKit YtonbmghgbblifaaDoor YtonbmghgbblifaaDoorW.PrintWords YtonbmghgbblifaaDoorW.PrintLast
set_option linter.all false
def h0P : List Int := [1779033703, 3144134277, 1013904242, 2773480762, 1359893119, 2600822924, 528734635, 1541459225]
def stateP (m : List Int) : Nat → List Int
 | 0 => h0P
 | n + 1 => compP (stateP m n) (blockAt m (64 * n))
theorem compP_length (h b : List Int) : (compP h b).length = 8 := rfl
theorem stateP_length (m : List Int) : ∀ n, (stateP m n).length = 8
 | 0 => rfl
 | n + 1 => compP_length _ _
def wordB (x : Int) : List Int := [x / 16777216 % 256, x / 65536 % 256, x / 256 % 256, x % 256]
def outB (h : List Int) : Nat → List Int
 | 0 => []
 | n + 1 => outB h n ++ wordB (rdN h n)
theorem outB_length (h : List Int) : ∀ n, (outB h n).length = 4 * n
 | 0 => rfl
 | n + 1 => by rw [outB, List.length_append, outB_length h n]; simp [wordB]; omega
def shaL (l : List UInt8) : List Int := outB (stateP (ints (padP l)) ((l.length + 72) / 64)) 8
theorem shaL_length (l : List UInt8) : (shaL l).length = 32 := outB_length _ _
def shaV (s : ByteArray) : ByteArray := strOfNums (shaL s.data.toList)
theorem strOfNums_size (l : List Int) : (strOfNums l).size = l.length := by simp [strOfNums, ByteArray.size]
theorem shaV_size (s : ByteArray) : (shaV s).size = 32 := by rw [shaV, strOfNums_size, shaL_length]
theorem sha_l1 (h : List Int) (hh : h.length = 8) : ∀ (d n k : Nat), n + d = 8 → d < k → spec_Sha256.l1 k h (outB h n) (n : Int) = some (strOfNums (outB h 8)) := by
 intro d
 induction d with
 | zero =>
  intro n k hn hk; obtain ⟨k, rfl⟩ : ∃ j, k = j + 1 := ⟨k - 1, by omega⟩
  obtain rfl : n = 8 := by omega
  simp only [spec_Sha256.l1]; rw [if_neg (by omega)]
 | succ d ih =>
  intro n k hn hk; obtain ⟨k, rfl⟩ : ∃ j, k = j + 1 := ⟨k - 1, by omega⟩
  have hl := outB_length h n; simp only [spec_Sha256.l1]; have e1 : wrap64 ((n : Int) + 1) = ((n + 1 : Nat) : Int) := by rw [w64 (by omega) (by omega)]; omega
  rw [e1, hh, hl]; clear e1; simp only [rd_nat, Option.bind_some]; rw [if_pos (by omega), if_pos (by omega), if_pos (by omega), if_pos (by simp; omega)]; exact ih (n + 1) k (by omega) (by omega)
theorem sha_l0 (m : List Int) (N : Nat) (hm : m.length = 64 * N) (hb : m.length ≤ 1099511627776) : ∀ (d n k : Nat), n + d = N → d + 80 < k →
  spec_Sha256.l0 k (stateP m n) kTab m ((64 * n : Nat) : Int) = some (strOfNums (outB (stateP m N) 8)) := by
 intro d
 induction d with
 | zero =>
  intro n k hn hk; obtain ⟨k, rfl⟩ : ∃ j, k = j + 1 := ⟨k - 1, by omega⟩
  obtain rfl : n = N := by omega
  simp only [spec_Sha256.l0]; rw [if_neg (by omega)]; exact sha_l1 _ (stateP_length _ _) 8 0 k rfl (by omega)
 | succ d ih =>
  intro n k hn hk; obtain ⟨k, rfl⟩ : ∃ j, k = j + 1 := ⟨k - 1, by omega⟩
  simp only [spec_Sha256.l0]; rw [if_pos (by omega), l1Block_f _ m (64 * n) k (stateP_length _ _) (by omega) hb (by omega)]; simp only [Option.bind_some]; have e1 : wrap64 (((64 * n : Nat) : Int) + 64) = ((64 * (n + 1) : Nat) : Int) := by rw [w64 (by omega) (by omega)]; omega
  rw [e1]; clear e1; exact ih (n + 1) k (by omega) (by omega)
theorem spec_Sha256_f (a0 : ByteArray) (ha : a0.size ≤ 4294967296) (k : Nat) (hk : a0.size + 100 < k) : spec_Sha256.f k a0 = some (shaV a0) := by
 unfold spec_Sha256.f; rw [kTab_f]; simp only [Option.bind_some]; unfold spec_l1Padded.f; rw [if_pos ha]; simp only [Option.bind_some]; have hl : a0.data.toList.length = a0.size := rfl; have hp : (ints (padP a0.data.toList)).length = 64 * ((a0.data.toList.length + 72) / 64) := by rw [ints_length, padP_length]
 exact sha_l0 (ints (padP a0.data.toList)) _ hp (by rw [hp, hl]; omega) ((a0.data.toList.length + 72) / 64) 0 k (by omega) (by rw [hl]; omega)
end Go.Proofs.YtonbmghgbblifaaDoor.Z
end
section
namespace Go.Proofs.YtonbmghgbblifaaDoor.Z
open RowKit YtonbmghgbblifaaDoor YtonbmghgbblifaaDoorW.PrintWords YtonbmghgbblifaaDoorW.PrintLast
set_option linter.all false
def hCells (st blk : List Int) (fill tot : Int) : List Value := st.map (.int .u32) ++ blk.map (.int .u8) ++ [.int .i64 fill, .int .u64 tot]
structure Hsh (b : Nat) (st blk : List Int) (fill tot : Int) (w : World) : Prop where
 heap : w.heap[b]? = some (.cells (hCells st blk fill tot).toArray 202 (0, 0))
 st8 : st.length = 8
 blk64 : blk.length = 64
section
variable {b : Nat} {st blk : List Int} {fill tot : Int} {w w1 : World}
theorem Hsh.lt (h : Hsh b st blk fill tot w) : b < w.heap.size := lt_of_block h.heap
theorem Hsh.f (h : Hsh b st blk fill tot w) (i : Nat) : w.frozen? ⟨b, i, none⟩ = false := frozen_of_row _ _ _ _ _ h.heap
theorem Hsh.cS (h : Hsh b st blk fill tot w) (i : Nat) (hi : i < 8) : w.cell? ⟨b, i, none⟩ = some (.int .u32 (rdN st i)) := by
 rw [cell_of_row _ _ _ _ _ _ h.heap]; have h8 := h.st8; simp only [List.getElem?_toArray, hCells]; rw [List.append_assoc, List.getElem?_append_left (by simp; omega)]; simp [rdN, List.getD_eq_getElem?_getD, h8, hi]
theorem Hsh.cB (h : Hsh b st blk fill tot w) (j : Nat) (hj : j < 64) : w.cell? ⟨b, 8 + j, none⟩ = some (.int .u8 (rdN blk j)) := by
 rw [cell_of_row _ _ _ _ _ _ h.heap]; have h8 := h.st8; have h64 := h.blk64; simp only [List.getElem?_toArray, hCells]; rw [List.append_assoc, List.getElem?_append_right (by simp; omega), List.getElem?_append_left (by simp; omega)]; simp [rdN, List.getD_eq_getElem?_getD, h8, h64, hj]
theorem Hsh.cF (h : Hsh b st blk fill tot w) : w.cell? ⟨b, 72, none⟩ = some (.int .i64 fill) := by
 rw [cell_of_row _ _ _ _ _ _ h.heap]; have h8 := h.st8; have h64 := h.blk64; simp only [List.getElem?_toArray, hCells]; rw [List.getElem?_append_right (by simp; omega)]; simp [h8, h64]
theorem Hsh.cT (h : Hsh b st blk fill tot w) : w.cell? ⟨b, 73, none⟩ = some (.int .u64 tot) := by
 rw [cell_of_row _ _ _ _ _ _ h.heap]; have h8 := h.st8; have h64 := h.blk64; simp only [List.getElem?_toArray, hCells]; rw [List.getElem?_append_right (by simp; omega)]; simp [h8, h64]
theorem hset {cs ds : List Value} {T : TypeId} {i : Nat} {v : Value} (h : w.heap[b]? = some (.cells cs.toArray T (0, 0))) (he : cs.set i v = ds) :
  (w.setCell ⟨b, i, none⟩ v).heap[b]? = some (.cells ds.toArray T (0, 0)) := by
 have := heap_setCell_same w b i cs.toArray T v h; rw [this, ← he]; simp
theorem Hsh.setS (h : Hsh b st blk fill tot w) (i : Nat) (hi : i < 8) (x : Int) : Hsh b (st.set i x) blk fill tot (w.setCell ⟨b, i, none⟩ (.int .u32 x)) := by
 have h8 := h.st8; refine ⟨hset h.heap ?_, by rw [List.length_set]; exact h8, h.blk64⟩; simp only [hCells]; rw [List.append_assoc, List.set_append_left _ _ (by simp; omega), ← List.map_set, List.append_assoc]
theorem Hsh.setB (h : Hsh b st blk fill tot w) (j : Nat) (hj : j < 64) (x : Int) : Hsh b st (blk.set j x) fill tot (w.setCell ⟨b, 8 + j, none⟩ (.int .u8 x)) := by
 have h8 := h.st8; have h64 := h.blk64; refine ⟨hset h.heap ?_, h8, by rw [List.length_set]; exact h64⟩; simp only [hCells]; rw [List.append_assoc, List.set_append_right _ _ (by simp; omega), List.set_append_left _ _ (by simp; omega), ← List.map_set, List.append_assoc]; simp [h8]
theorem Hsh.setF (h : Hsh b st blk fill tot w) (x : Int) : Hsh b st blk x tot (w.setCell ⟨b, 72, none⟩ (.int .i64 x)) := by
 have h8 := h.st8; have h64 := h.blk64; refine ⟨hset h.heap ?_, h8, h64⟩; simp only [hCells]; rw [List.set_append_right _ _ (by simp; omega)]; simp [h8, h64]
theorem Hsh.setT (h : Hsh b st blk fill tot w) (x : Int) : Hsh b st blk fill x (w.setCell ⟨b, 73, none⟩ (.int .u64 x)) := by
 have h8 := h.st8; have h64 := h.blk64; refine ⟨hset h.heap ?_, h8, h64⟩; simp only [hCells]; rw [List.set_append_right _ _ (by simp; omega)]; simp [h8, h64]
theorem Hsh.keep (h : Hsh b st blk fill tot w) (hb : w1.heap[b]? = w.heap[b]?) : Hsh b st blk fill tot w1 := ⟨hb.trans h.heap, h.st8, h.blk64⟩
theorem Hsh.below (h : Hsh b st blk fill tot w) (hb : Below w.heap.size w w1) : Hsh b st blk fill tot w1 := h.keep (hb.block b h.lt)
theorem Hsh.grown (h : Hsh b st blk fill tot w) {row : Option Nat} (hb : w.grownBy w1 row) (hn : some b ≠ row) : Hsh b st blk fill tot w1 := h.keep (hb.block b h.lt hn)
theorem Hsh.drew (h : Hsh b st blk fill tot w) : Hsh b st blk fill tot w.drew := h.keep rfl
theorem Hsh.alloc (h : Hsh b st blk fill tot w) (o : Obj) : Hsh b st blk fill tot (w.alloc o) := h.keep (Below.heap_alloc _ _ _ h.lt)
theorem Hsh.setOther (h : Hsh b st blk fill tot w) (a : Addr) (v : Value) (hn : b ≠ a.block) : Hsh b st blk fill tot (w.setCell a v) := h.keep (heap_setCell_other _ _ _ _ hn)
end
set_option maxRecDepth 100000 in
set_option maxHeartbeats 1000000 in
theorem newHasher_any (w : World) : Calls Tryd.prog 123 #[] w fun e w' => e = .returned (.pointer (some ⟨w.heap.size, 0, none⟩)) ∧ Hsh w.heap.size h0P (List.replicate 64 0) 0 0 w' ∧ w.heap.size < w'.heap.size ∧ Below w.heap.size w w' := by
 have hz : ∀ w : World, Sem.run Tryd.prog (zeroValue 202) w = .ok (.agg #[.int .u32 0, .int .u32 0, .int .u32 0, .int .u32 0, .int .u32 0, .int .u32 0, .int .u32 0, .int .u32 0, .int .u8 0, .int .u8 0, .int .u8 0, .int .u8 0, .int .u8 0, .int .u8 0, .int .u8 0, .int .u8 0, .int .u8 0, .int .u8 0, .int .u8 0, .int .u8 0, .int .u8 0, .int .u8 0, .int .u8 0, .int .u8 0, .int .u8 0, .int .u8 0, .int .u8 0, .int .u8 0, .int .u8 0, .int .u8 0, .int .u8 0, .int .u8 0, .int .u8 0, .int .u8 0, .int .u8 0, .int .u8 0, .int .u8 0, .int .u8 0, .int .u8 0, .int .u8 0, .int .u8 0, .int .u8 0, .int .u8 0, .int .u8 0, .int .u8 0, .int .u8 0, .int .u8 0, .int .u8 0, .int .u8 0, .int .u8 0, .int .u8 0, .int .u8 0, .int .u8 0, .int .u8 0, .int .u8 0, .int .u8 0, .int .u8 0, .int .u8 0, .int .u8 0, .int .u8 0, .int .u8 0, .int .u8 0, .int .u8 0, .int .u8 0, .int .u8 0, .int .u8 0, .int .u8 0, .int .u8 0, .int .u8 0, .int .u8 0, .int .u8 0, .int .u8 0, .int .i64 0, .int .u64 0]) w := fun _ => by kernel_rfl
 go_enter Tryd.func123, Tryd.ntmps123
 go_wp2
 go_ret
 refine ⟨rfl, ⟨?_, rfl, by simp⟩, by simp, by (repeat' (first | exact Below.refl _ _ | (with_reducible assumption) | (with_reducible refine Below.setCell ?_ zq_12 _) | refine below_then ?_ (by assumption) | (with_reducible refine below_new2 ?_ _) | (with_reducible refine Below.drew ?_) | (with_reducible refine bdrewN ?_ _)))⟩; exact (heap_alloc_new _ _).trans rfl
end Go.Proofs.YtonbmghgbblifaaDoor.Z
end
section
namespace Go.Proofs.YtonbmghgbblifaaDoor.Z
open RowKit YtonbmghgbblifaaDoor YtonbmghgbblifaaDoorW.PrintWords YtonbmghgbblifaaDoorW.PrintLast
set_option linter.all false
def Tab (w : World) : Prop := ∀ i, i < 64 → w.cell? ⟨0, i, none⟩ = some (.int .u32 (rdN kTab i))
def Wds (g : Nat) (T : TypeId) (l : List Int) (w : World) : Prop := w.heap[g]? = some (.cells (l.map (Value.int .u32)).toArray T (0, 0))
section
variable {g : Nat} {T : TypeId} {l : List Int} {w w1 : World}
theorem Wds.lt (h : Wds g T l w) : g < w.heap.size := lt_of_block h
theorem Wds.f (h : Wds g T l w) (i : Nat) : w.frozen? ⟨g, i, none⟩ = false := frozen_of_row _ _ _ _ _ h
theorem Wds.c (h : Wds g T l w) (i : Nat) (hi : i < l.length) : w.cell? ⟨g, i, none⟩ = some (.int .u32 (rdN l i)) := by
 rw [cell_of_row _ _ _ _ _ _ h]; simp [rdN, List.getD_eq_getElem?_getD, hi]
theorem Wds.set (h : Wds g T l w) (i : Nat) (x : Int) : Wds g T (l.set i x) (w.setCell ⟨g, i, none⟩ (.int .u32 x)) := by
 refine hset h ?_; rw [List.map_set]
theorem Wds.keep (h : Wds g T l w) (hb : w1.heap[g]? = w.heap[g]?) : Wds g T l w1 := Eq.trans hb h
theorem Wds.drew (h : Wds g T l w) : Wds g T l w.drew := h
theorem Wds.below (h : Wds g T l w) (hb : Below w.heap.size w w1) : Wds g T l w1 := h.keep (hb.block g h.lt)
theorem Wds.setOther (h : Wds g T l w) (a : Addr) (v : Value) (hn : g ≠ a.block) : Wds g T l (w.setCell a v) := h.keep (heap_setCell_other _ _ _ _ hn)
theorem Wds.alloc (h : Wds g T l w) (o : Obj) : Wds g T l (w.alloc o) := h.keep (Below.heap_alloc _ _ _ h.lt)
end
theorem rot_any (x y : Int) (w : World) (hy : y ∈ [(-2 : Int), -6, -7, -11, -13, -17, -18, -19, -22, -25]) :
  Calls Tryd.prog 166 #[.int .u32 x, .int .i64 y] w fun e w' => e = .returned (.int .u32 (turn x (-y))) ∧ ∃ n, w' = w.drewN n := by
 have h : bits_RotateLeft32.f x y = some (turn x (-y)) := by
  simp only [List.mem_cons, List.not_mem_nil, or_false] at hy
  rcases hy with rfl | rfl | rfl | rfl | rfl | rfl | rfl | rfl | rfl | rfl
  ·exact rot_f x 2 (by decide)
  ·exact rot_f x 6 (by decide)
  ·exact rot_f x 7 (by decide)
  ·exact rot_f x 11 (by decide)
  ·exact rot_f x 13 (by decide)
  ·exact rot_f x 17 (by decide)
  ·exact rot_f x 18 (by decide)
  ·exact rot_f x 19 (by decide)
  ·exact rot_f x 22 (by decide)
  ·exact rot_f x 25 (by decide)
 refine (bits_RotateLeft32.calls x y _ w h).mono ?_; rintro e w' ⟨h1, ⟨n, h2⟩⟩; exact ⟨h1, n, h2⟩
theorem next_eq (w : List Int) (n : Nat) : nextP w n = (rdN w (n - 16) + Go.bits .xor .u32 (Go.bits .xor .u32 (turn (rdN w (n - 15)) 7) (turn (rdN w (n - 15)) 18)) (rdN w (n - 15) / 8) + rdN w (n - 7) + Go.bits .xor .u32 (Go.bits .xor .u32 (turn (rdN w (n - 2)) 17) (turn (rdN w (n - 2)) 19)) (rdN w (n - 2) / 1024)) % 4294967296 := by
 unfold nextP; generalize rdN w (n - 16) = a; generalize Go.bits .xor .u32 (Go.bits .xor .u32 (turn (rdN w (n - 15)) 7) (turn (rdN w (n - 15)) 18)) (rdN w (n - 15) / 8) = s; generalize rdN w (n - 7) = c; generalize Go.bits .xor .u32 (Go.bits .xor .u32 (turn (rdN w (n - 2)) 17) (turn (rdN w (n - 2)) 19)) (rdN w (n - 2) / 1024) = l; omega
theorem rnd_list (s : St) (k w : Int) : (s.rnd k w).list = [(s.z + Go.bits .xor .u32 (Go.bits .xor .u32 (turn s.e 6) (turn s.e 11)) (turn s.e 25) + Go.bits .xor .u32 (Go.bits .and .u32 s.e s.f) (Go.bits .and .u32 (Go.bits .xor .u32 IntKind.u32.max s.e) s.g) + k + w + Go.bits .xor .u32 (Go.bits .xor .u32 (turn s.a 2) (turn s.a 13)) (turn s.a 22) + Go.bits .xor .u32 (Go.bits .xor .u32 (Go.bits .and .u32 s.a s.b) (Go.bits .and .u32 s.a s.c)) (Go.bits .and .u32 s.b s.c)) % 4294967296, s.a, s.b, s.c, (s.d + (s.z + Go.bits .xor .u32 (Go.bits .xor .u32 (turn s.e 6) (turn s.e 11)) (turn s.e 25) + Go.bits .xor .u32 (Go.bits .and .u32 s.e s.f) (Go.bits .and .u32 (Go.bits .xor .u32 IntKind.u32.max s.e) s.g) + k + w)) % 4294967296, s.e, s.f, s.g] := by
 unfold St.rnd St.list St.t1 St.s0 St.maj; simp only [List.cons.injEq, and_true, true_and]; generalize Go.bits .xor .u32 (Go.bits .xor .u32 (turn s.e 6) (turn s.e 11)) (turn s.e 25) = p; generalize Go.bits .xor .u32 (Go.bits .and .u32 s.e s.f) (Go.bits .and .u32 (Go.bits .xor .u32 IntKind.u32.max s.e) s.g) = q; generalize Go.bits .xor .u32 (Go.bits .xor .u32 (turn s.a 2) (turn s.a 13)) (turn s.a 22) = r; generalize Go.bits .xor .u32 (Go.bits .xor .u32 (Go.bits .and .u32 s.a s.b) (Go.bits .and .u32 s.a s.c)) (Go.bits .and .u32 s.b s.c) = m
 constructor <;> omega
def addP (st v : List Int) : Nat → List Int
 | 0 => st
 | n + 1 => (addP st v n).set n ((rdN st n + rdN v n) % 4294967296)
theorem addP_get (st v : List Int) (j : Nat) : ∀ n, n ≤ j → rdN (addP st v n) j = rdN st j
 | 0, _ => rfl
 | n + 1, h => by
  rw [addP, rdN, List.getD_eq_getElem?_getD, List.getElem?_set_ne (by omega), ← List.getD_eq_getElem?_getD]; exact addP_get st v j n (by omega)
theorem addP_list (st : List Int) (h : st.length = 8) (s : St) : addP st s.list 8 = [(rdN st 0 + s.a) % 4294967296, (rdN st 1 + s.b) % 4294967296, (rdN st 2 + s.c) % 4294967296, (rdN st 3 + s.d) % 4294967296, (rdN st 4 + s.e) % 4294967296, (rdN st 5 + s.f) % 4294967296, (rdN st 6 + s.g) % 4294967296, (rdN st 7 + s.z) % 4294967296] := by
 match st, h with
 | [a, b, c, d, e, f, g, z], _ => rfl
theorem addP_all (st blk : List Int) (h : st.length = 8) (s : St) (hs : (St.of st).run (schedP blk 64) 64 = s) : addP st s.list 8 = compP st blk := by
 rw [addP_list st h s, compP, hs]
theorem set_sched (b : List Int) (n : Nat) (hn : n < 64) : (schedP b n ++ List.replicate (64 - n) 0).set n (if n < 16 then wordP b n else nextP (schedP b n) n) = schedP b (n + 1) ++ List.replicate (64 - (n + 1)) 0 := by
 rw [List.set_append_right _ _ (by rw [schedP_length]; omega), schedP_length, Nat.sub_self, show 64 - n = (64 - (n + 1)) + 1 by omega, List.replicate_succ, List.set_cons_zero, schedP, List.append_assoc]; rfl
theorem blk_slice (b n : Nat) (hn : n < 16) (w : World) :
  (Instr.sliceAt 199 (.pointer (some ⟨b, 8, none⟩)) (some (.int .i64 (4 * (n : Int)))) none none).run Tryd.prog w = .ok (.slice (some ⟨b, 8 + 4 * n, none⟩) (64 - 4 * n) (64 - 4 * n)) w := by
 have hT : Tryd.prog.underlying 199 = some (.array (Tryd.prog.arrayLen 199) (Tryd.prog.elem 199)) := by kernel_rfl
 have hL : Tryd.prog.arrayLen 199 = 64 := by kernel_rfl
 have hs : ∀ w : World, (sizeOf (Tryd.prog.elem 199)).run Tryd.prog w = .ok 1 w := fun _ => by kernel_rfl
 rw [run_sliceAt_array_l w 199 ⟨b, 8, none⟩ hT .i64 (4 * (n : Int)) (by omega) (by rw [hL]; omega), hs, hL]; simp only [Result.andThen, slicedAt]; rw [if_neg (by omega), show (4 * (n : Int)).toNat = 4 * n by omega]; simp [Addr.add]
set_option maxRecDepth 100000 in
set_option maxHeartbeats 1000000 in
theorem mix_any (b : Nat) (st blk : List Int) (fill tot : Int) (w : World) (h : Hsh b st blk fill tot w) (ht : Tab w) :
  Calls Tryd.prog 154 #[.pointer (some ⟨b, 0, none⟩)] w fun e w' => e = .returned (.tuple #[]) ∧ Hsh b (compP st blk) blk fill tot w' ∧ w.grownBy w' (some b) := by
 have HH := Lib.hid h; clear h; have HT := Lib.hid ht; clear ht
 go_enter Tryd.func154, Tryd.ntmps154
 go_wp2
 go_loopw [18] (fun i wr => ∃ n : Nat, n ≤ 16 ∧ i = .int .i64 n ∧ Wds w.heap.size 224 (schedP blk n ++ List.replicate (64 - n) 0) wr ∧ Below w.heap.size w wr) (fun i _ => 16 - (intOf i).toNat)
 case atStart => exact ⟨0, by omega, rfl, (heap_alloc_new _ _).trans rfl, by (repeat' (first | exact Below.refl _ _ | (with_reducible assumption) | (with_reducible refine Below.setCell ?_ zq_12 _) | refine below_then ?_ (by assumption) | (with_reducible refine below_new2 ?_ _) | (with_reducible refine Below.drew ?_) | (with_reducible refine bdrewN ?_ _)))⟩
 case round =>
  obtain ⟨n, hn, rfl, hW, hB⟩ := hrel; have hlt : b < w.heap.size := HH.out.lt; have hHr := HH.out.below hB; have HHr := Lib.hid hHr; clear hHr; have HW := Lib.hid hW; clear hW; have hz := hB.size
  by_cases hl : n < 16
  ·have hsl := blk_slice b n hl; have d0 : wr.cell? ⟨b, 8 + 4 * n, none⟩ = some (.int .u8 (rdN blk (4 * n))) := HHr.out.cB (4 * n) (by omega); have d1 : wr.cell? ⟨b, 8 + 4 * n + 1, none⟩ = some (.int .u8 (rdN blk (4 * n + 1))) := HHr.out.cB (4 * n + 1) (by omega); have d2 : wr.cell? ⟨b, 8 + 4 * n + 2, none⟩ = some (.int .u8 (rdN blk (4 * n + 2))) := HHr.out.cB (4 * n + 2) (by omega); have d3 : wr.cell? ⟨b, 8 + 4 * n + 3, none⟩ = some (.int .u8 (rdN blk (4 * n + 3))) := HHr.out.cB (4 * n + 3) (by omega); have hll : (schedP blk n ++ List.replicate (64 - n) 0).length = 64 := by rw [List.length_append, schedP_length, List.length_replicate]; omega
   have dw := HW.out.c n (by rw [hll]; omega); have fw := HW.out.f n; have HLL := Lib.hid hll; clear hll; have l3 : 3 < 64 - 4 * n := by omega
   have l2 : 2 < 64 - 4 * n := by omega
   have l1 : 1 < 64 - 4 * n := by omega
   have l0 : 0 < 64 - 4 * n := by omega
   have n64 : (n : Int) < 64 := by omega
   have n0 : (0 : Int) ≤ (n : Int) := by omega
   have m3 : (3 : Int) < ((64 - 4 * n : Nat) : Int) := by omega
   have m2 : (2 : Int) < ((64 - 4 * n : Nat) : Int) := by omega
   have m1 : (1 : Int) < ((64 - 4 * n : Nat) : Int) := by omega
   have m0 : (0 : Int) < ((64 - 4 * n : Nat) : Int) := by omega
   go_wp2
   go_still_tail 24, (by kernel_rfl)
   change wpList _ _ _ _ _ wr.drew
   go_wp2
   go_roundw
   case rel =>
    refine ⟨n + 1, by omega, by go_num, ?_, ?_⟩
    ·have h := (HW.out.set n (if n < 16 then wordP blk n else nextP (schedP blk n) n)).drew; rw [set_sched _ _ (by omega), if_pos hl] at h; exact h
    ·exact (hB.setCell (p := ⟨w.heap.size, n, none⟩) (Nat.le_refl _) _).drew
   case measure => simp [intOf]; omega
  ·obtain rfl : n = 16 := by omega
   rw [show ((16 : Nat) : Int) = 16 from rfl]
   go_wp2
   go_loopw [5] (fun i wr => ∃ n : Nat, 16 ≤ n ∧ n ≤ 64 ∧ i = .int .i64 n ∧ Wds w.heap.size 224 (schedP blk n ++ List.replicate (64 - n) 0) wr ∧ Below w.heap.size w wr) (fun i _ => 64 - (intOf i).toNat)
   case atStart => exact ⟨16, by omega, by omega, rfl, HW.out, hB⟩
   case round =>
    clear HW HHr hB hz hn hl; obtain ⟨n, h16, hn, rfl, hW, hB⟩ := hrel; have HW := Lib.hid hW; clear hW; have hz := hB.size
    by_cases hl : n < 64
    ·have hll : (schedP blk n ++ List.replicate (64 - n) 0).length = 64 := by rw [List.length_append, schedP_length, List.length_replicate]; omega
     have rdl : ∀ j, j < n → rdN (schedP blk n ++ List.replicate (64 - n) 0) j = rdN (schedP blk n) j := by
      intro j hj; unfold rdN; rw [List.getD_eq_getElem?_getD, List.getD_eq_getElem?_getD, List.getElem?_append_left (by rw [schedP_length]; exact hj)]
     have d15 := HW.out.c (n - 15) (by rw [hll]; omega); have d2 := HW.out.c (n - 2) (by rw [hll]; omega); have d16 := HW.out.c (n - 16) (by rw [hll]; omega); have d7 := HW.out.c (n - 7) (by rw [hll]; omega); have dn := HW.out.c n (by rw [hll]; omega); rw [rdl _ (by omega)] at d15 d2 d16 d7; have fw := HW.out.f n; clear hll rdl; have n64 : (n : Int) < 64 := by omega
     have n0 : (0 : Int) ≤ (n : Int) := by omega
     go_wp2
     go_quiet (fail)
     go_wp2_with (go_at_call 166; refine (rot_any _ _ _ (by decide)).mono ?_; rintro e w' ⟨rfl, nd, hw⟩; (obtain ⟨N, rfl⟩ : ∃ N, w' = wr.drewN N := ⟨_, hw.trans (World.drewN_drewN _ _ _)⟩); clear hw)
     have w16 : IntKind.i64.wrap ((n : Int) - 16) = (n : Int) - 16 := IntWalk.i64_in _ (by omega); have w7 : IntKind.i64.wrap ((n : Int) - 7) = (n : Int) - 7 := IntWalk.i64_in _ (by omega); have p16 : (0 : Int) ≤ (n : Int) - 16 := by clear w16 w7; omega
     have p7 : (0 : Int) ≤ (n : Int) - 7 := by clear w16 w7; omega
     have q16 : (n : Int) - 16 < 64 := by clear w16 w7; omega
     have q7 : (n : Int) - 7 < 64 := by clear w16 w7; omega
     have t16 : ((n : Int) - 16).toNat = n - 16 := by clear w16 w7; omega
     have t7 : ((n : Int) - 7).toNat = n - 7 := by clear w16 w7; omega
     have r16 : (16 : Int) ≤ (n : Int) := by clear w16 w7; omega
     have r7 : (7 : Int) ≤ (n : Int) := by clear w16 w7; omega
     have e16 : (wr.drewN N).cell? ⟨w.heap.size, n - 16, none⟩ = some (.int .u32 (rdN (schedP blk n) (n - 16))) := d16; have e7 : (wr.drewN N).cell? ⟨w.heap.size, n - 7, none⟩ = some (.int .u32 (rdN (schedP blk n) (n - 7))) := d7; have en : (wr.drewN N).cell? ⟨w.heap.size, n, none⟩ = some (.int .u32 (rdN (schedP blk n ++ List.replicate (64 - n) 0) n)) := dn; have fx : (wr.drewN N).frozen? ⟨w.heap.size, n, none⟩ = false := fw; have HWx : Hid (Wds w.heap.size 224 (schedP blk n ++ List.replicate (64 - n) 0) (wr.drewN N)) := HW; have hBx : Below w.heap.size w (wr.drewN N) := bdrewN hB N; clear d16 d7 dn fw d15 d2 HW hB; generalize wr.drewN N = wx at e16 e7 en fx HWx hBx ⊢
     go_still_tail 15, (by kernel_rfl)
     change wpList _ _ _ _ _ wx.drew
     clear w16 w7 t16 t7
     go_wp2
     go_roundw
     case rel =>
      refine ⟨n + 1, by omega, by omega, by go_num, ?_, ?_⟩
      ·have h := (HWx.out.set n (if n < 16 then wordP blk n else nextP (schedP blk n) n)).drew; rw [set_sched _ _ (by omega), if_neg (by omega), next_eq] at h; exact h
      ·exact (hBx.setCell (p := ⟨w.heap.size, n, none⟩) (Nat.le_refl _) _).drew
     case measure => simp [intOf]; omega
    ·obtain rfl : n = 64 := by omega
     have hlt : b < w.heap.size := HH.out.lt; have hHr := HH.out.below hB; have HHr := Lib.hid hHr; clear hHr; rw [show ((64 : Nat) : Int) = 64 from rfl]; have g0 := HHr.out.cS 0 (by omega); have g1 := HHr.out.cS 1 (by omega); have g2 := HHr.out.cS 2 (by omega); have g3 := HHr.out.cS 3 (by omega); have g4 := HHr.out.cS 4 (by omega); have g5 := HHr.out.cS 5 (by omega); have g6 := HHr.out.cS 6 (by omega); have g7 := HHr.out.cS 7 (by omega); have hWl := HW.out.lt
     go_wp2
     clear g0 g1 g2 g3 g4 g5 g6 g7; obtain ⟨wo, hwo⟩ : ∃ wo : World, wo = wr := ⟨_, rfl⟩
     rw [← hwo]; subst hwo
     go_loopw [99] (fun i wr => ∃ n : Nat, n ≤ 64 ∧ i = .int .i64 n ∧ Wds wo.heap.size 198 (((St.of st).run (schedP blk 64) n).list) wr ∧ Wds w.heap.size 224 (schedP blk 64) wr ∧ Below w.heap.size w wr) (fun i _ => 64 - (intOf i).toNat)
     case atStart => exact ⟨0, by omega, rfl, (heap_alloc_new _ _).trans rfl, by simpa using HW.out.alloc _, hB.alloc hz _⟩
     case round =>
      clear HW HHr hB hl hn h16 hz; obtain ⟨n, hn, rfl, hV, hW, hB⟩ := hrel; have HV := Lib.hid hV; clear hV; have HW := Lib.hid hW; clear hW; have hz := hB.size
      by_cases hl : n < 64
      ·obtain ⟨s, hs⟩ : ∃ s, (St.of st).run (schedP blk 64) n = s := ⟨_, rfl⟩
       have HS := Lib.hid hs; rw [hs] at HV; clear hs
       (have v0 : wr.cell? ⟨wo.heap.size, 0, none⟩ = some (.int .u32 s.a) := HV.out.c 0 (by simp [St.list]); have v1 : wr.cell? ⟨wo.heap.size, 1, none⟩ = some (.int .u32 s.b) := HV.out.c 1 (by simp [St.list]); have v2 : wr.cell? ⟨wo.heap.size, 2, none⟩ = some (.int .u32 s.c) := HV.out.c 2 (by simp [St.list]); have v3 : wr.cell? ⟨wo.heap.size, 3, none⟩ = some (.int .u32 s.d) := HV.out.c 3 (by simp [St.list]); have v4 : wr.cell? ⟨wo.heap.size, 4, none⟩ = some (.int .u32 s.e) := HV.out.c 4 (by simp [St.list]); have v5 : wr.cell? ⟨wo.heap.size, 5, none⟩ = some (.int .u32 s.f) := HV.out.c 5 (by simp [St.list]); have v6 : wr.cell? ⟨wo.heap.size, 6, none⟩ = some (.int .u32 s.g) := HV.out.c 6 (by simp [St.list]); have v7 : wr.cell? ⟨wo.heap.size, 7, none⟩ = some (.int .u32 s.z) := HV.out.c 7 (by simp [St.list]); have fv := HV.out.f; have vw := HW.out.c n (by rw [schedP_length]; omega); have vt : wr.cell? ⟨0, n, none⟩ = some (.int .u32 (rdN kTab n)) := (hB.cell (World.block_lt_of_cell? _ _ (HT.out n hl))).trans (HT.out n hl))
       have n64 : (n : Int) < 64 := by omega
       have n0 : (0 : Int) ≤ (n : Int) := by omega
       go_wp2
       go_quiet ((go_at_call 166; exact Calls.quiet_of (rot_any _ _ _ (by decide))))
       (have HVx : Hid (Wds wo.heap.size 198 s.list (wr.drewN nq)) := HV; have HWx : Hid (Wds w.heap.size 224 (schedP blk 64) (wr.drewN nq)) := HW; have hBx : Below w.heap.size w (wr.drewN nq) := bdrewN hB nq; clear v0 v1 v2 v3 v4 v5 v6 v7 fv vw vt HV HW hB; generalize wr.drewN nq = wx at HVx HWx hBx ⊢; have HV := HVx; clear HVx; have HW := HWx; clear HWx; have hB := hBx; clear hBx)
       (have v0 : wx.cell? ⟨wo.heap.size, 0, none⟩ = some (.int .u32 s.a) := HV.out.c 0 (by simp [St.list]); have v1 : wx.cell? ⟨wo.heap.size, 1, none⟩ = some (.int .u32 s.b) := HV.out.c 1 (by simp [St.list]); have v2 : wx.cell? ⟨wo.heap.size, 2, none⟩ = some (.int .u32 s.c) := HV.out.c 2 (by simp [St.list]); have v3 : wx.cell? ⟨wo.heap.size, 3, none⟩ = some (.int .u32 s.d) := HV.out.c 3 (by simp [St.list]); have v4 : wx.cell? ⟨wo.heap.size, 4, none⟩ = some (.int .u32 s.e) := HV.out.c 4 (by simp [St.list]); have v5 : wx.cell? ⟨wo.heap.size, 5, none⟩ = some (.int .u32 s.f) := HV.out.c 5 (by simp [St.list]); have v6 : wx.cell? ⟨wo.heap.size, 6, none⟩ = some (.int .u32 s.g) := HV.out.c 6 (by simp [St.list]); have v7 : wx.cell? ⟨wo.heap.size, 7, none⟩ = some (.int .u32 s.z) := HV.out.c 7 (by simp [St.list]); have fv := HV.out.f; have vw := HW.out.c n (by rw [schedP_length]; omega); have vt : wx.cell? ⟨0, n, none⟩ = some (.int .u32 (rdN kTab n)) := (hB.cell (World.block_lt_of_cell? _ _ (HT.out n hl))).trans (HT.out n hl))
       go_wp2
       go_quiet (fail)
       (have HVx : Hid (Wds wo.heap.size 198 s.list (wx.drewN nq)) := HV; have HWx : Hid (Wds w.heap.size 224 (schedP blk 64) (wx.drewN nq)) := HW; have hBx : Below w.heap.size w (wx.drewN nq) := bdrewN hB nq; clear v0 v1 v2 v3 v4 v5 v6 v7 fv vw vt HV HW hB; generalize wx.drewN nq = wy at HVx HWx hBx ⊢; have HV := HVx; clear HVx; have HW := HWx; clear HWx; have hB := hBx; clear hBx)
       (have v0 : wy.cell? ⟨wo.heap.size, 0, none⟩ = some (.int .u32 s.a) := HV.out.c 0 (by simp [St.list]); have v1 : wy.cell? ⟨wo.heap.size, 1, none⟩ = some (.int .u32 s.b) := HV.out.c 1 (by simp [St.list]); have v2 : wy.cell? ⟨wo.heap.size, 2, none⟩ = some (.int .u32 s.c) := HV.out.c 2 (by simp [St.list]); have v3 : wy.cell? ⟨wo.heap.size, 3, none⟩ = some (.int .u32 s.d) := HV.out.c 3 (by simp [St.list]); have v4 : wy.cell? ⟨wo.heap.size, 4, none⟩ = some (.int .u32 s.e) := HV.out.c 4 (by simp [St.list]); have v5 : wy.cell? ⟨wo.heap.size, 5, none⟩ = some (.int .u32 s.f) := HV.out.c 5 (by simp [St.list]); have v6 : wy.cell? ⟨wo.heap.size, 6, none⟩ = some (.int .u32 s.g) := HV.out.c 6 (by simp [St.list]); have v7 : wy.cell? ⟨wo.heap.size, 7, none⟩ = some (.int .u32 s.z) := HV.out.c 7 (by simp [St.list]); have fv := HV.out.f; have vw := HW.out.c n (by rw [schedP_length]; omega); have vt : wy.cell? ⟨0, n, none⟩ = some (.int .u32 (rdN kTab n)) := (hB.cell (World.block_lt_of_cell? _ _ (HT.out n hl))).trans (HT.out n hl))
       go_wp2
       go_quiet ((go_at_call 166; exact Calls.quiet_of (rot_any _ _ _ (by decide))))
       (have HVx : Hid (Wds wo.heap.size 198 s.list (wy.drewN nq)) := HV; have HWx : Hid (Wds w.heap.size 224 (schedP blk 64) (wy.drewN nq)) := HW; have hBx : Below w.heap.size w (wy.drewN nq) := bdrewN hB nq; clear v0 v1 v2 v3 v4 v5 v6 v7 fv vw vt HV HW hB; generalize wy.drewN nq = wz at HVx HWx hBx ⊢; have HV := HVx; clear HVx; have HW := HWx; clear HWx; have hB := hBx; clear hBx)
       (have v0 : wz.cell? ⟨wo.heap.size, 0, none⟩ = some (.int .u32 s.a) := HV.out.c 0 (by simp [St.list]); have v1 : wz.cell? ⟨wo.heap.size, 1, none⟩ = some (.int .u32 s.b) := HV.out.c 1 (by simp [St.list]); have v2 : wz.cell? ⟨wo.heap.size, 2, none⟩ = some (.int .u32 s.c) := HV.out.c 2 (by simp [St.list]); have v3 : wz.cell? ⟨wo.heap.size, 3, none⟩ = some (.int .u32 s.d) := HV.out.c 3 (by simp [St.list]); have v4 : wz.cell? ⟨wo.heap.size, 4, none⟩ = some (.int .u32 s.e) := HV.out.c 4 (by simp [St.list]); have v5 : wz.cell? ⟨wo.heap.size, 5, none⟩ = some (.int .u32 s.f) := HV.out.c 5 (by simp [St.list]); have v6 : wz.cell? ⟨wo.heap.size, 6, none⟩ = some (.int .u32 s.g) := HV.out.c 6 (by simp [St.list]); have v7 : wz.cell? ⟨wo.heap.size, 7, none⟩ = some (.int .u32 s.z) := HV.out.c 7 (by simp [St.list]); have fv := HV.out.f; have vw := HW.out.c n (by rw [schedP_length]; omega); have vt : wz.cell? ⟨0, n, none⟩ = some (.int .u32 (rdN kTab n)) := (hB.cell (World.block_lt_of_cell? _ _ (HT.out n hl))).trans (HT.out n hl))
       go_wp2
       go_roundw
       case rel =>
        refine ⟨n + 1, by omega, by go_num, ?_, ?_, ?_⟩
        ·rw [St.run, HS.out, rnd_list]; exact (((((((HV.out.set 0 _).set 1 _).set 2 _).set 3 _).set 4 _).set 5 _).set 6 _).set 7 _
        ·have hne : w.heap.size ≠ wo.heap.size := by omega
         exact (((((((HW.out.setOther _ _ hne).setOther _ _ hne).setOther _ _ hne).setOther _ _ hne).setOther _ _ hne).setOther _ _ hne).setOther _ _ hne).setOther _ _ hne
        ·have hle : w.heap.size ≤ wo.heap.size := by omega
         exact (((((((hB.setCell hle _).setCell hle _).setCell hle _).setCell hle _).setCell hle _).setCell hle _).setCell hle _).setCell hle _
       case measure => simp [intOf]; omega
      ·obtain rfl : n = 64 := by omega
       have hHr := HH.out.below hB; have HHr := Lib.hid hHr; clear hHr; rw [show ((64 : Nat) : Int) = 64 from rfl]; obtain ⟨s, hs⟩ : ∃ s, (St.of st).run (schedP blk 64) 64 = s := ⟨_, rfl⟩
       rw [hs] at HV; have HS := Lib.hid hs; clear hs
       go_wp2
       go_loopw [190] (fun i wr => ∃ n : Nat, n ≤ 8 ∧ i = .int .i64 n ∧ Hsh b (addP st s.list n) blk fill tot wr ∧ Wds wo.heap.size 198 s.list wr ∧ w.grownBy wr (some b)) (fun i _ => 8 - (intOf i).toNat)
       case atStart => exact ⟨0, by omega, rfl, HHr.out, HV.out, ⟨hB.os, hB.tape, hB.output, hB.size, fun k hk _ => hB.block k hk⟩⟩
       case round =>
        clear HV HW HHr hB hl hn hz; obtain ⟨n, hn, rfl, hH, hV, hG⟩ := hrel; have HHr := Lib.hid hH; clear hH; have HV := Lib.hid hV; clear hV; have hz := hG.size
        by_cases hl : n < 8
        ·have c1 := HHr.out.cS n hl; rw [addP_get _ _ _ _ (Nat.le_refl _)] at c1; have c2 := HV.out.c n (by simp [St.list]; omega); have c3 := HHr.out.f n; have n8 : (n : Int) < 8 := by omega
         have n0 : (0 : Int) ≤ (n : Int) := by omega
         go_wp2
         go_still_tail 13, (by kernel_rfl)
         change wpList _ _ _ _ _ wr.drew
         go_wp2
         go_roundw
         case rel =>
          refine ⟨n + 1, by omega, by go_num, ?_, ?_, ?_⟩
          ·have h := (HHr.out.setS n hl ((rdN st n + rdN s.list n) % 4294967296)).drew; exact h
          ·exact (HV.out.setOther _ _ (by show wo.heap.size ≠ b; omega)).drew
          ·have g := Lib.grownBy_setB hG n (.int .u32 ((rdN st n + rdN s.list n) % 4294967296)); exact ⟨g.os, g.tape, g.output, g.size, g.block⟩
         case measure => simp [intOf]; omega
        ·obtain rfl : n = 8 := by omega
         rw [show ((8 : Nat) : Int) = 8 from rfl]; have h8 := HH.out.st8; have hH := HHr.out; rw [addP_all st blk h8 s HS.out] at hH; have HHf := Lib.hid hH; clear hH h8
         go_wp2
         go_end0
         exact ⟨rfl, HHf.out, hG⟩
end Go.Proofs.YtonbmghgbblifaaDoor.Z
end
section
namespace Go.Proofs.YtonbmghgbblifaaDoor.Z
open RowKit YtonbmghgbblifaaDoor YtonbmghgbblifaaDoorW.PrintWords YtonbmghgbblifaaDoorW.PrintLast
set_option linter.all false
set_option maxRecDepth 100000
theorem blockAt_app (l m : List Int) (fr : Nat) (h : fr + 64 ≤ l.length) : blockAt (l ++ m) fr = blockAt l fr := by
 unfold blockAt; rw [List.drop_append_of_le_length (by omega), List.take_append_of_le_length (by rw [List.length_drop]; omega)]
theorem stateP_app (l m : List Int) : ∀ n, 64 * n ≤ l.length → stateP (l ++ m) n = stateP l n
 | 0, _ => rfl
 | n + 1, h => by rw [stateP, stateP, stateP_app l m n (by omega), blockAt_app l m _ (by omega)]
theorem rdN_app_lt (l m : List Int) (j : Nat) (h : j < l.length) : rdN (l ++ m) j = rdN l j := by
 unfold rdN; rw [List.getD_eq_getElem?_getD, List.getD_eq_getElem?_getD, List.getElem?_append_left h]
theorem rdN_app_at (l : List Int) (x : Int) : rdN (l ++ [x]) l.length = x := by
 unfold rdN; rw [List.getD_eq_getElem?_getD, List.getElem?_append_right (Nat.le_refl _)]; simp
theorem rdN_set_ne (l : List Int) (i j : Nat) (x : Int) (h : i ≠ j) : rdN (l.set i x) j = rdN l j := by
 unfold rdN; rw [List.getD_eq_getElem?_getD, List.getD_eq_getElem?_getD, List.getElem?_set_ne h]
theorem rdN_set_eq (l : List Int) (i : Nat) (x : Int) (h : i < l.length) : rdN (l.set i x) i = x := by
 unfold rdN; rw [List.getD_eq_getElem?_getD, List.getElem?_set_self h]; rfl
theorem list_eq_of_rdN (l m : List Int) (h : l.length = m.length) (he : ∀ j, j < l.length → rdN l j = rdN m j) : l = m := by
 apply List.ext_getElem h
 intro j h1 h2; have := he j h1; unfold rdN at this; rw [List.getD_eq_getElem?_getD, List.getD_eq_getElem?_getD, List.getElem?_eq_getElem h1, List.getElem?_eq_getElem h2] at this; exact this
structure Fed (b : Nat) (l : List Int) (tot : Int) (w : World) : Prop where
 out : ∃ blk, Hsh b (stateP l (l.length / 64)) blk ((l.length % 64 : Nat) : Int) tot w ∧ ∀ j, j < l.length % 64 → rdN blk j = rdN l (64 * (l.length / 64) + j)
section
variable {b : Nat} {l : List Int} {tot : Int} {w w1 : World}
theorem Fed.lt (h : Fed b l tot w) : b < w.heap.size := by obtain ⟨blk, h1, _⟩ := h.out; exact h1.lt
theorem Fed.f (h : Fed b l tot w) (i : Nat) : w.frozen? ⟨b, i, none⟩ = false := by obtain ⟨blk, h1, _⟩ := h.out; exact h1.f i
theorem Fed.cF (h : Fed b l tot w) : w.cell? ⟨b, 72, none⟩ = some (.int .i64 ((l.length % 64 : Nat) : Int)) := by obtain ⟨blk, h1, _⟩ := h.out; exact h1.cF
theorem Fed.cT (h : Fed b l tot w) : w.cell? ⟨b, 73, none⟩ = some (.int .u64 tot) := by obtain ⟨blk, h1, _⟩ := h.out; exact h1.cT
theorem Fed.keep (h : Fed b l tot w) (hb : w1.heap[b]? = w.heap[b]?) : Fed b l tot w1 := by obtain ⟨blk, h1, h2⟩ := h.out; exact ⟨blk, h1.keep hb, h2⟩
theorem Fed.below (h : Fed b l tot w) (hb : Below w.heap.size w w1) : Fed b l tot w1 := h.keep (hb.block b h.lt)
theorem Fed.setT (h : Fed b l tot w) (x : Int) : Fed b l x (w.setCell ⟨b, 73, none⟩ (.int .u64 x)) := by obtain ⟨blk, h1, h2⟩ := h.out; exact ⟨blk, h1.setT x, h2⟩
theorem Tab.grown (h : Tab w) {row : Option Nat} (hb : w.grownBy w1 row) (hn : some 0 ≠ row) : Tab w1 := by
 intro i hi; exact hb.cell (h i hi) hn
theorem Tab.below (h : Tab w) (hb : Below w.heap.size w w1) : Tab w1 := by
 intro i hi; exact (hb.cell (World.block_lt_of_cell? _ _ (h i hi))).trans (h i hi)
theorem Tab.lt (h : Tab w) : 0 < w.heap.size := World.block_lt_of_cell? _ _ (h 0 (by omega))
end
theorem grown_drew {a w : World} {row : Option Nat} (h : a.grownBy w row) : a.grownBy w.drew row := ⟨h.os, h.tape, h.output, h.size, h.block⟩
theorem grown_refl (a : World) (row : Option Nat) : a.grownBy a row := ⟨rfl, rfl, rfl, Nat.le_refl _, fun _ _ _ => rfl⟩
set_option maxHeartbeats 1000000 in
theorem add_any (b : Nat) (l : List Int) (tot x : Int) (w : World) (h : Fed b l tot w) (ht : Tab w) (hbg : 0 < b) :
  Calls Tryd.prog 144 #[.pointer (some ⟨b, 0, none⟩), .int .u8 x] w fun e w' => e = .returned (.tuple #[]) ∧ Fed b (l ++ [x]) tot w' ∧ w.grownBy w' (some b) := by
 obtain ⟨blk, hH, hblk⟩ := h.out; have HB := Lib.hid hblk; clear hblk h; obtain ⟨f, hf⟩ : ∃ f, l.length % 64 = f := ⟨_, rfl⟩
 rw [hf] at hH HB; have hf64 : f < 64 := by omega
 have HF := Lib.hid hf; clear hf; have c1 := hH.cF; have c2 := hH.cB f hf64; have f1 := hH.f (8 + f); have f2 := hH.f 72; have HH := Lib.hid hH; clear hH; have HT := Lib.hid ht; clear ht; have n64 : (f : Int) < 64 := by omega
 have n0 : (0 : Int) ≤ (f : Int) := by omega
 have hgb : some 0 ≠ some b := by intro e; have := Option.some.inj e; omega
 have hlen : (l ++ [x]).length = l.length + 1 := by simp
 have HLEN := Lib.hid hlen; clear hlen
 by_cases h63 : f = 63
 ·have heq : (((f : Int) + 1) == 64) = true := by rw [beq_iff_eq]; omega
  have hG : w.grownBy ((w.setCell ⟨b, 8 + f, none⟩ (.int .u8 x)).setCell ⟨b, 72, none⟩ (.int .i64 ((f : Int) + 1))).drew (some b) := grown_drew (Lib.grownBy_setB (Lib.grownBy_setCell _ _ _ _) _ _); have hT2 := HT.out.grown hG hgb; have HT2 := Lib.hid hT2; clear hT2; have hH3 := ((HH.out.setB f hf64 x).setF ((f : Int) + 1)).drew; have HH3 := Lib.hid hH3; clear hH3; have HG := Lib.hid hG; clear hG; have H63 := Lib.hid h63; clear h63
  go_enter Tryd.func144, Tryd.ntmps144
  go_wp2
  go_still_tail 9, (by kernel_rfl)
  change wpList _ _ _ _ _ w.drew
  go_wp2_with (go_at_call 154; go_loud (refine (mix_any b _ _ _ _ _ HH3.out HT2.out).mono ?_; rintro e w1 ⟨rfl, h1, hg⟩; have k1 := h1.cF; have k2 := h1.f 72; have H1 := Lib.hid h1; clear h1))
  go_end0
  refine ⟨rfl, ⟨blk.set f x, ?_, ?_⟩, ?_⟩
  ·have h := H1.out.setF 0; have e1 : (l ++ [x]).length / 64 = l.length / 64 + 1 := by rw [HLEN.out]; have := HF.out; have := H63.out; omega
   have e2 : (l ++ [x]).length % 64 = 0 := by rw [HLEN.out]; have := HF.out; have := H63.out; omega
   have e3 : blk.set f x = blockAt (l ++ [x]) (64 * (l.length / 64)) := by
    have hb64 := HH.out.blk64; have hbl : (blockAt (l ++ [x]) (64 * (l.length / 64))).length = 64 := by unfold blockAt; rw [List.length_take, List.length_drop, HLEN.out]; have := HF.out; have := H63.out; omega
    refine list_eq_of_rdN _ _ (by rw [List.length_set, hb64, hbl]) fun j hj => ?_
    rw [List.length_set, hb64] at hj; rw [rd_blockAt _ _ _ hj]
    by_cases hjf : f = j
    ·subst hjf; rw [rdN_set_eq _ _ _ (by omega)]; have : 64 * (l.length / 64) + f = l.length := by have := HF.out; omega
     rw [this, rdN_app_at]
    ·rw [rdN_set_ne _ _ _ _ hjf, HB.out j (by have := H63.out; omega), rdN_app_lt _ _ _ (by have := HF.out; have := H63.out; omega)]
   rw [e1, e2, stateP, stateP_app l [x] _ (by omega), ← e3]; exact h
  ·intro j hj; have e2 : (l ++ [x]).length % 64 = 0 := by rw [HLEN.out]; have := HF.out; have := H63.out; omega
   omega
  ·exact Lib.grownBy_setB (Lib.grownBy_trans HG.out hg) _ _
 ·have hne : (((f : Int) + 1) == 64) = false := by rw [beq_eq_false_iff_ne]; omega
  go_enter Tryd.func144, Tryd.ntmps144
  go_wp2
  go_still_tail 9, (by kernel_rfl)
  change wpList _ _ _ _ _ w.drew
  go_wp2
  go_end0
  refine ⟨rfl, ⟨blk.set f x, ?_, ?_⟩, ?_⟩
  ·have h := ((HH.out.setB f hf64 x).setF ((f : Int) + 1)).drew; have e1 : (l ++ [x]).length / 64 = l.length / 64 := by rw [HLEN.out]; have := HF.out; omega
   have e2 : (((l ++ [x]).length % 64 : Nat) : Int) = (f : Int) + 1 := by rw [HLEN.out]; have := HF.out; omega
   rw [e1, e2, stateP_app l [x] _ (by omega)]; exact h
  ·intro j hj; have e1 : (l ++ [x]).length / 64 = l.length / 64 := by rw [HLEN.out]; have := HF.out; omega
   have hj' : j < f + 1 := by rw [HLEN.out] at hj; have := HF.out; omega
   have hb64 := HH.out.blk64; rw [e1]
   by_cases hjf : f = j
   ·subst hjf; rw [rdN_set_eq _ _ _ (by omega)]; have : 64 * (l.length / 64) + f = l.length := by have := HF.out; omega
    rw [this, rdN_app_at]
   ·rw [rdN_set_ne _ _ _ _ hjf, HB.out j (by omega), rdN_app_lt _ _ _ (by have := HF.out; omega)]
  ·exact grown_drew (Lib.grownBy_setB (Lib.grownBy_setCell _ _ _ _) _ _)
end Go.Proofs.YtonbmghgbblifaaDoor.Z
end
section
namespace Go.Proofs.YtonbmghgbblifaaDoor.Z
open RowKit YtonbmghgbblifaaDoor YtonbmghgbblifaaDoorW.PrintWords YtonbmghgbblifaaDoorW.PrintLast
set_option linter.all false
set_option maxRecDepth 100000
theorem ints_app (l m : List UInt8) : ints (l ++ m) = ints l ++ ints m := by simp [ints]
theorem ints_one (c : UInt8) : ints [c] = [(c.toNat : Int)] := rfl
theorem take_snoc (s : ByteArray) (k : Nat) (h : k < s.size) : s.data.toList.take (k + 1) = s.data.toList.take k ++ [s[k]] := by
 rw [List.take_succ_eq_append_getElem (by simpa using h)]; rfl
set_option maxHeartbeats 1000000 in
theorem feed_any (b : Nat) (l : List Int) (tot : Nat) (s : ByteArray) (w : World) (h : Fed b l tot w) (ht : Tab w) (hbg : 0 < b) (hs : s.size ≤ 8589934592) (htot : tot ≤ 8589934592) :
  Calls Tryd.prog 124 #[.pointer (some ⟨b, 0, none⟩), .string s] w fun e w' => e = .returned (.pointer (some ⟨b, 0, none⟩)) ∧ Fed b (l ++ ints s.data.toList) ((tot + s.size : Nat) : Int) w' ∧ w.grownBy w' (some b) := by
 have hgb : some 0 ≠ some b := by intro e; have := Option.some.inj e; omega
 have HH := Lib.hid h; clear h; have HT := Lib.hid ht; clear ht
 go_enter Tryd.func124, Tryd.ntmps124
 go_wp2
 go_loopw [8] (fun i wr => ∃ n : Nat, n ≤ s.size ∧ i = .int .i64 n ∧ Fed b (l ++ ints (s.data.toList.take n)) tot wr ∧ w.grownBy wr (some b)) (fun i _ => s.size - (intOf i).toNat)
 case atStart => exact ⟨0, by omega, rfl, by simpa [ints] using HH.out, grown_refl _ _⟩
 case round =>
  obtain ⟨n, hn, rfl, hF, hG⟩ := hrel; have hT := HT.out.grown hG hgb; have HTr := Lib.hid hT; clear hT; have HF := Lib.hid hF; clear hF
  by_cases hl : n < s.size
  ·go_wp2_with (go_at_call 144; refine (add_any b _ _ _ _ HF.out HTr.out hbg).mono ?_; rintro e w1 ⟨rfl, h1, hg⟩; have H1 := Lib.hid h1; clear h1)
   go_roundw
   case rel =>
    refine ⟨n + 1, by omega, by go_num, ?_, Lib.grownBy_trans hG hg⟩; rw [take_snoc s n hl, ints_app, ints_one, ← List.append_assoc]; exact H1.out
   case measure => simp [intOf]; omega
  ·obtain rfl : n = s.size := by omega
   have c1 := HF.out.cT; have f1 := HF.out.f 73; have e1 : s.data.toList.take s.size = s.data.toList := List.take_of_length_le (Nat.le_refl _); have HE := Lib.hid e1; clear e1
   go_wp2
   go_ret
   refine ⟨rfl, ?_, Lib.grownBy_setB hG _ _⟩; have h := HF.out.setT ((tot + s.size : Nat) : Int); rw [HE.out] at h; rw [show ((tot + s.size : Nat) : Int) = (tot : Int) + (s.size : Int) by omega] at h ⊢; exact h
theorem len_byte_eq2 (n i : Nat) (hi : i ≤ 7) (hn : n ≤ 8589934592) : (((8 * n : Nat) : Int) / 2 ^ (8 * i)) % 256 = ((lenByte n (7 - i)).toNat : Int) := by
 unfold lenByte; rw [show 7 - (7 - i) = i by omega, UInt8.toNat_ofNat']; rw [show ((2 : Int) ^ (8 * i)) = ((2 ^ (8 * i) : Nat) : Int) by rw [Int.natCast_pow]; rfl]; rw [← Int.natCast_ediv]; generalize 8 * n / 2 ^ (8 * i) = q; omega
def Wby (g : Nat) (T : TypeId) (l : List Int) (w : World) : Prop := w.heap[g]? = some (.cells (l.map (Value.int .u8)).toArray T (0, 0))
section
variable {g : Nat} {T : TypeId} {l : List Int} {w w1 : World}
theorem Wby.lt (h : Wby g T l w) : g < w.heap.size := lt_of_block h
theorem Wby.f (h : Wby g T l w) (i : Nat) : w.frozen? ⟨g, i, none⟩ = false := frozen_of_row _ _ _ _ _ h
theorem Wby.c (h : Wby g T l w) (i : Nat) (hi : i < l.length) : w.cell? ⟨g, i, none⟩ = some (.int .u8 (rdN l i)) := by
 rw [cell_of_row _ _ _ _ _ _ h]; simp [rdN, List.getD_eq_getElem?_getD, hi]
theorem Wby.set (h : Wby g T l w) (i : Nat) (x : Int) : Wby g T (l.set i x) (w.setCell ⟨g, i, none⟩ (.int .u8 x)) := by
 refine hset h ?_; rw [List.map_set]
end
theorem idx8_0 (a b c d e f g z : Int) (w : World) : (Instr.index 198 (.agg #[.int .u32 a, .int .u32 b, .int .u32 c, .int .u32 d, .int .u32 e, .int .u32 f, .int .u32 g, .int .u32 z]) (.int .i64 0)).run Tryd.prog w = .ok (.int .u32 a) w := by kernel_rfl
theorem idx8_1 (a b c d e f g z : Int) (w : World) : (Instr.index 198 (.agg #[.int .u32 a, .int .u32 b, .int .u32 c, .int .u32 d, .int .u32 e, .int .u32 f, .int .u32 g, .int .u32 z]) (.int .i64 1)).run Tryd.prog w = .ok (.int .u32 b) w := by kernel_rfl
theorem idx8_2 (a b c d e f g z : Int) (w : World) : (Instr.index 198 (.agg #[.int .u32 a, .int .u32 b, .int .u32 c, .int .u32 d, .int .u32 e, .int .u32 f, .int .u32 g, .int .u32 z]) (.int .i64 2)).run Tryd.prog w = .ok (.int .u32 c) w := by kernel_rfl
theorem idx8_3 (a b c d e f g z : Int) (w : World) : (Instr.index 198 (.agg #[.int .u32 a, .int .u32 b, .int .u32 c, .int .u32 d, .int .u32 e, .int .u32 f, .int .u32 g, .int .u32 z]) (.int .i64 3)).run Tryd.prog w = .ok (.int .u32 d) w := by kernel_rfl
theorem idx8_4 (a b c d e f g z : Int) (w : World) : (Instr.index 198 (.agg #[.int .u32 a, .int .u32 b, .int .u32 c, .int .u32 d, .int .u32 e, .int .u32 f, .int .u32 g, .int .u32 z]) (.int .i64 4)).run Tryd.prog w = .ok (.int .u32 e) w := by kernel_rfl
theorem idx8_5 (a b c d e f g z : Int) (w : World) : (Instr.index 198 (.agg #[.int .u32 a, .int .u32 b, .int .u32 c, .int .u32 d, .int .u32 e, .int .u32 f, .int .u32 g, .int .u32 z]) (.int .i64 5)).run Tryd.prog w = .ok (.int .u32 f) w := by kernel_rfl
theorem idx8_6 (a b c d e f g z : Int) (w : World) : (Instr.index 198 (.agg #[.int .u32 a, .int .u32 b, .int .u32 c, .int .u32 d, .int .u32 e, .int .u32 f, .int .u32 g, .int .u32 z]) (.int .i64 6)).run Tryd.prog w = .ok (.int .u32 g) w := by kernel_rfl
theorem idx8_7 (a b c d e f g z : Int) (w : World) : (Instr.index 198 (.agg #[.int .u32 a, .int .u32 b, .int .u32 c, .int .u32 d, .int .u32 e, .int .u32 f, .int .u32 g, .int .u32 z]) (.int .i64 7)).run Tryd.prog w = .ok (.int .u32 z) w := by kernel_rfl
theorem idx8 (st : List Int) (n : Nat) (hn : n < 8) (w : World) : (Instr.index 198 (.agg #[.int .u32 (rdN st 0), .int .u32 (rdN st 1), .int .u32 (rdN st 2), .int .u32 (rdN st 3), .int .u32 (rdN st 4), .int .u32 (rdN st 5), .int .u32 (rdN st 6), .int .u32 (rdN st 7)]) (.int .i64 (n : Int))).run Tryd.prog w = .ok (.int .u32 (rdN st n)) w := by
 have h : n = 0 ∨ n = 1 ∨ n = 2 ∨ n = 3 ∨ n = 4 ∨ n = 5 ∨ n = 6 ∨ n = 7 := by omega
 rcases h with rfl | rfl | rfl | rfl | rfl | rfl | rfl | rfl
 ·exact idx8_0 _ _ _ _ _ _ _ _ w
 ·exact idx8_1 _ _ _ _ _ _ _ _ w
 ·exact idx8_2 _ _ _ _ _ _ _ _ w
 ·exact idx8_3 _ _ _ _ _ _ _ _ w
 ·exact idx8_4 _ _ _ _ _ _ _ _ w
 ·exact idx8_5 _ _ _ _ _ _ _ _ w
 ·exact idx8_6 _ _ _ _ _ _ _ _ w
 ·exact idx8_7 _ _ _ _ _ _ _ _ w
theorem set_out (st : List Int) (n : Nat) (hn : n < 8) :
  ((((outB st n ++ List.replicate (32 - 4 * n) 0).set (4 * n) (rdN st n / 16777216 % 256)).set (4 * n + 1) (rdN st n / 65536 % 256)).set (4 * n + 2) (rdN st n / 256 % 256)).set (4 * n + 3) (rdN st n % 256) = outB st (n + 1) ++ List.replicate (32 - 4 * (n + 1)) 0 := by
 have hl := outB_length st n; rw [show 32 - 4 * n = (32 - 4 * (n + 1)) + 4 by omega]; rw [List.set_append_right _ _ (by omega), List.set_append_right _ _ (by omega), List.set_append_right _ _ (by omega), List.set_append_right _ _ (by omega), hl]; rw [show 4 * n - 4 * n = 0 by omega, show 4 * n + 1 - 4 * n = 1 by omega, show 4 * n + 2 - 4 * n = 2 by omega, show 4 * n + 3 - 4 * n = 3 by omega]; rw [List.replicate_succ, List.replicate_succ, List.replicate_succ, List.replicate_succ, outB, List.append_assoc]; rfl
set_option maxHeartbeats 1000000 in
theorem finish_any (b : Nat) (l : List UInt8) (w : World) (h : Fed b (ints l) (l.length : Nat) w) (ht : Tab w) (hbg : 0 < b) (hs : l.length ≤ 8589934592) :
  Calls Tryd.prog 125 #[.pointer (some ⟨b, 0, none⟩)] w fun e w' => e = .returned (.agg ((shaL l).map (Value.int .u8)).toArray) ∧ w.grownBy w' (some b) := by
 have hgb : some 0 ≠ some b := by intro e; have := Option.some.inj e; omega
 have hlt := h.lt; have hzm := zerosN_mod l.length; have hzl := zerosN_lt l.length; have c0 := h.cT; have HZM := Lib.hid hzm; clear hzm; have HH := Lib.hid h; clear h; have HT := Lib.hid ht; clear ht
 go_enter Tryd.func125, Tryd.ntmps125
 go_wp2_with fail
 refine (add_any b (ints l) _ 128 _ (HH.out.keep (Below.heap_alloc _ _ _ hlt)) (HT.out.below zq_15) hbg).mono ?_; rintro e w1 ⟨rfl, h1, hg1⟩; have hT1 := HT.out.below (w1 := w.alloc (.cells ((List.replicate 32 (Value.int .u8 0)).toArray) 123)) zq_15; have HT1 := Lib.hid (Tab.grown hT1 hg1 hgb); clear hT1; have H1 := Lib.hid h1; clear h1; have gW1 : w.grownBy w1 (some b) := Lib.grownBy_trans (World.grownBy_alloc w _ _) hg1; have hz1 := hg1.size; simp only [World.size_alloc] at hz1; have hR1 : w1.heap[w.heap.size]? = some (.cells ((List.replicate 32 (Value.int .u8 0)).toArray) 123 (0, 0)) := by
  rw [hg1.block w.heap.size (by simp) (by intro e; have := Option.some.inj e; omega)]; exact heap_alloc_new _ _
 have HR1 := Lib.hid hR1; clear hR1; rw [show ints l ++ [128] = ints (padZ l 0) by simp [padZ, ints]] at H1
 go_wp2
 go_loopg [15] (zerosN l.length) (fun kq v w' => ∃ j : Nat, j + kq = zerosN l.length ∧ Fed b (ints (padZ l j)) (l.length : Nat) w' ∧ w1.grownBy w' (some b))
 case atStart => exact ⟨0, by omega, H1.out, grown_refl _ _⟩
 case round =>
  clear c0; obtain ⟨j, hj, hF, hG⟩ := hrel; have HTr := Lib.hid (Tab.grown HT1.out hG hgb); have c2 := hF.cF; have HF := Lib.hid hF; clear hF; obtain ⟨q, hq⟩ : ∃ q, (ints (padZ l j)).length % 64 = q := ⟨_, rfl⟩
  rw [hq] at c2; rw [ints_length, padZ_length] at hq
  cases gk with
  | zero =>
   obtain rfl : j = zerosN l.length := by omega
   have h56 : ((q : Int) != 56) = false := by rw [bne_eq_false_iff_eq]; have := HZM.out; omega
   clear hq
   go_wp2
   go_loopw [4] (fun i w' => ∃ m : Nat, m ≤ 8 ∧ i = .int .i64 (7 - (m : Int)) ∧ Fed b (ints (padZ l (zerosN l.length) ++ lenB l.length m)) (l.length : Nat) w' ∧ w1.grownBy w' (some b)) (fun i _ => (intOf i + 1).toNat)
   case atStart => exact ⟨0, by omega, rfl, by simpa [lenB] using HF.out, hG⟩
   case round =>
    clear HF HTr c2 h56 hG; obtain ⟨m, hm, rfl, hF, hG⟩ := hrel; have HTr := Lib.hid (Tab.grown HT1.out hG hgb); have HF := Lib.hid hF; clear hF
    by_cases h8 : m < 8
    ·have t0 : (0 : Int) ≤ 7 - (m : Int) := by omega
     have hbyte : (l.length : Int) * 8 / 2 ^ (8 * (7 - m)) % 256 = ((lenByte l.length m).toNat : Int) := by
      have := len_byte_eq2 l.length (7 - m) (by omega) hs; rw [show 7 - (7 - m) = m by omega, show ((8 * l.length : Nat) : Int) = (l.length : Int) * 8 by omega] at this; exact this
     go_wp2_with (go_at_call 144; refine (add_any b _ _ ((lenByte l.length m).toNat : Int) _ HF.out HTr.out hbg).mono ?_; rintro e w2 ⟨rfl, h2, hg2⟩; have H2 := Lib.hid h2; clear h2)
     clear hbyte
     go_roundw
     case rel =>
      refine ⟨m + 1, by omega, by go_num, ?_, Lib.grownBy_trans hG hg2⟩; rw [lenB_succ, ← List.append_assoc, ints_app]; exact H2.out
     case measure => simp [intOf]; omega
    ·obtain rfl : m = 8 := by omega
     rw [show padZ l (zerosN l.length) ++ lenB l.length 8 = padP l from rfl] at HF; obtain ⟨blk, hH, _⟩ := HF.out.out; have hst : stateP (ints (padP l)) ((ints (padP l)).length / 64) = stateP (ints (padP l)) ((l.length + 72) / 64) := by
      rw [ints_length, padP_length]; congr 1; omega
     rw [hst] at hH; have hst8 := hH.st8; obtain ⟨st, hs2⟩ : ∃ st, stateP (ints (padP l)) ((l.length + 72) / 64) = st := ⟨_, rfl⟩
     rw [hs2] at hH hst8; have HS2 := Lib.hid hs2; clear hs2 hst; have g0 := hH.cS 0 (by omega); have g1 := hH.cS 1 (by omega); have g2 := hH.cS 2 (by omega); have g3 := hH.cS 3 (by omega); have g4 := hH.cS 4 (by omega); have g5 := hH.cS 5 (by omega); have g6 := hH.cS 6 (by omega); have g7 := hH.cS 7 (by omega); have hbl := hH.lt; have hz := hG.size; have hz0 := hz; clear hH; rw [show (7 : Int) - ((8 : Nat) : Int) = -1 from rfl]
     go_wp2
     clear g0 g1 g2 g3 g4 g5 g6 g7; obtain ⟨wo, hwo⟩ : ∃ wo : World, wo = wr := ⟨_, rfl⟩
     rw [← hwo]; subst hwo
     go_loopw [37] (fun i w' => ∃ n : Nat, n ≤ 8 ∧ i = .int .i64 n ∧ Wby wo.heap.size 123 (outB st n ++ List.replicate (32 - 4 * n) 0) w' ∧ w1.grownBy w' (some b)) (fun i _ => 8 - (intOf i).toNat)
     case atStart => exact ⟨0, by omega, rfl, (heap_alloc_new _ _).trans rfl, Lib.grownBy_allocR hG _⟩
     case round =>
      clear hG hz; obtain ⟨n, hn, rfl, hO, hG⟩ := hrel; have HO := Lib.hid hO; clear hO; have hz := hG.size; have hll : (outB st n ++ List.replicate (32 - 4 * n) 0).length = 32 := by rw [List.length_append, outB_length, List.length_replicate]; omega
      by_cases hl : n < 8
      ·have hidx := idx8 st n hl; have d0 := HO.out.c (4 * n) (by omega); have d1 := HO.out.c (4 * n + 1) (by omega); have d2 := HO.out.c (4 * n + 2) (by omega); have d3 := HO.out.c (4 * n + 3) (by omega); have fo := HO.out.f; have n8 : (n : Int) < 8 := by omega
       have n0 : (0 : Int) ≤ (n : Int) := by omega
       clear hll
       go_wp2
       go_roundw
       case rel =>
        refine ⟨n + 1, by omega, by go_num, ?_, ?_⟩
        ·rw [← set_out st n hl]; exact (((HO.out.set (4 * n) _).set (4 * n + 1) _).set (4 * n + 2) _).set (4 * n + 3) _
        ·have ho : w1.heap.size ≤ wo.heap.size := hz0; have h := fun (a : World) (g : w1.grownBy a (some b)) (i : Nat) (v : Value) => (⟨g.os, g.tape, g.output, by simpa using g.size, fun k hk hne => (heap_setCell_other _ _ _ _ (by show k ≠ wo.heap.size; omega)).trans (g.block k hk hne)⟩ : w1.grownBy (a.setCell ⟨wo.heap.size, i, none⟩ v) (some b))
         exact h _ (h _ (h _ (h _ hG _ _) _ _) _ _) _ _
       case measure => simp [intOf]; omega
      ·obtain rfl : n = 8 := by omega
       rw [show ((8 : Nat) : Int) = 8 from rfl]; rw [show List.replicate (32 - 4 * 8) (0 : Int) = [] from rfl, List.append_nil] at HO hll; have hRr : wr.heap[w.heap.size]? = some (.cells ((List.replicate 32 (Value.int .u8 0)).toArray) 123 (0, 0)) := (hG.block w.heap.size (by omega) (by intro e; have := Option.some.inj e; omega)).trans HR1.out; have HRr := Lib.hid hRr; clear hRr; have hsz : ((outB st 8).map (Value.int .u8)).toArray.size = 32 := by simp [hll]
       have hi : (Tryd.prog.info? 123).map (·.size) = some (((outB st 8).map (Value.int .u8)).toArray.size) := by rw [hsz]; kernel_rfl
       have h1c : (((outB st 8).map (Value.int .u8)).toArray).all (·.oneCell') = true := by simp [Value.oneCell']
       have HI := Lib.hid hi; clear hi; have HSZ := Lib.hid hsz; clear hsz; have H1C := Lib.hid h1c; clear h1c hll; obtain ⟨cs, hcs⟩ : ∃ cs, ((outB st 8).map (Value.int .u8)).toArray = cs := ⟨_, rfl⟩
       have hOo : wr.heap[wo.heap.size]? = some (.cells cs 123 (0, 0)) := by rw [← hcs]; exact HO.out
       rw [hcs] at HI HSZ H1C; have HCS := Lib.hid hcs; have HOo := Lib.hid hOo; clear hcs hOo HO
       go_wp2_with (first | ((with_reducible refine gate_dst (N := 68) rfl ?_); refine wpList_load_row rfl 123 _ rfl wo.heap.size rfl _ _ _ _ HOo.out Tryd.underlying123 rfl HI.out ?_) | refine wpList_store_row rfl 123 _ _ rfl w.heap.size cs rfl rfl _ _ HRr.out HI.out (by rw [HSZ.out]; rfl) H1C.out ?_)
       refine bodyPost_ret (v := .agg cs) (results_cell_row Tryd.results125 _ _ w.heap.size 123 cs (0, 0) _ rfl (setRow_heap _ _ _ _ _ _ HRr.out) Tryd.underlying123 rfl HI.out) rfl ⟨?_, ?_⟩
       ·rw [← HCS.out, ← HS2.out]; rfl
       ·have g := Lib.grownBy_trans gW1 hG; exact ⟨g.os, g.tape, g.output, by rw [setRow_size]; exact g.size, fun k hk hne => (setRow_other _ _ _ _ (by omega)).trans (g.block k hk hne)⟩
  | succ gk =>
   have h56 : ((q : Int) != 56) = true := by rw [bne_iff_ne]; have := HZM.out; omega
   clear hq
   go_wp2_with (go_at_call 144; refine (add_any b _ _ 0 _ HF.out HTr.out hbg).mono ?_; rintro e w2 ⟨rfl, h2, hg2⟩; have H2 := Lib.hid h2; clear h2)
   go_roundg gk
   case measure => omega
   case rel =>
    refine ⟨j + 1, by omega, ?_, Lib.grownBy_trans hG hg2⟩; rw [padZ_succ, ints_app]; exact H2.out
end Go.Proofs.YtonbmghgbblifaaDoor.Z
end
section
namespace Go.Proofs.YtonbmghgbblifaaDoor.Z
open RowKit YtonbmghgbblifaaDoor YtonbmghgbblifaaDoorW.PrintWords YtonbmghgbblifaaDoorW.PrintLast
set_option linter.all false
set_option maxRecDepth 100000
def catL (ps : List ByteArray) : List UInt8 := ps.flatMap fun s => s.data.toList
theorem catL_snoc (ps : List ByteArray) (s : ByteArray) : catL (ps ++ [s]) = catL ps ++ s.data.toList := by simp [catL]
theorem catL_take_le (ps : List ByteArray) (n : Nat) : (catL (ps.take n)).length ≤ (catL ps).length := by
 have h : catL ps = catL (ps.take n) ++ catL (ps.drop n) := by
  unfold catL; rw [← List.flatMap_append, List.take_append_drop]
 rw [h, List.length_append]; omega
def hashV (l : List Int) : Value := .agg (l.map (Value.int .u8)).toArray
set_option maxHeartbeats 1000000 in
theorem hashOf_any (g : Nat) (ps : List ByteArray) (w : World) (hc : ∀ j p, ps[j]? = some p → w.cell? ⟨g, j, none⟩ = some (.string p)) (ht : Tab w) (hsz : (catL ps).length ≤ 4294967296) (hn : ps.length ≤ 4294967296) (hg : g < w.heap.size) :
  Calls Tryd.prog 83 #[.slice (some ⟨g, 0, none⟩) ps.length ps.length] w fun e w' => e = .returned (hashV (shaL (catL ps))) ∧ Below w.heap.size w w' := by
 have HC := Lib.hid hc; clear hc; have HT := Lib.hid ht; clear ht
 go_enter Tryd.func83, Tryd.ntmps83
 go_wp2_with (go_at_call 123; refine (newHasher_any _).mono ?_; rintro e w1 ⟨rfl, h1, hz1, hb1⟩; have H1 := Lib.hid h1; clear h1)
 have hz2 := hz1; simp only [World.size_alloc] at hz2; have hR1 : w1.heap[w.heap.size]? = some (.cells ((List.replicate 32 (Value.int .u8 0)).toArray) 123 (0, 0)) := (hb1.block _ (by simp)).trans (heap_alloc_new _ _); have HR1 := Lib.hid hR1; clear hR1; have hF1 : Fed (w.heap.size + 1) (ints (catL (ps.take 0))) ((catL (ps.take 0)).length : Nat) w1 := by
  refine ⟨_, by simpa [ints, catL, stateP] using H1.out, fun j hj => by simp [catL, ints] at hj⟩
 have HF1 := Lib.hid hF1; clear hF1; have hB1 : Below w.heap.size w w1 := ((Below.refl _ _).alloc (Nat.le_refl _) _).trans (hb1.mono (by simp))
 go_wp2
 go_loopw [9] (fun i wr => ∃ n : Nat, n ≤ ps.length ∧ i = .int .i64 n ∧ Fed (w.heap.size + 1) (ints (catL (ps.take n))) ((catL (ps.take n)).length : Nat) wr ∧ w1.grownBy wr (some (w.heap.size + 1))) (fun i _ => ps.length - (intOf i).toNat)
 case atStart => exact ⟨0, by omega, rfl, HF1.out, grown_refl _ _⟩
 case round =>
  obtain ⟨n, hn1, rfl, hF, hG⟩ := hrel; have hBr : Below w.heap.size w wr := hB1.grown hG (by omega) (by intro k hk; have := Option.some.inj hk; omega); have HTr := Lib.hid (HT.out.below hBr); have hbg : 0 < w.heap.size + 1 := by have := HT.out.lt; omega
  have HF := Lib.hid hF; clear hF
  by_cases hl : n < ps.length
  ·have hcn := HC.out n ps[n] (List.getElem?_eq_getElem hl); have hcr := (hBr.cell (p := ⟨g, n, none⟩) hg).trans hcn; clear hcn; have hle := catL_take_le ps n; have hle1 : ps[n].size ≤ (catL ps).length := by
    have := catL_take_le ps (n + 1); rw [List.take_succ_eq_append_getElem hl, catL_snoc, List.length_append] at this; have e : ps[n].data.toList.length = ps[n].size := rfl; omega
   obtain ⟨p, hp⟩ : ∃ p, ps[n] = p := ⟨_, rfl⟩
   rw [hp] at hcr hle1; have HP := Lib.hid hp; clear hp; have n0 : (0 : Int) ≤ (n : Int) := by omega
   go_wp2_with (go_at_call 124; refine (feed_any _ _ _ _ _ HF.out HTr.out hbg (by omega) (by omega)).mono ?_; rintro e w2 ⟨rfl, h2, hg2⟩; have H2 := Lib.hid h2; clear h2)
   go_roundw
   case rel =>
    refine ⟨n + 1, by omega, by go_num, ?_, Lib.grownBy_trans hG hg2⟩; rw [List.take_succ_eq_append_getElem hl, catL_snoc, HP.out, ints_app, List.length_append]; exact H2.out
   case measure => simp [intOf]; omega
  ·obtain rfl : n = ps.length := by omega
   rw [List.take_length] at HF; have hRr : wr.heap[w.heap.size]? = some (.cells ((List.replicate 32 (Value.int .u8 0)).toArray) 123 (0, 0)) := (hG.block w.heap.size (by omega) (by intro e; have := Option.some.inj e; omega)).trans HR1.out; have HRr := Lib.hid hRr; clear hRr; have hz3 := hG.size; have hi : (Tryd.prog.info? 123).map (·.size) = some (((shaL (catL ps)).map (Value.int .u8)).toArray.size) := by
    rw [show (((shaL (catL ps)).map (Value.int .u8)).toArray.size) = 32 by simp [shaL_length]]; kernel_rfl
   have h1c : (((shaL (catL ps)).map (Value.int .u8)).toArray).all (·.oneCell') = true := by simp [Value.oneCell']
   have hsz : ((List.replicate 32 (Value.int .u8 0)).toArray).size = ((shaL (catL ps)).map (Value.int .u8)).toArray.size := by simp [shaL_length]
   have HI := Lib.hid hi; clear hi; have H1C := Lib.hid h1c; clear h1c; have HSZ2 := Lib.hid hsz; clear hsz
   go_wp2_with (first | (go_at_call 125; refine (finish_any _ _ _ HF.out HTr.out hbg (by omega)).mono ?_; rintro e w2 ⟨rfl, hg2⟩; have HR2 := Lib.hid ((hg2.block w.heap.size (by omega) (by intro e; have := Option.some.inj e; omega)).trans HRr.out)) | refine wpList_store_row rfl 123 _ _ rfl w.heap.size _ rfl rfl _ _ HR2.out HI.out HSZ2.out H1C.out ?_)
   refine bodyPost_ret (v := hashV (shaL (catL ps))) (results_cell_row Tryd.results83 _ _ w.heap.size 123 _ (0, 0) _ rfl (setRow_heap _ _ _ _ _ _ HR2.out) Tryd.underlying123 rfl HI.out) rfl ⟨rfl, ?_⟩; have hb : Below w.heap.size w w2 := hBr.grown hg2 (by have := hBr.size; omega) (by intro k hk; have := Option.some.inj hk; omega); exact ⟨hb.os, hb.tape, hb.output, by rw [setRow_size]; exact hb.size, fun k hk => (setRow_other _ _ _ _ (by omega)).trans (hb.block k hk)⟩
theorem part_u8 (l : List Int) (i : Nat) (hi : i < l.length) (w : World) : (Go.part 5 (l.map (Value.int .u8)).toArray (i * 1)).run Tryd.prog w = .ok (.int .u8 (rdN l i)) w := by
 have hA : ∀ w : World, (Go.isAgg 5).run Tryd.prog w = .ok false w := fun _ => by kernel_rfl
 unfold Go.part; simp only [Sem.run_bind, hA, Result.andThen_ok, Bool.false_eq_true, if_false, Nat.mul_one]; have : ((l.map (Value.int .u8)).toArray)[i]? = some (.int .u8 (rdN l i)) := by simp [rdN, List.getD_eq_getElem?_getD, hi]
 rw [this]; rfl
theorem eq_loop (l m : List Int) (hl : l.length = 32) (hm : m.length = 32) (w : World) : ∀ (k j : Nat), j + k = 32 →
  (forIn (List.range' j k) ((none, ()) : Option Bool × Unit) (fun i _ => (do
   let a ← Go.part 5 (l.map (Value.int .u8)).toArray (i * 1)
   let b ← Go.part 5 (m.map (Value.int .u8)).toArray (i * 1)
   let c ← Op.equalIn 9999 5 a b
   if (!c) = true then pure (ForInStep.done (some false, ())) else pure (ForInStep.yield (none, ())) : Sem (ForInStep (Option Bool × Unit))))).run Tryd.prog w = .ok (if l.drop j = m.drop j then (none, ()) else (some false, ())) w := by
 intro k
 induction k with
 | zero =>
  intro j hj; rw [List.drop_eq_nil_of_le (by omega), List.drop_eq_nil_of_le (by omega)]; simp
 | succ k ih =>
  intro j hj; have e1 : l.drop j = rdN l j :: l.drop (j + 1) := by
   rw [List.drop_eq_getElem_cons (by omega)]; simp [rdN, List.getD_eq_getElem?_getD, show j < l.length by omega]
  have e2 : m.drop j = rdN m j :: m.drop (j + 1) := by
   rw [List.drop_eq_getElem_cons (by omega)]; simp [rdN, List.getD_eq_getElem?_getD, show j < m.length by omega]
  have h := ih (j + 1) (by omega); rw [List.range'_succ, List.forIn_cons]; simp only [Sem.run_bind]; rw [part_u8 l j (by omega), e1, e2]; simp only [Result.andThen_ok]; rw [part_u8 m j (by omega)]; simp only [Result.andThen_ok]; rw [show (9999 : Nat) = 9998 + 1 from rfl, run_equalIn_int w 9998 5 .u8 .u8 _ _ Tryd.underlying5]; simp only [Result.andThen_ok]
  by_cases hc : rdN l j = rdN m j
  ·rw [hc, beq_self_eq_true]; simp only [Bool.not_true, Bool.false_eq_true, if_false, Sem.run_pure, Result.andThen_ok, List.cons.injEq, true_and]; exact h
  ·rw [beq_eq_false_iff_ne.2 hc]; simp [hc]
theorem eq_arr (l m : List Int) (hl : l.length = 32) (hm : m.length = 32) (w : World) :
  (Op.equalIn 10000 123 (hashV l) (hashV m)).run Tryd.prog w = .ok (decide (l = m)) w := by
 have hT : Tryd.prog.underlying 123 = some (.array 32 5) := by kernel_rfl
 have hs : ∀ w : World, (sizeOf 5).run Tryd.prog w = .ok 1 w := fun _ => by kernel_rfl
 unfold hashV; show (Op.equalIn (9999 + 1) 123 _ _).run Tryd.prog w = _; unfold Op.equalIn; simp only [Sem.run_bind, run_underlying hT, Result.andThen_ok, hs]; rw [Std.Legacy.Range.forIn_eq_forIn_range']; have h := eq_loop l m hl hm w 32 0 rfl; refine (congrArg (fun r => Result.andThen r _) h).trans ?_; simp only [Result.andThen_ok, List.drop_zero]
 by_cases hc : l = m
 ·simp [hc]
 ·simp [hc]
theorem run_neq_hash (l m : List Int) (hl : l.length = 32) (hm : m.length = 32) (w : World) :
  (binOp .neq 123 (hashV l) (hashV m)).run Tryd.prog w = .ok (.bool (!decide (l = m))) w := by
 unfold hashV; rw [run_neq_struct]; have h := eq_arr l m hl hm w; unfold hashV at h; rw [h]; rfl
end Go.Proofs.YtonbmghgbblifaaDoor.Z
end
