/- Own texts, joined. -/
import Derived.WalkKit
import Derived.WalkSpells
import Derived.Deep.AppendSrc
import Derived.Deep.Upon
import Derived.Lib.ConvBytes
import Derived.Laws.MakeOwn
import Derived.Deep.Draws
import Derived.Test.YtmfejehhfmaodaaDoorYFnExactNodeHash0
import Derived.Test.YtmfejehhfmaodaaDoorRows
import Derived.WalkLawsBesides
import Derived.Deep.Light
import Derived.Lib.Hide
import Derived.Handy
import Derived.Deep.QuietTactic
import Derived.BigQuiet
import Derived.Test.YtmfejehhfmaodaaDoorYFnExactNodeHash2
import Derived.Test.YtmfejehhfmaodaaDoorYFnExactNodeHash1
import Derived.Test.YtmfejehhfmaodaaDoorWMore
/- A slice of the call's own, told by its cells: what appends, stores and conversions make of it. -/
section
namespace Go.Proofs.YtmfejehhfmaodaaDoor
open Go.RowKit
set_option linter.unusedVariables false
set_option linter.unusedSimpArgs false
/-- v: a slice of n elements (size cells each) whose block lies from base on and is no one else's; its cells are xs. -/
def Own (w : World) (base size : Nat) (v : Value) (n : Nat) (xs : List Value) : Prop :=
  xs.length = n * size ∧ ((v = .slice none 0 0 ∧ n = 0) ∨ ∃ g cap, v = .slice (some ⟨g, 0, none⟩) n cap ∧ base ≤ g ∧ g < w.heap.size ∧ n ≤ cap ∧ cap ≤ maxLen ∧ (∀ j, j < n * size → w.cell? ⟨g, j, none⟩ = xs[j]?) ∧ ∀ j, j < cap * size → (w.cell? ⟨g, j, none⟩).isSome = true ∧ w.frozen? ⟨g, j, none⟩ = false)
theorem Own.nil (w : World) (base size : Nat) : Own w base size (.slice none 0 0) 0 [] := ⟨by simp, .inl ⟨rfl, rfl⟩⟩
section
variable {w w1 : World} {base size : Nat} {v : Value} {n : Nat} {xs : List Value}
theorem Own.len (h : Own w base size v n xs) : xs.length = n * size := h.1
theorem Own.form (h : Own w base size v n xs) : ∃ A c, v = .slice A n c := by
  rcases h.2 with ⟨rfl, rfl⟩ | ⟨g, cap, rfl, _⟩
  · exact ⟨none, 0, rfl⟩
  · exact ⟨_, cap, rfl⟩
theorem Own.bound (h : Own w base size v n xs) : n ≤ maxLen := by
  rcases h.2 with ⟨_, rfl⟩ | ⟨g, cap, _, _, _, h1, h2, _⟩
  · exact Nat.zero_le _
  · omega
/-- Where there is an element. -/
theorem Own.at (h : Own w base size v n xs) (hn : 0 < n) : ∃ g cap, v = .slice (some ⟨g, 0, none⟩) n cap ∧ base ≤ g ∧ g < w.heap.size ∧ n ≤ cap ∧ (∀ j, j < n * size → w.cell? ⟨g, j, none⟩ = xs[j]?) ∧ ∀ j, j < n * size → w.frozen? ⟨g, j, none⟩ = false := by
  rcases h.2 with ⟨_, rfl⟩ | ⟨g, cap, rfl, h1, h2, h3, h4, h5, h6⟩
  · omega
  · exact ⟨g, cap, rfl, h1, h2, h3, h5, fun j hj => (h6 j (Nat.lt_of_lt_of_le hj (Nat.mul_le_mul_right _ h3))).2⟩
theorem Own.keep (h : Own w base size v n xs) (hs : w.heap.size ≤ w1.heap.size) (hb : ∀ k, v.ownBlock = some k → w1.heap[k]? = w.heap[k]?) : Own w1 base size v n xs := by
  refine ⟨h.1, ?_⟩
  rcases h.2 with h2 | ⟨g, cap, rfl, h1, h2, h3, h4, h5, h6⟩
  · exact .inl h2
  · have e := hb g rfl
    refine .inr ⟨g, cap, rfl, h1, by omega, h3, h4, fun j hj => ?_, fun j hj => ?_⟩
    · rw [World.cell?_of_block (a := ⟨g, j, none⟩) e]; exact h5 j hj
    · rw [World.cell?_of_block (a := ⟨g, j, none⟩) e, World.frozen?_of_block (a := ⟨g, j, none⟩) e]; exact h6 j hj
theorem Own.lt (h : Own w base size v n xs) (k : Nat) (hk : v.ownBlock = some k) : base ≤ k ∧ k < w.heap.size := by
  rcases h.2 with ⟨rfl, _⟩ | ⟨g, cap, rfl, h1, h2, _⟩
  · simp [Value.ownBlock] at hk
  · simp [Value.ownBlock] at hk; omega
theorem Own.below (h : Own w base size v n xs) (hb : Below w.heap.size w w1) : Own w1 base size v n xs :=
  h.keep hb.size fun k hk => hb.block k (h.lt k hk).2
theorem Own.alloc (h : Own w base size v n xs) (o : Obj) : Own (w.alloc o) base size v n xs :=
  h.below ((Below.refl _ _).alloc (Nat.le_refl _) o)
theorem Own.drew (h : Own w base size v n xs) : Own w.drew base size v n xs := h.below (Below.refl _ _).drew
theorem Own.drewN (h : Own w base size v n xs) (k : Nat) : Own (w.drewN k) base size v n xs := h.keep (Nat.le_refl _) fun _ _ => rfl
theorem Own.set (h : Own w base size v n xs) {p : Addr} (hp : v.ownBlock ≠ some p.block) (u : Value) : Own (w.setCell p u) base size v n xs :=
  h.keep (by simp) fun k hk => Below.heap_setCell w p u k (fun e => hp (by rw [hk, e]))
theorem Own.grown (h : Own w base size v n xs) {row : Option Nat} (hg : w.grownBy w1 row) (hne : ∀ k, v.ownBlock = some k → some k ≠ row) : Own w1 base size v n xs :=
  h.keep hg.size fun k hk => hg.block k (h.lt k hk).2 (hne k hk)
theorem Own.lower (h : Own w base size v n xs) {b : Nat} (hb : b ≤ base) : Own w b size v n xs := by
  refine ⟨h.1, ?_⟩
  rcases h.2 with h2 | ⟨g, cap, rfl, h1, h2⟩
  · exact .inl h2
  · exact .inr ⟨g, cap, rfl, by omega, h2⟩
theorem below_of_grown {B : Nat} {w0 : World} (h : Below B w0 w) (hv : Own w base size v n xs) (hB : B ≤ base) (hB2 : B ≤ w.heap.size) (hg : w.grownBy w1 v.ownBlock) : Below B w0 w1 :=
  h.grown hg hB2 fun k hk => Nat.le_trans hB (hv.lt k hk).1
end
theorem tape_setCells : ∀ (w : World) (g o : Nat) (vs : List Value), (w.setCells g o vs).tape = w.tape
  | _, _, _, [] => rfl
  | w, g, o, v :: r => by rw [World.setCells, tape_setCells (w.setCell ⟨g, o, none⟩ v) g (o + 1) r]; rfl
section
variable {P : Program} {w : World}
theorem run_app (base : Nat) (t tx ty e : TypeId) (i : TypeInfo) (z : Value) (size bytes : Nat) (ht : P.underlying t = some (.slice e)) (hi : P.info? e = some i) (hz : i.zero = some z)
    (hsize : i.size = size) (hby : i.bytes = bytes) (hzs : z.cells.size = size)
    {v : Value} {n : Nat} {xs : List Value} (hown : Own w base size v n xs) {x : Value} {m : Nat} {news : List Value} (hs : Src P size tx x m news w)
    (h63 : n + m ≤ maxLen) (hbytes : (n + m) * bytes ≤ 140737488355328) (hbase : base ≤ w.heap.size) :
    ∃ v' w', (Builtin.append_ #[t, tx] ty #[v, x]).run P w = .ok v' w' ∧ Own w' base size v' (n + m) (xs ++ news) ∧ w.grownBy w' v.ownBlock ∧ (v'.ownBlock = v.ownBlock ∨ ∀ k, v'.ownBlock = some k → w.heap.size ≤ k) := by
  subst hsize; subst hby
  have hsmall : ((n + m : Nat) : Int) ≤ 9223372036854775807 := by simp only [maxLen] at h63; omega
  have hlen : (xs ++ news).length = (n + m) * i.size := by rw [List.length_append, hown.1, hs.newsLen, Nat.add_mul]
  have grow : ∀ (bs : Option Addr) (sc : Nat), v = .slice bs n sc → sc < n + m → (Builtin.firstCells i.size n (.slice bs n sc)).run P w.drew = .ok xs.toArray w.drew →
      ∃ v' w', (Builtin.append_ #[t, tx] ty #[v, x]).run P w = .ok v' w' ∧ Own w' base i.size v' (n + m) (xs ++ news) ∧ w.grownBy w' v.ownBlock ∧ (v'.ownBlock = v.ownBlock ∨ ∀ k, v'.ownBlock = some k → w.heap.size ≤ k) := by
    rintro bs sc rfl hlt hold
    have hrun := run_append_grow_src (P := P) w t tx ty e i z ht hi hz bs n sc xs hold x m news hs hlt hsmall (growslice_fits hlt hbytes)
    have hge := grownCap_ge w (n + m) sc e
    have hcm := grownCap_le_maxLen w (n + m) sc e h63
    refine ⟨_, _, hrun, ⟨hlen, .inr ⟨w.heap.size, _, rfl, hbase, by simp, hge, hcm, fun j hj => ?_, fun j hj => ?_⟩⟩, ⟨rfl, rfl, rfl, by simp, fun k hk _ => Below.heap_alloc w.drew _ k hk⟩, .inr fun k hk => by simp [Value.ownBlock] at hk; omega⟩
    · have e1 := World.cell?_alloc_new w.drew (((xs ++ news).toArray ++ Builtin.zeroCells z.cells (grownCap w (n + m) sc e - (n + m)))) e j
      refine Eq.trans e1 ?_
      rw [Array.getElem?_append_left (by simp only [List.size_toArray]; omega), List.getElem?_toArray]
    · have e1 := World.cell?_alloc_new w.drew (((xs ++ news).toArray ++ Builtin.zeroCells z.cells (grownCap w (n + m) sc e - (n + m)))) e j
      have hsz : ((xs ++ news).toArray ++ Builtin.zeroCells z.cells (grownCap w (n + m) sc e - (n + m))).size = grownCap w (n + m) sc e * i.size := by
        rw [Array.size_append, List.size_toArray, hlen, size_zeroCells, hzs, ← Nat.add_mul]
        congr 1
        omega
      refine ⟨?_, World.frozen?_alloc_new w.drew _ _ j⟩
      have e2 : ∀ o, o = some ((((xs ++ news).toArray ++ Builtin.zeroCells z.cells (grownCap w (n + m) sc e - (n + m))))[j]'(by rw [hsz]; exact hj)) → o.isSome = true := fun o h => by rw [h]; rfl
      exact e2 _ (Eq.trans e1 (Array.getElem?_eq_getElem (by rw [hsz]; exact hj)))
  rcases hown.2 with ⟨rfl, rfl⟩ | ⟨g, cap, rfl, h1, h2, h3, h4, h5, h6⟩
  · have hx : xs = [] := List.eq_nil_of_length_eq_zero (by simpa using hown.1)
    subst hx
    by_cases hm : m = 0
    · subst hm
      have hn : news = [] := List.eq_nil_of_length_eq_zero (by simpa using hs.newsLen)
      subst hn
      exact ⟨_, w, run_append_nothing w t tx ty e i ht hi none 0 0 (Nat.le_refl _) x hs, Own.nil w base i.size, ⟨rfl, rfl, rfl, Nat.le_refl _, fun _ _ _ => rfl⟩, .inl rfl⟩
    · exact grow none 0 rfl (by omega) (run_firstCells_none w.drew i.size 0 0 0)
  · by_cases hroom : n + m ≤ cap
    · have hfit : (n + m) * i.size ≤ cap * i.size := Nat.mul_le_mul_right _ hroom
      have hnl := hs.newsLen
      have hmul : (n + m) * i.size = n * i.size + m * i.size := Nat.add_mul ..
      have hrun := run_append_room_src (P := P) w t tx ty e i ht hi g 0 n cap x m news hs hroom (fun j hj => by rw [Nat.zero_add]; exact (h6 _ (by omega)).1) (fun j hj => by rw [Nat.zero_add]; exact (h6 _ (by omega)).2)
      rw [Nat.zero_add] at hrun
      have hk := World.keptBut_setCells g (may := fun p => p.block = g) news (n * i.size) w (fun _ _ => rfl)
      refine ⟨_, _, hrun, ⟨hlen, .inr ⟨g, cap, rfl, h1, Nat.lt_of_lt_of_le h2 hk.size, hroom, h4, fun j hj => ?_, fun j hj => ⟨?_, (World.frozen?_setCells g _ _ _ _).trans (h6 j hj).2⟩⟩⟩, ?_, .inl rfl⟩
      · by_cases hjn : j < n * i.size
        · rw [World.cell?_setCells_out g _ _ _ _ (fun _ _ => Or.inl hjn), List.getElem?_append_left (by rw [hown.1]; exact hjn)]
          exact h5 j hjn
        · have hin := World.cell?_setCells_in g news (n * i.size) w (fun j hj => (h6 _ (by omega)).1) (j - n * i.size) (by omega)
          rw [show n * i.size + (j - n * i.size) = j by omega] at hin
          rw [hin, List.getElem?_append_right (by rw [hown.1]; omega), hown.1, List.getElem?_eq_getElem]
      · by_cases hjn : n * i.size ≤ j ∧ j < n * i.size + news.length
        · have hin := World.cell?_setCells_in g news (n * i.size) w (fun j hj => (h6 _ (by omega)).1) (j - n * i.size) (by omega)
          rw [show n * i.size + (j - n * i.size) = j by omega] at hin
          rw [hin]; rfl
        · rw [World.cell?_setCells_out g _ _ _ _ (fun _ _ => by show j < _ ∨ _ ≤ j; omega)]
          exact (h6 j hj).1
      · refine ⟨World.os_setCells _ _ _ _, tape_setCells _ _ _ _, World.output_setCells _ _ _ _, hk.size, fun k hk1 hk2 => World.heap_setCells_other w g _ news hk1 (fun e => hk2 (by simp [Value.ownBlock, e]))⟩
    · refine grow _ cap rfl (by omega) ?_
      refine run_firstCells_some w.drew i.size n ⟨g, 0, none⟩ n cap xs hown.1 (fun j u hu => ?_)
      rw [Addr.add_lit, Nat.zero_add]
      exact (h5 j (by have := (List.getElem?_eq_some_iff.1 hu).1; rw [hown.1] at this; exact this)).trans hu
theorem wpList_app (base : Nat) {ops : Array Oper} {rest : List Oper} {o : Oper} {a : Act} {Q : Exit → Act → World → Prop} (hgd : o.guard = none) (s x : Operand) (t tx : TypeId)
    (ho : o.op = .call { callee := .builtin .append, args := #[s, x], argTypes := #[t, tx] }) (e : TypeId) (z : Value) (size bytes : Nat) (ht : P.underlying t = some (.slice e))
    (hinfo : (P.info? e).map (fun i => (i.zero, i.size, i.bytes)) = some (some z, size, bytes)) (hzs : z.cells.size = size)
    {v : Value} {n : Nat} {xs : List Value} (hv : a.eval s = v) (hown : Own w base size v n xs) (xv : Value) (m : Nat) (news : List Value) (hx : a.eval x = xv) (hs : Src P size tx xv m news w)
    (h63 : n + m ≤ maxLen) (hbytes : (n + m) * bytes ≤ 140737488355328) (hbase : base ≤ w.heap.size)
    (hK : ∀ v' w', Own w' base size v' (n + m) (xs ++ news) → w.grownBy w' v.ownBlock → (v'.ownBlock = v.ownBlock ∨ ∀ k, v'.ownBlock = some k → w.heap.size ≤ k) → wpList P ops Q rest (a.put o.dst v') w') : wpList P ops Q (o :: rest) a w := by
  obtain ⟨i, hi, hz, hsize, hby⟩ := info_parts hinfo
  refine wpList_plain hgd fun K hK' => ?_
  obtain ⟨v', w', hr, h2, h3, h4⟩ := run_app (P := P) (w := w) base t tx o.type e i z size bytes ht hi hz hsize hby hzs hown hs h63 hbytes hbase
  unfold Oper.wp execOp
  simp only [ho, resolve, invoke, builtin, Sem.run_bind, Sem.run_pure, Result.andThen_ok, List.map_toArray, List.map_cons, List.map_nil, hv, hx, hr]
  exact hK' _ _ (hK v' w' h2 h3 h4)
/-- One element more, out of the variadic's box. -/
theorem src_one (w0 : World) (tx e' e : TypeId) (hk : P.underlying tx = some (.slice e')) (u : Value) (h1 : u.oneCell' = true) :
    Src P 1 tx (.slice (some ⟨w0.heap.size, 0, none⟩) 1 1) 1 [u] (w0.alloc (.cells #[u] e)) :=
  Src.ofSlice _ hk _ 1 1 [u] rfl (fun j u' hu => by
    match j, hu with
    | 0, hu => simp at hu; subst hu; simp [Addr.add]) (by simpa using h1)
/-- '[]byte(s)'. -/
theorem Own.bytes (w : World) (base : Nat) (e : TypeId) (s : ByteArray) (hb : base ≤ w.heap.size) (hs : s.size ≤ maxLen) :
    Own (Lib.bytesWorld w e s) base 1 (.slice (some ⟨w.heap.size, 0, none⟩) s.size (grownCap w s.size 0 e)) s.size (byteCells s) := by
  have hge := grownCap_ge w s.size 0 e
  have hsz : (Lib.bytesCells w e s).size = grownCap w s.size 0 e := by
    have : s.data.size = s.size := rfl
    simp [Lib.bytesCells, this]; omega
  refine ⟨by rw [byteCells_length]; omega, .inr ⟨w.heap.size, _, rfl, hb, by rw [Lib.bytesWorld_size]; omega, hge, grownCap_le_maxLen w s.size 0 e hs, fun j hj => ?_, fun j hj => ?_⟩⟩
  · have hj' : j < s.size := by omega
    have hj2 : j < s.data.toList.length := by rw [Array.length_toList]; exact hj'
    rw [Lib.bytesWorld_cell w e s j hj']
    simp only [byteCells, List.getElem?_map, List.getElem?_eq_getElem hj2, List.getD_eq_getElem?_getD, Option.map_some, Option.getD_some]
  · have h1 := Lib.bytesWorld_at_new w e s
    constructor
    · simp [World.cell?, h1, hsz]; omega
    · simp [World.frozen?, h1, hsz]; omega
theorem bytes_grown (w : World) (e : TypeId) (s : ByteArray) {B : Nat} {w0 : World} (h : Below B w0 w) (hB : B ≤ w.heap.size) : Below B w0 (Lib.bytesWorld w e s) :=
  h.trans ⟨rfl, rfl, rfl, by rw [Lib.bytesWorld_size]; omega, fun k hk => Lib.bytesWorld_at_old w e s k (by omega)⟩
def bcs (l : List UInt8) : List Value := l.map fun b => Value.int .u8 b.toNat
theorem bcs_length (l : List UInt8) : (bcs l).length = l.length := by simp [bcs]
theorem bcs_append (l k : List UInt8) : bcs (l ++ k) = bcs l ++ bcs k := by simp [bcs]
theorem bcs_get (l : List UInt8) (j : Nat) (h : j < l.length) : (bcs l)[j]? = some (.int .u8 l[j].toNat) := by simp [bcs, h]
theorem byteCells_bcs (s : ByteArray) : byteCells s = bcs s.data.toList := rfl
/-- A slice of bytes of the call's own. -/
def OwnB (w : World) (base : Nat) (v : Value) (l : List UInt8) : Prop := Own w base 1 v l.length (bcs l)
theorem strOfNums_bcs (l : List UInt8) : strOfNums (l.map fun b => (b.toNat : Int)) = ⟨l.toArray⟩ := by
  unfold strOfNums
  congr 1
  apply Array.ext'
  simp only [List.toArray, List.map_map]
  induction l with
  | nil => rfl
  | cons b l ih => simp only [List.map_cons, Function.comp]; rw [show UInt8.ofNat ((b.toNat : Int)).toNat = b by simp]; simpa using ih
/-- 'string(b[:k])' and 'string(b)'. -/
theorem OwnB.str {base : Nat} {v : Value} {l : List UInt8} (h : OwnB w base v l) (src dst e : TypeId) (hs : P.underlying src = some (.slice e)) (he : P.underlying e = some (.int .u8)) (hd : P.underlying dst = some .string) :
    (convert src dst v).run P w = .ok (.string ⟨l.toArray⟩) w := by
  rcases h.2 with ⟨rfl, hn⟩ | ⟨g, cap, rfl, h1, h2, h3, h4, h5, h6⟩
  · obtain rfl : l = [] := List.eq_nil_of_length_eq_zero hn
    exact run_convert_bytes_nil w src e hs he 0 0 dst hd
  · rw [← strOfNums_bcs]
    refine run_convert_bytes_arg w src e hs he g 0 l.length cap _ (by simp) (fun i hi => ?_) dst hd
    rw [Nat.zero_add, h5 i (by omega), bcs_get l i hi]
    simp [List.getD_eq_getElem?_getD, hi]
theorem OwnB.strTo {base g n cap : Nat} {l : List UInt8} (h : OwnB w base (.slice (some ⟨g, 0, none⟩) n cap) l) (k : Nat) (hk : k ≤ l.length) (src dst e : TypeId) (hs : P.underlying src = some (.slice e)) (he : P.underlying e = some (.int .u8)) (hd : P.underlying dst = some .string) :
    (convert src dst (.slice (some ⟨g, 0, none⟩) k cap)).run P w = .ok (.string ⟨(l.take k).toArray⟩) w := by
  rcases h.2 with ⟨h0, hn⟩ | ⟨g', cap', hv, h1, h2, h3, h4, h5, h6⟩
  · cases h0
  · cases hv
    rw [← strOfNums_bcs]
    refine run_convert_bytes_arg w src e hs he g 0 k cap _ (by simp; omega) (fun i hi => ?_) dst hd
    rw [Nat.zero_add, h5 i (by omega), bcs_get l i (by omega)]
    simp [List.getD_eq_getElem?_getD, hi, List.getElem?_take]
    rw [List.getElem?_eq_getElem (by omega)]; simp
section
variable {ops : Array Oper} {rest : List Oper} {o : Oper} {a : Act} {Q : Exit → Act → World → Prop}
/-- The operation that writes slot N. -/
theorem gate_dst {N : Nat} (h : o.dst = some N) (k : wpList P ops Q (o :: rest) a w) : wpList P ops Q (o :: rest) a w := k
theorem wpList_convert (hgd : o.guard = none) (src dst : TypeId) (x : Operand) (ho : o.op = .convert src dst x) {v u : Value} {w1 : World} (hx : a.eval x = v) (hr : (convert src dst v).run P w = .ok u w1)
    (hK : wpList P ops Q rest (a.put o.dst u) w1) : wpList P ops Q (o :: rest) a w := by
  refine wpList_plain hgd fun K hK' => ?_
  unfold Oper.wp execOp
  simp only [ho, hx, Sem.run_bind, Sem.run_pure, hr, Result.andThen_ok]
  exact hK' _ _ hK
/-- '[]byte(s)'. -/
theorem wpList_bytes (base : Nat) (hgd : o.guard = none) (src dst e : TypeId) (x : Operand) (ho : o.op = .convert src dst x) {ud : TypeDesc} (hs : P.underlying src = some ud) (hd : P.underlying dst = some (.slice e)) (he : P.underlying e = some (.int .u8))
    (s : ByteArray) (hx : a.eval x = .string s) (hb : base ≤ w.heap.size) (hl : s.size ≤ maxLen)
    (hK : ∀ v w1, OwnB w1 base v s.data.toList → (∀ k, v.ownBlock = some k → w.heap.size ≤ k) → Below w.heap.size w w1 → wpList P ops Q rest (a.put o.dst v) w1) : wpList P ops Q (o :: rest) a w := by
  refine wpList_convert hgd src dst x ho hx (Lib.run_convert_string_bytes w src dst e s hs hd he) ?_
  refine hK _ _ ?_ (fun k hk => by simp [Value.ownBlock] at hk; omega) (bytes_grown w e s (Below.refl _ _) (Nat.le_refl _))
  have := Own.bytes w base e s hb hl
  rw [byteCells_bcs] at this
  unfold OwnB
  rw [show s.data.toList.length = s.size from by rw [Array.length_toList]; rfl]
  exact this
/-- 'append(b, x)', one byte. -/
theorem wpList_appB1 (base : Nat) (hgd : o.guard = none) (s x : Operand) (t e : TypeId) (ho : o.op = .call { callee := .builtin .append, args := #[s, x], argTypes := #[t, t] }) (ht : P.underlying t = some (.slice e))
    (hinfo : (P.info? e).map (fun i => (i.zero, i.size, i.bytes)) = some (some (.int .u8 0), 1, 1)) {v : Value} {l : List UInt8} (hv : a.eval s = v) (b : UInt8) {w0 : World} (hx : a.eval x = .slice (some ⟨w0.heap.size, 0, none⟩) 1 1)
    (hw : w = w0.alloc (.cells #[.int .u8 b.toNat] e)) (hown : OwnB w0 base v l) (hl : l.length + 1 ≤ 140737488355328) (hbase : base ≤ w0.heap.size)
    (hK : ∀ v' w', OwnB w' base v' (l ++ [b]) → Below base w0 w' → wpList P ops Q rest (a.put o.dst v') w') : wpList P ops Q (o :: rest) a w := by
  subst hw
  have h2 := hown.alloc (.cells #[.int .u8 b.toNat] e)
  refine wpList_app base hgd s x t t ho e (.int .u8 0) 1 1 ht hinfo rfl hv h2 _ 1 [.int .u8 b.toNat] hx (src_one w0 t e e ht _ rfl) (by unfold maxLen; omega) (by omega) (by simp; omega) ?_
  intro v' w' h3 hg _
  refine hK v' w' ?_ (below_of_grown ((Below.refl _ _).alloc hbase _) h2 (Nat.le_refl _) (by simp; omega) hg)
  unfold OwnB
  rw [bcs_append, List.length_append]
  exact h3
/-- 'append(b, s...)', a text. -/
theorem wpList_appBs (base : Nat) (hgd : o.guard = none) (s x : Operand) (t tx e : TypeId) (ho : o.op = .call { callee := .builtin .append, args := #[s, x], argTypes := #[t, tx] }) (ht : P.underlying t = some (.slice e)) (htx : P.underlying tx = some .string)
    (hinfo : (P.info? e).map (fun i => (i.zero, i.size, i.bytes)) = some (some (.int .u8 0), 1, 1)) {v : Value} {l : List UInt8} (hv : a.eval s = v) (u : ByteArray) (hx : a.eval x = .string u)
    (hown : OwnB w base v l) (hl : l.length + u.size ≤ 140737488355328) (hbase : base ≤ w.heap.size)
    (hK : ∀ v' w', OwnB w' base v' (l ++ u.data.toList) → Below base w w' → wpList P ops Q rest (a.put o.dst v') w') : wpList P ops Q (o :: rest) a w := by
  refine wpList_app base hgd s x t tx ho e (.int .u8 0) 1 1 ht hinfo rfl hv hown _ u.size (byteCells u) hx (Src.ofString w htx u) (by unfold maxLen; omega) (by omega) hbase ?_
  intro v' w' h3 hg _
  refine hK v' w' ?_ (below_of_grown (Below.refl _ _) hown (Nat.le_refl _) hbase hg)
  unfold OwnB
  rw [bcs_append, List.length_append, show u.data.toList.length = u.size from by rw [Array.length_toList]; rfl]
  exact h3
/-- 'make([]T, n)'. -/
theorem wpList_make (base : Nat) (hgd : o.guard = none) (x y : Operand) (t e : TypeId) (ho : o.op = .makeSlice t x y) (ht : P.underlying t = some (.slice e)) (z : Value) (size bytes : Nat)
    (hinfo : (P.info? e).map (fun i => (i.zero, i.size, i.bytes)) = some (some z, size, bytes)) (n : Nat) (hx : a.eval x = .int .i64 n) (hy : a.eval y = .int .i64 n) (hn : n * bytes ≤ 140737488355328) (hm : n ≤ maxLen) (hbase : base ≤ w.heap.size)
    (hK : ∀ g w1, w.heap.size ≤ g → Own w1 base size (.slice (some ⟨g, 0, none⟩) n n) n (madeCells z.cells (n * size)).toList → Below w.heap.size w w1 → wpList P ops Q rest (a.put o.dst (.slice (some ⟨g, 0, none⟩) n n)) w1) : wpList P ops Q (o :: rest) a w := by
  obtain ⟨i, hi, hz0, hsize, hby⟩ := info_parts hinfo
  subst hsize; subst hby
  have hm' : (n : Int) ≤ 9223372036854775807 := by unfold maxLen at hm; omega
  have hb' : (i.bytes : Int) * (n : Int) ≤ 281474976710656 := by
    have h : ((n * i.bytes : Nat) : Int) ≤ 281474976710656 := by omega
    rw [Nat.mul_comm] at h
    rwa [Int.natCast_mul] at h
  have hr := run_make (P := P) w t e i z ht hi hz0 .i64 .i64 n n (by omega) (Int.le_refl _) hb' hm'
  simp only [Int.toNat_natCast] at hr
  refine wpList_plain hgd fun K hK' => ?_
  unfold Oper.wp execOp
  simp only [ho, hx, hy, Sem.run_bind, Sem.run_pure, hr, Result.andThen_ok]
  refine hK' _ _ (hK _ _ (Nat.le_refl _) ?_ ((Below.refl _ _).alloc (Nat.le_refl _) _))
  have hs := size_madeCells z.cells (n * i.size)
  refine ⟨by rw [Array.length_toList, hs], .inr ⟨w.heap.size, n, rfl, hbase, by simp, Nat.le_refl _, hm, fun j hj => ?_, fun j hj => ⟨?_, World.frozen?_alloc_new w _ _ j⟩⟩⟩
  · rw [World.cell?_alloc_new w _ _ j, Array.getElem?_toList]
  · rw [World.cell?_alloc_new w _ _ j, Array.getElem?_eq_getElem (by rw [hs]; exact hj)]; rfl
end
end
/-- A store into one of its cells. -/
theorem Own.store {w : World} {base size g n cap : Nat} {xs : List Value} (h : Own w base size (.slice (some ⟨g, 0, none⟩) n cap) n xs) (k : Nat) (hk : k < n * size) (u : Value) :
    Own (w.setCell ⟨g, k, none⟩ u) base size (.slice (some ⟨g, 0, none⟩) n cap) n (xs.set k u) := by
  obtain ⟨h0, h⟩ := h
  rcases h with ⟨h, rfl⟩ | ⟨g', cap', hv, h1, h2, h3, h4, h5, h6⟩
  · cases h
  · cases hv
    refine ⟨by rw [List.length_set, h0], .inr ⟨g, cap, rfl, h1, by simpa using h2, h3, h4, fun j hj => ?_, fun j hj => ⟨?_, by rw [World.frozen?_setCell]; exact (h6 j hj).2⟩⟩⟩
    · by_cases e : j = k
      · subst e
        rw [World.cell?_setCell_same' _ _ _ (h6 j (Nat.lt_of_lt_of_le hj (Nat.mul_le_mul_right _ h3))).1, List.getElem?_set_self (by omega)]
      · rw [World.cell?_setCell_other _ _ _ _ (fun e' => e (by cases e'; rfl)), List.getElem?_set_ne (fun e' => e e'.symm)]
        exact h5 j hj
    · by_cases e : j = k
      · subst e
        rw [World.cell?_setCell_same' _ _ _ (h6 j hj).1]; rfl
      · rw [World.cell?_setCell_other _ _ _ _ (fun e' => e (by cases e'; rfl))]
        exact (h6 j hj).1
/-- A cell of its elements. -/
theorem Own.cell {w : World} {base size g n cap : Nat} {xs : List Value} (h : Own w base size (.slice (some ⟨g, 0, none⟩) n cap) n xs) (k : Nat) (hk : k < n * size) :
    w.cell? ⟨g, k, none⟩ = xs[k]? ∧ (w.cell? ⟨g, k, none⟩).isSome = true ∧ w.frozen? ⟨g, k, none⟩ = false := by
  obtain ⟨h0, h⟩ := h
  rcases h with ⟨h, rfl⟩ | ⟨g', cap', hv, h1, h2, h3, h4, h5, h6⟩
  · cases h
  · cases hv
    have hk' := Nat.lt_of_lt_of_le hk (Nat.mul_le_mul_right size h3)
    exact ⟨h5 k hk, (h6 k hk').1, (h6 k hk').2⟩
theorem Own.slot {w : World} {base size g n cap : Nat} {xs : List Value} (h : Own w base size (.slice (some ⟨g, 0, none⟩) n cap) n xs) (k : Nat) (hk : k < n * size) : ∃ u, w.cell? ⟨g, k, none⟩ = some u ∧ w.frozen? ⟨g, k, none⟩ = false := by
  obtain ⟨_, h2, h3⟩ := h.cell k hk
  obtain ⟨u, hu⟩ := Option.isSome_iff_exists.1 h2
  exact ⟨u, hu, h3⟩
def lenOf : Value → Nat | .slice _ n _ => n | _ => 0
@[simp] theorem lenOf_slice (a : Option Addr) (n c : Nat) : lenOf (.slice a n c) = n := rfl
/-- What is read: n elements of some cells each. -/
def Rd (w : World) (size : Nat) (v : Value) (n : Nat) (xs : List Value) : Prop :=
  xs.length = n * size ∧ ∃ A c, v = .slice A n c ∧ n ≤ c ∧ (0 < n → ∃ b off, A = some ⟨b, off, none⟩ ∧ b < w.heap.size ∧ ∀ j, j < n * size → w.cell? ⟨b, off + j, none⟩ = xs[j]?)
theorem Own.rd {w : World} {base size : Nat} {v : Value} {n : Nat} {xs : List Value} (h : Own w base size v n xs) : Rd w size v n xs := by
  refine ⟨h.1, ?_⟩
  rcases h.2 with ⟨rfl, rfl⟩ | ⟨g, cap, rfl, h1, h2, h3, h4, h5, h6⟩
  · exact ⟨none, 0, rfl, Nat.le_refl _, fun h => absurd h (Nat.lt_irrefl 0)⟩
  · exact ⟨_, cap, rfl, h3, fun _ => ⟨g, 0, rfl, h2, fun j hj => by rw [Nat.zero_add]; exact h5 j hj⟩⟩
theorem Rd.below {w w1 : World} {size : Nat} {v : Value} {n : Nat} {xs : List Value} (h : Rd w size v n xs) {B : Nat} (hb : Below B w w1) (hB : w.heap.size ≤ B) : Rd w1 size v n xs := by
  obtain ⟨h1, A, c, hv, h2, h3⟩ := h
  refine ⟨h1, A, c, hv, h2, fun hn => ?_⟩
  obtain ⟨b, off, hA, hlt, hc⟩ := h3 hn
  exact ⟨b, off, hA, Nat.lt_of_lt_of_le hlt hb.size, fun j hj => by rw [hb.cell (p := ⟨b, off + j, none⟩) (by show b < B; omega)]; exact hc j hj⟩
end Go.Proofs.YtmfejehhfmaodaaDoor

end

/- Contracts of functions of the program, written by a program of this session over the translation's print. -/
section
namespace Go.Proofs.YtmfejehhfmaodaaDoor.Z
open Go.RowKit Go.Proofs.YtmfejehhfmaodaaDoorW.PrintWords Go.Proofs.YtmfejehhfmaodaaDoorW.PrintLast Go.Proofs.YtmfejehhfmaodaaDoorW.PrintMore
attribute [local go_sem] max2_int min2_int max_two min_two max_three min_three max_four min_four   -- for this text's walks alone
set_option linter.unusedVariables false
set_option linter.unusedSimpArgs false

/-! ### bits_RotateLeft32: function 49 -/
def bits_RotateLeft32.f (a0 : Int) (a1 : Int) : Option (Int) := if 0 ≤ (Go.bits .and .u64 (IntKind.u64.wrap (a1)) 31) then (if 0 ≤ (IntKind.u64.wrap (32 - (Go.bits .and .u64 (IntKind.u64.wrap (a1)) 31))) then (some (Go.bits .or .u32 (shl .u32 a0 (Go.bits .and .u64 (IntKind.u64.wrap (a1)) 31)) (shr .u32 a0 (IntKind.u64.wrap (32 - (Go.bits .and .u64 (IntKind.u64.wrap (a1)) 31)))))) else (none)) else (none)
set_option maxHeartbeats 8000000 in
set_option maxRecDepth 100000 in
theorem bits_RotateLeft32.calls (a0 : Int) (a1 : Int) (r : Int) (w : World) (h : bits_RotateLeft32.f a0 a1 = some r) :
    Calls Tryd.prog 49 #[.int .u32 a0, .int .i64 a1] w fun e w' => e = .returned (.int .u32 r) ∧ Drawn0 w w' := by
  have H : (if 0 ≤ (Go.bits .and .u64 (IntKind.u64.wrap (a1)) 31) then (if 0 ≤ (IntKind.u64.wrap (32 - (Go.bits .and .u64 (IntKind.u64.wrap (a1)) 31))) then (some (Go.bits .or .u32 (shl .u32 a0 (Go.bits .and .u64 (IntKind.u64.wrap (a1)) 31)) (shr .u32 a0 (IntKind.u64.wrap (32 - (Go.bits .and .u64 (IntKind.u64.wrap (a1)) 31)))))) else (none)) else (none)) = some r := h
  clear h
  obtain ⟨ji3, hji3⟩ : ∃ j_ : Int, (Go.bits .and .u64 (IntKind.u64.wrap (a1)) 31) = j_ := ⟨_, rfl⟩
  replace H : (if 0 ≤ (ji3) then (if 0 ≤ (IntKind.u64.wrap (32 - (ji3))) then (some (Go.bits .or .u32 (shl .u32 a0 (ji3)) (shr .u32 a0 (IntKind.u64.wrap (32 - (ji3)))))) else (none)) else (none)) = some r := by first | (rw [hji3] at H; exact H) | (simp only [hji3] at H ⊢; exact H)
  by_cases c4 : 0 ≤ (ji3)
  · rw [if_pos c4] at H
    have c4b0 := eq_true c4
    have c4b1 : decide (0 ≤ (ji3)) = true := decide_eq_true c4
    clear c4
    obtain ⟨ji5, hji5⟩ : ∃ j_ : Int, (shl .u32 a0 (ji3)) = j_ := ⟨_, rfl⟩
    replace H : (if 0 ≤ (IntKind.u64.wrap (32 - (ji3))) then (some (Go.bits .or .u32 (ji5) (shr .u32 a0 (IntKind.u64.wrap (32 - (ji3)))))) else (none)) = some r := by first | (rw [hji5] at H; exact H) | (simp only [hji5] at H ⊢; exact H)
    have hji5_ : (IntKind.u32.wrap (a0 * 2 ^ min (ji3).toNat 32)) = ji5 := hji5
    have hji5z : (ji3) ≤ 32 → (IntKind.u32.wrap (a0 * 2 ^ (ji3).toNat)) = ji5 := shl_small hji5
    obtain ⟨ji6, hji6⟩ : ∃ j_ : Int, (IntKind.u64.wrap (32 - (ji3))) = j_ := ⟨_, rfl⟩
    replace H : (if 0 ≤ (ji6) then (some (Go.bits .or .u32 (ji5) (shr .u32 a0 (ji6)))) else (none)) = some r := by first | (rw [hji6] at H; exact H) | (simp only [hji6] at H ⊢; exact H)
    by_cases c7 : 0 ≤ (ji6)
    · rw [if_pos c7] at H
      have c7b0 := eq_true c7
      have c7b1 : decide (0 ≤ (ji6)) = true := decide_eq_true c7
      clear c7
      obtain ⟨ji8, hji8⟩ : ∃ j_ : Int, (shr .u32 a0 (ji6)) = j_ := ⟨_, rfl⟩
      replace H : (some (Go.bits .or .u32 (ji5) (ji8))) = some r := by first | (rw [hji8] at H; exact H) | (simp only [hji8] at H ⊢; exact H)
      have hji8_ : (a0 / 2 ^ min (ji6).toNat 32) = ji8 := hji8
      have hji8z : (ji6) ≤ 32 → (a0 / 2 ^ (ji6).toNat) = ji8 := shr_small hji8
      obtain rfl := Option.some.inj H
      go_enter Tryd.func49, Tryd.ntmps49
      go_wp2
      go_ret
      exact ⟨by first | rfl | (simp; done) | (simp only [← hji3, ← hji5, ← hji6, ← hji8] <;> (first | rfl | simp)) | (simp [*]; done), by repeat (first | exact Drawn0.refl _ | apply Drawn0.step)⟩
    · rw [if_neg c7] at H
      exact absurd H (by simp)
  · rw [if_neg c4] at H
    exact absurd H (by simp)

end Go.Proofs.YtmfejehhfmaodaaDoor.Z

end

/- Small facts that all walks of this seat use. -/
section
namespace Go.Proofs.YtmfejehhfmaodaaDoor
open Go.RowKit
set_option linter.unusedVariables false
set_option linter.unusedSimpArgs false
theorem ret_int {k : IntKind} {a b : Int} (h : a = b) : Ending.returned (.int k a) = .returned (.int k b) := by rw [h]
theorem ret_bool {a b : Bool} (h : a = b) : Ending.returned (.bool a) = .returned (.bool b) := by rw [h]
theorem ret_str {a b : ByteArray} (h : a = b) : Ending.returned (.string a) = .returned (.string b) := by rw [h]
theorem bcell {W w1 : World} (hb : Below W.heap.size W w1) : (∀ b o, b < W.heap.size → w1.cell? ⟨b, o, none⟩ = W.cell? ⟨b, o, none⟩) ∧ (∀ b o, b < W.heap.size → w1.frozen? ⟨b, o, none⟩ = W.frozen? ⟨b, o, none⟩) :=
  ⟨fun b o h => hb.cell (p := ⟨b, o, none⟩) h, fun b o h => hb.frozen (p := ⟨b, o, none⟩) h⟩
theorem bcell2 {B : Nat} {W w1 : World} (hb : Below B W w1) : (∀ b o, b < B → w1.cell? ⟨b, o, none⟩ = W.cell? ⟨b, o, none⟩) ∧ (∀ b o, b < B → w1.frozen? ⟨b, o, none⟩ = W.frozen? ⟨b, o, none⟩) :=
  ⟨fun b o h => hb.cell (p := ⟨b, o, none⟩) h, fun b o h => hb.frozen (p := ⟨b, o, none⟩) h⟩
theorem below_new {B : Nat} {a w : World} (h : Below B a w) (hB : B ≤ a.heap.size) (o : Obj) : Below B a (w.alloc o) := h.alloc (Nat.le_trans hB h.size) o
theorem below_new2 {a w : World} (h : Below a.heap.size a w) (o : Obj) : Below a.heap.size a (w.alloc o) := h.alloc h.size o
theorem bdrewN {B : Nat} {a w : World} (h : Below B a w) (n : Nat) : Below B a (w.drewN n) := ⟨h.os, h.tape, h.output, h.size, h.block⟩
theorem lt1 (n : Nat) : n < n + 1 + 1 := by omega
theorem lt2 (n : Nat) : n < n + 1 + 1 + 1 := by omega
theorem lt3 (n : Nat) : n + 1 < n + 1 + 1 + 1 := by omega
attribute [go_sem] lt1 lt2 lt3
theorem cellB {u w1 : World} {p : Addr} {v : Value} (hb : Below u.heap.size u w1) (h : u.cell? p = some v) : w1.cell? p = some v := (hb.cell (World.block_lt_of_cell? _ _ h)).trans h
theorem cellBd {u w1 : World} {p : Addr} {v : Value} (hb : Below u.drew.heap.size u.drew w1) (h : u.cell? p = some v) : w1.cell? p = some v := cellB hb (by simpa using h)
theorem held4B {u w1 : World} {p q r t : Addr} {a b c d : Value} (hb : Below u.heap.size u w1) (h : u.cell? p = some a ∧ u.cell? q = some b ∧ u.cell? r = some c ∧ u.cell? t = some d) : w1.cell? p = some a ∧ w1.cell? q = some b ∧ w1.cell? r = some c ∧ w1.cell? t = some d := ⟨cellB hb h.1, cellB hb h.2.1, cellB hb h.2.2.1, cellB hb h.2.2.2⟩
theorem hidB {w u w1 : World} (h : Hid (Below w.heap.size w u)) (hb : Below u.heap.size u w1) : Hid (Below w.heap.size w w1) := Lib.hid (h.out.trans (hb.mono h.out.size))
theorem hidDrew {w u : World} (h : Hid (Below w.heap.size w u)) : Hid (Below w.heap.size w u.drew) := Lib.hid h.out.drew
theorem below_then {a w w' : World} (h : Below a.heap.size a w) (k : Below w.heap.size w w') : Below a.heap.size a w' := h.trans (k.mono h.size)
theorem str_eq (s t : ByteArray) : (s.toList == t.toList) = decide (s = t) := by
  rw [Bool.eq_iff_iff]; simp only [beq_iff_eq, decide_eq_true_eq]
  rw [ByteArray.toList_eq, ByteArray.toList_eq]
  constructor
  · intro h; exact ByteArray.ext (Array.toList_inj.mp h)
  · intro h; rw [h]
end Go.Proofs.YtmfejehhfmaodaaDoor

end

/- SHA-256 over lists of numbers, and that the specification's schedule and block are it. -/
section
namespace Go.Proofs.YtmfejehhfmaodaaDoor.Z
open Go.RowKit Go.Proofs.YtmfejehhfmaodaaDoor Go.Proofs.YtmfejehhfmaodaaDoorW.PrintWords Go.Proofs.YtmfejehhfmaodaaDoorW.PrintLast
set_option linter.unusedVariables false
set_option linter.unusedSimpArgs false
theorem w64 {x : Int} (h0 : -9223372036854775808 ≤ x) (h1 : x ≤ 9223372036854775807) : wrap64 x = x := by unfold wrap64; omega
def turn (x n : Int) : Int := Go.bits .or .u32 (shr .u32 x n) (shl .u32 x (32 - n))
theorem wrapU64 {x : Int} (h0 : 0 ≤ x) (h1 : x < 18446744073709551616) : IntKind.u64.wrap x = x := by
  simp [IntKind.wrap, IntKind.bits, IntKind.signed]; omega
theorem l1Turn_f (x n : Int) (h0 : 0 ≤ n) (h1 : n ≤ 32) : spec_l1Turn.f x n = some (turn x n) := by
  unfold spec_l1Turn.f turn
  rw [wrapU64 h0 (by omega), w64 (by omega) (by omega), wrapU64 (by omega) (by omega), if_pos h0, if_pos (by omega)]
theorem or_comm32 (a b : Int) : Go.bits .or .u32 a b = Go.bits .or .u32 b a := by
  show IntKind.u32.wrap (((BitVec.ofInt 32 a ||| BitVec.ofInt 32 b).toNat : Nat) : Int) = IntKind.u32.wrap (((BitVec.ofInt 32 b ||| BitVec.ofInt 32 a).toNat : Nat) : Int)
  rw [BitVec.or_comm]
theorem rot_f (x : Int) (n : Nat) (h : n ∈ [2, 6, 7, 11, 13, 17, 18, 19, 22, 25]) : bits_RotateLeft32.f x (-(n : Int)) = some (turn x n) := by
  have key : ∀ n ∈ [2, 6, 7, 11, 13, 17, 18, 19, 22, 25], Go.bits .and .u64 (IntKind.u64.wrap (-((n : Nat) : Int))) 31 = 32 - (n : Int) ∧ IntKind.u64.wrap (32 - (32 - (n : Int))) = n ∧ 0 ≤ 32 - (n : Int) := by decide
  obtain ⟨k1, k2, k3⟩ := key n h
  unfold bits_RotateLeft32.f turn
  rw [k1, k2, if_pos k3, if_pos (by omega), or_comm32]
def rdN (l : List Int) (i : Nat) : Int := l.getD i 0
theorem rd_nat (l : List Int) (i : Nat) : rd l (i : Int) = rdN l i := rfl
theorem rd_eq (l : List Int) (x : Int) (i : Nat) (h : x = i) : rd l x = rdN l i := by rw [h]; rfl
def wordP (b : List Int) (i : Nat) : Int := Go.bits .or .u32 (Go.bits .or .u32 (Go.bits .or .u32 (((rdN b (4 * i) % 4294967296) * 16777216) % 4294967296) (((rdN b (4 * i + 1) % 4294967296) * 65536) % 4294967296)) (((rdN b (4 * i + 2) % 4294967296) * 256) % 4294967296)) (rdN b (4 * i + 3) % 4294967296)
def nextP (w : List Int) (n : Nat) : Int := ((((((rdN w (n - 16)) + (Go.bits .xor .u32 (Go.bits .xor .u32 (turn (rdN w (n - 15)) 7) (turn (rdN w (n - 15)) 18)) ((rdN w (n - 15)) / 8))) % 4294967296) + (rdN w (n - 7))) % 4294967296) + (Go.bits .xor .u32 (Go.bits .xor .u32 (turn (rdN w (n - 2)) 17) (turn (rdN w (n - 2)) 19)) ((rdN w (n - 2)) / 1024))) % 4294967296
/-- The first n words of a block's schedule. -/
def schedP (b : List Int) : Nat → List Int
  | 0 => []
  | n + 1 => schedP b n ++ [if n < 16 then wordP b n else nextP (schedP b n) n]
theorem schedP_length (b : List Int) : ∀ n, (schedP b n).length = n
  | 0 => rfl
  | n + 1 => by rw [schedP, List.length_append, schedP_length b n]; rfl
def blockAt (m : List Int) (fr : Nat) : List Int := (m.drop fr).take 64
theorem rd_blockAt (m : List Int) (fr j : Nat) (h : j < 64) : rdN (blockAt m fr) j = rdN m (fr + j) := by
  unfold rdN blockAt
  rw [List.getD_eq_getElem?_getD, List.getD_eq_getElem?_getD, List.getElem?_take, if_pos h, List.getElem?_drop]
theorem sched_l1 (b : List Int) : ∀ (d n k : Nat), n + d = 64 → 16 ≤ n → d < k → spec_l1Schedule.l1 k (schedP b n) (n : Int) = some (schedP b 64) := by
  intro d
  induction d with
  | zero =>
    intro n k hn h16 hk
    obtain ⟨k, rfl⟩ : ∃ j, k = j + 1 := ⟨k - 1, by omega⟩
    obtain rfl : n = 64 := by omega
    simp only [spec_l1Schedule.l1]; rw [if_neg (by omega)]
  | succ d ih =>
    intro n k hn h16 hk
    obtain ⟨k, rfl⟩ : ∃ j, k = j + 1 := ⟨k - 1, by omega⟩
    have hl := schedP_length b n
    simp only [spec_l1Schedule.l1]
    have e15 : wrap64 ((n : Int) - 15) = ((n - 15 : Nat) : Int) := by rw [w64 (by omega) (by omega)]; omega
    have e2 : wrap64 ((n : Int) - 2) = ((n - 2 : Nat) : Int) := by rw [w64 (by omega) (by omega)]; omega
    have e16 : wrap64 ((n : Int) - 16) = ((n - 16 : Nat) : Int) := by rw [w64 (by omega) (by omega)]; omega
    have e7 : wrap64 ((n : Int) - 7) = ((n - 7 : Nat) : Int) := by rw [w64 (by omega) (by omega)]; omega
    have e1 : wrap64 ((n : Int) + 1) = ((n + 1 : Nat) : Int) := by rw [w64 (by omega) (by omega)]; omega
    rw [e15, e2, e16, e7, e1, hl]
    clear e15 e2 e16 e7 e1
    simp only [rd_nat]
    rw [if_pos (by omega), if_pos (by omega), if_pos (by omega), if_pos (by omega), if_pos (by omega)]
    rw [l1Turn_f _ _ (by omega) (by omega), l1Turn_f _ _ (by omega) (by omega), l1Turn_f _ _ (by omega) (by omega), l1Turn_f _ _ (by omega) (by omega)]
    simp only [Option.bind_some]
    rw [if_pos (by omega), if_pos (by omega), if_pos (by omega), if_pos (by omega), if_pos (by omega)]
    have hs : schedP b (n + 1) = schedP b n ++ [nextP (schedP b n) n] := by rw [schedP, if_neg (by omega)]
    have := ih (n + 1) k (by omega) (by omega) (by omega)
    rw [hs] at this
    exact this
theorem sched_l0 (m : List Int) (fr : Nat) (hm : fr + 64 ≤ m.length) (hb : m.length ≤ 1099511627776) : ∀ (d n k : Nat), n + d = 16 → d + 50 < k → spec_l1Schedule.l0 k m (fr : Int) (schedP (blockAt m fr) n) (n : Int) = some (schedP (blockAt m fr) 64) := by
  intro d
  induction d with
  | zero =>
    intro n k hn hk
    obtain ⟨k, rfl⟩ : ∃ j, k = j + 1 := ⟨k - 1, by omega⟩
    obtain rfl : n = 16 := by omega
    simp only [spec_l1Schedule.l0]; rw [if_neg (by omega)]
    exact sched_l1 _ 48 16 k (by omega) (by omega) (by omega)
  | succ d ih =>
    intro n k hn hk
    obtain ⟨k, rfl⟩ : ∃ j, k = j + 1 := ⟨k - 1, by omega⟩
    have hl := schedP_length (blockAt m fr) n
    simp only [spec_l1Schedule.l0]
    have e4 : wrap64 (4 * (n : Int)) = ((4 * n : Nat) : Int) := by rw [w64 (by omega) (by omega)]; omega
    rw [e4]
    have f0 : wrap64 ((fr : Int) + ((4 * n : Nat) : Int)) = ((fr + 4 * n : Nat) : Int) := by rw [w64 (by omega) (by omega)]; omega
    rw [f0]
    have f1 : wrap64 (((fr + 4 * n : Nat) : Int) + 1) = ((fr + 4 * n + 1 : Nat) : Int) := by rw [w64 (by omega) (by omega)]; omega
    have f2 : wrap64 (((fr + 4 * n : Nat) : Int) + 2) = ((fr + 4 * n + 2 : Nat) : Int) := by rw [w64 (by omega) (by omega)]; omega
    have f3 : wrap64 (((fr + 4 * n : Nat) : Int) + 3) = ((fr + 4 * n + 3 : Nat) : Int) := by rw [w64 (by omega) (by omega)]; omega
    have e1 : wrap64 ((n : Int) + 1) = ((n + 1 : Nat) : Int) := by rw [w64 (by omega) (by omega)]; omega
    rw [f1, f2, f3, e1, hl]
    clear f0 f1 f2 f3 e1 e4
    simp only [rd_nat]
    rw [if_pos (by omega), if_pos (by omega), if_pos (by omega), if_pos (by omega), if_pos (by omega), if_pos (by omega), if_pos (by omega), if_pos (by omega), if_pos (by omega), if_pos (by omega)]
    have hs : schedP (blockAt m fr) (n + 1) = schedP (blockAt m fr) n ++ [wordP (blockAt m fr) n] := by rw [schedP, if_pos (by omega)]
    have := ih (n + 1) k (by omega) (by omega)
    rw [hs, wordP, rd_blockAt _ _ _ (by omega), rd_blockAt _ _ _ (by omega), rd_blockAt _ _ _ (by omega), rd_blockAt _ _ _ (by omega), ← Nat.add_assoc, ← Nat.add_assoc, ← Nat.add_assoc] at this
    exact this
theorem l1Schedule_f (m : List Int) (fr k : Nat) (hm : fr + 64 ≤ m.length) (hb : m.length ≤ 1099511627776) (hk : 70 < k) : spec_l1Schedule.f k m (fr : Int) = some (schedP (blockAt m fr) 64) := by
  unfold spec_l1Schedule.f
  exact sched_l0 m fr hm hb 16 0 k rfl (by omega)
/-- Eight words. -/
structure St where
  a : Int
  b : Int
  c : Int
  d : Int
  e : Int
  f : Int
  g : Int
  z : Int
def St.t1 (s : St) (k w : Int) : Int := (((((((s.z + (Go.bits .xor .u32 (Go.bits .xor .u32 (turn s.e 6) (turn s.e 11)) (turn s.e 25))) % 4294967296) + (Go.bits .xor .u32 (Go.bits .and .u32 s.e s.f) (Go.bits .and .u32 (Go.bits .xor .u32 IntKind.u32.max s.e) s.g))) % 4294967296) + k) % 4294967296) + w) % 4294967296
def St.s0 (s : St) : Int := Go.bits .xor .u32 (Go.bits .xor .u32 (turn s.a 2) (turn s.a 13)) (turn s.a 22)
def St.maj (s : St) : Int := Go.bits .xor .u32 (Go.bits .xor .u32 (Go.bits .and .u32 s.a s.b) (Go.bits .and .u32 s.a s.c)) (Go.bits .and .u32 s.b s.c)
def St.rnd (s : St) (k w : Int) : St := ⟨(s.t1 k w + (s.s0 + s.maj) % 4294967296) % 4294967296, s.a, s.b, s.c, (s.d + s.t1 k w) % 4294967296, s.e, s.f, s.g⟩
def kTab : List Int := (spec_l1K.f).getD []
theorem kTab_f : spec_l1K.f = some kTab := rfl
theorem kTab_length : kTab.length = 64 := by decide +kernel
def St.run (s : St) (W : List Int) : Nat → St
  | 0 => s
  | n + 1 => (s.run W n).rnd (rdN kTab n) (rdN W n)
def St.of (h : List Int) : St := ⟨rdN h 0, rdN h 1, rdN h 2, rdN h 3, rdN h 4, rdN h 5, rdN h 6, rdN h 7⟩
def St.list (s : St) : List Int := [s.a, s.b, s.c, s.d, s.e, s.f, s.g, s.z]
/-- The state behind a block. -/
def compP (h b : List Int) : List Int :=
  let s := (St.of h).run (schedP b 64) 64
  [(rdN h 0 + s.a) % 4294967296, (rdN h 1 + s.b) % 4294967296, (rdN h 2 + s.c) % 4294967296, (rdN h 3 + s.d) % 4294967296, (rdN h 4 + s.e) % 4294967296, (rdN h 5 + s.f) % 4294967296, (rdN h 6 + s.g) % 4294967296, (rdN h 7 + s.z) % 4294967296]
theorem block_l0 (h W : List Int) (hh : h.length = 8) (hW : W.length = 64) : ∀ (d n k : Nat) (s : St), n + d = 64 → d < k → s = (St.of h).run W n →
    spec_l1Block.l0 k h kTab W s.a s.b s.c s.d s.e s.f s.g s.z (n : Int) = some (
      let s := (St.of h).run W 64
      [(rdN h 0 + s.a) % 4294967296, (rdN h 1 + s.b) % 4294967296, (rdN h 2 + s.c) % 4294967296, (rdN h 3 + s.d) % 4294967296, (rdN h 4 + s.e) % 4294967296, (rdN h 5 + s.f) % 4294967296, (rdN h 6 + s.g) % 4294967296, (rdN h 7 + s.z) % 4294967296]) := by
  intro d
  induction d with
  | zero =>
    intro n k s hn hk hs
    obtain ⟨k, rfl⟩ : ∃ j, k = j + 1 := ⟨k - 1, by omega⟩
    obtain rfl : n = 64 := by omega
    simp only [spec_l1Block.l0]
    rw [if_neg (by omega), hh]
    rw [if_pos (by omega), if_pos (by omega), if_pos (by omega), if_pos (by omega), if_pos (by omega), if_pos (by omega), if_pos (by omega), if_pos (by omega), ← hs]
    rfl
  | succ d ih =>
    intro n k s hn hk hs
    obtain ⟨k, rfl⟩ : ∃ j, k = j + 1 := ⟨k - 1, by omega⟩
    simp only [spec_l1Block.l0]
    have e1 : wrap64 ((n : Int) + 1) = ((n + 1 : Nat) : Int) := by rw [w64 (by omega) (by omega)]; omega
    rw [e1]
    clear e1
    rw [if_pos (by omega)]
    rw [l1Turn_f _ _ (by omega) (by omega), l1Turn_f _ _ (by omega) (by omega), l1Turn_f _ _ (by omega) (by omega), l1Turn_f _ _ (by omega) (by omega), l1Turn_f _ _ (by omega) (by omega), l1Turn_f _ _ (by omega) (by omega)]
    simp only [Option.bind_some, rd_nat]
    rw [if_pos (by omega), if_pos (by rw [kTab_length]; omega), if_pos (by rw [hW]; omega)]
    have hr : s.rnd (rdN kTab n) (rdN W n) = (St.of h).run W (n + 1) := by rw [St.run, ← hs]
    exact ih (n + 1) k (s.rnd (rdN kTab n) (rdN W n)) (by omega) (by omega) hr
theorem l1Block_f (h m : List Int) (fr k : Nat) (hh : h.length = 8) (hm : fr + 64 ≤ m.length) (hb : m.length ≤ 1099511627776) (hk : 70 < k) :
    spec_l1Block.f k h kTab m (fr : Int) = some (compP h (blockAt m fr)) := by
  unfold spec_l1Block.f
  rw [l1Schedule_f m fr k hm hb hk]
  simp only [Option.bind_some]
  rw [hh]
  rw [if_pos (by omega), if_pos (by omega), if_pos (by omega), if_pos (by omega), if_pos (by omega), if_pos (by omega), if_pos (by omega), if_pos (by omega)]
  exact block_l0 h _ hh (schedP_length _ _) 64 0 k (St.of h) rfl (by omega) rfl
end Go.Proofs.YtmfejehhfmaodaaDoor.Z

end

/- The padded text of the specification's SHA-256. -/
section
namespace Go.Proofs.YtmfejehhfmaodaaDoor.Z
open Go.RowKit Go.Proofs.YtmfejehhfmaodaaDoor Go.Proofs.YtmfejehhfmaodaaDoorW.PrintWords Go.Proofs.YtmfejehhfmaodaaDoorW.PrintLast
set_option linter.unusedVariables false
set_option linter.unusedSimpArgs false
def zerosN (n : Nat) : Nat := (119 - n % 64) % 64
theorem zerosN_lt (n : Nat) : zerosN n < 64 := by unfold zerosN; omega
theorem zerosN_mod (n : Nat) : (n + 1 + zerosN n) % 64 = 56 := by unfold zerosN; omega
def lenByte (n j : Nat) : UInt8 := UInt8.ofNat (8 * n / 2 ^ (8 * (7 - j)))
def lenB (n m : Nat) : List UInt8 := (List.range m).map (lenByte n)
theorem lenB_succ (n m : Nat) : lenB n (m + 1) = lenB n m ++ [lenByte n m] := by simp [lenB, List.range_succ]
theorem lenB_length (n m : Nat) : (lenB n m).length = m := by simp [lenB]
def padZ (l : List UInt8) (j : Nat) : List UInt8 := l ++ [128] ++ List.replicate j 0
theorem padZ_length (l : List UInt8) (j : Nat) : (padZ l j).length = l.length + 1 + j := by simp [padZ]; omega
theorem padZ_succ (l : List UInt8) (j : Nat) : padZ l (j + 1) = padZ l j ++ [0] := by simp [padZ, List.replicate_succ']
def padP (l : List UInt8) : List UInt8 := padZ l (zerosN l.length) ++ lenB l.length 8
theorem padP_length (l : List UInt8) : (padP l).length = 64 * ((l.length + 72) / 64) := by
  rw [padP, List.length_append, padZ_length, lenB_length]; unfold zerosN; omega
theorem infoU8 : (Tryd.prog.info? 5).map (fun i => (i.zero, i.size, i.bytes)) = some (some (.int .u8 0), 1, 1) := by kernel_rfl
theorem len_byte_eq (n i : Nat) (hi : i ≤ 7) (hn : n ≤ 4294967296) : (((8 * n : Nat) : Int) / 2 ^ (8 * i)) % 256 = ((lenByte n (7 - i)).toNat : Int) := by
  unfold lenByte
  rw [show 7 - (7 - i) = i by omega, UInt8.toNat_ofNat']
  rw [show ((2 : Int) ^ (8 * i)) = ((2 ^ (8 * i) : Nat) : Int) by rw [Int.natCast_pow]; rfl]
  rw [← Int.natCast_ediv]
  generalize 8 * n / 2 ^ (8 * i) = q
  omega
set_option maxHeartbeats 1000000 in
theorem padded_any (s : ByteArray) (w : World) (hs : s.size ≤ 4294967296) :
    Calls Tryd.prog 18 #[.string s] w fun e w' => ∃ v, e = .returned v ∧ OwnB w' w.heap.size v (padP s.data.toList) ∧ Below w.heap.size w w' := by
  have hl : s.data.toList.length = s.size := rfl
  have hzl := zerosN_lt s.size
  have hzm := zerosN_mod s.size
  have HL := Lib.hid hl; clear hl
  have HZM := Lib.hid hzm; clear hzm
  go_enter Tryd.func18, Tryd.ntmps18
  go_wp2_with (first | ((with_reducible refine gate_dst (N := 7) rfl ?_); refine wpList_bytes w.heap.size rfl 9 37 5 _ rfl Tryd.underlying9 Tryd.underlying37 Tryd.underlying5 s rfl (by first | assumption | (simp; omega) | omega) (by unfold maxLen; omega) ?_; rintro v_wb wb ho_wb hv_wb hb_wb; obtain ⟨hc_wb, hf_wb⟩ := bcell hb_wb; have hz_wb := hb_wb.size; (try simp only [World.size_alloc, World.size_setCell, World.size_drew] at hz_wb); (try simp only [World.size_alloc, World.size_setCell, World.size_drew] at hc_wb); (try simp only [World.size_alloc, World.size_setCell, World.size_drew] at hf_wb); skip) | ((with_reducible refine gate_dst (N := 10) rfl ?_); refine wpList_appB1 (w0 := wb) w.heap.size rfl _ _ 37 5 rfl Tryd.underlying37 infoU8 rfl 128 rfl rfl ho_wb (by have := HL.out; omega) (by omega) ?_; rintro v1 w1 ho1 hb1))
  go_loopw [3] (fun v wr => ∃ j : Nat, j ≤ zerosN s.size ∧ OwnB wr w.heap.size v (padZ s.data.toList j) ∧ Below w.heap.size w wr) (fun v _ => match v with | .slice _ n _ => s.size + 1 + zerosN s.size - n | _ => 0)
  case atStart => exact ⟨0, Nat.zero_le _, by simpa [padZ] using ho1, hb_wb.trans hb1⟩
  case round =>
    obtain ⟨j, hj, hO, hB⟩ := hrel
    obtain ⟨A5, c5, rfl⟩ := hO.form
    have hz := hB.size
    have hpl := padZ_length s.data.toList j
    rw [HL.out] at hpl
    rw [hpl] at hO ⊢
    have HPL := Lib.hid hpl; clear hpl
    by_cases hlt : j < zerosN s.size
    · have hne : (((s.size : Int) + 1 + (j : Int)) % 64 != 56) = true := by rw [bne_iff_ne]; have := HZM.out; unfold zerosN at *; omega
      go_wp2_with ((with_reducible refine gate_dst (N := 17) rfl ?_); refine wpList_appB1 (w0 := wr) w.heap.size rfl _ _ 37 5 rfl Tryd.underlying37 infoU8 rfl 0 rfl rfl hO (by have := HPL.out; omega) (by omega) ?_; rintro v2 w2 ho2 hb2)
      obtain ⟨A6, c6, hv6⟩ := ho2.form
      subst hv6
      go_roundw
      case rel => exact ⟨j + 1, by omega, by rw [padZ_succ]; exact ho2, hB.trans hb2⟩
      case measure => rw [List.length_append, HPL.out]; simp; omega
    · obtain rfl : j = zerosN s.size := by omega
      have hne : (((s.size : Int) + 1 + (zerosN s.size : Int)) % 64 != 56) = false := by rw [bne_eq_false_iff_eq]; have := HZM.out; omega
      generalize hzz : zerosN s.size = zz at *
      have HZZ := Lib.hid hzz; clear hzz
      go_wp2
      go_loopw [3, 5] (fun v i wr2 => ∃ m : Nat, m ≤ 8 ∧ i = .int .i64 (7 - (m : Int)) ∧ OwnB wr2 w.heap.size v (padZ s.data.toList zz ++ lenB s.size m) ∧ Below w.heap.size w wr2) (fun _ i _ => (intOf i + 1).toNat)
      case atStart => exact ⟨0, by omega, rfl, by simpa [lenB] using hO, hB⟩
      case round =>
        obtain ⟨m, hm, rfl, hO2, hB2⟩ := hrel
        have hz2 := hB2.size
        obtain ⟨A7, c7, rfl⟩ := hO2.form
        have hl2 : (padZ s.data.toList zz ++ lenB s.size m).length = s.size + 1 + zz + m := by rw [List.length_append, HPL.out, lenB_length]
        rw [hl2] at hO2 ⊢
        have HL2 := Lib.hid hl2; clear hl2
        by_cases h8 : m < 8
        · have t0 : (0 : Int) ≤ 7 - (m : Int) := by omega
          have hbyte : (s.size : Int) * 8 / 2 ^ (8 * (7 - m)) % 256 = ((lenByte s.size m).toNat : Int) := by
            have := len_byte_eq s.size (7 - m) (by omega) hs
            rw [show 7 - (7 - m) = m by omega, show ((8 * s.size : Nat) : Int) = (s.size : Int) * 8 by omega] at this
            exact this
          go_wp2_with ((with_reducible refine gate_dst (N := 34) rfl ?_); refine wpList_appB1 (w0 := wr) w.heap.size rfl _ _ 37 5 rfl Tryd.underlying37 infoU8 rfl (lenByte s.size m) rfl rfl hO2 (by have := HL2.out; omega) (by omega) ?_; rintro v3 w3 ho3 hb3)
          obtain ⟨A8, c8, hv8⟩ := ho3.form
          subst hv8
          clear hbyte
          go_roundw
          case rel => exact ⟨m + 1, by omega, by go_num, by rw [lenB_succ, ← List.append_assoc]; exact ho3, hB2.trans hb3⟩
          case measure => simp [intOf]; omega
        · obtain rfl : m = 8 := by omega
          go_wp2
          go_ret
          refine ⟨_, rfl, ?_, hB2⟩
          have := HZZ.out
          rw [padP, HL.out, this]
          exact hO2
def ints (l : List UInt8) : List Int := l.map fun b => (b.toNat : Int)
theorem ints_length (l : List UInt8) : (ints l).length = l.length := by simp [ints]
/-- A slice of bytes that is read only. -/
def RB (w : World) (v : Value) (xs : List Int) : Prop := ∃ base l, OwnB w base v l ∧ xs = ints l
section
variable {w w1 : World} {v : Value} {xs : List Int}
theorem RB.below (h : RB w v xs) (hb : Below w.heap.size w w1) : RB w1 v xs := by
  obtain ⟨b, l, h1, h2⟩ := h
  exact ⟨b, l, h1.below hb, h2⟩
theorem RB.alloc (h : RB w v xs) (o : Obj) : RB (w.alloc o) v xs := h.below (below_alloc (Below.refl _ _) o)
theorem RB.drew (h : RB w v xs) : RB w.drew v xs := h.below (below_drew (Below.refl _ _))
theorem RB.drewN (h : RB w v xs) (m : Nat) : RB (w.drewN m) v xs := h.below (pw_below_drewN (Below.refl _ _) m)
theorem RB.lower {a b : Nat} (h : RB w v xs) (_ : a ≤ b) : RB w v xs := h
theorem RB.slice (h : RB w v xs) : ∃ A c, v = .slice A xs.length c := by
  obtain ⟨b, l, h1, rfl⟩ := h
  obtain ⟨A, c, rfl⟩ := h1.form
  exact ⟨A, c, by rw [ints_length]⟩
theorem RB.reads {A : Option Addr} {n c : Nat} (h : RB w (.slice A n c) xs) : n = xs.length ∧ n ≤ c ∧ Kd.C (Kd.int .u8) w A xs.length xs := by
  obtain ⟨b, l, h1, rfl⟩ := h
  rcases h1.2 with ⟨hv, h0⟩ | ⟨g, cap, hv, h1', h2, h3, h4, h5, h6⟩
  · cases hv
    rw [ints_length]
    refine ⟨by omega, Nat.le_refl _, ?_⟩
    have : l = [] := List.eq_nil_of_length_eq_zero h0
    subst this
    exact Kd.C_of_reads (d := (0 : Int)) (h1 := fun _ => rfl) (show ReadsInt w .u8 none 0 [] from ⟨rfl, by omega, fun h => by omega⟩)
  · cases hv
    rw [ints_length]
    refine ⟨rfl, h3, ?_⟩
    refine Kd.C_of_reads (d := (0 : Int)) (h1 := fun _ => rfl) (show ReadsInt w .u8 (some ⟨g, 0, none⟩) l.length (ints l) from ⟨ints_length l, by unfold maxLen at h4; omega, fun _ => ⟨_, rfl, fun i hi => ?_⟩⟩)
    have h5' := h5 i (by omega)
    rw [bcs_get l i hi] at h5'
    have e : (⟨g, 0, none⟩ : Addr).add i = ⟨g, i, none⟩ := by simp [Addr.add]; omega
    rw [e, h5']
    simp [ints, List.getD_eq_getElem?_getD, hi]
end
def spec_l1Padded.f (a0 : ByteArray) : Option (List Int) := if a0.size ≤ 4294967296 then some (ints (padP a0.data.toList)) else none
theorem spec_l1Padded.calls (a0 : ByteArray) (r : List Int) (w : World) (h : spec_l1Padded.f a0 = some r) :
    Calls Tryd.prog 18 #[.string a0] w fun e w' => ∃ v0_ : Value, e = .returned (v0_) ∧ RB w' v0_ r ∧ Below w.heap.size w w' := by
  unfold spec_l1Padded.f at h
  split at h
  · obtain rfl := Option.some.inj h
    refine (padded_any a0 w (by assumption)).mono ?_
    rintro e w' ⟨v, rfl, ho, hb⟩
    exact ⟨v, rfl, ⟨_, _, ho, rfl⟩, hb⟩
  · cases h
end Go.Proofs.YtmfejehhfmaodaaDoor.Z

end

/- Contracts of functions of the program, written by a program of this session over the translation's print. -/
section
namespace Go.Proofs.YtmfejehhfmaodaaDoor.Z
open Go.RowKit Go.Proofs.YtmfejehhfmaodaaDoorW.PrintWords Go.Proofs.YtmfejehhfmaodaaDoorW.PrintLast Go.Proofs.YtmfejehhfmaodaaDoorW.PrintMore
attribute [local go_sem] max2_int min2_int max_two min_two max_three min_three max_four min_four   -- for this text's walks alone
set_option linter.unusedVariables false
set_option linter.unusedSimpArgs false

/-! ### spec_Sha256: function 7 -/
mutual
def spec_Sha256.l0 : Nat → List Int → List Int → List Int → Int → Option (ByteArray)
  | 0, _, _, _, _ => none
  | k + 1, x3, x4, x5, x6 => if x6 < (x5.length : Int) then ((spec_l1Block.f k x3 x4 x5 x6).bind fun t164 => (spec_Sha256.l0 k t164 x4 x5 (wrap64 (x6 + 64)))) else (spec_Sha256.l1 k x3 (([] : List Int)) 0)
def spec_Sha256.l1 : Nat → List Int → List Int → Int → Option (ByteArray)
  | 0, _, _, _ => none
  | k + 1, x3, x7, x8 => if x8 < 8 then (if 0 ≤ x8 then (if x8 < (x3.length : Int) then ((some (([((rd x3 x8) / 16777216) % 256, ((rd x3 x8) / 65536) % 256, ((rd x3 x8) / 256) % 256, (rd x3 x8) % 256] : List Int) : List Int)).bind fun y174 => (if x7.length + y174.length < 140737488355328 then (spec_Sha256.l1 k x3 (x7 ++ y174) (wrap64 (x8 + 1))) else (none))) else (none)) else (none)) else (some (strOfNums x7))
end
def spec_Sha256.f (k : Nat) (a0 : ByteArray) : Option (ByteArray) := (spec_l1K.f).bind fun t158 => ((spec_l1Padded.f a0).bind fun t161 => (spec_Sha256.l0 k (([1779033703, 3144134277, 1013904242, 2773480762, 1359893119, 2600822924, 528734635, 1541459225] : List Int)) t158 t161 0))
theorem spec_Sha256.mono_l : ∀ k, (∀ y0 y1 y2 y3, LeO (spec_Sha256.l0 k y0 y1 y2 y3) (spec_Sha256.l0 (k + 1) y0 y1 y2 y3)) ∧ (∀ y0 y1 y2, LeO (spec_Sha256.l1 k y0 y1 y2) (spec_Sha256.l1 (k + 1) y0 y1 y2))
  | 0 => ⟨fun _ _ _ _ r h => by simp [spec_Sha256.l0] at h, fun _ _ _ r h => by simp [spec_Sha256.l1] at h⟩
  | k + 1 => by
    obtain ⟨ih0, ih1⟩ := spec_Sha256.mono_l k
    refine ⟨?_, ?_⟩
    · intro y0 y1 y2 y3
      unfold spec_Sha256.l0
      repeat' first
      | (with_reducible exact ih0 _ _ _ _)
      | (with_reducible exact ih1 _ _ _)
      | (with_reducible exact spec_l1Block.mono _ _ _ _ _)
      | (with_reducible exact LeO.refl _)
      | (with_reducible exact LeO.none _)
      | (with_reducible refine LeO.ite ?_ ?_)
      | (with_reducible refine LeO.bind ?_ (fun _ => ?_))
      | exact ih0 _ _ _ _
      | exact ih1 _ _ _
      | exact spec_l1Block.mono _ _ _ _ _
      | exact LeO.none _
      | refine LeO.ite ?_ ?_
      | refine LeO.bind ?_ (fun _ => ?_)
    · intro y0 y1 y2
      unfold spec_Sha256.l1
      repeat' first
      | (with_reducible exact ih0 _ _ _ _)
      | (with_reducible exact ih1 _ _ _)
      | (with_reducible exact spec_l1Block.mono _ _ _ _ _)
      | (with_reducible exact LeO.refl _)
      | (with_reducible exact LeO.none _)
      | (with_reducible refine LeO.ite ?_ ?_)
      | (with_reducible refine LeO.bind ?_ (fun _ => ?_))
      | exact ih0 _ _ _ _
      | exact ih1 _ _ _
      | exact spec_l1Block.mono _ _ _ _ _
      | exact LeO.none _
      | refine LeO.ite ?_ ?_
      | refine LeO.bind ?_ (fun _ => ?_)
theorem spec_Sha256.mono : ∀ a0 k, LeO (spec_Sha256.f k a0) (spec_Sha256.f (k + 1) a0) := by
  intro a0 k
  obtain ⟨ih0, ih1⟩ := spec_Sha256.mono_l k
  unfold spec_Sha256.f
  repeat' first
      | (with_reducible exact ih0 _ _ _ _)
      | (with_reducible exact ih1 _ _ _)
      | (with_reducible exact spec_l1Block.mono _ _ _ _ _)
      | (with_reducible exact LeO.refl _)
      | (with_reducible exact LeO.none _)
      | (with_reducible refine LeO.ite ?_ ?_)
      | (with_reducible refine LeO.bind ?_ (fun _ => ?_))
      | exact ih0 _ _ _ _
      | exact ih1 _ _ _
      | exact spec_l1Block.mono _ _ _ _ _
      | exact LeO.none _
      | refine LeO.ite ?_ ?_
      | refine LeO.bind ?_ (fun _ => ?_)
def spec_Sha256.T12 : Bool × List (List Nat × List Nat) := (true, [([], []), ([], []), ([], []), ([1, 2], [1, 2]), ([3], [3]), ([4], [4]), ([5], [5]), ([], []), ([], []), ([7, 8], [7, 8]), ([9], [9]), ([10], [10]), ([11], [11]), ([], []), ([], []), ([13, 14], [13, 14]), ([15], [15]), ([16], [16]), ([17], [17]), ([], []), ([], []), ([19, 20], [19, 20]), ([21], [21]), ([22], [22]), ([6, 12, 18, 23], [6, 12, 18, 23]), ([0, 24], [0, 24]), ([25, 25, 0, 1, 2, 3, 4, 5, 6, 7, 8, 9, 10, 11, 12, 13, 14, 15, 16, 17, 18, 19, 20, 21, 22, 23, 24, 25], [0, 25])])
def spec_Sha256.B12 : List Nat := [0, 0, 0, 6, 14, 30, 62, 0, 0, 384, 896, 1920, 3968, 0, 0, 24576, 57344, 122880, 253952, 0, 0, 1572864, 3670016, 7864320, 16777214, 33554431, 67108863]
theorem spec_Sha256.tab12 : rtab .any (opsOf Tryd.f7 12) = spec_Sha256.T12 := by kernel_rfl
theorem spec_Sha256.bits12 : waitsOk spec_Sha256.T12.2 spec_Sha256.B12 = true := by kernel_rfl
set_option maxHeartbeats 8000000 in
set_option maxRecDepth 100000 in
theorem spec_Sha256.calls (k : Nat) (a0 : ByteArray) (r : ByteArray) (w : World) (h : spec_Sha256.f k a0 = some r) :
    Calls Tryd.prog 7 #[.string a0] w fun e w' => e = .returned (.string r) ∧ Below w.heap.size w w' := by
  have HB := Aside0.mk (Below.refl w.heap.size w)
  have H : ((spec_l1K.f).bind fun t158 => ((spec_l1Padded.f a0).bind fun t161 => (spec_Sha256.l0 k (([1779033703, 3144134277, 1013904242, 2773480762, 1359893119, 2600822924, 528734635, 1541459225] : List Int)) t158 t161 0))) = some r := h
  clear h
  obtain ⟨y155, hy155⟩ : ∃ y_ : List Int, y_ = (([1779033703, 3144134277, 1013904242, 2773480762, 1359893119, 2600822924, 528734635, 1541459225] : List Int)) := ⟨_, rfl⟩
  replace H : ((spec_l1K.f).bind fun t158 => ((spec_l1Padded.f a0).bind fun t161 => (spec_Sha256.l0 k y155 t158 t161 0))) = some r := by first | (rw [hy155]; with_reducible exact H) | (have H2_ := (Option.bind_some _ _).symm.trans H; rw [hy155]; with_reducible exact H2_) | (have H2_ := (Option.bind_some _ _).symm.trans H; with_reducible exact H2_) | with_reducible exact H | (rw [hy155]; exact H) | exact H
  have Ny155 := Aside0.mk hy155
  clear hy155
  replace H := Option.bind_eq_some_iff.mp H
  obtain ⟨t158, A20, H⟩ := H
  replace H : ((spec_l1Padded.f a0).bind fun t161 => (spec_Sha256.l0 k y155 t158 t161 0)) = some r := H
  have A2 := Aside0.mk A20
  clear A20
  replace H := Option.bind_eq_some_iff.mp H
  obtain ⟨t161, A30, H⟩ := H
  replace H : (spec_Sha256.l0 k y155 t158 t161 0) = some r := H
  have A3 := Aside0.mk A30
  clear A30
  have H' := Aside0.mk H
  clear H
  go_enter Tryd.func7, Tryd.ntmps7
  go_wp2_with (first | ((with_reducible refine gate_dst (N := 9) rfl ?_); refine Kd.R_lit (Kd.int .u32) _ 34 ?hg (N := 9) ?hd (xs := ([1779033703, 3144134277, 1013904242, 2773480762, 1359893119, 2600822924, 528734635, 1541459225] : List Int)) (inner := [.int .u32 1779033703, .int .u32 3144134277, .int .u32 1013904242, .int .u32 2773480762, .int .u32 1359893119, .int .u32 2600822924, .int .u32 528734635, .int .u32 1541459225]) (ok := fun _ => True) (okp := fun _ => True) ?hr ?hp (fun _ hk => hk) trivial (Below.refl _ _) (Nat.le_refl _) (by simp) ?_; (case hd => rfl); (case hg => rfl); (case hr => first | (go_simp; done) | (go_simp; rfl)); (case hp => exact (Reps.one (show Kd.M (Kd.int .u32) _ _ _ 1779033703 [.int .u32 1779033703] from rfl) (Reps.one (show Kd.M (Kd.int .u32) _ _ _ 3144134277 [.int .u32 3144134277] from rfl) (Reps.one (show Kd.M (Kd.int .u32) _ _ _ 1013904242 [.int .u32 1013904242] from rfl) (Reps.one (show Kd.M (Kd.int .u32) _ _ _ 2773480762 [.int .u32 2773480762] from rfl) (Reps.one (show Kd.M (Kd.int .u32) _ _ _ 1359893119 [.int .u32 1359893119] from rfl) (Reps.one (show Kd.M (Kd.int .u32) _ _ _ 2600822924 [.int .u32 2600822924] from rfl) (Reps.one (show Kd.M (Kd.int .u32) _ _ _ 528734635 [.int .u32 528734635] from rfl) (Reps.one (show Kd.M (Kd.int .u32) _ _ _ 1541459225 [.int .u32 1541459225] from rfl) (Reps.none _ _)))))))))); intro v156 w4 ho5 hb hg_ hnew_; clear hg_ hnew_; (first | rw [← Ny155.out] at ho5 | (simp only [Int.reduceToNat] at ho5; rw [← Ny155.out] at ho5)); have n0_ := Aside0.mk (Kd.R_lower ho5 (below_size (by repeat (first | (with_reducible first | exact HB.out | apply below_alloc | apply pw_below_drewN | apply below_drew1) | exact HB.out)))); have n1_ := Aside0.mk (below_step (by repeat (first | (with_reducible first | exact HB.out | apply below_alloc | apply pw_below_drewN | apply below_drew1) | exact HB.out)) hb); clear HB; have HO157 := n0_; have HB := n1_; clear n0_ n1_; clear hb ho5) | ((with_reducible refine gate_callee (f := 17) rfl ?_); refine goesL_ (some 10) rfl rfl Tryd.func17 (by kernel_rfl) rfl #[] rfl (by (try simp only [List.map_toArray, List.map_cons, List.map_nil]); first | done | rfl | (simp only [List.length_drop, List.length_take]; rfl)) ?_; (with_reducible refine (spec_l1K.calls  t158 _ A2.out).mono ?_); rintro e w6 ⟨v159, rfl, ho0, hb⟩; refine ⟨_, rfl, ?_⟩; have n0_ := Aside0.mk (Kd.R_elder' (by (with_reducible repeat (first | apply RB.alloc | apply RB.drewN | apply RB.drew | apply Kd.R_alloc | apply Kd.R_drewN | apply Kd.R_drew)); exact HO157.out) (Kd.R_base ho0) hb); have n1_ := Aside0.mk (Kd.R_lower (Kd.R_new' ho0 (Kd.R_lt (by (with_reducible repeat (first | apply RB.alloc | apply RB.drewN | apply RB.drew | apply Kd.R_alloc | apply Kd.R_drewN | apply Kd.R_drew)); exact HO157.out))) (below_size (by repeat (first | (with_reducible first | exact HB.out | apply below_alloc | apply pw_below_drewN | apply below_drew1) | exact HB.out)))); have n2_ := Aside0.mk (below_step (by repeat (first | (with_reducible first | exact HB.out | apply below_alloc | apply pw_below_drewN | apply below_drew1) | exact HB.out)) hb); clear HO157; clear HB; have HO157 := n0_; have HO160 := n1_; have HB := n2_; clear n0_ n1_ n2_; (try clear hb); (try clear hb2); (try clear hk); (try clear hi); (try clear ho0)) | ((with_reducible refine gate_callee (f := 18) rfl ?_); refine goesL_ (some 12) rfl rfl Tryd.func18 (by kernel_rfl) rfl #[.string a0] rfl (by (try simp only [List.map_toArray, List.map_cons, List.map_nil]); first | done | rfl | (simp only [List.length_drop, List.length_take]; rfl)) ?_; (with_reducible refine (spec_l1Padded.calls a0 t161 _ A3.out).mono ?_); rintro e w7 ⟨v162, rfl, ho0, hb⟩; refine ⟨_, rfl, ?_⟩; have n0_ := Aside0.mk (Kd.R_below (by (with_reducible repeat (first | apply RB.alloc | apply RB.drewN | apply RB.drew | apply Kd.R_alloc | apply Kd.R_drewN | apply Kd.R_drew)); exact HO157.out) hb); have n1_ := Aside0.mk (Kd.R_below (by (with_reducible repeat (first | apply RB.alloc | apply RB.drewN | apply RB.drew | apply Kd.R_alloc | apply Kd.R_drewN | apply Kd.R_drew)); exact HO160.out) hb); have n2_ := Aside0.mk (RB.lower ho0 (below_size (by repeat (first | (with_reducible first | exact HB.out | apply below_alloc | apply pw_below_drewN | apply below_drew1) | exact HB.out)))); have n3_ := Aside0.mk (below_step (by repeat (first | (with_reducible first | exact HB.out | apply below_alloc | apply pw_below_drewN | apply below_drew1) | exact HB.out)) hb); clear HO157; clear HO160; clear HB; have HO157 := n0_; have HO160 := n1_; have HO163 := n2_; have HB := n3_; clear n0_ n1_ n2_ n3_; (try clear hb); (try clear hb2); (try clear hk); (try clear hi); (try clear ho0)))
  go_loopg [3, 6] k (fun kq v3 v6 w' => ∃ (x3_1 : List Int) (x6_1 : Int), v6 = .int .i64 x6_1 ∧ Aside0 (spec_Sha256.l0 kq x3_1 t158 t161 x6_1 = some r) ∧ Aside0 (kq ≤ k) ∧ Aside0 (Kd.R (Kd.int .u32) 34 w' w.heap.size (fun k_ => some k_ ≠ (v159 : Value).ownBlock) v3 x3_1) ∧ Aside0 (Kd.R (Kd.int .u32) 34 w' w.heap.size (fun k_ => some k_ ≠ (v3 : Value).ownBlock) v159 t158) ∧ Aside0 (RB w' v162 t161) ∧ Aside0 (Below w.heap.size w w'))
  case atStart => exact ⟨(y155), (0), (by first | rfl | (simp; done) | (simp [*]; done)), H', ⟨Nat.le_refl _⟩, ⟨by (with_reducible repeat (first | apply RB.alloc | apply RB.drewN | apply RB.drew | apply Kd.R_alloc | apply Kd.R_drewN | apply Kd.R_drew)); exact Kd.R_mono HO157.out (fun _ hk => hk.2)⟩, ⟨by (with_reducible repeat (first | apply RB.alloc | apply RB.drewN | apply RB.drew | apply Kd.R_alloc | apply Kd.R_drewN | apply Kd.R_drew)); exact Kd.R_mono HO160.out (fun _ hk => hk.2)⟩, ⟨by (with_reducible repeat (first | apply RB.alloc | apply RB.drewN | apply RB.drew | apply Kd.R_alloc | apply Kd.R_drewN | apply Kd.R_drew)); exact HO163.out⟩, ⟨by repeat (first | (with_reducible first | exact HB.out | apply below_alloc | apply pw_below_drewN | apply below_drew1) | exact HB.out)⟩⟩
  case round =>
    clear H'
    try clear c1
    try clear p2
    try clear c7
    obtain ⟨x3_1, x6_1, rfl, HA, HK1, HO_3, HO_4, HO_5, HB⟩ := hrel
    cases gk with
    | zero => exact absurd HA.out (by simp [spec_Sha256.l0])
    | succ k1 =>
      have H := HA.out
      clear HA
      simp only [spec_Sha256.l0] at H
      by_cases c8 : x6_1 < (t161.length : Int)
      · rw [if_pos c8] at H
        have c8b0 : decide (x6_1 < (t161.length : Int)) = true := decide_eq_true c8
        clear c8
        replace H := Option.bind_eq_some_iff.mp H
        obtain ⟨t164, A90, H⟩ := H
        replace H : (spec_Sha256.l0 k1 t164 t158 t161 (wrap64 (x6_1 + 64))) = some r := H
        have A9 := Aside0.mk A90
        clear A90
        have H' := Aside0.mk H
        clear H
        obtain ⟨Ao10, co10, eo10⟩ := RB.slice HO_5.out
        subst eo10
        obtain ⟨Ao11, co11, eo11⟩ := Kd.R_slice HO_3.out
        subst eo11
        obtain ⟨Ao12, co12, eo12⟩ := Kd.R_slice HO_4.out
        subst eo12
        go_wp2_with (first | ((with_reducible refine gate_callee (f := 19) rfl ?_); refine goesL_ (some 23) rfl rfl Tryd.func19 (by kernel_rfl) rfl #[.slice Ao11 x3_1.length co11, .slice Ao12 t158.length co12, .slice Ao10 t161.length co10, .int .i64 x6_1] rfl (by (try simp only [List.map_toArray, List.map_cons, List.map_nil]); first | done | rfl | (simp only [List.length_drop, List.length_take]; rfl)) ?_; (with_reducible refine (spec_l1Block.calls k1 _ _ x3_1 _ _ t158 _ _ t161 x6_1 t164 _ ?side1 ?side2 ?side3 ?side4 ?side5 ?side6 A9.out).mono ?_); (case side1 => repeat (first | exact (Kd.R_reads' HO_3.out).2.2 | (with_reducible refine Kd.C_alloc ?_ _) | (with_reducible refine Kd.C_drewN ?_ _) | (with_reducible refine Kd.C_drew ?_))); (case side2 => exact (Kd.R_reads' HO_3.out).2.1); (case side3 => repeat (first | exact (Kd.R_reads' HO_4.out).2.2 | (with_reducible refine Kd.C_alloc ?_ _) | (with_reducible refine Kd.C_drewN ?_ _) | (with_reducible refine Kd.C_drew ?_))); (case side4 => exact (Kd.R_reads' HO_4.out).2.1); (case side5 => repeat (first | exact (RB.reads HO_5.out).2.2 | (with_reducible refine Kd.C_alloc ?_ _) | (with_reducible refine Kd.C_drewN ?_ _) | (with_reducible refine Kd.C_drew ?_))); (case side6 => exact (RB.reads HO_5.out).2.1); rintro e w13 ⟨v165, rfl, ho0, hb⟩; refine ⟨_, rfl, ?_⟩; have n0_ := Aside0.mk (Kd.R_elder' (by (with_reducible repeat (first | apply RB.alloc | apply RB.drewN | apply RB.drew | apply Kd.R_alloc | apply Kd.R_drewN | apply Kd.R_drew)); exact HO_3.out) (Kd.R_base ho0) hb); have n1_ := Aside0.mk (Kd.R_elder' (by (with_reducible repeat (first | apply RB.alloc | apply RB.drewN | apply RB.drew | apply Kd.R_alloc | apply Kd.R_drewN | apply Kd.R_drew)); exact HO_4.out) (Kd.R_base ho0) hb); have n2_ := Aside0.mk (RB.below (by (with_reducible repeat (first | apply RB.alloc | apply RB.drewN | apply RB.drew | apply Kd.R_alloc | apply Kd.R_drewN | apply Kd.R_drew)); exact HO_5.out) hb); have n3_ := Aside0.mk (Kd.R_lower (Kd.R_new' (Kd.R_new' ho0 (Kd.R_lt (by (with_reducible repeat (first | apply RB.alloc | apply RB.drewN | apply RB.drew | apply Kd.R_alloc | apply Kd.R_drewN | apply Kd.R_drew)); exact HO_3.out))) (Kd.R_lt (by (with_reducible repeat (first | apply RB.alloc | apply RB.drewN | apply RB.drew | apply Kd.R_alloc | apply Kd.R_drewN | apply Kd.R_drew)); exact HO_4.out))) (below_size (by repeat (first | (with_reducible first | exact HB.out | apply below_alloc | apply pw_below_drewN | apply below_drew1) | exact HB.out)))); have n4_ := Aside0.mk (below_step (by repeat (first | (with_reducible first | exact HB.out | apply below_alloc | apply pw_below_drewN | apply below_drew1) | exact HB.out)) hb); clear HO_3; clear HO_4; clear HO_5; clear HB; have HO_3 := n0_; have HO_4 := n1_; have HO_5 := n2_; have HO166 := n3_; have HB := n4_; clear n0_ n1_ n2_ n3_ n4_; (try clear hb); (try clear hb2); (try clear hk); (try clear hi); (try clear ho0)))
        go_roundg k1
        case measure => have := HK1.out; omega
        case rel => exact ⟨(t164), (wrap64 (x6_1 + 64)), (by first | rfl | (simp; done) | (simp [*]; done)), H', ⟨by have := HK1.out; omega⟩, ⟨by (with_reducible repeat (first | apply RB.alloc | apply RB.drewN | apply RB.drew | apply Kd.R_alloc | apply Kd.R_drewN | apply Kd.R_drew)); exact Kd.R_mono HO166.out (fun _ hk => hk.2)⟩, ⟨by (with_reducible repeat (first | apply RB.alloc | apply RB.drewN | apply RB.drew | apply Kd.R_alloc | apply Kd.R_drewN | apply Kd.R_drew)); exact Kd.R_mono HO_4.out (fun _ hk => hk.2)⟩, ⟨by (with_reducible repeat (first | apply RB.alloc | apply RB.drewN | apply RB.drew | apply Kd.R_alloc | apply Kd.R_drewN | apply Kd.R_drew)); exact HO_5.out⟩, ⟨by repeat (first | (with_reducible first | exact HB.out | apply below_alloc | apply pw_below_drewN | apply below_drew1) | exact HB.out)⟩⟩
      · rw [if_neg c8] at H
        have c8b0 : decide (x6_1 < (t161.length : Int)) = false := decide_eq_false c8
        clear c8
        obtain ⟨y167, hy167⟩ : ∃ y_ : List Int, y_ = (([] : List Int)) := ⟨_, rfl⟩
        replace H : (spec_Sha256.l1 k1 x3_1 y167 0) = some r := by first | (rw [hy167]; with_reducible exact H) | (have H2_ := (Option.bind_some _ _).symm.trans H; rw [hy167]; with_reducible exact H2_) | (have H2_ := (Option.bind_some _ _).symm.trans H; with_reducible exact H2_) | with_reducible exact H | (rw [hy167]; exact H) | exact H
        have Ny167 := Aside0.mk hy167
        clear hy167
        have H' := Aside0.mk H
        clear H
        obtain ⟨Ao14, co14, eo14⟩ := RB.slice HO_5.out
        subst eo14
        go_wp2_with (first | ((with_reducible refine gate_dst (N := 24) rfl ?_); refine Kd.R_lit (Kd.int .u8) _ 5 ?hg (N := 24) ?hd (xs := ([] : List Int)) (inner := []) (ok := fun _ => True) (okp := fun _ => True) ?hr ?hp (fun _ hk => hk) trivial (Below.refl _ _) (Nat.le_refl _) (by simp) ?_; (case hd => rfl); (case hg => rfl); (case hr => first | (go_simp; done) | (go_simp; rfl)); (case hp => exact (Reps.none _ _)); intro v168 w15 ho16 hb hg_ hnew_; clear hg_ hnew_; (first | rw [← Ny167.out] at ho16 | (simp only [Int.reduceToNat] at ho16; rw [← Ny167.out] at ho16)); have n0_ := Aside0.mk (Kd.R_below (by (with_reducible repeat (first | apply RB.alloc | apply RB.drewN | apply RB.drew | apply Kd.R_alloc | apply Kd.R_drewN | apply Kd.R_drew)); exact HO_3.out) hb); have n1_ := Aside0.mk (Kd.R_below (by (with_reducible repeat (first | apply RB.alloc | apply RB.drewN | apply RB.drew | apply Kd.R_alloc | apply Kd.R_drewN | apply Kd.R_drew)); exact HO_4.out) hb); have n2_ := Aside0.mk (RB.below (by (with_reducible repeat (first | apply RB.alloc | apply RB.drewN | apply RB.drew | apply Kd.R_alloc | apply Kd.R_drewN | apply Kd.R_drew)); exact HO_5.out) hb); have n3_ := Aside0.mk (Kd.R_lower ho16 (below_size (by repeat (first | (with_reducible first | exact HB.out | apply below_alloc | apply pw_below_drewN | apply below_drew1) | exact HB.out)))); have n4_ := Aside0.mk (below_step (by repeat (first | (with_reducible first | exact HB.out | apply below_alloc | apply pw_below_drewN | apply below_drew1) | exact HB.out)) hb); clear HO_3; clear HO_4; clear HO_5; clear HB; have HO_3 := n0_; have HO_4 := n1_; have HO_5 := n2_; have HO169 := n3_; have HB := n4_; clear n0_ n1_ n2_ n3_ n4_; clear hb ho16))
        go_loopg [7, 8] k1 (fun kq v7 v8 w' => ∃ (x7_2 : List Int) (x8_2 : Int), v8 = .int .i64 x8_2 ∧ Aside0 (spec_Sha256.l1 kq x3_1 x7_2 x8_2 = some r) ∧ Aside0 (kq ≤ k1) ∧ Aside0 (Kd.R (Kd.int .u32) 34 w' w.heap.size (fun _ => True) u3 x3_1) ∧ Aside0 (Kd.R (Kd.int .u8) 5 w' w.heap.size (fun _ => True) v7 x7_2) ∧ Aside0 (Below w.heap.size w w'))
        case atStart => exact ⟨(y167), (0), (by first | rfl | (simp; done) | (simp [*]; done)), H', ⟨Nat.le_refl _⟩, ⟨by (with_reducible repeat (first | apply RB.alloc | apply RB.drewN | apply RB.drew | apply Kd.R_alloc | apply Kd.R_drewN | apply Kd.R_drew)); exact Kd.R_mono HO_3.out (fun _ hk => trivial)⟩, ⟨by (with_reducible repeat (first | apply RB.alloc | apply RB.drewN | apply RB.drew | apply Kd.R_alloc | apply Kd.R_drewN | apply Kd.R_drew)); exact Kd.R_mono HO169.out (fun _ hk => trivial)⟩, ⟨by repeat (first | (with_reducible first | exact HB.out | apply below_alloc | apply pw_below_drewN | apply below_drew1) | exact HB.out)⟩⟩
        case round =>
          clear H'
          try clear c1
          try clear p2
          try clear p6
          try clear c7
          try clear c8
          try clear c8b0
          try clear p2
          obtain ⟨x7_2, x8_2, rfl, HA, HK2, HO_3, HO_7, HB⟩ := hrel
          cases gk with
          | zero => exact absurd HA.out (by simp [spec_Sha256.l1])
          | succ k2 =>
            have H := HA.out
            clear HA
            simp only [spec_Sha256.l1] at H
            by_cases c17 : x8_2 < 8
            · rw [if_pos c17] at H
              have c17b0 : decide (x8_2 < 8) = true := decide_eq_true c17
              clear c17
              by_cases c18 : 0 ≤ x8_2
              · rw [if_pos c18] at H
                have c18b0 : decide (0 ≤ x8_2) = true := decide_eq_true c18
                clear c18
                by_cases c19 : x8_2 < (x3_1.length : Int)
                · rw [if_pos c19] at H
                  have c19b0 : decide (x8_2 < (x3_1.length : Int)) = true := decide_eq_true c19
                  clear c19
                  obtain ⟨y174, hy174⟩ : ∃ y_ : List Int, y_ = (([((rd x3_1 x8_2) / 16777216) % 256, ((rd x3_1 x8_2) / 65536) % 256, ((rd x3_1 x8_2) / 256) % 256, (rd x3_1 x8_2) % 256] : List Int)) := ⟨_, rfl⟩
                  replace H : (if x7_2.length + y174.length < 140737488355328 then (spec_Sha256.l1 k2 x3_1 (x7_2 ++ y174) (wrap64 (x8_2 + 1))) else (none)) = some r := by first | (rw [hy174]; with_reducible exact H) | (have H2_ := (Option.bind_some _ _).symm.trans H; rw [hy174]; with_reducible exact H2_) | (have H2_ := (Option.bind_some _ _).symm.trans H; with_reducible exact H2_) | with_reducible exact H | (rw [hy174]; exact H) | exact H
                  have Ny174 := Aside0.mk hy174
                  clear hy174
                  by_cases c20 : x7_2.length + y174.length < 140737488355328
                  · rw [if_pos c20] at H
                    have LMc20 := Aside0.mk c20
                    clear c20
                    obtain ⟨y177, hy177⟩ : ∃ y_ : List Int, y_ = (x7_2 ++ y174) := ⟨_, rfl⟩
                    replace H : (spec_Sha256.l1 k2 x3_1 y177 (wrap64 (x8_2 + 1))) = some r := by first | (rw [hy177]; with_reducible exact H) | (have H2_ := (Option.bind_some _ _).symm.trans H; rw [hy177]; with_reducible exact H2_) | (have H2_ := (Option.bind_some _ _).symm.trans H; with_reducible exact H2_) | with_reducible exact H | (rw [hy177]; exact H) | exact H
                    have Ny177 := Aside0.mk hy177
                    clear hy177
                    have H' := Aside0.mk H
                    clear H
                    try go_wp2
                    have n0_ := Aside0.mk (Kd.R_drew HO_3.out)
                    have n1_ := Aside0.mk (Kd.R_drew HO_7.out)
                    have n2_ := Aside0.mk (below_drew1 HB.out)
                    clear HO_3
                    clear HO_7
                    clear HB
                    have HO_3 := n0_
                    have HO_7 := n1_
                    have HB := n2_
                    clear n0_ n1_ n2_
                    obtain ⟨Ao22, co22, eo22⟩ := Kd.R_slice HO_3.out
                    (first | subst eo22 | (injection eo22 with f1_ f2_ f3_; have f4_ := f1_.symm; have f5_ := f3_.symm; clear f1_ f2_ f3_; subst f4_; subst f5_))
                    have p170 : 0 ≤ (x8_2 : Int) := of_decide_eq_true (by first | (with_reducible assumption) | assumption)
                    have q170 : x8_2 < (x3_1.length : Int) := of_decide_eq_true (by first | (with_reducible assumption) | assumption)
                    obtain ⟨ad170, e170, hx170_0⟩ := Kd.at_int (Kd.R_reads' HO_3.out).2.2 x8_2 p170 q170
                    cases e170
                    replace p170 := eq_true p170
                    replace q170 := eq_true q170
                    have p171 : 0 ≤ (x8_2 : Int) := of_decide_eq_true (by first | (with_reducible assumption) | assumption)
                    have q171 : x8_2 < (x3_1.length : Int) := of_decide_eq_true (by first | (with_reducible assumption) | assumption)
                    obtain ⟨ad171, e171, hx171_0⟩ := Kd.at_int (Kd.R_reads' HO_3.out).2.2 x8_2 p171 q171
                    obtain rfl : ad170 = ad171 := (by injection e171)
                    replace p171 := eq_true p171
                    replace q171 := eq_true q171
                    have p172 : 0 ≤ (x8_2 : Int) := of_decide_eq_true (by first | (with_reducible assumption) | assumption)
                    have q172 : x8_2 < (x3_1.length : Int) := of_decide_eq_true (by first | (with_reducible assumption) | assumption)
                    obtain ⟨ad172, e172, hx172_0⟩ := Kd.at_int (Kd.R_reads' HO_3.out).2.2 x8_2 p172 q172
                    obtain rfl : ad170 = ad172 := (by injection e172)
                    replace p172 := eq_true p172
                    replace q172 := eq_true q172
                    have p173 : 0 ≤ (x8_2 : Int) := of_decide_eq_true (by first | (with_reducible assumption) | assumption)
                    have q173 : x8_2 < (x3_1.length : Int) := of_decide_eq_true (by first | (with_reducible assumption) | assumption)
                    obtain ⟨ad173, e173, hx173_0⟩ := Kd.at_int (Kd.R_reads' HO_3.out).2.2 x8_2 p173 q173
                    obtain rfl : ad170 = ad173 := (by injection e173)
                    replace p173 := eq_true p173
                    replace q173 := eq_true q173
                    refine start_ (n := 27) (S := fun w' => w'.cell? (ad170.add (x8_2).toNat) = some (.int .u32 (rd x3_1 x8_2)) ∧ w'.cell? (ad170.add (x8_2).toNat) = some (.int .u32 (rd x3_1 x8_2)) ∧ w'.cell? (ad170.add (x8_2).toNat) = some (.int .u32 (rd x3_1 x8_2)) ∧ w'.cell? (ad170.add (x8_2).toNat) = some (.int .u32 (rd x3_1 x8_2))) (ds := [25]) #[false, false, false, false, false, false, false, false, false, false, false, false, false, false, false, false, false, false, false, false, false, false, false, false, false, false, false] (by kernel_rfl) rfl rfl ⟨hx170_0, hx171_0, hx172_0, hx173_0⟩ (fun hHeld => ?_); refine with_tabW spec_Sha256.tab12 spec_Sha256.bits12 (fun HT_ HW_ => ?_)
                    generalize wr.drew = w21 at HO_3 HO_7 HB hx170_0 hx171_0 hx172_0 hx173_0 hHeld ⊢
                    refine pure_ (i := 0) (N := some 29) (v := ?_) (a' := ?_) #[true, false, false, false, false, false, false, false, false, false, false, false, false, false, false, false, false, false, false, false, false, false, false, false, false, false, false] rfl rfl (any_of HT_.out (by kernel_rfl)) (fun _ _ _ h => h) (Or.inl ⟨by rfl, ?_⟩) ?_ ?_
                    rotate_left
                    · intro w'
                      go_simp
                      with_reducible rfl
                    rotate_left
                    · simp only [Act.put, List.setIfInBounds_toArray, List.set_cons_zero, List.set_cons_succ, i64_w, i32_w]
                      rfl
                    refine pure_ (i := 1) (N := some 30) (v := ?_) (a' := ?_) #[true, true, false, false, false, false, false, false, false, false, false, false, false, false, false, false, false, false, false, false, false, false, false, false, false, false, false] rfl rfl (any_of HT_.out (by kernel_rfl)) (fun _ _ _ h => h) (Or.inl ⟨by rfl, ?_⟩) ?_ ?_
                    rotate_left
                    · intro w'
                      go_simp
                      with_reducible rfl
                    rotate_left
                    · simp only [Act.put, List.setIfInBounds_toArray, List.set_cons_zero, List.set_cons_succ, i64_w, i32_w]
                      rfl
                    refine pure_ (i := 2) (N := some 31) (v := ?_) (a' := ?_) #[true, true, true, false, false, false, false, false, false, false, false, false, false, false, false, false, false, false, false, false, false, false, false, false, false, false, false] rfl rfl (any_of HT_.out (by kernel_rfl)) (fun _ _ _ h => h) (Or.inl ⟨by rfl, ?_⟩) ?_ ?_
                    rotate_left
                    · intro w'
                      go_simp
                      with_reducible rfl
                    rotate_left
                    · simp only [Act.put, List.setIfInBounds_toArray, List.set_cons_zero, List.set_cons_succ, i64_w, i32_w]
                      rfl
                    refine pure_ (i := 3) (N := some 32) (v := ?_) (a' := ?_) #[true, true, true, true, false, false, false, false, false, false, false, false, false, false, false, false, false, false, false, false, false, false, false, false, false, false, false] rfl rfl (any_of HT_.out (by kernel_rfl)) (fun _ _ _ h => h) (Or.inl ⟨by rfl, ?_⟩) ?_ ?_
                    rotate_left
                    · intro w'
                      go_simp
                      with_reducible rfl
                    rotate_left
                    · simp only [Act.put, List.setIfInBounds_toArray, List.set_cons_zero, List.set_cons_succ, i64_w, i32_w]
                      rfl
                    refine pure_ (i := 7) (N := some 36) (v := ?_) (a' := ?_) #[true, true, true, true, false, false, false, true, false, false, false, false, false, false, false, false, false, false, false, false, false, false, false, false, false, false, false] rfl rfl (any_of HT_.out (by kernel_rfl)) (fun _ _ _ h => h) (Or.inl ⟨by rfl, ?_⟩) ?_ ?_
                    rotate_left
                    · intro w'
                      go_simp
                      with_reducible rfl
                    rotate_left
                    · simp only [Act.put, List.setIfInBounds_toArray, List.set_cons_zero, List.set_cons_succ, i64_w, i32_w]
                      rfl
                    refine pure_ (i := 8) (N := some 37) (v := ?_) (a' := ?_) #[true, true, true, true, false, false, false, true, true, false, false, false, false, false, false, false, false, false, false, false, false, false, false, false, false, false, false] rfl rfl (any_of HT_.out (by kernel_rfl)) (fun _ _ _ h => h) (Or.inl ⟨by rfl, ?_⟩) ?_ ?_
                    rotate_left
                    · intro w'
                      go_simp
                      with_reducible rfl
                    rotate_left
                    · simp only [Act.put, List.setIfInBounds_toArray, List.set_cons_zero, List.set_cons_succ, i64_w, i32_w]
                      rfl
                    refine pure_ (i := 9) (N := some 38) (v := ?_) (a' := ?_) #[true, true, true, true, false, false, false, true, true, true, false, false, false, false, false, false, false, false, false, false, false, false, false, false, false, false, false] rfl rfl (any_of HT_.out (by kernel_rfl)) (fun _ _ _ h => h) (Or.inl ⟨by rfl, ?_⟩) ?_ ?_
                    rotate_left
                    · intro w'
                      go_simp
                      with_reducible rfl
                    rotate_left
                    · simp only [Act.put, List.setIfInBounds_toArray, List.set_cons_zero, List.set_cons_succ, i64_w, i32_w]
                      rfl
                    refine pure_ (i := 13) (N := some 42) (v := ?_) (a' := ?_) #[true, true, true, true, false, false, false, true, true, true, false, false, false, true, false, false, false, false, false, false, false, false, false, false, false, false, false] rfl rfl (any_of HT_.out (by kernel_rfl)) (fun _ _ _ h => h) (Or.inl ⟨by rfl, ?_⟩) ?_ ?_
                    rotate_left
                    · intro w'
                      go_simp
                      with_reducible rfl
                    rotate_left
                    · simp only [Act.put, List.setIfInBounds_toArray, List.set_cons_zero, List.set_cons_succ, i64_w, i32_w]
                      rfl
                    refine pure_ (i := 14) (N := some 43) (v := ?_) (a' := ?_) #[true, true, true, true, false, false, false, true, true, true, false, false, false, true, true, false, false, false, false, false, false, false, false, false, false, false, false] rfl rfl (any_of HT_.out (by kernel_rfl)) (fun _ _ _ h => h) (Or.inl ⟨by rfl, ?_⟩) ?_ ?_
                    rotate_left
                    · intro w'
                      go_simp
                      with_reducible rfl
                    rotate_left
                    · simp only [Act.put, List.setIfInBounds_toArray, List.set_cons_zero, List.set_cons_succ, i64_w, i32_w]
                      rfl
                    refine pure_ (i := 15) (N := some 44) (v := ?_) (a' := ?_) #[true, true, true, true, false, false, false, true, true, true, false, false, false, true, true, true, false, false, false, false, false, false, false, false, false, false, false] rfl rfl (any_of HT_.out (by kernel_rfl)) (fun _ _ _ h => h) (Or.inl ⟨by rfl, ?_⟩) ?_ ?_
                    rotate_left
                    · intro w'
                      go_simp
                      with_reducible rfl
                    rotate_left
                    · simp only [Act.put, List.setIfInBounds_toArray, List.set_cons_zero, List.set_cons_succ, i64_w, i32_w]
                      rfl
                    refine pure_ (i := 19) (N := some 48) (v := ?_) (a' := ?_) #[true, true, true, true, false, false, false, true, true, true, false, false, false, true, true, true, false, false, false, true, false, false, false, false, false, false, false] rfl rfl (any_of HT_.out (by kernel_rfl)) (fun _ _ _ h => h) (Or.inl ⟨by rfl, ?_⟩) ?_ ?_
                    rotate_left
                    · intro w'
                      go_simp
                      with_reducible rfl
                    rotate_left
                    · simp only [Act.put, List.setIfInBounds_toArray, List.set_cons_zero, List.set_cons_succ, i64_w, i32_w]
                      rfl
                    refine pure_ (i := 20) (N := some 49) (v := ?_) (a' := ?_) #[true, true, true, true, false, false, false, true, true, true, false, false, false, true, true, true, false, false, false, true, true, false, false, false, false, false, false] rfl rfl (any_of HT_.out (by kernel_rfl)) (fun _ _ _ h => h) (Or.inl ⟨by rfl, ?_⟩) ?_ ?_
                    rotate_left
                    · intro w'
                      go_simp
                      with_reducible rfl
                    rotate_left
                    · simp only [Act.put, List.setIfInBounds_toArray, List.set_cons_zero, List.set_cons_succ, i64_w, i32_w]
                      rfl
                    refine pure_ (i := 21) (N := some 50) (v := ?_) (a' := ?_) #[true, true, true, true, false, false, false, true, true, true, false, false, false, true, true, true, false, false, false, true, true, true, false, false, false, false, false] rfl rfl (any_of HT_.out (by kernel_rfl)) (fun _ _ _ h => h) (Or.inl ⟨by rfl, ?_⟩) ?_ ?_
                    rotate_left
                    · intro w'
                      go_simp
                      with_reducible rfl
                    rotate_left
                    · simp only [Act.put, List.setIfInBounds_toArray, List.set_cons_zero, List.set_cons_succ, i64_w, i32_w]
                      rfl
                    refine take_ (i := 4) (N := some 33) (v := ?_) (a' := ?_) #[true, true, true, true, true, false, false, true, true, true, false, false, false, true, true, true, false, false, false, true, true, true, false, false, false, false, false] rfl rfl (take_ofW HT_.out HW_.out (by kernel_rfl)) (fun _ _ _ h => h) (Or.inl ⟨by rfl, ?_⟩) hHeld ?_ ?_
                    rotate_left
                    · rintro w' ⟨s0, s1, s2, s3⟩
                      go_simp
                      with_reducible rfl
                    rotate_left
                    · simp only [Act.put, List.setIfInBounds_toArray, List.set_cons_zero, List.set_cons_succ, i64_w, i32_w]
                      rfl
                    refine pure_ (i := 5) (N := some 34) (v := ?_) (a' := ?_) #[true, true, true, true, true, true, false, true, true, true, false, false, false, true, true, true, false, false, false, true, true, true, false, false, false, false, false] rfl rfl (any_of HT_.out (by kernel_rfl)) (fun _ _ _ h => h) (Or.inl ⟨by rfl, ?_⟩) ?_ ?_
                    rotate_left
                    · intro w'
                      go_simp
                      with_reducible rfl
                    rotate_left
                    · simp only [Act.put, List.setIfInBounds_toArray, List.set_cons_zero, List.set_cons_succ, i64_w, i32_w]
                      rfl
                    refine pure_ (i := 6) (N := some 35) (v := ?_) (a' := ?_) #[true, true, true, true, true, true, true, true, true, true, false, false, false, true, true, true, false, false, false, true, true, true, false, false, false, false, false] rfl rfl (any_of HT_.out (by kernel_rfl)) (fun _ _ _ h => h) (Or.inl ⟨by rfl, ?_⟩) ?_ ?_
                    rotate_left
                    · intro w'
                      go_simp
                      with_reducible rfl
                    rotate_left
                    · simp only [Act.put, List.setIfInBounds_toArray, List.set_cons_zero, List.set_cons_succ, i64_w, i32_w]
                      rfl
                    refine take_ (i := 10) (N := some 39) (v := ?_) (a' := ?_) #[true, true, true, true, true, true, true, true, true, true, true, false, false, true, true, true, false, false, false, true, true, true, false, false, false, false, false] rfl rfl (take_ofW HT_.out HW_.out (by kernel_rfl)) (fun _ _ _ h => h) (Or.inl ⟨by rfl, ?_⟩) hHeld ?_ ?_
                    rotate_left
                    · rintro w' ⟨s0, s1, s2, s3⟩
                      go_simp
                      with_reducible rfl
                    rotate_left
                    · simp only [Act.put, List.setIfInBounds_toArray, List.set_cons_zero, List.set_cons_succ, i64_w, i32_w]
                      rfl
                    refine pure_ (i := 11) (N := some 40) (v := ?_) (a' := ?_) #[true, true, true, true, true, true, true, true, true, true, true, true, false, true, true, true, false, false, false, true, true, true, false, false, false, false, false] rfl rfl (any_of HT_.out (by kernel_rfl)) (fun _ _ _ h => h) (Or.inl ⟨by rfl, ?_⟩) ?_ ?_
                    rotate_left
                    · intro w'
                      go_simp
                      with_reducible rfl
                    rotate_left
                    · simp only [Act.put, List.setIfInBounds_toArray, List.set_cons_zero, List.set_cons_succ, i64_w, i32_w]
                      rfl
                    refine pure_ (i := 12) (N := some 41) (v := ?_) (a' := ?_) #[true, true, true, true, true, true, true, true, true, true, true, true, true, true, true, true, false, false, false, true, true, true, false, false, false, false, false] rfl rfl (any_of HT_.out (by kernel_rfl)) (fun _ _ _ h => h) (Or.inl ⟨by rfl, ?_⟩) ?_ ?_
                    rotate_left
                    · intro w'
                      go_simp
                      with_reducible rfl
                    rotate_left
                    · simp only [Act.put, List.setIfInBounds_toArray, List.set_cons_zero, List.set_cons_succ, i64_w, i32_w]
                      rfl
                    refine take_ (i := 16) (N := some 45) (v := ?_) (a' := ?_) #[true, true, true, true, true, true, true, true, true, true, true, true, true, true, true, true, true, false, false, true, true, true, false, false, false, false, false] rfl rfl (take_ofW HT_.out HW_.out (by kernel_rfl)) (fun _ _ _ h => h) (Or.inl ⟨by rfl, ?_⟩) hHeld ?_ ?_
                    rotate_left
                    · rintro w' ⟨s0, s1, s2, s3⟩
                      go_simp
                      with_reducible rfl
                    rotate_left
                    · simp only [Act.put, List.setIfInBounds_toArray, List.set_cons_zero, List.set_cons_succ, i64_w, i32_w]
                      rfl
                    refine pure_ (i := 17) (N := some 46) (v := ?_) (a' := ?_) #[true, true, true, true, true, true, true, true, true, true, true, true, true, true, true, true, true, true, false, true, true, true, false, false, false, false, false] rfl rfl (any_of HT_.out (by kernel_rfl)) (fun _ _ _ h => h) (Or.inl ⟨by rfl, ?_⟩) ?_ ?_
                    rotate_left
                    · intro w'
                      go_simp
                      with_reducible rfl
                    rotate_left
                    · simp only [Act.put, List.setIfInBounds_toArray, List.set_cons_zero, List.set_cons_succ, i64_w, i32_w]
                      rfl
                    refine pure_ (i := 18) (N := some 47) (v := ?_) (a' := ?_) #[true, true, true, true, true, true, true, true, true, true, true, true, true, true, true, true, true, true, true, true, true, true, false, false, false, false, false] rfl rfl (any_of HT_.out (by kernel_rfl)) (fun _ _ _ h => h) (Or.inl ⟨by rfl, ?_⟩) ?_ ?_
                    rotate_left
                    · intro w'
                      go_simp
                      with_reducible rfl
                    rotate_left
                    · simp only [Act.put, List.setIfInBounds_toArray, List.set_cons_zero, List.set_cons_succ, i64_w, i32_w]
                      rfl
                    refine take_ (i := 22) (N := some 51) (v := ?_) (a' := ?_) #[true, true, true, true, true, true, true, true, true, true, true, true, true, true, true, true, true, true, true, true, true, true, true, false, false, false, false] rfl rfl (take_ofW HT_.out HW_.out (by kernel_rfl)) (fun _ _ _ h => h) (Or.inl ⟨by rfl, ?_⟩) hHeld ?_ ?_
                    rotate_left
                    · rintro w' ⟨s0, s1, s2, s3⟩
                      go_simp
                      with_reducible rfl
                    rotate_left
                    · simp only [Act.put, List.setIfInBounds_toArray, List.set_cons_zero, List.set_cons_succ, i64_w, i32_w]
                      rfl
                    refine pure_ (i := 23) (N := some 52) (v := ?_) (a' := ?_) #[true, true, true, true, true, true, true, true, true, true, true, true, true, true, true, true, true, true, true, true, true, true, true, true, false, false, false] rfl rfl (any_of HT_.out (by kernel_rfl)) (fun _ _ _ h => h) (Or.inl ⟨by rfl, ?_⟩) ?_ ?_
                    rotate_left
                    · intro w'
                      go_simp
                      with_reducible rfl
                    rotate_left
                    · simp only [Act.put, List.setIfInBounds_toArray, List.set_cons_zero, List.set_cons_succ, i64_w, i32_w]
                      rfl
                    refine one_ (i := 24) (N := some 53) #[true, true, true, true, true, true, true, true, true, true, true, true, true, true, true, true, true, true, true, true, true, true, true, true, true, false, false] rfl rfl (one_of HT_.out (by kernel_rfl)) (by decide) (fun K hK => ?_)
                    refine Kd.R_lit_step (Kd.int .u8) _ 5 ?hg (N := 53) ?hd (xs := ([((rd x3_1 x8_2) / 16777216) % 256, ((rd x3_1 x8_2) / 65536) % 256, ((rd x3_1 x8_2) / 256) % 256, (rd x3_1 x8_2) % 256] : List Int)) (inner := [.int .u8 (((rd x3_1 x8_2) / 16777216) % 256), .int .u8 (((rd x3_1 x8_2) / 65536) % 256), .int .u8 (((rd x3_1 x8_2) / 256) % 256), .int .u8 ((rd x3_1 x8_2) % 256)]) (ok := fun _ => True) (okp := fun _ => True) ?hr ?hp (fun _ hk => hk) trivial (Below.refl _ _) (Nat.le_refl _) (by simp) ?_; (case hd => rfl); (case hg => rfl); (case hr => first | (go_simp; done) | (go_simp; rfl)); (case hp => exact (Reps.one (show Kd.M (Kd.int .u8) _ _ _ (((rd x3_1 x8_2) / 16777216) % 256) [.int .u8 (((rd x3_1 x8_2) / 16777216) % 256)] from rfl) (Reps.one (show Kd.M (Kd.int .u8) _ _ _ (((rd x3_1 x8_2) / 65536) % 256) [.int .u8 (((rd x3_1 x8_2) / 65536) % 256)] from rfl) (Reps.one (show Kd.M (Kd.int .u8) _ _ _ (((rd x3_1 x8_2) / 256) % 256) [.int .u8 (((rd x3_1 x8_2) / 256) % 256)] from rfl) (Reps.one (show Kd.M (Kd.int .u8) _ _ _ ((rd x3_1 x8_2) % 256) [.int .u8 ((rd x3_1 x8_2) % 256)] from rfl) (Reps.none _ _))))))
                    intro v175 w23 ho24 hb hg_ hnew_
                    have HS0_ := (hb.cell (World.block_lt_of_cell? _ _ (hHeld.1))).trans (hHeld.1)
                    have HS1_ := (hb.cell (World.block_lt_of_cell? _ _ (hHeld.2.1))).trans (hHeld.2.1)
                    have HS2_ := (hb.cell (World.block_lt_of_cell? _ _ (hHeld.2.2.1))).trans (hHeld.2.2.1)
                    have HS3_ := (hb.cell (World.block_lt_of_cell? _ _ (hHeld.2.2.2))).trans (hHeld.2.2.2)
                    clear hg_ hnew_
                    (first | rw [← Ny174.out] at ho24 | (simp only [Int.reduceToNat] at ho24; rw [← Ny174.out] at ho24))
                    have n0_ := Aside0.mk (Kd.R_below (by (with_reducible repeat (first | apply RB.alloc | apply RB.drewN | apply RB.drew | apply Kd.R_alloc | apply Kd.R_drewN | apply Kd.R_drew)); exact HO_3.out) hb)
                    have n1_ := Aside0.mk (Kd.R_elder' (by (with_reducible repeat (first | apply RB.alloc | apply RB.drewN | apply RB.drew | apply Kd.R_alloc | apply Kd.R_drewN | apply Kd.R_drew)); exact HO_7.out) (Kd.R_base ho24) hb)
                    have n2_ := Aside0.mk (Kd.R_lower (Kd.R_new' ho24 (Kd.R_lt (by (with_reducible repeat (first | apply RB.alloc | apply RB.drewN | apply RB.drew | apply Kd.R_alloc | apply Kd.R_drewN | apply Kd.R_drew)); exact HO_7.out))) (below_size (by repeat (first | (with_reducible first | exact HB.out | apply below_alloc | apply pw_below_drewN | apply below_drew1) | exact HB.out))))
                    have n3_ := Aside0.mk (below_step (by repeat (first | (with_reducible first | exact HB.out | apply below_alloc | apply pw_below_drewN | apply below_drew1) | exact HB.out)) hb)
                    clear HO_3
                    clear HO_7
                    clear HB
                    have HO_3 := n0_
                    have HO_7 := n1_
                    have HO176 := n2_
                    have HB := n3_
                    clear n0_ n1_ n2_ n3_
                    clear hb ho24
                    obtain ⟨Ao26, co26, eo26⟩ := Kd.R_slice HO176.out
                    (first | subst eo26 | (injection eo26 with f1_ f2_ f3_; have f4_ := f1_.symm; have f5_ := f3_.symm; clear f1_ f2_ f3_; subst f4_; subst f5_))
                    refine hK.out _ _ ⟨HS0_, HS1_, HS2_, HS3_⟩ (fun hHeld => ?_)
                    clear hK K
                    refine norm_ (a' := ?_) ?_ ?_
                    rotate_left
                    · show Act.put _ (some 53) _ = _
                      simp only [Act.put, List.setIfInBounds_toArray, List.set_cons_zero, List.set_cons_succ, i64_w, i32_w]
                      rfl
                    refine last_ (i := 25) (N := some 54) #[true, true, true, true, true, true, true, true, true, true, true, true, true, true, true, true, true, true, true, true, true, true, true, true, true, true, false] rfl rfl (one_of HT_.out (by kernel_rfl)) (by decide) (fun K hK => ?_)
                    refine Kd.R_append_rows_step (Kd.int .u8) (w0 := w) w.heap.size (by rfl) (.tmp 29) (.tmp 53) 37 5 (.int .u8 0) 1 rfl Tryd.underlying37 info5 rfl (by decide) (by omega) u7 x7_2 y174 _ _ _ (fun k_ => some k_ ≠ (.slice Ao26 y174.length co26 : Value).ownBlock) (fun _ => False) rfl rfl ?aO ?aR (fun _ _ h => h) (fun _ h => h.elim) ?aF ?aB ?aS ?aL ?_
                    (case aR => repeat (first | exact (Kd.R_reads' HO176.out).2.2 | (with_reducible refine Kd.C_alloc ?_ _) | (with_reducible refine Kd.C_drewN ?_ _) | (with_reducible refine Kd.C_drew ?_)))
                    (case aB => exact (by repeat (first | (with_reducible first | exact HB.out | apply below_alloc | apply pw_below_drewN | apply below_drew1) | exact HB.out)))
                    (case aF => exact (fun k_ hk => Kd.fresh' (Kd.R_lt (by (with_reducible repeat (first | apply RB.alloc | apply RB.drewN | apply RB.drew | apply Kd.R_alloc | apply Kd.R_drewN | apply Kd.R_drew)); exact HO176.out)) k_ hk))
                    (case aO => exact (by (with_reducible repeat (first | apply RB.alloc | apply RB.drewN | apply RB.drew | apply Kd.R_alloc | apply Kd.R_drewN | apply Kd.R_drew)); exact Kd.R_mono HO_7.out (fun _ hk => hk.2)))
                    (case aS => exact (below_size (by repeat (first | (with_reducible first | exact HB.out | apply below_alloc | apply pw_below_drewN | apply below_drew1) | exact HB.out))))
                    (case aL => have := LMc20.out; omega)
                    intro v178 w25 ho hb hg hat
                    rw [← Ny177.out] at ho
                    have n0_ := Aside0.mk (Kd.R_over' (by (with_reducible repeat (first | apply RB.alloc | apply RB.drewN | apply RB.drew | apply Kd.R_alloc | apply Kd.R_drewN | apply Kd.R_drew)); exact HO_3.out) (Kd.R_typed (by (with_reducible repeat (first | apply RB.alloc | apply RB.drewN | apply RB.drew | apply Kd.R_alloc | apply Kd.R_drewN | apply Kd.R_drew)); exact HO_7.out)) (by decide) hg)
                    have n1_ := Aside0.mk (Kd.R_after (ok := (fun _ => True)) (by (with_reducible repeat (first | apply RB.alloc | apply RB.drewN | apply RB.drew | apply Kd.R_alloc | apply Kd.R_drewN | apply Kd.R_drew)); exact HO176.out) hg hat)
                    have n2_ := Aside0.mk (hb)
                    have n3_ := Aside0.mk (ho)
                    clear HO_3
                    clear HO176
                    clear HB
                    clear HO_7
                    have HO_3 := n0_
                    have HO176 := n1_
                    have HB := n2_
                    have HO179 := n3_
                    clear n0_ n1_ n2_ n3_
                    clear ho hb hg hat
                    refine hK.out _ _ ?_
                    clear hK K
                    refine norm_ (a' := ?_) ?_ ?_
                    rotate_left
                    · show Act.put _ (some 54) _ = _
                      simp only [Act.put, List.setIfInBounds_toArray, List.set_cons_zero, List.set_cons_succ, i64_w, i32_w]
                      rfl
                    refine pure_ (i := 26) (N := some 7) (v := ?_) (a' := ?_) #[true, true, true, true, true, true, true, true, true, true, true, true, true, true, true, true, true, true, true, true, true, true, true, true, true, true, true] rfl rfl (any_of HT_.out (by kernel_rfl)) (fun _ _ _ h => h) (Or.inl ⟨by rfl, ?_⟩) ?_ ?_
                    rotate_left
                    · intro w'
                      go_simp
                      with_reducible rfl
                    rotate_left
                    · simp only [Act.put, List.setIfInBounds_toArray, List.set_cons_zero, List.set_cons_succ, i64_w, i32_w]
                      rfl
                    refine done_ (done_of HT_.out (by kernel_rfl)) ?_
                    try go_wp2
                    go_roundg k2
                    case measure => have := HK1.out; have := HK2.out; omega
                    case rel => exact ⟨(y177), (wrap64 (x8_2 + 1)), (by first | rfl | (simp; done) | (simp [*]; done)), H', ⟨by have := HK1.out; have := HK2.out; omega⟩, ⟨by (with_reducible repeat (first | apply RB.alloc | apply RB.drewN | apply RB.drew | apply Kd.R_alloc | apply Kd.R_drewN | apply Kd.R_drew)); exact HO_3.out⟩, ⟨by (with_reducible repeat (first | apply RB.alloc | apply RB.drewN | apply RB.drew | apply Kd.R_alloc | apply Kd.R_drewN | apply Kd.R_drew)); exact Kd.R_mono HO179.out (fun _ hk => trivial)⟩, ⟨by repeat (first | (with_reducible first | exact HB.out | apply below_alloc | apply pw_below_drewN | apply below_drew1) | exact HB.out)⟩⟩
                  · rw [if_neg c20] at H
                    exact absurd H (by simp)
                · rw [if_neg c19] at H
                  exact absurd H (by simp)
              · rw [if_neg c18] at H
                exact absurd H (by simp)
            · rw [if_neg c17] at H
              have c17b0 : decide (x8_2 < 8) = false := decide_eq_false c17
              clear c17
              obtain rfl := Option.some.inj H
              have hcv27 := own_string (P := Tryd.prog) Tryd.underlying37 Tryd.underlying5 Tryd.underlying9 (Kd.own_of_R HO_7.out)
              go_wp2
              go_ret
              exact ⟨by first | rfl | (simp [errW_none, errW_some] <;> rfl) | (simp [*, errW_none, errW_some] <;> rfl), by repeat (first | (with_reducible first | exact HB.out | apply below_alloc | apply pw_below_drewN | apply below_drew1) | exact HB.out)⟩

end Go.Proofs.YtmfejehhfmaodaaDoor.Z

end

/- Contracts of functions of the program, written by a program of this session over the translation's print. -/
section
namespace Go.Proofs.YtmfejehhfmaodaaDoor.Z
open Go.RowKit Go.Proofs.YtmfejehhfmaodaaDoorW.PrintWords Go.Proofs.YtmfejehhfmaodaaDoorW.PrintLast Go.Proofs.YtmfejehhfmaodaaDoorW.PrintMore
attribute [local go_sem] max2_int min2_int max_two min_two max_three min_three max_four min_four   -- for this text's walks alone
set_option linter.unusedVariables false
set_option linter.unusedSimpArgs false

/-! ### spec_l1Width: function 22 -/
def spec_l1Width.f (a0 : Int) : Option (Bool) := if a0 ≥ 1 then (some (decide (a0 ≤ 32))) else (some false)
set_option maxHeartbeats 8000000 in
set_option maxRecDepth 100000 in
theorem spec_l1Width.calls (a0 : Int) (r : Bool) (w : World) (h : spec_l1Width.f a0 = some r) :
    Calls Tryd.prog 22 #[.int .i64 a0] w fun e w' => e = .returned (.bool r) ∧ Drawn0 w w' := by
  have H : (if a0 ≥ 1 then (some (decide (a0 ≤ 32))) else (some false)) = some r := h
  clear h
  by_cases c2 : a0 ≥ 1
  · rw [if_pos c2] at H
    have c2b0 : decide (1 ≤ a0) = true := decide_eq_true c2
    clear c2
    obtain rfl := Option.some.inj H
    go_enter Tryd.func22, Tryd.ntmps22
    go_wp2
    go_ret
    exact ⟨by first | rfl | (simp; done) | (simp [*]; done), by repeat (first | exact Drawn0.refl _ | apply Drawn0.step)⟩
  · rw [if_neg c2] at H
    have c2b0 : decide (1 ≤ a0) = false := decide_eq_false c2
    clear c2
    obtain rfl := Option.some.inj H
    go_enter Tryd.func22, Tryd.ntmps22
    go_wp2
    go_ret
    exact ⟨by first | rfl | (simp; done) | (simp [*]; done), by repeat (first | exact Drawn0.refl _ | apply Drawn0.step)⟩

end Go.Proofs.YtmfejehhfmaodaaDoor.Z

end

/- Contracts of functions of the program, written by a program of this session over the translation's print. -/
section
namespace Go.Proofs.YtmfejehhfmaodaaDoor.Z
open Go.RowKit Go.Proofs.YtmfejehhfmaodaaDoorW.PrintWords Go.Proofs.YtmfejehhfmaodaaDoorW.PrintLast Go.Proofs.YtmfejehhfmaodaaDoorW.PrintMore
attribute [local go_sem] max2_int min2_int max_two min_two max_three min_three max_four min_four   -- for this text's walks alone
set_option linter.unusedVariables false
set_option linter.unusedSimpArgs false

/-! ### spec_Digest: function 9 -/
def spec_Digest.f (k : Nat) (a0 : ByteArray) (a1 : Int) : Option (ByteArray) := (spec_l1Width.f a1).bind fun t182 => (if t182 = true then ((spec_Sha256.f k a0).bind fun t183 => (if 0 ≤ a1 then (if a1 ≤ (t183.size : Int) then (some (t183.extract 0 (a1 : Int).toNat)) else (none)) else (none))) else (some (⟨#[]⟩ : ByteArray)))
theorem spec_Digest.mono : ∀ a0 a1 k, LeO (spec_Digest.f k a0 a1) (spec_Digest.f (k + 1) a0 a1) := by
  intro a0 a1 k
  unfold spec_Digest.f
  repeat' first
      | (with_reducible exact spec_Sha256.mono _ _)
      | (with_reducible exact LeO.refl _)
      | (with_reducible exact LeO.none _)
      | (with_reducible refine LeO.ite ?_ ?_)
      | (with_reducible refine LeO.bind ?_ (fun _ => ?_))
      | exact spec_Sha256.mono _ _
      | exact LeO.none _
      | refine LeO.ite ?_ ?_
      | refine LeO.bind ?_ (fun _ => ?_)
set_option maxHeartbeats 8000000 in
set_option maxRecDepth 100000 in
theorem spec_Digest.calls (k : Nat) (a0 : ByteArray) (a1 : Int) (r : ByteArray) (w : World) (h : spec_Digest.f k a0 a1 = some r) :
    Calls Tryd.prog 9 #[.string a0, .int .i64 a1] w fun e w' => e = .returned (.string r) ∧ Below w.heap.size w w' := by
  have HB := Aside0.mk (Below.refl w.heap.size w)
  have H : ((spec_l1Width.f a1).bind fun t182 => (if t182 = true then ((spec_Sha256.f k a0).bind fun t183 => (if 0 ≤ a1 then (if a1 ≤ (t183.size : Int) then (some (t183.extract 0 (a1 : Int).toNat)) else (none)) else (none))) else (some (⟨#[]⟩ : ByteArray)))) = some r := h
  clear h
  replace H := Option.bind_eq_some_iff.mp H
  obtain ⟨t182, A30, H⟩ := H
  replace H : (if t182 = true then ((spec_Sha256.f k a0).bind fun t183 => (if 0 ≤ a1 then (if a1 ≤ (t183.size : Int) then (some (t183.extract 0 (a1 : Int).toNat)) else (none)) else (none))) else (some (⟨#[]⟩ : ByteArray))) = some r := H
  have A3 := Aside0.mk A30
  clear A30
  by_cases c4 : t182 = true
  · subst c4
    have H1 : ((spec_Sha256.f k a0).bind fun t183 => (if 0 ≤ a1 then (if a1 ≤ (t183.size : Int) then (some (t183.extract 0 (a1 : Int).toNat)) else (none)) else (none))) = some r := by rw [if_pos rfl] at H; exact H
    clear H
    have H := H1
    clear H1
    replace H := Option.bind_eq_some_iff.mp H
    obtain ⟨t183, A50, H⟩ := H
    replace H : (if 0 ≤ a1 then (if a1 ≤ (t183.size : Int) then (some (t183.extract 0 (a1 : Int).toNat)) else (none)) else (none)) = some r := H
    have A5 := Aside0.mk A50
    clear A50
    by_cases c6 : 0 ≤ a1
    · rw [if_pos c6] at H
      have c6b0 := eq_true c6
      have c6b1 : decide (0 ≤ a1) = true := decide_eq_true c6
      clear c6
      by_cases c7 : a1 ≤ (t183.size : Int)
      · rw [if_pos c7] at H
        have c7b0 := eq_true c7
        have c7b1 : decide (a1 ≤ (t183.size : Int)) = true := decide_eq_true c7
        clear c7
        obtain rfl := Option.some.inj H
        go_enter Tryd.func9, Tryd.ntmps9
        go_wp2_with (first | ((with_reducible refine gate_callee (f := 22) rfl ?_); refine goesL_ (some 6) rfl rfl Tryd.func22 (by kernel_rfl) rfl #[.int .i64 a1] rfl (by (try simp only [List.map_toArray, List.map_cons, List.map_nil]); first | done | rfl | (simp only [List.length_drop, List.length_take]; rfl)) ?_; (with_reducible refine (spec_l1Width.calls a1 true _ A3.out).mono ?_); rintro e w' ⟨rfl, ⟨nd, rfl⟩⟩; refine ⟨_, rfl, ?_⟩) | ((with_reducible refine gate_callee (f := 7) rfl ?_); refine goesL_ (some 9) rfl rfl Tryd.func7 (by kernel_rfl) rfl #[.string a0] rfl (by (try simp only [List.map_toArray, List.map_cons, List.map_nil]); first | done | rfl | (simp only [List.length_drop, List.length_take]; rfl)) ?_; (with_reducible refine (spec_Sha256.calls k a0 t183 _ A5.out).mono ?_); rintro e w8 ⟨rfl, hb⟩; refine ⟨_, rfl, ?_⟩; have n0_ := Aside0.mk (below_step (by repeat (first | (with_reducible first | exact HB.out | apply below_alloc | apply pw_below_drewN | apply below_drew1) | exact HB.out)) hb); clear HB; have HB := n0_; clear n0_; (try clear hb); (try clear hb2); (try clear hk); (try clear hi)))
        go_ret
        exact ⟨by first | rfl | (simp [errW_none, errW_some] <;> rfl) | (simp [*, errW_none, errW_some] <;> rfl), by repeat (first | (with_reducible first | exact HB.out | apply below_alloc | apply pw_below_drewN | apply below_drew1) | exact HB.out)⟩
      · rw [if_neg c7] at H
        exact absurd H (by simp)
    · rw [if_neg c6] at H
      exact absurd H (by simp)
  · replace c4 := Bool.eq_false_iff.mpr c4
    subst c4
    have H1 : (some (⟨#[]⟩ : ByteArray)) = some r := by rw [if_neg (show ¬ (false = true) by decide)] at H; exact H
    clear H
    have H := H1
    clear H1
    obtain rfl := Option.some.inj H
    go_enter Tryd.func9, Tryd.ntmps9
    go_wp2_with (first | ((with_reducible refine gate_callee (f := 22) rfl ?_); refine goesL_ (some 6) rfl rfl Tryd.func22 (by kernel_rfl) rfl #[.int .i64 a1] rfl (by (try simp only [List.map_toArray, List.map_cons, List.map_nil]); first | done | rfl | (simp only [List.length_drop, List.length_take]; rfl)) ?_; (with_reducible refine (spec_l1Width.calls a1 false _ A3.out).mono ?_); rintro e w' ⟨rfl, ⟨nd, rfl⟩⟩; refine ⟨_, rfl, ?_⟩))
    go_ret
    exact ⟨by first | rfl | (simp [errW_none, errW_some] <;> rfl) | (simp [*, errW_none, errW_some] <;> rfl), by repeat (first | (with_reducible first | exact HB.out | apply below_alloc | apply pw_below_drewN | apply below_drew1) | exact HB.out)⟩

end Go.Proofs.YtmfejehhfmaodaaDoor.Z

end

/- Contracts of functions of the program, written by a program of this session over the translation's print. -/
section
namespace Go.Proofs.YtmfejehhfmaodaaDoor.Z
open Go.RowKit Go.Proofs.YtmfejehhfmaodaaDoorW.PrintWords Go.Proofs.YtmfejehhfmaodaaDoorW.PrintLast Go.Proofs.YtmfejehhfmaodaaDoorW.PrintMore
attribute [local go_sem] max2_int min2_int max_two min_two max_three min_three max_four min_four   -- for this text's walks alone
set_option linter.unusedVariables false
set_option linter.unusedSimpArgs false

/-! ### spec_l2Text: function 27 -/
def spec_l2Text.f (a0 : ByteArray) : Option (ByteArray) := if 1 + a0.size ≤ 9223372036854775807 then (some ((⟨#[78]⟩ : ByteArray) ++ a0)) else (none)
set_option maxHeartbeats 8000000 in
set_option maxRecDepth 100000 in
theorem spec_l2Text.calls (a0 : ByteArray) (r : ByteArray) (w : World) (h : spec_l2Text.f a0 = some r) :
    Calls Tryd.prog 27 #[.string a0] w fun e w' => e = .returned (.string r) ∧ Drawn0 w w' := by
  have H : (if 1 + a0.size ≤ 9223372036854775807 then (some ((⟨#[78]⟩ : ByteArray) ++ a0)) else (none)) = some r := h
  clear h
  by_cases c2 : 1 + a0.size ≤ 9223372036854775807
  · rw [if_pos c2] at H
    have c2b0 := eq_true c2
    have c2b1 : decide (1 + a0.size ≤ 9223372036854775807) = true := decide_eq_true c2
    try have c2b2 : (9223372036854775807 < 1 + a0.size) = False := eq_false (Nat.not_lt.2 c2)
    obtain rfl := Option.some.inj H
    go_enter Tryd.func27, Tryd.ntmps27
    go_wp2
    go_ret
    exact ⟨by first | rfl | (simp; done) | (simp [*]; done), by repeat (first | exact Drawn0.refl _ | apply Drawn0.step)⟩
  · rw [if_neg c2] at H
    exact absurd H (by simp)

end Go.Proofs.YtmfejehhfmaodaaDoor.Z

end
