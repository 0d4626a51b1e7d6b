/- A slice of the call's own, told by its cells: what appends, stores and conversions make of it. -/
import Derived.WalkKit
import Derived.WalkSpells
import Derived.Deep.AppendSrc
import Derived.Deep.Upon
import Derived.Lib.ConvBytes
import Derived.Laws.MakeOwn
import Derived.Deep.Draws
namespace Go.Proofs.YtmfejehhfmaodaaDoor
open Go.RowKit
set_option linter.unusedVariables false
set_option linter.unusedSimpArgs false
/-- v: a slice of n elements (size cells each) whose block lies from base on and is no one else's; its cells are xs. -/
def Own (w : World) (base size : Nat) (v : Value) (n : Nat) (xs : List Value) : Prop :=
  xs.length = n * size ∧ ((v = .slice none 0 0 ∧ n = 0) ∨ ∃ g cap, v = .slice (some ⟨g, 0, none⟩) n cap ∧ base ≤ g ∧ g < w.heap.size ∧ n ≤ cap ∧ cap ≤ maxLen ∧ (∀ j, j < n * size → w.cell? ⟨g, j, none⟩ = xs[j]?) ∧ ∀ j, j < cap * size → (w.cell? ⟨g, j, none⟩).isSome = true ∧ w.frozen? ⟨g, j, none⟩ = false)
theorem Own.nil (w : World) (base size : Nat) : Own w base size (.slice none 0 0) 0 [] := ⟨by simp, .inl ⟨rfl, rfl⟩⟩
section
variable {w w1 : World} {base size : Nat} {v : Value} {n : Nat} {xs : List Value}
theorem Own.len (h : Own w base size v n xs) : xs.length = n * size := h.1
theorem Own.form (h : Own w base size v n xs) : ∃ A c, v = .slice A n c := by
  rcases h.2 with ⟨rfl, rfl⟩ | ⟨g, cap, rfl, _⟩
  · exact ⟨none, 0, rfl⟩
  · exact ⟨_, cap, rfl⟩
theorem Own.bound (h : Own w base size v n xs) : n ≤ maxLen := by
  rcases h.2 with ⟨_, rfl⟩ | ⟨g, cap, _, _, _, h1, h2, _⟩
  · exact Nat.zero_le _
  · omega
/-- Where there is an element. -/
theorem Own.at (h : Own w base size v n xs) (hn : 0 < n) : ∃ g cap, v = .slice (some ⟨g, 0, none⟩) n cap ∧ base ≤ g ∧ g < w.heap.size ∧ n ≤ cap ∧ (∀ j, j < n * size → w.cell? ⟨g, j, none⟩ = xs[j]?) ∧ ∀ j, j < n * size → w.frozen? ⟨g, j, none⟩ = false := by
  rcases h.2 with ⟨_, rfl⟩ | ⟨g, cap, rfl, h1, h2, h3, h4, h5, h6⟩
  · omega
  · exact ⟨g, cap, rfl, h1, h2, h3, h5, fun j hj => (h6 j (Nat.lt_of_lt_of_le hj (Nat.mul_le_mul_right _ h3))).2⟩
theorem Own.keep (h : Own w base size v n xs) (hs : w.heap.size ≤ w1.heap.size) (hb : ∀ k, v.ownBlock = some k → w1.heap[k]? = w.heap[k]?) : Own w1 base size v n xs := by
  refine ⟨h.1, ?_⟩
  rcases h.2 with h2 | ⟨g, cap, rfl, h1, h2, h3, h4, h5, h6⟩
  · exact .inl h2
  · have e := hb g rfl
    refine .inr ⟨g, cap, rfl, h1, by omega, h3, h4, fun j hj => ?_, fun j hj => ?_⟩
    · rw [World.cell?_of_block (a := ⟨g, j, none⟩) e]; exact h5 j hj
    · rw [World.cell?_of_block (a := ⟨g, j, none⟩) e, World.frozen?_of_block (a := ⟨g, j, none⟩) e]; exact h6 j hj
theorem Own.lt (h : Own w base size v n xs) (k : Nat) (hk : v.ownBlock = some k) : base ≤ k ∧ k < w.heap.size := by
  rcases h.2 with ⟨rfl, _⟩ | ⟨g, cap, rfl, h1, h2, _⟩
  · simp [Value.ownBlock] at hk
  · simp [Value.ownBlock] at hk; omega
theorem Own.below (h : Own w base size v n xs) (hb : Below w.heap.size w w1) : Own w1 base size v n xs :=
  h.keep hb.size fun k hk => hb.block k (h.lt k hk).2
theorem Own.alloc (h : Own w base size v n xs) (o : Obj) : Own (w.alloc o) base size v n xs :=
  h.below ((Below.refl _ _).alloc (Nat.le_refl _) o)
theorem Own.drew (h : Own w base size v n xs) : Own w.drew base size v n xs := h.below (Below.refl _ _).drew
theorem Own.drewN (h : Own w base size v n xs) (k : Nat) : Own (w.drewN k) base size v n xs := h.keep (Nat.le_refl _) fun _ _ => rfl
theorem Own.set (h : Own w base size v n xs) {p : Addr} (hp : v.ownBlock ≠ some p.block) (u : Value) : Own (w.setCell p u) base size v n xs :=
  h.keep (by simp) fun k hk => Below.heap_setCell w p u k (fun e => hp (by rw [hk, e]))
theorem Own.grown (h : Own w base size v n xs) {row : Option Nat} (hg : w.grownBy w1 row) (hne : ∀ k, v.ownBlock = some k → some k ≠ row) : Own w1 base size v n xs :=
  h.keep hg.size fun k hk => hg.block k (h.lt k hk).2 (hne k hk)
theorem Own.lower (h : Own w base size v n xs) {b : Nat} (hb : b ≤ base) : Own w b size v n xs := by
  refine ⟨h.1, ?_⟩
  rcases h.2 with h2 | ⟨g, cap, rfl, h1, h2⟩
  · exact .inl h2
  · exact .inr ⟨g, cap, rfl, by omega, h2⟩
theorem below_of_grown {B : Nat} {w0 : World} (h : Below B w0 w) (hv : Own w base size v n xs) (hB : B ≤ base) (hB2 : B ≤ w.heap.size) (hg : w.grownBy w1 v.ownBlock) : Below B w0 w1 :=
  h.grown hg hB2 fun k hk => Nat.le_trans hB (hv.lt k hk).1
end
theorem tape_setCells : ∀ (w : World) (g o : Nat) (vs : List Value), (w.setCells g o vs).tape = w.tape
  | _, _, _, [] => rfl
  | w, g, o, v :: r => by rw [World.setCells, tape_setCells (w.setCell ⟨g, o, none⟩ v) g (o + 1) r]; rfl
section
variable {P : Program} {w : World}
theorem run_app (base : Nat) (t tx ty e : TypeId) (i : TypeInfo) (z : Value) (size bytes : Nat) (ht : P.underlying t = some (.slice e)) (hi : P.info? e = some i) (hz : i.zero = some z)
    (hsize : i.size = size) (hby : i.bytes = bytes) (hzs : z.cells.size = size)
    {v : Value} {n : Nat} {xs : List Value} (hown : Own w base size v n xs) {x : Value} {m : Nat} {news : List Value} (hs : Src P size tx x m news w)
    (h63 : n + m ≤ maxLen) (hbytes : (n + m) * bytes ≤ 140737488355328) (hbase : base ≤ w.heap.size) :
    ∃ v' w', (Builtin.append_ #[t, tx] ty #[v, x]).run P w = .ok v' w' ∧ Own w' base size v' (n + m) (xs ++ news) ∧ w.grownBy w' v.ownBlock ∧ (v'.ownBlock = v.ownBlock ∨ ∀ k, v'.ownBlock = some k → w.heap.size ≤ k) := by
  subst hsize; subst hby
  have hsmall : ((n + m : Nat) : Int) ≤ 9223372036854775807 := by simp only [maxLen] at h63; omega
  have hlen : (xs ++ news).length = (n + m) * i.size := by rw [List.length_append, hown.1, hs.newsLen, Nat.add_mul]
  have grow : ∀ (bs : Option Addr) (sc : Nat), v = .slice bs n sc → sc < n + m → (Builtin.firstCells i.size n (.slice bs n sc)).run P w.drew = .ok xs.toArray w.drew →
      ∃ v' w', (Builtin.append_ #[t, tx] ty #[v, x]).run P w = .ok v' w' ∧ Own w' base i.size v' (n + m) (xs ++ news) ∧ w.grownBy w' v.ownBlock ∧ (v'.ownBlock = v.ownBlock ∨ ∀ k, v'.ownBlock = some k → w.heap.size ≤ k) := by
    rintro bs sc rfl hlt hold
    have hrun := run_append_grow_src (P := P) w t tx ty e i z ht hi hz bs n sc xs hold x m news hs hlt hsmall (growslice_fits hlt hbytes)
    have hge := grownCap_ge w (n + m) sc e
    have hcm := grownCap_le_maxLen w (n + m) sc e h63
    refine ⟨_, _, hrun, ⟨hlen, .inr ⟨w.heap.size, _, rfl, hbase, by simp, hge, hcm, fun j hj => ?_, fun j hj => ?_⟩⟩, ⟨rfl, rfl, rfl, by simp, fun k hk _ => Below.heap_alloc w.drew _ k hk⟩, .inr fun k hk => by simp [Value.ownBlock] at hk; omega⟩
    · have e1 := World.cell?_alloc_new w.drew (((xs ++ news).toArray ++ Builtin.zeroCells z.cells (grownCap w (n + m) sc e - (n + m)))) e j
      refine Eq.trans e1 ?_
      rw [Array.getElem?_append_left (by simp only [List.size_toArray]; omega), List.getElem?_toArray]
    · have e1 := World.cell?_alloc_new w.drew (((xs ++ news).toArray ++ Builtin.zeroCells z.cells (grownCap w (n + m) sc e - (n + m)))) e j
      have hsz : ((xs ++ news).toArray ++ Builtin.zeroCells z.cells (grownCap w (n + m) sc e - (n + m))).size = grownCap w (n + m) sc e * i.size := by
        rw [Array.size_append, List.size_toArray, hlen, size_zeroCells, hzs, ← Nat.add_mul]
        congr 1
        omega
      refine ⟨?_, World.frozen?_alloc_new w.drew _ _ j⟩
      have e2 : ∀ o, o = some ((((xs ++ news).toArray ++ Builtin.zeroCells z.cells (grownCap w (n + m) sc e - (n + m))))[j]'(by rw [hsz]; exact hj)) → o.isSome = true := fun o h => by rw [h]; rfl
      exact e2 _ (Eq.trans e1 (Array.getElem?_eq_getElem (by rw [hsz]; exact hj)))
  rcases hown.2 with ⟨rfl, rfl⟩ | ⟨g, cap, rfl, h1, h2, h3, h4, h5, h6⟩
  · have hx : xs = [] := List.eq_nil_of_length_eq_zero (by simpa using hown.1)
    subst hx
    by_cases hm : m = 0
    · subst hm
      have hn : news = [] := List.eq_nil_of_length_eq_zero (by simpa using hs.newsLen)
      subst hn
      exact ⟨_, w, run_append_nothing w t tx ty e i ht hi none 0 0 (Nat.le_refl _) x hs, Own.nil w base i.size, ⟨rfl, rfl, rfl, Nat.le_refl _, fun _ _ _ => rfl⟩, .inl rfl⟩
    · exact grow none 0 rfl (by omega) (run_firstCells_none w.drew i.size 0 0 0)
  · by_cases hroom : n + m ≤ cap
    · have hfit : (n + m) * i.size ≤ cap * i.size := Nat.mul_le_mul_right _ hroom
      have hnl := hs.newsLen
      have hmul : (n + m) * i.size = n * i.size + m * i.size := Nat.add_mul ..
      have hrun := run_append_room_src (P := P) w t tx ty e i ht hi g 0 n cap x m news hs hroom (fun j hj => by rw [Nat.zero_add]; exact (h6 _ (by omega)).1) (fun j hj => by rw [Nat.zero_add]; exact (h6 _ (by omega)).2)
      rw [Nat.zero_add] at hrun
      have hk := World.keptBut_setCells g (may := fun p => p.block = g) news (n * i.size) w (fun _ _ => rfl)
      refine ⟨_, _, hrun, ⟨hlen, .inr ⟨g, cap, rfl, h1, Nat.lt_of_lt_of_le h2 hk.size, hroom, h4, fun j hj => ?_, fun j hj => ⟨?_, (World.frozen?_setCells g _ _ _ _).trans (h6 j hj).2⟩⟩⟩, ?_, .inl rfl⟩
      · by_cases hjn : j < n * i.size
        · rw [World.cell?_setCells_out g _ _ _ _ (fun _ _ => Or.inl hjn), List.getElem?_append_left (by rw [hown.1]; exact hjn)]
          exact h5 j hjn
        · have hin := World.cell?_setCells_in g news (n * i.size) w (fun j hj => (h6 _ (by omega)).1) (j - n * i.size) (by omega)
          rw [show n * i.size + (j - n * i.size) = j by omega] at hin
          rw [hin, List.getElem?_append_right (by rw [hown.1]; omega), hown.1, List.getElem?_eq_getElem]
      · by_cases hjn : n * i.size ≤ j ∧ j < n * i.size + news.length
        · have hin := World.cell?_setCells_in g news (n * i.size) w (fun j hj => (h6 _ (by omega)).1) (j - n * i.size) (by omega)
          rw [show n * i.size + (j - n * i.size) = j by omega] at hin
          rw [hin]; rfl
        · rw [World.cell?_setCells_out g _ _ _ _ (fun _ _ => by show j < _ ∨ _ ≤ j; omega)]
          exact (h6 j hj).1
      · refine ⟨World.os_setCells _ _ _ _, tape_setCells _ _ _ _, World.output_setCells _ _ _ _, hk.size, fun k hk1 hk2 => World.heap_setCells_other w g _ news hk1 (fun e => hk2 (by simp [Value.ownBlock, e]))⟩
    · refine grow _ cap rfl (by omega) ?_
      refine run_firstCells_some w.drew i.size n ⟨g, 0, none⟩ n cap xs hown.1 (fun j u hu => ?_)
      rw [Addr.add_lit, Nat.zero_add]
      exact (h5 j (by have := (List.getElem?_eq_some_iff.1 hu).1; rw [hown.1] at this; exact this)).trans hu
theorem wpList_app (base : Nat) {ops : Array Oper} {rest : List Oper} {o : Oper} {a : Act} {Q : Exit → Act → World → Prop} (hgd : o.guard = none) (s x : Operand) (t tx : TypeId)
    (ho : o.op = .call { callee := .builtin .append, args := #[s, x], argTypes := #[t, tx] }) (e : TypeId) (z : Value) (size bytes : Nat) (ht : P.underlying t = some (.slice e))
    (hinfo : (P.info? e).map (fun i => (i.zero, i.size, i.bytes)) = some (some z, size, bytes)) (hzs : z.cells.size = size)
    {v : Value} {n : Nat} {xs : List Value} (hv : a.eval s = v) (hown : Own w base size v n xs) (xv : Value) (m : Nat) (news : List Value) (hx : a.eval x = xv) (hs : Src P size tx xv m news w)
    (h63 : n + m ≤ maxLen) (hbytes : (n + m) * bytes ≤ 140737488355328) (hbase : base ≤ w.heap.size)
    (hK : ∀ v' w', Own w' base size v' (n + m) (xs ++ news) → w.grownBy w' v.ownBlock → (v'.ownBlock = v.ownBlock ∨ ∀ k, v'.ownBlock = some k → w.heap.size ≤ k) → wpList P ops Q rest (a.put o.dst v') w') : wpList P ops Q (o :: rest) a w := by
  obtain ⟨i, hi, hz, hsize, hby⟩ := info_parts hinfo
  refine wpList_plain hgd fun K hK' => ?_
  obtain ⟨v', w', hr, h2, h3, h4⟩ := run_app (P := P) (w := w) base t tx o.type e i z size bytes ht hi hz hsize hby hzs hown hs h63 hbytes hbase
  unfold Oper.wp execOp
  simp only [ho, resolve, invoke, builtin, Sem.run_bind, Sem.run_pure, Result.andThen_ok, List.map_toArray, List.map_cons, List.map_nil, hv, hx, hr]
  exact hK' _ _ (hK v' w' h2 h3 h4)
/-- One element more, out of the variadic's box. -/
theorem src_one (w0 : World) (tx e' e : TypeId) (hk : P.underlying tx = some (.slice e')) (u : Value) (h1 : u.oneCell' = true) :
    Src P 1 tx (.slice (some ⟨w0.heap.size, 0, none⟩) 1 1) 1 [u] (w0.alloc (.cells #[u] e)) :=
  Src.ofSlice _ hk _ 1 1 [u] rfl (fun j u' hu => by
    match j, hu with
    | 0, hu => simp at hu; subst hu; simp [Addr.add]) (by simpa using h1)
/-- '[]byte(s)'. -/
theorem Own.bytes (w : World) (base : Nat) (e : TypeId) (s : ByteArray) (hb : base ≤ w.heap.size) (hs : s.size ≤ maxLen) :
    Own (Lib.bytesWorld w e s) base 1 (.slice (some ⟨w.heap.size, 0, none⟩) s.size (grownCap w s.size 0 e)) s.size (byteCells s) := by
  have hge := grownCap_ge w s.size 0 e
  have hsz : (Lib.bytesCells w e s).size = grownCap w s.size 0 e := by
    have : s.data.size = s.size := rfl
    simp [Lib.bytesCells, this]; omega
  refine ⟨by rw [byteCells_length]; omega, .inr ⟨w.heap.size, _, rfl, hb, by rw [Lib.bytesWorld_size]; omega, hge, grownCap_le_maxLen w s.size 0 e hs, fun j hj => ?_, fun j hj => ?_⟩⟩
  · have hj' : j < s.size := by omega
    have hj2 : j < s.data.toList.length := by rw [Array.length_toList]; exact hj'
    rw [Lib.bytesWorld_cell w e s j hj']
    simp only [byteCells, List.getElem?_map, List.getElem?_eq_getElem hj2, List.getD_eq_getElem?_getD, Option.map_some, Option.getD_some]
  · have h1 := Lib.bytesWorld_at_new w e s
    constructor
    · simp [World.cell?, h1, hsz]; omega
    · simp [World.frozen?, h1, hsz]; omega
theorem bytes_grown (w : World) (e : TypeId) (s : ByteArray) {B : Nat} {w0 : World} (h : Below B w0 w) (hB : B ≤ w.heap.size) : Below B w0 (Lib.bytesWorld w e s) :=
  h.trans ⟨rfl, rfl, rfl, by rw [Lib.bytesWorld_size]; omega, fun k hk => Lib.bytesWorld_at_old w e s k (by omega)⟩
def bcs (l : List UInt8) : List Value := l.map fun b => Value.int .u8 b.toNat
theorem bcs_length (l : List UInt8) : (bcs l).length = l.length := by simp [bcs]
theorem bcs_append (l k : List UInt8) : bcs (l ++ k) = bcs l ++ bcs k := by simp [bcs]
theorem bcs_get (l : List UInt8) (j : Nat) (h : j < l.length) : (bcs l)[j]? = some (.int .u8 l[j].toNat) := by simp [bcs, h]
theorem byteCells_bcs (s : ByteArray) : byteCells s = bcs s.data.toList := rfl
/-- A slice of bytes of the call's own. -/
def OwnB (w : World) (base : Nat) (v : Value) (l : List UInt8) : Prop := Own w base 1 v l.length (bcs l)
theorem strOfNums_bcs (l : List UInt8) : strOfNums (l.map fun b => (b.toNat : Int)) = ⟨l.toArray⟩ := by
  unfold strOfNums
  congr 1
  apply Array.ext'
  simp only [List.toArray, List.map_map]
  induction l with
  | nil => rfl
  | cons b l ih => simp only [List.map_cons, Function.comp]; rw [show UInt8.ofNat ((b.toNat : Int)).toNat = b by simp]; simpa using ih
/-- 'string(b[:k])' and 'string(b)'. -/
theorem OwnB.str {base : Nat} {v : Value} {l : List UInt8} (h : OwnB w base v l) (src dst e : TypeId) (hs : P.underlying src = some (.slice e)) (he : P.underlying e = some (.int .u8)) (hd : P.underlying dst = some .string) :
    (convert src dst v).run P w = .ok (.string ⟨l.toArray⟩) w := by
  rcases h.2 with ⟨rfl, hn⟩ | ⟨g, cap, rfl, h1, h2, h3, h4, h5, h6⟩
  · obtain rfl : l = [] := List.eq_nil_of_length_eq_zero hn
    exact run_convert_bytes_nil w src e hs he 0 0 dst hd
  · rw [← strOfNums_bcs]
    refine run_convert_bytes_arg w src e hs he g 0 l.length cap _ (by simp) (fun i hi => ?_) dst hd
    rw [Nat.zero_add, h5 i (by omega), bcs_get l i hi]
    simp [List.getD_eq_getElem?_getD, hi]
theorem OwnB.strTo {base g n cap : Nat} {l : List UInt8} (h : OwnB w base (.slice (some ⟨g, 0, none⟩) n cap) l) (k : Nat) (hk : k ≤ l.length) (src dst e : TypeId) (hs : P.underlying src = some (.slice e)) (he : P.underlying e = some (.int .u8)) (hd : P.underlying dst = some .string) :
    (convert src dst (.slice (some ⟨g, 0, none⟩) k cap)).run P w = .ok (.string ⟨(l.take k).toArray⟩) w := by
  rcases h.2 with ⟨h0, hn⟩ | ⟨g', cap', hv, h1, h2, h3, h4, h5, h6⟩
  · cases h0
  · cases hv
    rw [← strOfNums_bcs]
    refine run_convert_bytes_arg w src e hs he g 0 k cap _ (by simp; omega) (fun i hi => ?_) dst hd
    rw [Nat.zero_add, h5 i (by omega), bcs_get l i (by omega)]
    simp [List.getD_eq_getElem?_getD, hi, List.getElem?_take]
    rw [List.getElem?_eq_getElem (by omega)]; simp
section
variable {ops : Array Oper} {rest : List Oper} {o : Oper} {a : Act} {Q : Exit → Act → World → Prop}
/-- The operation that writes slot N. -/
theorem gate_dst {N : Nat} (h : o.dst = some N) (k : wpList P ops Q (o :: rest) a w) : wpList P ops Q (o :: rest) a w := k
theorem wpList_convert (hgd : o.guard = none) (src dst : TypeId) (x : Operand) (ho : o.op = .convert src dst x) {v u : Value} {w1 : World} (hx : a.eval x = v) (hr : (convert src dst v).run P w = .ok u w1)
    (hK : wpList P ops Q rest (a.put o.dst u) w1) : wpList P ops Q (o :: rest) a w := by
  refine wpList_plain hgd fun K hK' => ?_
  unfold Oper.wp execOp
  simp only [ho, hx, Sem.run_bind, Sem.run_pure, hr, Result.andThen_ok]
  exact hK' _ _ hK
/-- '[]byte(s)'. -/
theorem wpList_bytes (base : Nat) (hgd : o.guard = none) (src dst e : TypeId) (x : Operand) (ho : o.op = .convert src dst x) {ud : TypeDesc} (hs : P.underlying src = some ud) (hd : P.underlying dst = some (.slice e)) (he : P.underlying e = some (.int .u8))
    (s : ByteArray) (hx : a.eval x = .string s) (hb : base ≤ w.heap.size) (hl : s.size ≤ maxLen)
    (hK : ∀ v w1, OwnB w1 base v s.data.toList → (∀ k, v.ownBlock = some k → w.heap.size ≤ k) → Below w.heap.size w w1 → wpList P ops Q rest (a.put o.dst v) w1) : wpList P ops Q (o :: rest) a w := by
  refine wpList_convert hgd src dst x ho hx (Lib.run_convert_string_bytes w src dst e s hs hd he) ?_
  refine hK _ _ ?_ (fun k hk => by simp [Value.ownBlock] at hk; omega) (bytes_grown w e s (Below.refl _ _) (Nat.le_refl _))
  have := Own.bytes w base e s hb hl
  rw [byteCells_bcs] at this
  unfold OwnB
  rw [show s.data.toList.length = s.size from by rw [Array.length_toList]; rfl]
  exact this
/-- 'append(b, x)', one byte. -/
theorem wpList_appB1 (base : Nat) (hgd : o.guard = none) (s x : Operand) (t e : TypeId) (ho : o.op = .call { callee := .builtin .append, args := #[s, x], argTypes := #[t, t] }) (ht : P.underlying t = some (.slice e))
    (hinfo : (P.info? e).map (fun i => (i.zero, i.size, i.bytes)) = some (some (.int .u8 0), 1, 1)) {v : Value} {l : List UInt8} (hv : a.eval s = v) (b : UInt8) {w0 : World} (hx : a.eval x = .slice (some ⟨w0.heap.size, 0, none⟩) 1 1)
    (hw : w = w0.alloc (.cells #[.int .u8 b.toNat] e)) (hown : OwnB w0 base v l) (hl : l.length + 1 ≤ 140737488355328) (hbase : base ≤ w0.heap.size)
    (hK : ∀ v' w', OwnB w' base v' (l ++ [b]) → Below base w0 w' → wpList P ops Q rest (a.put o.dst v') w') : wpList P ops Q (o :: rest) a w := by
  subst hw
  have h2 := hown.alloc (.cells #[.int .u8 b.toNat] e)
  refine wpList_app base hgd s x t t ho e (.int .u8 0) 1 1 ht hinfo rfl hv h2 _ 1 [.int .u8 b.toNat] hx (src_one w0 t e e ht _ rfl) (by unfold maxLen; omega) (by omega) (by simp; omega) ?_
  intro v' w' h3 hg _
  refine hK v' w' ?_ (below_of_grown ((Below.refl _ _).alloc hbase _) h2 (Nat.le_refl _) (by simp; omega) hg)
  unfold OwnB
  rw [bcs_append, List.length_append]
  exact h3
/-- 'append(b, s...)', a text. -/
theorem wpList_appBs (base : Nat) (hgd : o.guard = none) (s x : Operand) (t tx e : TypeId) (ho : o.op = .call { callee := .builtin .append, args := #[s, x], argTypes := #[t, tx] }) (ht : P.underlying t = some (.slice e)) (htx : P.underlying tx = some .string)
    (hinfo : (P.info? e).map (fun i => (i.zero, i.size, i.bytes)) = some (some (.int .u8 0), 1, 1)) {v : Value} {l : List UInt8} (hv : a.eval s = v) (u : ByteArray) (hx : a.eval x = .string u)
    (hown : OwnB w base v l) (hl : l.length + u.size ≤ 140737488355328) (hbase : base ≤ w.heap.size)
    (hK : ∀ v' w', OwnB w' base v' (l ++ u.data.toList) → Below base w w' → wpList P ops Q rest (a.put o.dst v') w') : wpList P ops Q (o :: rest) a w := by
  refine wpList_app base hgd s x t tx ho e (.int .u8 0) 1 1 ht hinfo rfl hv hown _ u.size (byteCells u) hx (Src.ofString w htx u) (by unfold maxLen; omega) (by omega) hbase ?_
  intro v' w' h3 hg _
  refine hK v' w' ?_ (below_of_grown (Below.refl _ _) hown (Nat.le_refl _) hbase hg)
  unfold OwnB
  rw [bcs_append, List.length_append, show u.data.toList.length = u.size from by rw [Array.length_toList]; rfl]
  exact h3
/-- 'make([]T, n)'. -/
theorem wpList_make (base : Nat) (hgd : o.guard = none) (x y : Operand) (t e : TypeId) (ho : o.op = .makeSlice t x y) (ht : P.underlying t = some (.slice e)) (z : Value) (size bytes : Nat)
    (hinfo : (P.info? e).map (fun i => (i.zero, i.size, i.bytes)) = some (some z, size, bytes)) (n : Nat) (hx : a.eval x = .int .i64 n) (hy : a.eval y = .int .i64 n) (hn : n * bytes ≤ 140737488355328) (hm : n ≤ maxLen) (hbase : base ≤ w.heap.size)
    (hK : ∀ g w1, w.heap.size ≤ g → Own w1 base size (.slice (some ⟨g, 0, none⟩) n n) n (madeCells z.cells (n * size)).toList → Below w.heap.size w w1 → wpList P ops Q rest (a.put o.dst (.slice (some ⟨g, 0, none⟩) n n)) w1) : wpList P ops Q (o :: rest) a w := by
  obtain ⟨i, hi, hz0, hsize, hby⟩ := info_parts hinfo
  subst hsize; subst hby
  have hm' : (n : Int) ≤ 9223372036854775807 := by unfold maxLen at hm; omega
  have hb' : (i.bytes : Int) * (n : Int) ≤ 281474976710656 := by
    have h : ((n * i.bytes : Nat) : Int) ≤ 281474976710656 := by omega
    rw [Nat.mul_comm] at h
    rwa [Int.natCast_mul] at h
  have hr := run_make (P := P) w t e i z ht hi hz0 .i64 .i64 n n (by omega) (Int.le_refl _) hb' hm'
  simp only [Int.toNat_natCast] at hr
  refine wpList_plain hgd fun K hK' => ?_
  unfold Oper.wp execOp
  simp only [ho, hx, hy, Sem.run_bind, Sem.run_pure, hr, Result.andThen_ok]
  refine hK' _ _ (hK _ _ (Nat.le_refl _) ?_ ((Below.refl _ _).alloc (Nat.le_refl _) _))
  have hs := size_madeCells z.cells (n * i.size)
  refine ⟨by rw [Array.length_toList, hs], .inr ⟨w.heap.size, n, rfl, hbase, by simp, Nat.le_refl _, hm, fun j hj => ?_, fun j hj => ⟨?_, World.frozen?_alloc_new w _ _ j⟩⟩⟩
  · rw [World.cell?_alloc_new w _ _ j, Array.getElem?_toList]
  · rw [World.cell?_alloc_new w _ _ j, Array.getElem?_eq_getElem (by rw [hs]; exact hj)]; rfl
end
end
/-- A store into one of its cells. -/
theorem Own.store {w : World} {base size g n cap : Nat} {xs : List Value} (h : Own w base size (.slice (some ⟨g, 0, none⟩) n cap) n xs) (k : Nat) (hk : k < n * size) (u : Value) :
    Own (w.setCell ⟨g, k, none⟩ u) base size (.slice (some ⟨g, 0, none⟩) n cap) n (xs.set k u) := by
  obtain ⟨h0, h⟩ := h
  rcases h with ⟨h, rfl⟩ | ⟨g', cap', hv, h1, h2, h3, h4, h5, h6⟩
  · cases h
  · cases hv
    refine ⟨by rw [List.length_set, h0], .inr ⟨g, cap, rfl, h1, by simpa using h2, h3, h4, fun j hj => ?_, fun j hj => ⟨?_, by rw [World.frozen?_setCell]; exact (h6 j hj).2⟩⟩⟩
    · by_cases e : j = k
      · subst e
        rw [World.cell?_setCell_same' _ _ _ (h6 j (Nat.lt_of_lt_of_le hj (Nat.mul_le_mul_right _ h3))).1, List.getElem?_set_self (by omega)]
      · rw [World.cell?_setCell_other _ _ _ _ (fun e' => e (by cases e'; rfl)), List.getElem?_set_ne (fun e' => e e'.symm)]
        exact h5 j hj
    · by_cases e : j = k
      · subst e
        rw [World.cell?_setCell_same' _ _ _ (h6 j hj).1]; rfl
      · rw [World.cell?_setCell_other _ _ _ _ (fun e' => e (by cases e'; rfl))]
        exact (h6 j hj).1
/-- A cell of its elements. -/
theorem Own.cell {w : World} {base size g n cap : Nat} {xs : List Value} (h : Own w base size (.slice (some ⟨g, 0, none⟩) n cap) n xs) (k : Nat) (hk : k < n * size) :
    w.cell? ⟨g, k, none⟩ = xs[k]? ∧ (w.cell? ⟨g, k, none⟩).isSome = true ∧ w.frozen? ⟨g, k, none⟩ = false := by
  obtain ⟨h0, h⟩ := h
  rcases h with ⟨h, rfl⟩ | ⟨g', cap', hv, h1, h2, h3, h4, h5, h6⟩
  · cases h
  · cases hv
    have hk' := Nat.lt_of_lt_of_le hk (Nat.mul_le_mul_right size h3)
    exact ⟨h5 k hk, (h6 k hk').1, (h6 k hk').2⟩
theorem Own.slot {w : World} {base size g n cap : Nat} {xs : List Value} (h : Own w base size (.slice (some ⟨g, 0, none⟩) n cap) n xs) (k : Nat) (hk : k < n * size) : ∃ u, w.cell? ⟨g, k, none⟩ = some u ∧ w.frozen? ⟨g, k, none⟩ = false := by
  obtain ⟨_, h2, h3⟩ := h.cell k hk
  obtain ⟨u, hu⟩ := Option.isSome_iff_exists.1 h2
  exact ⟨u, hu, h3⟩
def lenOf : Value → Nat | .slice _ n _ => n | _ => 0
@[simp] theorem lenOf_slice (a : Option Addr) (n c : Nat) : lenOf (.slice a n c) = n := rfl
/-- What is read: n elements of some cells each. -/
def Rd (w : World) (size : Nat) (v : Value) (n : Nat) (xs : List Value) : Prop :=
  xs.length = n * size ∧ ∃ A c, v = .slice A n c ∧ n ≤ c ∧ (0 < n → ∃ b off, A = some ⟨b, off, none⟩ ∧ b < w.heap.size ∧ ∀ j, j < n * size → w.cell? ⟨b, off + j, none⟩ = xs[j]?)
theorem Own.rd {w : World} {base size : Nat} {v : Value} {n : Nat} {xs : List Value} (h : Own w base size v n xs) : Rd w size v n xs := by
  refine ⟨h.1, ?_⟩
  rcases h.2 with ⟨rfl, rfl⟩ | ⟨g, cap, rfl, h1, h2, h3, h4, h5, h6⟩
  · exact ⟨none, 0, rfl, Nat.le_refl _, fun h => absurd h (Nat.lt_irrefl 0)⟩
  · exact ⟨_, cap, rfl, h3, fun _ => ⟨g, 0, rfl, h2, fun j hj => by rw [Nat.zero_add]; exact h5 j hj⟩⟩
theorem Rd.below {w w1 : World} {size : Nat} {v : Value} {n : Nat} {xs : List Value} (h : Rd w size v n xs) {B : Nat} (hb : Below B w w1) (hB : w.heap.size ≤ B) : Rd w1 size v n xs := by
  obtain ⟨h1, A, c, hv, h2, h3⟩ := h
  refine ⟨h1, A, c, hv, h2, fun hn => ?_⟩
  obtain ⟨b, off, hA, hlt, hc⟩ := h3 hn
  exact ⟨b, off, hA, Nat.lt_of_lt_of_le hlt hb.size, fun j hj => by rw [hb.cell (p := ⟨b, off + j, none⟩) (by show b < B; omega)]; exact hc j hj⟩
end Go.Proofs.YtmfejehhfmaodaaDoor
