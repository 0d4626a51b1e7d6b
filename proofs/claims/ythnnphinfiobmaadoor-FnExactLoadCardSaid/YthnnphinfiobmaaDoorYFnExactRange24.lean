/- Own texts and the print's words that they use, joined by a program of this session. -/
import Derived.Test.YthnnphinfiobmaaDoorYFnExactRange31
import Derived.Test.YthnnphinfiobmaaDoorYFnExactRange23
import Derived.Maps.OwnSet
import Derived.DeepKeys4
import Derived.StillTailTactics
import Derived.Lib.BufferOwn
import Derived.Lib.BufferWrite
section
namespace Go.Proofs.YthnnphinfiobmaaDoor.Z
open Go.RowKit Go.Proofs.YthnnphinfiobmaaDoor Go.Proofs.YthnnphinfiobmaaDoorW.PrintWords Go.Proofs.YthnnphinfiobmaaDoorW.PrintLast
set_option linter.unusedVariables false
set_option linter.unusedSimpArgs false
set_option maxRecDepth 100000
def H32 (l : List Int) : Prop := l.length = 32 ∧ ∀ x ∈ l, 0 ≤ x ∧ x < 256
theorem ints_mem (l : List UInt8) : ∀ x ∈ ints l, 0 ≤ x ∧ x < 256 := by
 intro x hx; obtain ⟨b, _, rfl⟩ := List.mem_map.1 hx; have := UInt8.toNat_lt b; omega
def firstAt : List (List Int) → List Int → Option Nat
 | [], _ => none
 | c :: r, l => if c = l then some 0 else (firstAt r l).map (· + 1)
theorem firstAt_lt : ∀ (C : List (List Int)) (l : List Int) (i : Nat), firstAt C l = some i → i < C.length
 | [], _, _, h => by cases h
 | c :: r, l, i, h => by
  unfold firstAt at h
  split at h
  ·obtain rfl := Option.some.inj h; simp
  ·obtain ⟨j, hj, rfl⟩ := Option.map_eq_some_iff.1 h; have := firstAt_lt r l j hj; simp; omega
theorem firstAt_snoc (C : List (List Int)) (c l : List Int) : firstAt (C ++ [c]) l = match firstAt C l with
  | some i => some i
  | none => if c = l then some C.length else none := by
 induction C with
 | nil => simp [firstAt]
 | cons d r ih =>
  simp only [List.cons_append, firstAt]
  by_cases h : d = l
  ·rw [if_pos h, if_pos h]
  ·rw [if_neg h, if_neg h, ih]
   cases firstAt r l with
   | some i => rfl
   | none =>
    dsimp only
    by_cases h2 : c = l
    ·simp [h2]
    ·simp [h2]
theorem laidOutX : laidOutB Tryd.prog = true := by kernel_rfl
theorem hashLaw : Maps.Keyed Tryd.prog 74 := Maps.Keyed.of_law (deep_law_laid laidOutX (m := 2) (by omega) (of_decide_eq_true (by kernel_rfl)) (by kernel_rfl) (by kernel_rfl))
theorem lit_u8 (x : Int) (h : 0 ≤ x ∧ x < 256) : (Lit.int .u8 x).wf = true := by
 have hmin : IntKind.u8.min = 0 := rfl; have hmax : IntKind.u8.max = 255 := rfl; simp only [Lit.wf, Bool.and_eq_true, decide_eq_true_eq, hmin, hmax]; omega
theorem mapM_one (P : Program) (d : Nat) (e : TypeId) (l : List Int) (he : P.underlying e = some (.int .u8)) (hc : P.cellsOf e = 1) (hb : ∀ x ∈ l, 0 ≤ x ∧ x < 256) : ∀ (k j : Nat), j + k = l.length →
  ((List.range' j k).mapM fun i => P.keyLits (d + 1) e (((l.map (Value.int .u8)).drop (i * P.cellsOf e)).take (P.cellsOf e))) = some ((l.drop j).map fun x => [Lit.int .u8 x])
 | 0, j, h => by
  rw [List.drop_of_length_le (by omega)]; rfl
 | k + 1, j, h => by
  have h1 := mapM_one P d e l he hc hb k (j + 1) (by omega); have hd : l.drop j = l[j] :: l.drop (j + 1) := List.drop_eq_getElem_cons (by omega); rw [List.range'_succ, List.mapM_cons, h1, hd]; have : P.keyLits (d + 1) e (((l.map (Value.int .u8)).drop (j * P.cellsOf e)).take (P.cellsOf e)) = some [Lit.int .u8 l[j]] := by
   rw [hc, Nat.mul_one, ← List.map_drop, hd, List.map_cons, List.take_succ_cons, List.take_zero]; unfold Program.keyLits; rw [he]; simp [lit_u8 _ (hb l[j] (List.getElem_mem _))]
  rw [this]; rfl
theorem flat_one {α β : Type} (f : α → β) : ∀ l : List α, l.flatMap (fun x => [f x]) = l.map f
 | [] => rfl
 | a :: r => by rw [List.flatMap_cons, flat_one f r]; rfl
theorem hash_key (l : List Int) (h : H32 l) : ∃ kl, keyOf Tryd.prog 74 (hashV l) = some kl := by
 have hT : Tryd.prog.underlying 74 = some (.array 32 5) := by kernel_rfl
 have hE : Tryd.prog.underlying 5 = some (.int .u8) := by kernel_rfl
 have hcT : Tryd.prog.cellsOf 74 = 32 := by kernel_rfl
 have hcE : Tryd.prog.cellsOf 5 = 1 := by kernel_rfl
 have hk : Tryd.prog.keyType 74 = true := by kernel_rfl
 have hsz : ∃ n, Tryd.prog.types.size = n + 1 := ⟨Tryd.prog.types.size - 1, by have : 0 < Tryd.prog.types.size := of_decide_eq_true (by kernel_rfl); omega⟩
 obtain ⟨n, hn⟩ := hsz; have hf : (hashV l).formed Tryd.prog 74 = true := by
  unfold hashV Value.formed; rw [hT, hcT]; simp [h.1]
 have hL : Tryd.prog.keyLits (Tryd.prog.types.size + 1) 74 ((hashV l).cells.toList) = some (l.map (Lit.int .u8)) := by
  have hcs : (hashV l).cells.toList = l.map (Value.int .u8) := by simp [hashV, Value.cells]
  rw [hcs, hn]; unfold Program.keyLits; rw [hT]; dsimp only; rw [if_pos (by rw [List.length_map, hcT, h.1]), List.range_eq_range', mapM_one Tryd.prog n 5 l hE hcE h.2 32 0 (by rw [h.1]), List.drop_zero]; rw [Option.map_some, ← List.flatMap_def, flat_one]
 unfold keyOf; rw [hT]; dsimp only; rw [hk, hf, hL]; exact ⟨_, rfl⟩
theorem hash_key_ne {l m : List Int} {kl km : Lit} (h : keyOf Tryd.prog 74 (hashV l) = some kl) (h2 : keyOf Tryd.prog 74 (hashV m) = some km) (hne : l ≠ m) : kl ≠ km := by
 rintro rfl; have h3 := hashLaw.inj h h2; unfold hashV at h3; injection h3 with h4
 refine hne ?_; have h5 : l.map (Value.int .u8) = m.map (Value.int .u8) := by simpa using h4
 exact (List.map_inj_right (fun a b hab => by injection hab)).1 h5
def PlaceIs (C : List (List Int)) (D : DataW Unit) : Prop := Maps.IsMap D ∧ ∀ l kl, keyOf Tryd.prog 74 (hashV l) = some kl → Maps.has D kl = (firstAt C l).isSome ∧ D.atKey kl (.lit (.int .i64 0)) = .lit (.int .i64 (((firstAt C l).getD 0 : Nat) : Int))
theorem PlaceIs.start : PlaceIs [] (.map []) := ⟨Maps.isMap_empty, fun l kl h => ⟨rfl, rfl⟩⟩
theorem PlaceIs.same {C : List (List Int)} {D : DataW Unit} (h : PlaceIs C D) {c : List Int} {i : Nat} (hc : firstAt C c = some i) : PlaceIs (C ++ [c]) D := by
 refine ⟨h.1, fun l kl hk => ?_⟩; have := h.2 l kl hk; rw [firstAt_snoc]
 cases hl : firstAt C l with
 | some j => rw [hl] at this; exact this
 | none =>
  rw [hl] at this; dsimp only; rw [if_neg (fun e => by rw [e, hl] at hc; cases hc)]; exact this
theorem PlaceIs.new {C : List (List Int)} {D : DataW Unit} (h : PlaceIs C D) {c : List Int} {kc : Lit} (hkc : keyOf Tryd.prog 74 (hashV c) = some kc) (hc : firstAt C c = none) : PlaceIs (C ++ [c]) (D.put kc (.lit (.int .i64 (C.length : Int)))) := by
 refine ⟨h.1.put _ _, fun l kl hk => ?_⟩; have := h.2 l kl hk; rw [firstAt_snoc]
 by_cases e : c = l
 ·subst e; obtain rfl : kc = kl := by rw [hkc] at hk; exact Option.some.inj hk
  rw [hc]; dsimp only; rw [if_pos rfl]; exact ⟨Maps.has_put_same h.1 (hashLaw.key hkc) _, Maps.atKey_put_same h.1 (hashLaw.key hkc) _ _⟩
 ·have hne := hash_key_ne hk hkc (fun e' => e e'.symm); rw [Maps.has_put_other hne, Maps.atKey_put_other hne]
  cases hl : firstAt C l with
  | some j => rw [hl] at this; exact this
  | none => rw [hl] at this; dsimp only; rw [if_neg e]; exact this
end Go.Proofs.YthnnphinfiobmaaDoor.Z
end
section
namespace Go.Proofs.YthnnphinfiobmaaDoor.Z
open Go.RowKit Go.Proofs.YthnnphinfiobmaaDoor Go.Proofs.YthnnphinfiobmaaDoorW.PrintWords Go.Proofs.YthnnphinfiobmaaDoorW.PrintLast
set_option linter.unusedVariables false
set_option linter.unusedSimpArgs false
set_option maxRecDepth 100000
def strs (l : List ByteArray) : List Value := l.map Value.string
theorem strs_app (l m : List ByteArray) : strs (l ++ m) = strs l ++ strs m := by simp [strs]
structure Idx (base b m : Nat) (v : Value) (W : Int) (encs : List ByteArray) (C : List (List Int)) (w : World) : Prop where
 row : w.heap[b]? = some (.cells #[.int .i64 W, v, .map (some m)] 113 (0, 0))
 own : Own w base 1 v encs.length (strs encs)
 map : ∃ D : DataW Unit, w.ownsMap Tryd.prog 74 (plainElem Tryd.prog 3) m encs.length D ∧ PlaceIs C D
 hb : base ≤ b
 hm : base ≤ m
 nm : m ≠ b
 vb : v.ownBlock ≠ some b
 vm : v.ownBlock ≠ some m
 len : C.length = encs.length
section
variable {base b m : Nat} {v : Value} {W : Int} {encs : List ByteArray} {C : List (List Int)} {w w1 : World}
theorem Idx.lt (h : Idx base b m v W encs C w) : b < w.heap.size := lt_of_block h.row
theorem Idx.ltm (h : Idx base b m v W encs C w) : m < w.heap.size := by obtain ⟨D, h1, _⟩ := h.map; exact h1.lt
theorem Idx.below (h : Idx base b m v W encs C w) (hB : Below w.heap.size w w1) : Idx base b m v W encs C w1 := by
 obtain ⟨D, h1, h2⟩ := h.map; exact { h with
  row := (hB.block b h.lt).trans h.row
  own := h.own.below hB
  map := ⟨D, h1.kept (row := none) ⟨hB.os, hB.tape, hB.output, hB.size, fun k hk _ => hB.block k hk⟩ (by simp), h2⟩ }
theorem Idx.c0 (h : Idx base b m v W encs C w) : w.cell? ⟨b, 0, none⟩ = some (.int .i64 W) := (cell_of_row _ _ _ _ _ _ h.row).trans rfl
theorem Idx.c1 (h : Idx base b m v W encs C w) : w.cell? ⟨b, 1, none⟩ = some v := (cell_of_row _ _ _ _ _ _ h.row).trans rfl
theorem Idx.c2 (h : Idx base b m v W encs C w) : w.cell? ⟨b, 2, none⟩ = some (.map (some m)) := (cell_of_row _ _ _ _ _ _ h.row).trans rfl
theorem Idx.f (h : Idx base b m v W encs C w) (i : Nat) : w.frozen? ⟨b, i, none⟩ = false := frozen_of_row _ _ _ _ _ h.row
end
theorem Idx.app {base b m : Nat} {v v' : Value} {W : Int} {encs : List ByteArray} {C : List (List Int)} {c : List Int} {s : ByteArray} {w0 w w' : World} (h : Idx base b m v W encs C w0) (hrow : w.heap[b]? = some (.cells #[.int .i64 W, v, .map (some m)] 113 (0, 0)))
  (hmap : ∃ D : DataW Unit, w.ownsMap Tryd.prog 74 (plainElem Tryd.prog 3) m (encs.length + 1) D ∧ PlaceIs (C ++ [c]) D) (hg : w.grownBy w' v.ownBlock) (ho : Own w' base 1 v' (encs.length + 1) (strs encs ++ [Value.string s]))
  (hv : v'.ownBlock = v.ownBlock ∨ ∀ k, v'.ownBlock = some k → w.heap.size ≤ k) : Idx base b m v' W (encs ++ [s]) (C ++ [c]) (w'.setCell ⟨b, 1, none⟩ v') := by
 have hbl := lt_of_block hrow; obtain ⟨D, hm1, hm2⟩ := hmap; have hml := hm1.lt; have vb : v'.ownBlock ≠ some b := by
  rcases hv with e | e
  ·rw [e]; exact h.vb
  ·intro e2; have := e b e2; omega
 have vm : v'.ownBlock ≠ some m := by
  rcases hv with e | e
  ·rw [e]; exact h.vm
  ·intro e2; have := e m e2; omega
 have hr1 : w'.heap[b]? = some (.cells #[.int .i64 W, v, .map (some m)] 113 (0, 0)) := (hg.block b hbl (fun e => h.vb e.symm)).trans hrow; refine ⟨?_, ?_, ⟨D, ?_, hm2⟩, h.hb, h.hm, h.nm, vb, vm, by rw [List.length_append, List.length_append, h.len]; rfl⟩
 ·have := heap_setCell_same w' b 1 _ _ v' hr1; rw [this]; rfl
 ·rw [List.length_append, strs_app]; exact ho.set vb _
 ·have h2 : w'.ownsMap Tryd.prog 74 (plainElem Tryd.prog 3) m (encs.length + 1) D := hm1.kept hg (fun e => h.vm e.symm); rw [show (encs ++ [s]).length = encs.length + 1 by simp]; exact h2.setCell (by exact h.nm) _
theorem Idx.slot {base b m : Nat} {v : Value} {W : Int} {encs : List ByteArray} {C : List (List Int)} {w0 w w' : World} (h : Idx base b m v W encs C w0) (hrow : w.heap[b]? = some (.cells #[.int .i64 W, v, .map (some m)] 113 (0, 0))) (hg : w.grownBy w' v.ownBlock) :
  w'.cell? ⟨b, 1, none⟩ = some v ∧ w'.frozen? ⟨b, 1, none⟩ = false := by
 have hr1 : w'.heap[b]? = some (.cells #[.int .i64 W, v, .map (some m)] 113 (0, 0)) := (hg.block b (lt_of_block hrow) (fun e => h.vb e.symm)).trans hrow; exact ⟨(cell_of_row _ _ _ _ _ _ hr1).trans rfl, frozen_of_row _ _ _ _ _ hr1⟩
theorem infoStr : (Tryd.prog.info? 9).map (fun i => (i.zero, i.size, i.bytes)) = some (some (.string ⟨#[]⟩), 1, 16) := by kernel_rfl
theorem zeroInt (w : World) : (zeroValue 3).run Tryd.prog w = .ok (.int .i64 0) w := by kernel_rfl
theorem wpQuiet_load {P : Program} {ops : Array Oper} {C : World → Prop} {Q : Act → Prop} {a : Act} {o : Oper} {rest : List Oper} (hg : o.guard = none) (ty : TypeId) (x : Operand) (ho : o.op = .load ty x) (p v : Value) (hx : a.eval x = p)
  (hrun : ∀ w, C w → (Instr.loadAt ty p).run P w = .ok v w) (h : wpQuiet P ops C Q rest (a.put o.dst v)) : wpQuiet P ops C Q (o :: rest) a := by
 unfold wpQuiet; rw [if_pos (by simp [Region.wanted, hg])]; refine ⟨v, fun w hw => ?_, h⟩; unfold Oper.quietAt execOp; simp only [ho, hx, Sem.run_bind, hrun w hw, Result.andThen_ok, Sem.run_pure]; exact ⟨rfl, rfl⟩
theorem wpStill_load {P : Program} {ops : Array Oper} {w : World} {Q : Act → Prop} {a : Act} {o : Oper} {rest : List Oper} (hg : o.guard = none) (ty : TypeId) (x : Operand) (ho : o.op = .load ty x) (p v : Value) (hx : a.eval x = p)
  (hrun : (Instr.loadAt ty p).run P w = .ok v w) (h : wpStill P ops w Q rest (a.put o.dst v)) : wpStill P ops w Q (o :: rest) a := by
 unfold wpStill; rw [if_pos (by simp [Region.wanted, hg])]; unfold Oper.still execOp; simp only [ho, hx, Sem.run_bind, hrun, Result.andThen_ok, Sem.run_pure]; exact ⟨rfl, h⟩
theorem hash_load (c : List Int) (hl : c.length = 32) (g : Nat) (W : World) (hg : W.heap[g]? = some (.cells (c.map (Value.int .u8)).toArray 74 (0, 0))) :
  (Instr.loadAt 74 (.pointer (some ⟨g, 0, none⟩))).run Tryd.prog W = .ok (hashV c) W := by
 simp only [Instr.loadAt, Instr.sureAddr, Sem.run_bind, Sem.run_pure, Result.andThen_ok]; exact run_loadVar_row W g _ _ _ _ _ hg Tryd.underlying74 rfl (hash_cells32 c hl)
theorem place_look {m n : Nat} {D : DataW Unit} {C : List (List Int)} {w : World} (h : w.ownsMap Tryd.prog 74 (plainElem Tryd.prog 3) m n D) (hp : PlaceIs C D) (c : List Int) (hc : H32 c) :
  (Instr.lookup 111 (.map (some m)) (hashV c) true).run Tryd.prog w = .ok (.tuple #[.int .i64 (((firstAt C c).getD 0 : Nat) : Int), .bool (firstAt C c).isSome]) w := by
 obtain ⟨kl, hk⟩ := hash_key c hc; obtain ⟨h1, h2⟩ := hp.2 c kl hk; obtain ⟨v, ps, hrun, hv⟩ := h.look_ok hashLaw Tryd.underlying111 (zeroInt w) (plainElem_int Tryd.underlying3 (by decide)) hk; obtain ⟨x, rfl, hx, _⟩ := plainElem_int_inv Tryd.underlying3 hv; rw [hrun, h1]; rw [h2] at hx; have h3 := congrArg Prod.fst hx; simp only [DataW.lit.injEq, Lit.int.injEq, true_and] at h3; rw [← h3]
set_option maxHeartbeats 2000000 in
theorem idxAdd_old (base b m : Nat) (v : Value) (W : Int) (encs : List ByteArray) (C : List (List Int)) (c : List Int) (s : ByteArray) (i : Nat) (w : World) (h : Idx base b m v W encs C w) (hc : H32 c) (hi : firstAt C c = some i) (hn : encs.length ≤ 1073741824) (hbase : base ≤ w.heap.size) :
  Calls Tryd.prog 75 #[.pointer (some ⟨b, 0, none⟩), hashV c, .string s] w fun e w' => e = .returned (.tuple #[]) ∧ (∃ v', Idx base b m v' W (encs ++ [s]) (C ++ [c]) w') ∧ Below base w w' := by
 obtain ⟨VA, VC, rfl⟩ := h.own.form; obtain ⟨D, hown, hpl⟩ := h.map; have hw1 : (w.alloc (.cells (c.map (Value.int .u8)).toArray 74)).heap[w.heap.size]? = some (.cells (c.map (Value.int .u8)).toArray 74 (0, 0)) := heap_alloc_new _ _; have HX := Lib.hid (h.below ((Below.refl _ _).alloc (Nat.le_refl _) (.cells (c.map (Value.int .u8)).toArray 74))); have kl := fun n => hash_load c hc.1 w.heap.size ((w.alloc (.cells (c.map (Value.int .u8)).toArray 74)).drewN n) hw1
 have kp := fun n => place_look (w := (w.alloc (.cells (c.map (Value.int .u8)).toArray 74)).drewN n) (hown.alloc _) hpl c hc
 rw [hi] at kp; have h0 := h.c0; have h1 := h.c1; have h2 := h.c2; have hf := h.f; have hlt := h.lt; have HI := Lib.hid hi; have HC := Lib.hid hc; have HH := Lib.hid h; clear hi hc h hown hpl hw1; unfold hashV at kl kp ⊢
 go_enter Tryd.func75, Tryd.ntmps75
 go_wp2_with fail
 refine wp_region_quiet_lit (by kernel_rfl) (by kernel_rfl) ?_
 iterate 4 (quiet_step (fail))
 refine wpQuiet_load rfl 74 _ rfl _ _ rfl (fun w' ⟨n, hn⟩ => by subst hn; exact kl n) ?_
 repeat (quiet_step (fail))
 refine wpQuiet_nil ?_; intro _ hw'; obtain ⟨nq, hw''⟩ := hw'; subst hw''; have hrow : (((w.alloc (.cells (c.map (Value.int .u8)).toArray 74)).drewN nq).alloc (.cells #[Value.string s] 9)).heap[b]? = some (.cells #[.int .i64 W, .slice VA encs.length VC, .map (some m)] 113 (0, 0)) :=
  (HX.out.below ((Below.refl _ _).alloc (Nat.le_refl _) (.cells #[Value.string s] 9))).row
 have hown : Own (((w.alloc (.cells (c.map (Value.int .u8)).toArray 74)).drewN nq).alloc (.cells #[Value.string s] 9)) base 1 (.slice VA encs.length VC) encs.length (strs encs) :=
  (HX.out.below ((Below.refl _ _).alloc (Nat.le_refl _) (.cells #[Value.string s] 9))).own
 have hsrc := src_one ((w.alloc (.cells (c.map (Value.int .u8)).toArray 74)).drewN nq) 32 9 9 Tryd.underlying32 (.string s) rfl; rw [show ((w.alloc (.cells (c.map (Value.int .u8)).toArray 74)).drewN nq).heap.size = w.heap.size + 1 by simp] at hsrc; have HROW := Lib.hid hrow; have HOWN := Lib.hid hown; have HSRC := Lib.hid hsrc; have hbel : Below base w (((w.alloc (.cells (c.map (Value.int .u8)).toArray 74)).drewN nq).alloc (.cells #[Value.string s] 9)) := (bdrewN ((Below.refl _ _).alloc hbase _) nq).alloc (by simp; omega) _; have hmp : ∃ D : DataW Unit, (((w.alloc (.cells (c.map (Value.int .u8)).toArray 74)).drewN nq).alloc (.cells #[Value.string s] 9)).ownsMap Tryd.prog 74 (plainElem Tryd.prog 3) m (encs.length + 1) D ∧ PlaceIs (C ++ [c]) D := by
  obtain ⟨D, h1, h2⟩ := (HX.out.below ((Below.refl _ _).alloc (Nat.le_refl _) (.cells #[Value.string s] 9))).map; exact ⟨D, h1.mono (by omega), h2.same HI.out⟩
 have HMP := Lib.hid hmp; have HBEL := Lib.hid hbel; clear hrow hown hsrc hbel hmp kl kp hf
 go_wp2_with (at_builtin; go_loud (refine wpList_app base rfl _ _ 32 32 rfl 9 (.string ⟨#[]⟩) 1 16 Tryd.underlying32 infoStr rfl rfl HOWN.out _ 1 [Value.string s] rfl HSRC.out (by unfold maxLen; omega) (by omega) (by simp; omega) ?_; intro v' w' hown' hgrow hvv; obtain ⟨A', c', rfl⟩ := hown'.form; have HO' := Lib.hid hown'; have HG' := Lib.hid hgrow; have HV' := Lib.hid hvv; clear hown' hgrow hvv; have hs1 := (HH.out.slot HROW.out HG'.out).1; have hs2 := (HH.out.slot HROW.out HG'.out).2))
 go_end0
 refine ⟨rfl, ⟨_, HH.out.app HROW.out HMP.out HG'.out HO'.out HV'.out⟩, ?_⟩; have h5 : Below base w w' := HBEL.out.grown HG'.out (by simp; omega) (fun k hk => (HH.out.own.lt k hk).1); exact h5.setCell HH.out.hb _
set_option maxHeartbeats 2000000 in
theorem idxAdd_new (base b m : Nat) (v : Value) (W : Int) (encs : List ByteArray) (C : List (List Int)) (c : List Int) (s : ByteArray) (w : World) (h : Idx base b m v W encs C w) (hc : H32 c) (hi : firstAt C c = none) (hn : encs.length ≤ 1073741824) (hbase : base ≤ w.heap.size) :
  Calls Tryd.prog 75 #[.pointer (some ⟨b, 0, none⟩), hashV c, .string s] w fun e w' => e = .returned (.tuple #[]) ∧ (∃ v', Idx base b m v' W (encs ++ [s]) (C ++ [c]) w') ∧ Below base w w' := by
 obtain ⟨VA, VC, rfl⟩ := h.own.form; obtain ⟨D, hown, hpl⟩ := h.map; have hw1 : (w.alloc (.cells (c.map (Value.int .u8)).toArray 74)).heap[w.heap.size]? = some (.cells (c.map (Value.int .u8)).toArray 74 (0, 0)) := heap_alloc_new _ _; have HX := Lib.hid (h.below ((Below.refl _ _).alloc (Nat.le_refl _) (.cells (c.map (Value.int .u8)).toArray 74))); have kl := fun n => hash_load c hc.1 w.heap.size ((w.alloc (.cells (c.map (Value.int .u8)).toArray 74)).drewN n) hw1
 have kp := fun n => place_look (w := (w.alloc (.cells (c.map (Value.int .u8)).toArray 74)).drewN n) (hown.alloc _) hpl c hc
 rw [hi] at kp; have h0 := h.c0; have h1 := h.c1; have h2 := h.c2; have hf := h.f; have hlt := h.lt; have HI := Lib.hid hi; have HC := Lib.hid hc; have HH := Lib.hid h; clear hi hc h hown hpl hw1; unfold hashV at kl kp ⊢
 go_enter Tryd.func75, Tryd.ntmps75
 go_wp2_with fail
 refine wp_region_quiet_lit (by kernel_rfl) (by kernel_rfl) ?_
 iterate 4 (quiet_step (fail))
 refine wpQuiet_load rfl 74 _ rfl _ _ rfl (fun w' ⟨n, hn⟩ => by subst hn; exact kl n) ?_
 repeat (quiet_step (fail))
 refine wpQuiet_nil ?_; intro _ hw'; obtain ⟨nq, hw''⟩ := hw'; subst hw''
 go_wp2_with fail
 obtain ⟨W1, hW1⟩ : ∃ W1, W1 = (w.alloc (.cells (c.map (Value.int .u8)).toArray 74)).drewN nq := ⟨_, rfl⟩
 have hX1 : Idx base b m (.slice VA encs.length VC) W encs C W1 := by rw [hW1]; exact HX.out.below (bdrewN (Below.refl _ _) nq)
 have hr1 : W1.heap[w.heap.size]? = some (.cells (c.map (Value.int .u8)).toArray 74 (0, 0)) := by rw [hW1]; exact heap_alloc_new _ _
 have hz1 : W1.heap.size = w.heap.size + 1 := by rw [hW1]; simp
 have hB1 : Below base w W1 := by rw [hW1]; exact bdrewN ((Below.refl _ _).alloc hbase _) nq
 rw [← hW1]; clear kl kp h0 h1 h2 hf hW1 HX hlt; have h0 := hX1.c0; have h1 := hX1.c1; have h2 := hX1.c2; have hf := hX1.f; have kl := hash_load c HC.out.1 w.heap.size W1.drew hr1; have HX := Lib.hid hX1; have HZ := Lib.hid hz1; clear hX1 hz1
 go_still_tail 10, (by kernel_rfl)
 refine wpStill_load rfl 74 _ rfl _ (hashV c) rfl kl ?_
 repeat still_step
 try refine wpStill_nil ?_
 obtain ⟨D1, hm1, hp1⟩ := HX.out.map; obtain ⟨kc, hkc⟩ := hash_key c HC.out; have hm1' : W1.drew.ownsMap Tryd.prog 74 (plainElem Tryd.prog 3) m encs.length D1 := hm1; have HM1 := Lib.hid hm1'; have HP1 := Lib.hid hp1; have HKC := Lib.hid hkc; have HB1 := Lib.hid hB1; clear hm1 hm1' hp1 hkc hB1 kl hr1 h0 h1 h2 hf
 change wpList _ _ _ _ _ W1.drew
 go_wp2_with (first | (at_mapUpdate; go_loud (refine wpList_mapUpdate_own _ rfl _ _ _ 111 rfl 74 3 hashLaw Tryd.underlying111 (plainElem Tryd.prog 3) m encs.length D1 rfl HM1.out (by unfold maxLen; omega) _ _ kc rfl rfl HKC.out (.lit (.int .i64 (encs.length : Int))) [] (plainElem_int Tryd.underlying3 (by go_wf)) ?_; intro w2 hm2 hg2; have HM2 := Lib.hid hm2; have HG2 := Lib.hid hg2; clear hm2 hg2; have HR2 := Lib.hid ((HG2.out.block b HX.out.lt (fun e => HX.out.nm (Option.some.inj e).symm)).trans HX.out.row); have hc2 := (cell_of_row _ _ 1 _ _ _ HR2.out).trans rfl; have hf2 := frozen_of_row _ _ 1 _ _ HR2.out; have HZ2 := Lib.hid (show W1.heap.size ≤ w2.heap.size from HG2.out.size); have HO2 := Lib.hid (HX.out.own.drew.grown HG2.out (fun k hk e => HX.out.vm (hk.trans e))); have HSRC := Lib.hid (src_one w2 32 9 9 Tryd.underlying32 (.string s) rfl); have HOWN := Lib.hid (HO2.out.alloc (.cells #[Value.string s] 9)); have HROW := Lib.hid ((heap_alloc_old w2 (.cells #[Value.string s] 9) (lt_of_block HR2.out)).trans HR2.out))) | (at_builtin; go_loud (refine wpList_app base rfl _ _ 32 32 rfl 9 (.string ⟨#[]⟩) 1 16 Tryd.underlying32 infoStr rfl rfl HOWN.out _ 1 [Value.string s] rfl HSRC.out (by unfold maxLen; omega) (by omega) (by have := HZ2.out; have := HZ.out; simp at this ⊢; omega) ?_; intro v' w' hown' hgrow hvv; obtain ⟨A', c', rfl⟩ := hown'.form; have HO' := Lib.hid hown'; have HG' := Lib.hid hgrow; have HV' := Lib.hid hvv; clear hown' hgrow hvv; have hs1 := (HH.out.slot HROW.out HG'.out).1; have hs2 := (HH.out.slot HROW.out HG'.out).2)))
 go_end0
 have hz2 := HZ2.out; have hz := HZ.out; have hmp : ∃ D : DataW Unit, (w2.alloc (.cells #[Value.string s] 9)).ownsMap Tryd.prog 74 (plainElem Tryd.prog 3) m (encs.length + 1) D ∧ PlaceIs (C ++ [c]) D := by
  refine ⟨_, HM2.out.alloc _, ?_⟩; have := HP1.out.new HKC.out HI.out; rw [HH.out.len] at this; exact this
 refine ⟨rfl, ⟨_, HH.out.app HROW.out hmp HG'.out HO'.out HV'.out⟩, ?_⟩; have h4 : Below base w w2 := (HB1.out.drew).grown HG2.out (by show base ≤ W1.heap.size; omega) (fun k hk => by cases hk; exact HH.out.hm); have h6 : Below base w (w2.alloc (.cells #[Value.string s] 9)) := h4.alloc (Nat.le_trans hbase h4.size) _; have h5 : Below base w w' := h6.grown HG'.out (Nat.le_trans hbase h6.size) (fun k hk => (HH.out.own.lt k hk).1); exact h5.setCell HH.out.hb _
end Go.Proofs.YthnnphinfiobmaaDoor.Z
end
section
namespace Go.Proofs.YthnnphinfiobmaaDoor
open Go.RowKit
set_option linter.unusedVariables false
set_option linter.unusedSimpArgs false
def Rdr (b : Nat) (r : ByteArray) (bad : Bool) (w : World) : Prop := w.heap[b]? = some (.cells #[.string r, .bool bad] 172)
section
variable {b : Nat} {r : ByteArray} {bad : Bool} {w w1 : World}
theorem Rdr.c0 (h : Rdr b r bad w) : w.cell? ⟨b, 0, none⟩ = some (.string r) := by
 unfold Rdr at h; simp [World.cell?, h]
theorem Rdr.c1 (h : Rdr b r bad w) : w.cell? ⟨b, 1, none⟩ = some (.bool bad) := by
 unfold Rdr at h; simp [World.cell?, h]
theorem Rdr.f (h : Rdr b r bad w) (i : Nat) : w.frozen? ⟨b, i, none⟩ = false := by
 unfold Rdr at h; simp [World.frozen?, h]
theorem Rdr.lt (h : Rdr b r bad w) : b < w.heap.size := by
 rcases Nat.lt_or_ge b w.heap.size with h' | h'
 ·exact h'
 ·unfold Rdr at h; simp [Array.getElem?_eq_none h'] at h
theorem Rdr.set0 (h : Rdr b r bad w) (s : ByteArray) : Rdr b s bad (w.setCell ⟨b, 0, none⟩ (.string s)) := by
 have hl := h.lt; unfold Rdr at h ⊢; rw [Array.getElem?_eq_getElem hl] at h; have h' := Option.some.inj h; simp [World.setCell, hl, Array.getElem_modify, h']
theorem Rdr.set1 (h : Rdr b r bad w) (s : Bool) : Rdr b r s (w.setCell ⟨b, 1, none⟩ (.bool s)) := by
 have hl := h.lt; unfold Rdr at h ⊢; rw [Array.getElem?_eq_getElem hl] at h; have h' := Option.some.inj h; simp [World.setCell, hl, Array.getElem_modify, h']
theorem Rdr.below (h : Rdr b r bad w) (hb : Below w.heap.size w w1) : Rdr b r bad w1 := (hb.block b h.lt).trans h
theorem Rdr.grown (h : Rdr b r bad w) {row : Option Nat} (hb : w.grownBy w1 row) (hn : some b ≠ row) : Rdr b r bad w1 := (hb.block b h.lt hn).trans h
theorem Rdr.fresh (s : ByteArray) (w : World) : Rdr w.heap.size s false (w.alloc (.cells #[.string s, .bool false] 172)) := by
 show (w.heap.push _)[w.heap.size]? = _; simp
end
def textR (r : ByteArray) (bad : Bool) (n : Int) : ByteArray × ByteArray × Bool :=
 if bad = true ∨ n < 0 ∨ (r.size : Int) < n then (⟨#[]⟩, r, true) else (r.extract 0 n.toNat, r.extract n.toNat r.size, false)
set_option maxHeartbeats 400000 in
theorem text_any (b : Nat) (r : ByteArray) (bad : Bool) (n : Int) (w : World) (h : Rdr b r bad w) :
  Calls Tryd.prog 126 #[.pointer (some ⟨b, 0, none⟩), .int .i64 n] w fun e w' => e = .returned (.string (textR r bad n).1) ∧ Rdr b (textR r bad n).2.1 (textR r bad n).2.2 w' ∧ w.grownBy w' (some b) := by
 have c0 := h.c0; have c1 := h.c1; have f0 := h.f 0; have f1 := h.f 1; have H := Lib.hid h; clear h
 by_cases hc : bad = true ∨ n < 0 ∨ (r.size : Int) < n
 ·have ht : textR r bad n = (⟨#[]⟩, r, true) := by unfold textR; rw [if_pos hc]
  rw [ht]; clear ht
  by_cases hb : bad = true
  ·subst hb
   go_enter Tryd.func126, Tryd.ntmps126
   go_wp2
   go_ret
   exact ⟨rfl, H.out.set1 true, Lib.grownBy_setCell _ _ _ _⟩
  ·obtain rfl : bad = false := by simpa using hb
   by_cases hn : n < 0
   ·go_enter Tryd.func126, Tryd.ntmps126
    go_wp2
    go_ret
    exact ⟨rfl, H.out.set1 true, Lib.grownBy_setCell _ _ _ _⟩
   ·have hn2 : (r.size : Int) < n := by simp at hc; omega
    go_enter Tryd.func126, Tryd.ntmps126
    go_wp2
    go_ret
    exact ⟨rfl, H.out.set1 true, Lib.grownBy_setCell _ _ _ _⟩
 ·have ht : textR r bad n = (r.extract 0 n.toNat, r.extract n.toNat r.size, false) := by unfold textR; rw [if_neg hc]
  rw [ht]; clear ht; simp only [not_or, Bool.not_eq_true] at hc; obtain ⟨rfl, hn0, hn1⟩ := hc; have hn2 : 0 ≤ n := by omega
  have hn3 : n ≤ r.size := by omega
  have hn4 : ¬ (r.size : Int) < n := by omega
  go_enter Tryd.func126, Tryd.ntmps126
  go_wp2
  go_ret
  exact ⟨rfl, H.out.set0 _, Lib.grownBy_setCell _ _ _ _⟩
theorem or_join (x y : Nat) (hy : y < 256) : (x * 256) ||| y = x * 256 + y := by
 have h := Nat.shiftLeft_add_eq_or_of_lt (i := 8) hy x; rw [Nat.shiftLeft_eq] at h; exact h.symm
theorem or_vec (n a b : Nat) : (BitVec.ofInt n (a : Int) ||| BitVec.ofInt n (b : Int)).toNat = (a % 2 ^ n) ||| (b % 2 ^ n) := by
 rw [BitVec.toNat_or, BitVec.ofInt_natCast, BitVec.ofInt_natCast, BitVec.toNat_ofNat, BitVec.toNat_ofNat]
theorem wrap_u32 (n : Nat) (h : n < 4294967296) : IntKind.u32.wrap (n : Int) = n := by
 simp [IntKind.wrap, IntKind.bits, IntKind.signed]; omega
theorem wrap_i64 (n : Nat) (h : n < 9223372036854775808) : IntKind.i64.wrap (n : Int) = n := by
 simp [IntKind.wrap, IntKind.bits, IntKind.signed]; omega
theorem bitsOrU32 (x y : Nat) (hx : x < 16777216) (hy : y < 256) : bits .or .u32 ((x : Int) * 256) (y : Int) = ((x * 256 + y : Nat) : Int) := by
 have e : ((x : Int) * 256) = ((x * 256 : Nat) : Int) := by simp
 rw [e]; show IntKind.u32.wrap (((BitVec.ofInt 32 ((x * 256 : Nat) : Int) ||| BitVec.ofInt 32 (y : Int)).toNat : Nat) : Int) = _; rw [or_vec, Nat.mod_eq_of_lt (by omega), Nat.mod_eq_of_lt (by omega), or_join x y hy, wrap_u32 _ (by omega)]
theorem bitsOrI64 (x y : Nat) (hx : x < 16777216) (hy : y < 256) : bits .or .i64 ((x : Int) * 256) (y : Int) = ((x * 256 + y : Nat) : Int) := by
 have e : ((x : Int) * 256) = ((x * 256 : Nat) : Int) := by simp
 rw [e]; show IntKind.i64.wrap (((BitVec.ofInt 64 ((x * 256 : Nat) : Int) ||| BitVec.ofInt 64 (y : Int)).toNat : Nat) : Int) = _; rw [or_vec, Nat.mod_eq_of_lt (by omega), Nat.mod_eq_of_lt (by omega), or_join x y hy, wrap_i64 _ (by omega)]
def numV (l : List UInt8) : Nat := l.foldl (fun a b => a * 256 + b.toNat) 0
theorem numV_snoc (l : List UInt8) (b : UInt8) : numV (l ++ [b]) = numV l * 256 + b.toNat := by simp [numV]
theorem numV_lt (l : List UInt8) : numV l < 256 ^ l.length := by
 have gen : ∀ (l : List UInt8) (a n : Nat), a < 256 ^ n → l.foldl (fun a b => a * 256 + b.toNat) a < 256 ^ (n + l.length) := by
  intro l
  induction l with
  | nil => intro a n h; simpa using h
  | cons x r ih =>
   intro a n h; have hx : x.toNat < 256 := x.toNat_lt; have h2 := ih (a * 256 + x.toNat) (n + 1) (by rw [Nat.pow_succ]; omega); rw [List.foldl_cons, List.length_cons, show n + (r.length + 1) = n + 1 + r.length by omega]; exact h2
 have h := gen l 0 0 (by decide)
 simpa [numV] using h
theorem numV_step (t : ByteArray) (m : Nat) (hm : m < t.size) (h2 : t.size ≤ 2) :
  numV (t.data.toList.take m) < 256 ∧ numV (t.data.toList.take (m + 1)) = numV (t.data.toList.take m) * 256 + (t.data[m]'hm).toNat := by
 constructor
 ·have h := numV_lt (t.data.toList.take m); have hl : (t.data.toList.take m).length ≤ 1 := by rw [List.length_take]; omega
  have := Nat.pow_le_pow_right (n := 256) (by decide) hl; omega
 ·rw [List.take_succ_eq_append_getElem (by simpa using hm), numV_snoc]; simp
theorem numU32_step (t : ByteArray) (m : Nat) (hm : m < t.size) (h2 : t.size ≤ 2) :
  bits .or .u32 ((numV (t.data.toList.take m) : Int) * 256 % 4294967296) (((t.data[m]'hm).toNat : Int) % 4294967296) = (numV (t.data.toList.take (m + 1)) : Int) := by
 obtain ⟨h1, h3⟩ := numV_step t m hm h2; have h4 := (t.data[m]'hm).toNat_lt; rw [Int.emod_eq_of_lt (by omega) (by omega), Int.emod_eq_of_lt (by omega) (by omega), bitsOrU32 _ _ (by omega) (by omega), h3]
set_option maxHeartbeats 1000000 in
theorem numFlag_any (b : Nat) (r : ByteArray) (bad : Bool) (k : Nat) (hk : k ≤ 2) (w : World) (h : Rdr b r bad w) :
  Calls Tryd.prog 125 #[.pointer (some ⟨b, 0, none⟩), .int .i64 k] w fun e w' => e = .returned (.int .u32 (numV (textR r bad k).1.data.toList)) ∧ Rdr b (textR r bad k).2.1 (textR r bad k).2.2 w' ∧ w.grownBy w' (some b) := by
 have hlt := h.lt; have hsz : (textR r bad k).1.size ≤ 2 := by
  unfold textR
  split
  ·exact Nat.zero_le _
  ·simp; omega
 have H := Lib.hid h; clear h; generalize ht : (textR r bad k).1 = t at hsz ⊢; have HT := Lib.hid ht; clear ht
 go_enter Tryd.func125, Tryd.ntmps125
 go_wp2_with (first | (go_at_call 126; refine (text_any b r bad k _ H.out).mono ?_; rintro e wa ⟨rfl, hRa, hga⟩; rw [HT.out]; have hza := hga.size) | (((with_reducible refine gate_dst (N := 11) rfl ?_); refine wpList_bytes wa.heap.size rfl 9 133 5 _ rfl Tryd.underlying9 Tryd.underlying133 Tryd.underlying5 t rfl (by first | assumption | (simp; omega) | omega) (by unfold maxLen; omega) ?_; rintro v_wb wb ho_wb hv_wb hb_wb; obtain ⟨hc_wb, hf_wb⟩ := bcell hb_wb; have hz_wb := hb_wb.size; (try simp only [World.size_alloc, World.size_setCell, World.size_drew] at hz_wb); (try simp only [World.size_alloc, World.size_setCell, World.size_drew] at hc_wb); (try simp only [World.size_alloc, World.size_setCell, World.size_drew] at hf_wb); skip); obtain ⟨A, c, rfl⟩ := ho_wb.form))
 have HO := Lib.hid ho_wb; clear ho_wb; have htl : t.data.toList.length = t.size := rfl; have HTL := Lib.hid htl; clear htl
 go_loopw [5, 13] (fun v i wr => ∃ m : Nat, m ≤ t.size ∧ i = .int .i64 m ∧ v = .int .u32 (numV (t.data.toList.take m)) ∧ wr = wb) (fun _ i _ => t.size - (intOf i).toNat)
 case atStart => exact ⟨0, Nat.zero_le _, rfl, rfl, rfl⟩
 case round =>
  obtain ⟨m, hm, rfl, rfl, rfl⟩ := hrel
  by_cases hlt2 : m < t.size
  ·obtain ⟨g, cap, hv, h1, h2, h3, hcell, hfr⟩ := (HO.out).at (by rw [HTL.out]; omega)
   cases hv
   have hc := hcell m (by rw [HTL.out]; omega); rw [bcs_get _ _ (by rw [HTL.out]; omega)] at hc; clear hcell hfr
   go_wp2
   refine ⟨⟨m + 1, by omega, by go_num, ?_, trivial⟩, by simp [intOf]; omega⟩; rw [numU32_step t m hlt2 hsz]
  ·have hm2 : m = t.size := by omega
   subst hm2; clear hlt2
   go_wp2
   go_ret
   refine ⟨?_, hRa.below hb_wb, Lib.grownBy_below hga hb_wb⟩; rw [List.take_of_length_le (by rw [HTL.out]; omega)]; rfl
theorem wrap64_small (n : Nat) (h : n < 9223372036854775808) : wrap64 (n : Int) = n := by unfold wrap64; omega
theorem numI64_step (t : ByteArray) (m : Nat) (hm : m < t.size) (h2 : t.size ≤ 2) :
  bits .or .i64 (wrap64 ((numV (t.data.toList.take m) : Int) * 256)) (wrap64 ((t.data[m]'hm).toNat : Int)) = (numV (t.data.toList.take (m + 1)) : Int) := by
 obtain ⟨h1, h3⟩ := numV_step t m hm h2; have h4 := (t.data[m]'hm).toNat_lt; rw [show ((numV (t.data.toList.take m) : Int) * 256) = ((numV (t.data.toList.take m) * 256 : Nat) : Int) by simp, wrap64_small _ (by omega), wrap64_small _ (by omega), Int.natCast_mul]; rw [show ((256 : Nat) : Int) = 256 from rfl, bitsOrI64 _ _ (by omega) (by omega), h3]
set_option maxHeartbeats 1000000 in
theorem numInt_any (b : Nat) (r : ByteArray) (bad : Bool) (k : Nat) (hk : k ≤ 2) (w : World) (h : Rdr b r bad w) :
  Calls Tryd.prog 131 #[.pointer (some ⟨b, 0, none⟩), .int .i64 k] w fun e w' => e = .returned (.int .i64 (numV (textR r bad k).1.data.toList)) ∧ Rdr b (textR r bad k).2.1 (textR r bad k).2.2 w' ∧ w.grownBy w' (some b) := by
 have hlt := h.lt; have hsz : (textR r bad k).1.size ≤ 2 := by
  unfold textR
  split
  ·exact Nat.zero_le _
  ·simp; omega
 have H := Lib.hid h; clear h; generalize ht : (textR r bad k).1 = t at hsz ⊢; have HT := Lib.hid ht; clear ht
 go_enter Tryd.func131, Tryd.ntmps131
 go_wp2_with (first | (go_at_call 126; refine (text_any b r bad k _ H.out).mono ?_; rintro e wa ⟨rfl, hRa, hga⟩; rw [HT.out]; have hza := hga.size) | (((with_reducible refine gate_dst (N := 11) rfl ?_); refine wpList_bytes wa.heap.size rfl 9 133 5 _ rfl Tryd.underlying9 Tryd.underlying133 Tryd.underlying5 t rfl (by first | assumption | (simp; omega) | omega) (by unfold maxLen; omega) ?_; rintro v_wb wb ho_wb hv_wb hb_wb; obtain ⟨hc_wb, hf_wb⟩ := bcell hb_wb; have hz_wb := hb_wb.size; (try simp only [World.size_alloc, World.size_setCell, World.size_drew] at hz_wb); (try simp only [World.size_alloc, World.size_setCell, World.size_drew] at hc_wb); (try simp only [World.size_alloc, World.size_setCell, World.size_drew] at hf_wb); skip); obtain ⟨A, c, rfl⟩ := ho_wb.form))
 have HO := Lib.hid ho_wb; clear ho_wb; have htl : t.data.toList.length = t.size := rfl; have HTL := Lib.hid htl; clear htl
 go_loopw [5, 13] (fun v i wr => ∃ m : Nat, m ≤ t.size ∧ i = .int .i64 m ∧ v = .int .i64 (numV (t.data.toList.take m)) ∧ wr = wb) (fun _ i _ => t.size - (intOf i).toNat)
 case atStart => exact ⟨0, Nat.zero_le _, rfl, rfl, rfl⟩
 case round =>
  obtain ⟨m, hm, rfl, rfl, rfl⟩ := hrel
  by_cases hlt2 : m < t.size
  ·obtain ⟨g, cap, hv, h1, h2, h3, hcell, hfr⟩ := (HO.out).at (by rw [HTL.out]; omega)
   cases hv
   have hc := hcell m (by rw [HTL.out]; omega); rw [bcs_get _ _ (by rw [HTL.out]; omega)] at hc; clear hcell hfr
   go_wp2
   refine ⟨⟨m + 1, by omega, by go_num, ?_, trivial⟩, by simp [intOf]; omega⟩; rw [numI64_step t m hlt2 hsz]
  ·have hm2 : m = t.size := by omega
   subst hm2; clear hlt2
   go_wp2
   go_ret
   refine ⟨?_, hRa.below hb_wb, Lib.grownBy_below hga hb_wb⟩; rw [List.take_of_length_le (by rw [HTL.out]; omega)]; rfl
def sizedR (r : ByteArray) (bad : Bool) : ByteArray × ByteArray × Bool :=
 textR (textR r bad 2).2.1 (textR r bad 2).2.2 (numV (textR r bad 2).1.data.toList)
set_option maxHeartbeats 400000 in
theorem rsized_any (b : Nat) (r : ByteArray) (bad : Bool) (w : World) (h : Rdr b r bad w) :
  Calls Tryd.prog 124 #[.pointer (some ⟨b, 0, none⟩)] w fun e w' => e = .returned (.string (sizedR r bad).1) ∧ Rdr b (sizedR r bad).2.1 (sizedR r bad).2.2 w' ∧ w.grownBy w' (some b) := by
 have H := Lib.hid h; clear h
 go_enter Tryd.func124, Tryd.ntmps124
 go_wp2_with (first | (go_at_call 131; refine (numInt_any b r bad 2 (by omega) _ H.out).mono ?_; rintro e wa ⟨rfl, hRa, hga⟩) | (go_at_call 126; refine (text_any b _ _ _ _ hRa).mono ?_; rintro e wc ⟨rfl, hRc, hgc⟩))
 go_ret
 exact ⟨rfl, hRc, hga.trans hgc⟩
end Go.Proofs.YthnnphinfiobmaaDoor
end
section
namespace Go.Proofs.YthnnphinfiobmaaDoor
open Go.RowKit
set_option linter.unusedVariables false
set_option linter.unusedSimpArgs false
theorem gcell {b : Nat} {W w1 : World} (hg : W.grownBy w1 (some b)) : (∀ k o, k < W.heap.size → k ≠ b → w1.cell? ⟨k, o, none⟩ = W.cell? ⟨k, o, none⟩) ∧ (∀ k o, k < W.heap.size → k ≠ b → w1.frozen? ⟨k, o, none⟩ = W.frozen? ⟨k, o, none⟩) :=
 ⟨fun k o h hn => World.cell?_of_block (a := ⟨k, o, none⟩) (hg.block k h (by simpa using hn)), fun k o h hn => World.frozen?_of_block (a := ⟨k, o, none⟩) (hg.block k h (by simpa using hn))⟩
theorem below_rdr {b : Nat} {a w w' : World} (h : Below a.heap.size a w) (hg : w.grownBy w' (some b)) (hb : a.heap.size ≤ b) : Below a.heap.size a w' := h.grown hg h.size fun k hk => by cases hk; exact hb
def nodeV : Option (ByteArray × ByteArray × ByteArray × ByteArray) → Value
 | some (a, b, c, d) => .tuple #[.agg #[.string a, .string b, .string c, .string d], .bool true]
 | none => .tuple #[.agg #[.string ⟨#[]⟩, .string ⟨#[]⟩, .string ⟨#[]⟩, .string ⟨#[]⟩], .bool false]
def optText (p : Bool) (t : ByteArray × ByteArray × Bool) (x : Int) : ByteArray × ByteArray × Bool := if p = true then textR t.2.1 t.2.2 x else (⟨#[]⟩, t.2.1, t.2.2)
def decI (s : ByteArray) (x : Int) : Option (ByteArray × ByteArray × ByteArray × ByteArray) :=
 let K := sizedR s false
 let V := sizedR K.2.1 K.2.2
 let F := textR V.2.1 V.2.2 1
 let f := numV F.1.data.toList
 let L := optText (decide (f % 2 = 1)) F x
 let R := optText (decide (f / 2 % 2 = 1)) L x
 if isW x = true ∧ R.2.2 = false ∧ R.2.1.size = 0 ∧ f ≤ 3 ∧ nodeOk K.1 V.1 L.1 R.1 x = true then some (K.1, V.1, L.1, R.1) else none
theorem bitsAnd1 : ∀ f : Nat, f < 256 → bits .and .u32 (f : Int) 1 = ((f % 2 : Nat) : Int) := by decide +kernel
theorem bitsAnd2 : ∀ f : Nat, f < 256 → bits .and .u32 (f : Int) 2 = ((f / 2 % 2 * 2 : Nat) : Int) := by decide +kernel
theorem text1_lt (r : ByteArray) (bad : Bool) : numV (textR r bad 1).1.data.toList < 256 := by
 have h := numV_lt (textR r bad 1).1.data.toList; have h2 : (textR r bad 1).1.data.toList.length ≤ 1 := by
  unfold textR
  split
  ·exact Nat.zero_le _
  ·simp; omega
 have := Nat.pow_le_pow_right (n := 256) (by decide) h2; omega
theorem Rdr.fresh2 {b : Nat} (s : ByteArray) (w : World) (h : b = w.heap.size) : Rdr b s false (w.alloc (.cells #[.string s, .bool false] 172)) := by
 subst h; exact Rdr.fresh s w
theorem Rdr.alloc2 {b : Nat} {r : ByteArray} {bad : Bool} {w : World} (h : Rdr b r bad w) (o : Obj) : Rdr b r bad (w.alloc o) := h.below ((Below.refl _ _).alloc (Nat.le_refl _) o)
theorem Rdr.setFar {b : Nat} {r : ByteArray} {bad : Bool} {w : World} (h : Rdr b r bad w) (p : Addr) (v : Value) (hn : b ≠ p.block) : Rdr b r bad (w.setCell p v) := (Below.heap_setCell w p v b hn).trans h
theorem numFlag1_any (b : Nat) (r : ByteArray) (bad : Bool) (w : World) (h : Rdr b r bad w) :
  Calls Tryd.prog 125 #[.pointer (some ⟨b, 0, none⟩), .int .i64 1] w fun e w' => e = .returned (.int .u32 (numV (textR r bad 1).1.data.toList)) ∧ Rdr b (textR r bad 1).2.1 (textR r bad 1).2.2 w' ∧ w.grownBy w' (some b) := numFlag_any b r bad 1 (by omega) w h
set_option maxHeartbeats 16000000 in
theorem decodeNode_any (s : ByteArray) (x : Int) (w : World) :
  Calls Tryd.prog 113 #[.string s, .int .i64 x] w fun e w' => e = .returned (nodeV (decI s x)) ∧ Below w.heap.size w w' := by
 by_cases hw : isW x = true
 ·unfold decI; have hf := text1_lt (sizedR (sizedR s false).2.1 (sizedR s false).2.2).2.1 (sizedR (sizedR s false).2.1 (sizedR s false).2.2).2.2; obtain ⟨k, rk, bk, hk⟩ : ∃ k rk bk, sizedR s false = (k, rk, bk) := ⟨_, _, _, rfl⟩
  rw [hk] at hf ⊢; have HK := Lib.hid hk; clear hk; dsimp only at hf ⊢; obtain ⟨v, rv, bv, hv⟩ : ∃ v rv bv, sizedR rk bk = (v, rv, bv) := ⟨_, _, _, rfl⟩
  rw [hv] at hf ⊢; have HV := Lib.hid hv; clear hv; dsimp only at hf ⊢; generalize hfe : numV (textR rv bv 1).1.data.toList = f at hf ⊢; obtain ⟨ft, rf, bf, hft⟩ : ∃ ft rf bf, textR rv bv 1 = (ft, rf, bf) := ⟨_, _, _, rfl⟩
  rw [hft] at hfe ⊢; have HF := Lib.hid hft; clear hft; dsimp only at hfe; have HFE := Lib.hid hfe; clear hfe; have hb1 := bitsAnd1 f hf; have hb2 := bitsAnd2 f hf; clear hf; obtain ⟨l, rl, bl, hl⟩ : ∃ l rl bl, optText (decide (f % 2 = 1)) (ft, rf, bf) x = (l, rl, bl) := ⟨_, _, _, rfl⟩
  rw [hl]; obtain ⟨r, rr, br, hr⟩ : ∃ r rr br, optText (decide (f / 2 % 2 = 1)) (l, rl, bl) x = (r, rr, br) := ⟨_, _, _, rfl⟩
  rw [hr]; dsimp only; have hcase : br = true ∨ (br = false ∧ rr.toList.isEmpty = false) ∨ (br = false ∧ rr.toList.isEmpty = true ∧ 3 < (f : Int)) ∨ (br = false ∧ rr.toList.isEmpty = true ∧ ¬ 3 < (f : Int) ∧ nodeOk k v l r x = false) ∨ (br = false ∧ rr.toList.isEmpty = true ∧ ¬ 3 < (f : Int) ∧ nodeOk k v l r x = true) := by
   cases br <;> cases rr.toList.isEmpty <;> cases nodeOk k v l r x <;> simp <;> omega
  have hgoal : ∀ z, (if isW x = true ∧ br = false ∧ rr.size = 0 ∧ f ≤ 3 ∧ nodeOk k v l r x = true then some (k, v, l, r) else none) = z → (if isW x = true ∧ br = false ∧ rr.size = 0 ∧ f ≤ 3 ∧ nodeOk k v l r x = true then some (k, v, l, r) else none) = z := fun _ h => h
  clear hgoal; obtain ⟨z, hz⟩ : ∃ z, (if isW x = true ∧ br = false ∧ rr.size = 0 ∧ f ≤ 3 ∧ nodeOk k v l r x = true then some (k, v, l, r) else none) = z := ⟨_, rfl⟩
  rw [hz]; have HZ := Lib.hid hz; clear hz; have HSZ := Lib.hid (isEmpty_size rr); have h01 : f % 2 = 0 ∨ f % 2 = 1 := by omega
  have h02 : f / 2 % 2 = 0 ∨ f / 2 % 2 = 1 := by omega
  rcases h01 with h1 | h1
  all_goals
   rcases h02 with h2 | h2
   all_goals
    rw [h1] at hb1; rw [h2] at hb2; simp only [h1, h2, optText, decide_true, if_true, Nat.zero_ne_one, decide_false, Bool.false_eq_true, if_false, Prod.mk.injEq] at hl hr; have HL := Lib.hid hl; clear hl; have HR := Lib.hid hr; clear hr; clear h1 h2
  --CASES
  --CASES
  --CASES
  --CASES
  ·obtain ⟨rfl, rfl, rfl⟩ := HL.out; obtain ⟨rfl, rfl, rfl⟩ := HR.out
   rcases hcase with h | ⟨h, h3⟩ | ⟨h, h3, h4⟩ | ⟨h, h3, h4, h5⟩ | ⟨h, h3, h4, h5⟩
   ·subst h
    go_enter Tryd.func113, Tryd.ntmps113
    go_wp2_with (first | (go_at_call 42; refine (isWidth_any _ _).mono ?_; rintro e wq ⟨rfl, rfl⟩) | (go_at_call 124; refine (rsized_any _ _ _ _ zq_8).mono ?_; rintro e wr ⟨rfl, hR, hg⟩; (first | rw [HK.out] at hR ⊢ | rw [HV.out] at hR ⊢); dsimp only at hR ⊢; (have hz := hg.size; (try simp only [World.size_alloc, World.size_setCell, World.size_drew] at hz); obtain ⟨gc, gf⟩ := gcell hg; (try simp only [World.size_alloc, World.size_setCell, World.size_drew] at gc); (try simp only [World.size_alloc, World.size_setCell, World.size_drew] at gf); have rc := hR.c0; have rd := hR.c1; have rf := hR.f 0; have rg := hR.f 1); have q0 : w.heap.size < wr.heap.size := (by omega); have q1 : wr.heap.size ≠ w.heap.size + 1 := (by omega); have q3 : wr.heap.size ≠ w.heap.size := (by omega); have q4 : w.heap.size ≠ wr.heap.size := (by omega)) | (go_at_call 125; refine (numFlag1_any _ _ _ _ zq_2).mono ?_; rintro e wf ⟨rfl, hR, hg⟩; rw [HF.out] at hR ⊢; dsimp only at hR ⊢; rw [HFE.out]; (have hz := hg.size; (try simp only [World.size_alloc, World.size_setCell, World.size_drew] at hz); obtain ⟨gc, gf⟩ := gcell hg; (try simp only [World.size_alloc, World.size_setCell, World.size_drew] at gc); (try simp only [World.size_alloc, World.size_setCell, World.size_drew] at gf); have rc := hR.c0; have rd := hR.c1; have rf := hR.f 0; have rg := hR.f 1); have q0 : w.heap.size < wf.heap.size := (by omega); have q2 : wr.heap.size < wf.heap.size := (by omega)) | (go_at_call 126; refine (text_any _ _ _ _ _ zq_2).mono ?_; rintro e wt ⟨rfl, hR, hg⟩; (first | rw [HL.out] at hR ⊢ | rw [HR.out] at hR ⊢); dsimp only at hR ⊢; (have hz := hg.size; (try simp only [World.size_alloc, World.size_setCell, World.size_drew] at hz); obtain ⟨gc, gf⟩ := gcell hg; (try simp only [World.size_alloc, World.size_setCell, World.size_drew] at gc); (try simp only [World.size_alloc, World.size_setCell, World.size_drew] at gf); have rc := hR.c0; have rd := hR.c1; have rf := hR.f 0; have rg := hR.f 1); have q0 : w.heap.size < wt.heap.size := (by omega); have q2 : wr.heap.size < wt.heap.size := (by omega)) | (go_at_call 116; refine (nodeValid_any _ _ _ _ _ _).mono ?_; rintro e wy ⟨rfl, hby⟩; obtain ⟨hcy, hfy⟩ := bcell hby; have hzy := hby.size; (try simp only [World.size_alloc, World.size_setCell, World.size_drew] at hzy); (try simp only [World.size_alloc, World.size_setCell, World.size_drew] at hcy); (try simp only [World.size_alloc, World.size_setCell, World.size_drew] at hfy); have q0 : w.heap.size < wy.heap.size := (by omega); have q2 : wr.heap.size < wy.heap.size := (by omega)))
    all_goals
     have t0 : wf.cell? ⟨w.heap.size, 0, none⟩ = some (.string ⟨#[]⟩) := by go_simp
     have t1 : wf.cell? ⟨w.heap.size, 1, none⟩ = some (.string ⟨#[]⟩) := by go_simp
     have t2 : wf.cell? ⟨w.heap.size, 2, none⟩ = some (.string ⟨#[]⟩) := by go_simp
     have t3 : wf.cell? ⟨w.heap.size, 3, none⟩ = some (.string ⟨#[]⟩) := by go_simp
     refine bodyPost_ret (v := .tuple #[.agg #[.string ⟨#[]⟩, .string ⟨#[]⟩, .string ⟨#[]⟩, .string ⟨#[]⟩], .bool false]) zq_21 rfl ⟨?_, ?_⟩
     ·have e : z = none := by rw [← HZ.out]; exact if_neg (fun q => by simp at q)
      rw [e]; rfl
     ·(repeat' (first | exact Below.refl _ _ | (with_reducible assumption) | (with_reducible refine Below.setCell ?_ zq_16 _) | refine below_rdr ?_ (by assumption) (by omega) | refine below_then ?_ (by assumption) | (with_reducible refine below_new2 ?_ _)))
   ·subst h
    go_enter Tryd.func113, Tryd.ntmps113
    go_wp2_with (first | (go_at_call 42; refine (isWidth_any _ _).mono ?_; rintro e wq ⟨rfl, rfl⟩) | (go_at_call 124; refine (rsized_any _ _ _ _ zq_8).mono ?_; rintro e wr ⟨rfl, hR, hg⟩; (first | rw [HK.out] at hR ⊢ | rw [HV.out] at hR ⊢); dsimp only at hR ⊢; (have hz := hg.size; (try simp only [World.size_alloc, World.size_setCell, World.size_drew] at hz); obtain ⟨gc, gf⟩ := gcell hg; (try simp only [World.size_alloc, World.size_setCell, World.size_drew] at gc); (try simp only [World.size_alloc, World.size_setCell, World.size_drew] at gf); have rc := hR.c0; have rd := hR.c1; have rf := hR.f 0; have rg := hR.f 1); have q0 : w.heap.size < wr.heap.size := (by omega); have q1 : wr.heap.size ≠ w.heap.size + 1 := (by omega); have q3 : wr.heap.size ≠ w.heap.size := (by omega); have q4 : w.heap.size ≠ wr.heap.size := (by omega)) | (go_at_call 125; refine (numFlag1_any _ _ _ _ zq_2).mono ?_; rintro e wf ⟨rfl, hR, hg⟩; rw [HF.out] at hR ⊢; dsimp only at hR ⊢; rw [HFE.out]; (have hz := hg.size; (try simp only [World.size_alloc, World.size_setCell, World.size_drew] at hz); obtain ⟨gc, gf⟩ := gcell hg; (try simp only [World.size_alloc, World.size_setCell, World.size_drew] at gc); (try simp only [World.size_alloc, World.size_setCell, World.size_drew] at gf); have rc := hR.c0; have rd := hR.c1; have rf := hR.f 0; have rg := hR.f 1); have q0 : w.heap.size < wf.heap.size := (by omega); have q2 : wr.heap.size < wf.heap.size := (by omega)) | (go_at_call 126; refine (text_any _ _ _ _ _ zq_2).mono ?_; rintro e wt ⟨rfl, hR, hg⟩; (first | rw [HL.out] at hR ⊢ | rw [HR.out] at hR ⊢); dsimp only at hR ⊢; (have hz := hg.size; (try simp only [World.size_alloc, World.size_setCell, World.size_drew] at hz); obtain ⟨gc, gf⟩ := gcell hg; (try simp only [World.size_alloc, World.size_setCell, World.size_drew] at gc); (try simp only [World.size_alloc, World.size_setCell, World.size_drew] at gf); have rc := hR.c0; have rd := hR.c1; have rf := hR.f 0; have rg := hR.f 1); have q0 : w.heap.size < wt.heap.size := (by omega); have q2 : wr.heap.size < wt.heap.size := (by omega)) | (go_at_call 116; refine (nodeValid_any _ _ _ _ _ _).mono ?_; rintro e wy ⟨rfl, hby⟩; obtain ⟨hcy, hfy⟩ := bcell hby; have hzy := hby.size; (try simp only [World.size_alloc, World.size_setCell, World.size_drew] at hzy); (try simp only [World.size_alloc, World.size_setCell, World.size_drew] at hcy); (try simp only [World.size_alloc, World.size_setCell, World.size_drew] at hfy); have q0 : w.heap.size < wy.heap.size := (by omega); have q2 : wr.heap.size < wy.heap.size := (by omega)))
    all_goals
     have t0 : wf.cell? ⟨w.heap.size, 0, none⟩ = some (.string ⟨#[]⟩) := by go_simp
     have t1 : wf.cell? ⟨w.heap.size, 1, none⟩ = some (.string ⟨#[]⟩) := by go_simp
     have t2 : wf.cell? ⟨w.heap.size, 2, none⟩ = some (.string ⟨#[]⟩) := by go_simp
     have t3 : wf.cell? ⟨w.heap.size, 3, none⟩ = some (.string ⟨#[]⟩) := by go_simp
     refine bodyPost_ret (v := .tuple #[.agg #[.string ⟨#[]⟩, .string ⟨#[]⟩, .string ⟨#[]⟩, .string ⟨#[]⟩], .bool false]) zq_21 rfl ⟨?_, ?_⟩
     ·have e : z = none := by rw [← HZ.out]; exact if_neg (fun q => by have e := HSZ.out; rw [h3, q.2.2.1] at e; simp at e)
      rw [e]; rfl
     ·(repeat' (first | exact Below.refl _ _ | (with_reducible assumption) | (with_reducible refine Below.setCell ?_ zq_16 _) | refine below_rdr ?_ (by assumption) (by omega) | refine below_then ?_ (by assumption) | (with_reducible refine below_new2 ?_ _)))
   ·subst h
    go_enter Tryd.func113, Tryd.ntmps113
    go_wp2_with (first | (go_at_call 42; refine (isWidth_any _ _).mono ?_; rintro e wq ⟨rfl, rfl⟩) | (go_at_call 124; refine (rsized_any _ _ _ _ zq_8).mono ?_; rintro e wr ⟨rfl, hR, hg⟩; (first | rw [HK.out] at hR ⊢ | rw [HV.out] at hR ⊢); dsimp only at hR ⊢; (have hz := hg.size; (try simp only [World.size_alloc, World.size_setCell, World.size_drew] at hz); obtain ⟨gc, gf⟩ := gcell hg; (try simp only [World.size_alloc, World.size_setCell, World.size_drew] at gc); (try simp only [World.size_alloc, World.size_setCell, World.size_drew] at gf); have rc := hR.c0; have rd := hR.c1; have rf := hR.f 0; have rg := hR.f 1); have q0 : w.heap.size < wr.heap.size := (by omega); have q1 : wr.heap.size ≠ w.heap.size + 1 := (by omega); have q3 : wr.heap.size ≠ w.heap.size := (by omega); have q4 : w.heap.size ≠ wr.heap.size := (by omega)) | (go_at_call 125; refine (numFlag1_any _ _ _ _ zq_2).mono ?_; rintro e wf ⟨rfl, hR, hg⟩; rw [HF.out] at hR ⊢; dsimp only at hR ⊢; rw [HFE.out]; (have hz := hg.size; (try simp only [World.size_alloc, World.size_setCell, World.size_drew] at hz); obtain ⟨gc, gf⟩ := gcell hg; (try simp only [World.size_alloc, World.size_setCell, World.size_drew] at gc); (try simp only [World.size_alloc, World.size_setCell, World.size_drew] at gf); have rc := hR.c0; have rd := hR.c1; have rf := hR.f 0; have rg := hR.f 1); have q0 : w.heap.size < wf.heap.size := (by omega); have q2 : wr.heap.size < wf.heap.size := (by omega)) | (go_at_call 126; refine (text_any _ _ _ _ _ zq_2).mono ?_; rintro e wt ⟨rfl, hR, hg⟩; (first | rw [HL.out] at hR ⊢ | rw [HR.out] at hR ⊢); dsimp only at hR ⊢; (have hz := hg.size; (try simp only [World.size_alloc, World.size_setCell, World.size_drew] at hz); obtain ⟨gc, gf⟩ := gcell hg; (try simp only [World.size_alloc, World.size_setCell, World.size_drew] at gc); (try simp only [World.size_alloc, World.size_setCell, World.size_drew] at gf); have rc := hR.c0; have rd := hR.c1; have rf := hR.f 0; have rg := hR.f 1); have q0 : w.heap.size < wt.heap.size := (by omega); have q2 : wr.heap.size < wt.heap.size := (by omega)) | (go_at_call 116; refine (nodeValid_any _ _ _ _ _ _).mono ?_; rintro e wy ⟨rfl, hby⟩; obtain ⟨hcy, hfy⟩ := bcell hby; have hzy := hby.size; (try simp only [World.size_alloc, World.size_setCell, World.size_drew] at hzy); (try simp only [World.size_alloc, World.size_setCell, World.size_drew] at hcy); (try simp only [World.size_alloc, World.size_setCell, World.size_drew] at hfy); have q0 : w.heap.size < wy.heap.size := (by omega); have q2 : wr.heap.size < wy.heap.size := (by omega)))
    all_goals
     have t0 : wf.cell? ⟨w.heap.size, 0, none⟩ = some (.string ⟨#[]⟩) := by go_simp
     have t1 : wf.cell? ⟨w.heap.size, 1, none⟩ = some (.string ⟨#[]⟩) := by go_simp
     have t2 : wf.cell? ⟨w.heap.size, 2, none⟩ = some (.string ⟨#[]⟩) := by go_simp
     have t3 : wf.cell? ⟨w.heap.size, 3, none⟩ = some (.string ⟨#[]⟩) := by go_simp
     refine bodyPost_ret (v := .tuple #[.agg #[.string ⟨#[]⟩, .string ⟨#[]⟩, .string ⟨#[]⟩, .string ⟨#[]⟩], .bool false]) zq_21 rfl ⟨?_, ?_⟩
     ·have e : z = none := by rw [← HZ.out]; exact if_neg (fun q => by have := q.2.2.2.1; omega)
      rw [e]; rfl
     ·(repeat' (first | exact Below.refl _ _ | (with_reducible assumption) | (with_reducible refine Below.setCell ?_ zq_16 _) | refine below_rdr ?_ (by assumption) (by omega) | refine below_then ?_ (by assumption) | (with_reducible refine below_new2 ?_ _)))
   ·subst h
    go_enter Tryd.func113, Tryd.ntmps113
    go_wp2_with (first | (go_at_call 42; refine (isWidth_any _ _).mono ?_; rintro e wq ⟨rfl, rfl⟩) | (go_at_call 124; refine (rsized_any _ _ _ _ zq_8).mono ?_; rintro e wr ⟨rfl, hR, hg⟩; (first | rw [HK.out] at hR ⊢ | rw [HV.out] at hR ⊢); dsimp only at hR ⊢; (have hz := hg.size; (try simp only [World.size_alloc, World.size_setCell, World.size_drew] at hz); obtain ⟨gc, gf⟩ := gcell hg; (try simp only [World.size_alloc, World.size_setCell, World.size_drew] at gc); (try simp only [World.size_alloc, World.size_setCell, World.size_drew] at gf); have rc := hR.c0; have rd := hR.c1; have rf := hR.f 0; have rg := hR.f 1); have q0 : w.heap.size < wr.heap.size := (by omega); have q1 : wr.heap.size ≠ w.heap.size + 1 := (by omega); have q3 : wr.heap.size ≠ w.heap.size := (by omega); have q4 : w.heap.size ≠ wr.heap.size := (by omega)) | (go_at_call 125; refine (numFlag1_any _ _ _ _ zq_2).mono ?_; rintro e wf ⟨rfl, hR, hg⟩; rw [HF.out] at hR ⊢; dsimp only at hR ⊢; rw [HFE.out]; (have hz := hg.size; (try simp only [World.size_alloc, World.size_setCell, World.size_drew] at hz); obtain ⟨gc, gf⟩ := gcell hg; (try simp only [World.size_alloc, World.size_setCell, World.size_drew] at gc); (try simp only [World.size_alloc, World.size_setCell, World.size_drew] at gf); have rc := hR.c0; have rd := hR.c1; have rf := hR.f 0; have rg := hR.f 1); have q0 : w.heap.size < wf.heap.size := (by omega); have q2 : wr.heap.size < wf.heap.size := (by omega)) | (go_at_call 126; refine (text_any _ _ _ _ _ zq_2).mono ?_; rintro e wt ⟨rfl, hR, hg⟩; (first | rw [HL.out] at hR ⊢ | rw [HR.out] at hR ⊢); dsimp only at hR ⊢; (have hz := hg.size; (try simp only [World.size_alloc, World.size_setCell, World.size_drew] at hz); obtain ⟨gc, gf⟩ := gcell hg; (try simp only [World.size_alloc, World.size_setCell, World.size_drew] at gc); (try simp only [World.size_alloc, World.size_setCell, World.size_drew] at gf); have rc := hR.c0; have rd := hR.c1; have rf := hR.f 0; have rg := hR.f 1); have q0 : w.heap.size < wt.heap.size := (by omega); have q2 : wr.heap.size < wt.heap.size := (by omega)) | (go_at_call 116; refine (nodeValid_any _ _ _ _ _ _).mono ?_; rintro e wy ⟨rfl, hby⟩; obtain ⟨hcy, hfy⟩ := bcell hby; have hzy := hby.size; (try simp only [World.size_alloc, World.size_setCell, World.size_drew] at hzy); (try simp only [World.size_alloc, World.size_setCell, World.size_drew] at hcy); (try simp only [World.size_alloc, World.size_setCell, World.size_drew] at hfy); have q0 : w.heap.size < wy.heap.size := (by omega); have q2 : wr.heap.size < wy.heap.size := (by omega)))
    all_goals
     have t0 : wy.cell? ⟨w.heap.size, 0, none⟩ = some (.string ⟨#[]⟩) := by go_simp
     have t1 : wy.cell? ⟨w.heap.size, 1, none⟩ = some (.string ⟨#[]⟩) := by go_simp
     have t2 : wy.cell? ⟨w.heap.size, 2, none⟩ = some (.string ⟨#[]⟩) := by go_simp
     have t3 : wy.cell? ⟨w.heap.size, 3, none⟩ = some (.string ⟨#[]⟩) := by go_simp
     refine bodyPost_ret (v := .tuple #[.agg #[.string ⟨#[]⟩, .string ⟨#[]⟩, .string ⟨#[]⟩, .string ⟨#[]⟩], .bool false]) zq_21 rfl ⟨?_, ?_⟩
     ·have e : z = none := by rw [← HZ.out]; exact if_neg (fun q => by rw [h5] at q; simp at q)
      rw [e]; rfl
     ·(repeat' (first | exact Below.refl _ _ | (with_reducible assumption) | (with_reducible refine Below.setCell ?_ zq_16 _) | refine below_rdr ?_ (by assumption) (by omega) | refine below_then ?_ (by assumption) | (with_reducible refine below_new2 ?_ _)))
   ·subst h
    go_enter Tryd.func113, Tryd.ntmps113
    go_wp2_with (first | (go_at_call 42; refine (isWidth_any _ _).mono ?_; rintro e wq ⟨rfl, rfl⟩) | (go_at_call 124; refine (rsized_any _ _ _ _ zq_8).mono ?_; rintro e wr ⟨rfl, hR, hg⟩; (first | rw [HK.out] at hR ⊢ | rw [HV.out] at hR ⊢); dsimp only at hR ⊢; (have hz := hg.size; (try simp only [World.size_alloc, World.size_setCell, World.size_drew] at hz); obtain ⟨gc, gf⟩ := gcell hg; (try simp only [World.size_alloc, World.size_setCell, World.size_drew] at gc); (try simp only [World.size_alloc, World.size_setCell, World.size_drew] at gf); have rc := hR.c0; have rd := hR.c1; have rf := hR.f 0; have rg := hR.f 1); have q0 : w.heap.size < wr.heap.size := (by omega); have q1 : wr.heap.size ≠ w.heap.size + 1 := (by omega); have q3 : wr.heap.size ≠ w.heap.size := (by omega); have q4 : w.heap.size ≠ wr.heap.size := (by omega)) | (go_at_call 125; refine (numFlag1_any _ _ _ _ zq_2).mono ?_; rintro e wf ⟨rfl, hR, hg⟩; rw [HF.out] at hR ⊢; dsimp only at hR ⊢; rw [HFE.out]; (have hz := hg.size; (try simp only [World.size_alloc, World.size_setCell, World.size_drew] at hz); obtain ⟨gc, gf⟩ := gcell hg; (try simp only [World.size_alloc, World.size_setCell, World.size_drew] at gc); (try simp only [World.size_alloc, World.size_setCell, World.size_drew] at gf); have rc := hR.c0; have rd := hR.c1; have rf := hR.f 0; have rg := hR.f 1); have q0 : w.heap.size < wf.heap.size := (by omega); have q2 : wr.heap.size < wf.heap.size := (by omega)) | (go_at_call 126; refine (text_any _ _ _ _ _ zq_2).mono ?_; rintro e wt ⟨rfl, hR, hg⟩; (first | rw [HL.out] at hR ⊢ | rw [HR.out] at hR ⊢); dsimp only at hR ⊢; (have hz := hg.size; (try simp only [World.size_alloc, World.size_setCell, World.size_drew] at hz); obtain ⟨gc, gf⟩ := gcell hg; (try simp only [World.size_alloc, World.size_setCell, World.size_drew] at gc); (try simp only [World.size_alloc, World.size_setCell, World.size_drew] at gf); have rc := hR.c0; have rd := hR.c1; have rf := hR.f 0; have rg := hR.f 1); have q0 : w.heap.size < wt.heap.size := (by omega); have q2 : wr.heap.size < wt.heap.size := (by omega)) | (go_at_call 116; refine (nodeValid_any _ _ _ _ _ _).mono ?_; rintro e wy ⟨rfl, hby⟩; obtain ⟨hcy, hfy⟩ := bcell hby; have hzy := hby.size; (try simp only [World.size_alloc, World.size_setCell, World.size_drew] at hzy); (try simp only [World.size_alloc, World.size_setCell, World.size_drew] at hcy); (try simp only [World.size_alloc, World.size_setCell, World.size_drew] at hfy); have q0 : w.heap.size < wy.heap.size := (by omega); have q2 : wr.heap.size < wy.heap.size := (by omega)))
    all_goals
     have t0 : wy.cell? ⟨w.heap.size, 0, none⟩ = some (.string ⟨#[]⟩) := by go_simp
     have t1 : wy.cell? ⟨w.heap.size, 1, none⟩ = some (.string ⟨#[]⟩) := by go_simp
     have t2 : wy.cell? ⟨w.heap.size, 2, none⟩ = some (.string ⟨#[]⟩) := by go_simp
     have t3 : wy.cell? ⟨w.heap.size, 3, none⟩ = some (.string ⟨#[]⟩) := by go_simp
     refine bodyPost_ret (v := .tuple #[.agg #[.string k, .string v, .string ⟨#[]⟩, .string ⟨#[]⟩], .bool true]) zq_21 rfl ⟨?_, ?_⟩
     ·have e : z = some (k, v, ⟨#[]⟩, ⟨#[]⟩) := by rw [← HZ.out]; have e := HSZ.out; rw [h3] at e; have e2 := of_decide_eq_true e.symm; have e3 : f ≤ 3 := (by omega); exact if_pos (by simp [hw, e2, h5, e3])
      rw [e]; rfl
     ·(repeat' (first | exact Below.refl _ _ | (with_reducible assumption) | (with_reducible refine Below.setCell ?_ zq_16 _) | refine below_rdr ?_ (by assumption) (by omega) | refine below_then ?_ (by assumption) | (with_reducible refine below_new2 ?_ _)))
  ·obtain ⟨rfl, rfl, rfl⟩ := HL.out
   rcases hcase with h | ⟨h, h3⟩ | ⟨h, h3, h4⟩ | ⟨h, h3, h4, h5⟩ | ⟨h, h3, h4, h5⟩
   ·subst h
    go_enter Tryd.func113, Tryd.ntmps113
    go_wp2_with (first | (go_at_call 42; refine (isWidth_any _ _).mono ?_; rintro e wq ⟨rfl, rfl⟩) | (go_at_call 124; refine (rsized_any _ _ _ _ zq_8).mono ?_; rintro e wr ⟨rfl, hR, hg⟩; (first | rw [HK.out] at hR ⊢ | rw [HV.out] at hR ⊢); dsimp only at hR ⊢; (have hz := hg.size; (try simp only [World.size_alloc, World.size_setCell, World.size_drew] at hz); obtain ⟨gc, gf⟩ := gcell hg; (try simp only [World.size_alloc, World.size_setCell, World.size_drew] at gc); (try simp only [World.size_alloc, World.size_setCell, World.size_drew] at gf); have rc := hR.c0; have rd := hR.c1; have rf := hR.f 0; have rg := hR.f 1); have q0 : w.heap.size < wr.heap.size := (by omega); have q1 : wr.heap.size ≠ w.heap.size + 1 := (by omega); have q3 : wr.heap.size ≠ w.heap.size := (by omega); have q4 : w.heap.size ≠ wr.heap.size := (by omega)) | (go_at_call 125; refine (numFlag1_any _ _ _ _ zq_2).mono ?_; rintro e wf ⟨rfl, hR, hg⟩; rw [HF.out] at hR ⊢; dsimp only at hR ⊢; rw [HFE.out]; (have hz := hg.size; (try simp only [World.size_alloc, World.size_setCell, World.size_drew] at hz); obtain ⟨gc, gf⟩ := gcell hg; (try simp only [World.size_alloc, World.size_setCell, World.size_drew] at gc); (try simp only [World.size_alloc, World.size_setCell, World.size_drew] at gf); have rc := hR.c0; have rd := hR.c1; have rf := hR.f 0; have rg := hR.f 1); have q0 : w.heap.size < wf.heap.size := (by omega); have q2 : wr.heap.size < wf.heap.size := (by omega)) | (go_at_call 126; refine (text_any _ _ _ _ _ zq_2).mono ?_; rintro e wt ⟨rfl, hR, hg⟩; (first | rw [HL.out] at hR ⊢ | rw [HR.out] at hR ⊢); dsimp only at hR ⊢; (have hz := hg.size; (try simp only [World.size_alloc, World.size_setCell, World.size_drew] at hz); obtain ⟨gc, gf⟩ := gcell hg; (try simp only [World.size_alloc, World.size_setCell, World.size_drew] at gc); (try simp only [World.size_alloc, World.size_setCell, World.size_drew] at gf); have rc := hR.c0; have rd := hR.c1; have rf := hR.f 0; have rg := hR.f 1); have q0 : w.heap.size < wt.heap.size := (by omega); have q2 : wr.heap.size < wt.heap.size := (by omega)) | (go_at_call 116; refine (nodeValid_any _ _ _ _ _ _).mono ?_; rintro e wy ⟨rfl, hby⟩; obtain ⟨hcy, hfy⟩ := bcell hby; have hzy := hby.size; (try simp only [World.size_alloc, World.size_setCell, World.size_drew] at hzy); (try simp only [World.size_alloc, World.size_setCell, World.size_drew] at hcy); (try simp only [World.size_alloc, World.size_setCell, World.size_drew] at hfy); have q0 : w.heap.size < wy.heap.size := (by omega); have q2 : wr.heap.size < wy.heap.size := (by omega)))
    all_goals
     have t0 : wt.cell? ⟨w.heap.size, 0, none⟩ = some (.string ⟨#[]⟩) := by go_simp
     have t1 : wt.cell? ⟨w.heap.size, 1, none⟩ = some (.string ⟨#[]⟩) := by go_simp
     have t2 : wt.cell? ⟨w.heap.size, 2, none⟩ = some (.string ⟨#[]⟩) := by go_simp
     have t3 : wt.cell? ⟨w.heap.size, 3, none⟩ = some (.string ⟨#[]⟩) := by go_simp
     refine bodyPost_ret (v := .tuple #[.agg #[.string ⟨#[]⟩, .string ⟨#[]⟩, .string ⟨#[]⟩, .string ⟨#[]⟩], .bool false]) zq_21 rfl ⟨?_, ?_⟩
     ·have e : z = none := by rw [← HZ.out]; exact if_neg (fun q => by simp at q)
      rw [e]; rfl
     ·(repeat' (first | exact Below.refl _ _ | (with_reducible assumption) | (with_reducible refine Below.setCell ?_ zq_16 _) | refine below_rdr ?_ (by assumption) (by omega) | refine below_then ?_ (by assumption) | (with_reducible refine below_new2 ?_ _)))
   ·subst h
    go_enter Tryd.func113, Tryd.ntmps113
    go_wp2_with (first | (go_at_call 42; refine (isWidth_any _ _).mono ?_; rintro e wq ⟨rfl, rfl⟩) | (go_at_call 124; refine (rsized_any _ _ _ _ zq_8).mono ?_; rintro e wr ⟨rfl, hR, hg⟩; (first | rw [HK.out] at hR ⊢ | rw [HV.out] at hR ⊢); dsimp only at hR ⊢; (have hz := hg.size; (try simp only [World.size_alloc, World.size_setCell, World.size_drew] at hz); obtain ⟨gc, gf⟩ := gcell hg; (try simp only [World.size_alloc, World.size_setCell, World.size_drew] at gc); (try simp only [World.size_alloc, World.size_setCell, World.size_drew] at gf); have rc := hR.c0; have rd := hR.c1; have rf := hR.f 0; have rg := hR.f 1); have q0 : w.heap.size < wr.heap.size := (by omega); have q1 : wr.heap.size ≠ w.heap.size + 1 := (by omega); have q3 : wr.heap.size ≠ w.heap.size := (by omega); have q4 : w.heap.size ≠ wr.heap.size := (by omega)) | (go_at_call 125; refine (numFlag1_any _ _ _ _ zq_2).mono ?_; rintro e wf ⟨rfl, hR, hg⟩; rw [HF.out] at hR ⊢; dsimp only at hR ⊢; rw [HFE.out]; (have hz := hg.size; (try simp only [World.size_alloc, World.size_setCell, World.size_drew] at hz); obtain ⟨gc, gf⟩ := gcell hg; (try simp only [World.size_alloc, World.size_setCell, World.size_drew] at gc); (try simp only [World.size_alloc, World.size_setCell, World.size_drew] at gf); have rc := hR.c0; have rd := hR.c1; have rf := hR.f 0; have rg := hR.f 1); have q0 : w.heap.size < wf.heap.size := (by omega); have q2 : wr.heap.size < wf.heap.size := (by omega)) | (go_at_call 126; refine (text_any _ _ _ _ _ zq_2).mono ?_; rintro e wt ⟨rfl, hR, hg⟩; (first | rw [HL.out] at hR ⊢ | rw [HR.out] at hR ⊢); dsimp only at hR ⊢; (have hz := hg.size; (try simp only [World.size_alloc, World.size_setCell, World.size_drew] at hz); obtain ⟨gc, gf⟩ := gcell hg; (try simp only [World.size_alloc, World.size_setCell, World.size_drew] at gc); (try simp only [World.size_alloc, World.size_setCell, World.size_drew] at gf); have rc := hR.c0; have rd := hR.c1; have rf := hR.f 0; have rg := hR.f 1); have q0 : w.heap.size < wt.heap.size := (by omega); have q2 : wr.heap.size < wt.heap.size := (by omega)) | (go_at_call 116; refine (nodeValid_any _ _ _ _ _ _).mono ?_; rintro e wy ⟨rfl, hby⟩; obtain ⟨hcy, hfy⟩ := bcell hby; have hzy := hby.size; (try simp only [World.size_alloc, World.size_setCell, World.size_drew] at hzy); (try simp only [World.size_alloc, World.size_setCell, World.size_drew] at hcy); (try simp only [World.size_alloc, World.size_setCell, World.size_drew] at hfy); have q0 : w.heap.size < wy.heap.size := (by omega); have q2 : wr.heap.size < wy.heap.size := (by omega)))
    all_goals
     have t0 : wt.cell? ⟨w.heap.size, 0, none⟩ = some (.string ⟨#[]⟩) := by go_simp
     have t1 : wt.cell? ⟨w.heap.size, 1, none⟩ = some (.string ⟨#[]⟩) := by go_simp
     have t2 : wt.cell? ⟨w.heap.size, 2, none⟩ = some (.string ⟨#[]⟩) := by go_simp
     have t3 : wt.cell? ⟨w.heap.size, 3, none⟩ = some (.string ⟨#[]⟩) := by go_simp
     refine bodyPost_ret (v := .tuple #[.agg #[.string ⟨#[]⟩, .string ⟨#[]⟩, .string ⟨#[]⟩, .string ⟨#[]⟩], .bool false]) zq_21 rfl ⟨?_, ?_⟩
     ·have e : z = none := by rw [← HZ.out]; exact if_neg (fun q => by have e := HSZ.out; rw [h3, q.2.2.1] at e; simp at e)
      rw [e]; rfl
     ·(repeat' (first | exact Below.refl _ _ | (with_reducible assumption) | (with_reducible refine Below.setCell ?_ zq_16 _) | refine below_rdr ?_ (by assumption) (by omega) | refine below_then ?_ (by assumption) | (with_reducible refine below_new2 ?_ _)))
   ·subst h
    go_enter Tryd.func113, Tryd.ntmps113
    go_wp2_with (first | (go_at_call 42; refine (isWidth_any _ _).mono ?_; rintro e wq ⟨rfl, rfl⟩) | (go_at_call 124; refine (rsized_any _ _ _ _ zq_8).mono ?_; rintro e wr ⟨rfl, hR, hg⟩; (first | rw [HK.out] at hR ⊢ | rw [HV.out] at hR ⊢); dsimp only at hR ⊢; (have hz := hg.size; (try simp only [World.size_alloc, World.size_setCell, World.size_drew] at hz); obtain ⟨gc, gf⟩ := gcell hg; (try simp only [World.size_alloc, World.size_setCell, World.size_drew] at gc); (try simp only [World.size_alloc, World.size_setCell, World.size_drew] at gf); have rc := hR.c0; have rd := hR.c1; have rf := hR.f 0; have rg := hR.f 1); have q0 : w.heap.size < wr.heap.size := (by omega); have q1 : wr.heap.size ≠ w.heap.size + 1 := (by omega); have q3 : wr.heap.size ≠ w.heap.size := (by omega); have q4 : w.heap.size ≠ wr.heap.size := (by omega)) | (go_at_call 125; refine (numFlag1_any _ _ _ _ zq_2).mono ?_; rintro e wf ⟨rfl, hR, hg⟩; rw [HF.out] at hR ⊢; dsimp only at hR ⊢; rw [HFE.out]; (have hz := hg.size; (try simp only [World.size_alloc, World.size_setCell, World.size_drew] at hz); obtain ⟨gc, gf⟩ := gcell hg; (try simp only [World.size_alloc, World.size_setCell, World.size_drew] at gc); (try simp only [World.size_alloc, World.size_setCell, World.size_drew] at gf); have rc := hR.c0; have rd := hR.c1; have rf := hR.f 0; have rg := hR.f 1); have q0 : w.heap.size < wf.heap.size := (by omega); have q2 : wr.heap.size < wf.heap.size := (by omega)) | (go_at_call 126; refine (text_any _ _ _ _ _ zq_2).mono ?_; rintro e wt ⟨rfl, hR, hg⟩; (first | rw [HL.out] at hR ⊢ | rw [HR.out] at hR ⊢); dsimp only at hR ⊢; (have hz := hg.size; (try simp only [World.size_alloc, World.size_setCell, World.size_drew] at hz); obtain ⟨gc, gf⟩ := gcell hg; (try simp only [World.size_alloc, World.size_setCell, World.size_drew] at gc); (try simp only [World.size_alloc, World.size_setCell, World.size_drew] at gf); have rc := hR.c0; have rd := hR.c1; have rf := hR.f 0; have rg := hR.f 1); have q0 : w.heap.size < wt.heap.size := (by omega); have q2 : wr.heap.size < wt.heap.size := (by omega)) | (go_at_call 116; refine (nodeValid_any _ _ _ _ _ _).mono ?_; rintro e wy ⟨rfl, hby⟩; obtain ⟨hcy, hfy⟩ := bcell hby; have hzy := hby.size; (try simp only [World.size_alloc, World.size_setCell, World.size_drew] at hzy); (try simp only [World.size_alloc, World.size_setCell, World.size_drew] at hcy); (try simp only [World.size_alloc, World.size_setCell, World.size_drew] at hfy); have q0 : w.heap.size < wy.heap.size := (by omega); have q2 : wr.heap.size < wy.heap.size := (by omega)))
    all_goals
     have t0 : wt.cell? ⟨w.heap.size, 0, none⟩ = some (.string ⟨#[]⟩) := by go_simp
     have t1 : wt.cell? ⟨w.heap.size, 1, none⟩ = some (.string ⟨#[]⟩) := by go_simp
     have t2 : wt.cell? ⟨w.heap.size, 2, none⟩ = some (.string ⟨#[]⟩) := by go_simp
     have t3 : wt.cell? ⟨w.heap.size, 3, none⟩ = some (.string ⟨#[]⟩) := by go_simp
     refine bodyPost_ret (v := .tuple #[.agg #[.string ⟨#[]⟩, .string ⟨#[]⟩, .string ⟨#[]⟩, .string ⟨#[]⟩], .bool false]) zq_21 rfl ⟨?_, ?_⟩
     ·have e : z = none := by rw [← HZ.out]; exact if_neg (fun q => by have := q.2.2.2.1; omega)
      rw [e]; rfl
     ·(repeat' (first | exact Below.refl _ _ | (with_reducible assumption) | (with_reducible refine Below.setCell ?_ zq_16 _) | refine below_rdr ?_ (by assumption) (by omega) | refine below_then ?_ (by assumption) | (with_reducible refine below_new2 ?_ _)))
   ·subst h
    go_enter Tryd.func113, Tryd.ntmps113
    go_wp2_with (first | (go_at_call 42; refine (isWidth_any _ _).mono ?_; rintro e wq ⟨rfl, rfl⟩) | (go_at_call 124; refine (rsized_any _ _ _ _ zq_8).mono ?_; rintro e wr ⟨rfl, hR, hg⟩; (first | rw [HK.out] at hR ⊢ | rw [HV.out] at hR ⊢); dsimp only at hR ⊢; (have hz := hg.size; (try simp only [World.size_alloc, World.size_setCell, World.size_drew] at hz); obtain ⟨gc, gf⟩ := gcell hg; (try simp only [World.size_alloc, World.size_setCell, World.size_drew] at gc); (try simp only [World.size_alloc, World.size_setCell, World.size_drew] at gf); have rc := hR.c0; have rd := hR.c1; have rf := hR.f 0; have rg := hR.f 1); have q0 : w.heap.size < wr.heap.size := (by omega); have q1 : wr.heap.size ≠ w.heap.size + 1 := (by omega); have q3 : wr.heap.size ≠ w.heap.size := (by omega); have q4 : w.heap.size ≠ wr.heap.size := (by omega)) | (go_at_call 125; refine (numFlag1_any _ _ _ _ zq_2).mono ?_; rintro e wf ⟨rfl, hR, hg⟩; rw [HF.out] at hR ⊢; dsimp only at hR ⊢; rw [HFE.out]; (have hz := hg.size; (try simp only [World.size_alloc, World.size_setCell, World.size_drew] at hz); obtain ⟨gc, gf⟩ := gcell hg; (try simp only [World.size_alloc, World.size_setCell, World.size_drew] at gc); (try simp only [World.size_alloc, World.size_setCell, World.size_drew] at gf); have rc := hR.c0; have rd := hR.c1; have rf := hR.f 0; have rg := hR.f 1); have q0 : w.heap.size < wf.heap.size := (by omega); have q2 : wr.heap.size < wf.heap.size := (by omega)) | (go_at_call 126; refine (text_any _ _ _ _ _ zq_2).mono ?_; rintro e wt ⟨rfl, hR, hg⟩; (first | rw [HL.out] at hR ⊢ | rw [HR.out] at hR ⊢); dsimp only at hR ⊢; (have hz := hg.size; (try simp only [World.size_alloc, World.size_setCell, World.size_drew] at hz); obtain ⟨gc, gf⟩ := gcell hg; (try simp only [World.size_alloc, World.size_setCell, World.size_drew] at gc); (try simp only [World.size_alloc, World.size_setCell, World.size_drew] at gf); have rc := hR.c0; have rd := hR.c1; have rf := hR.f 0; have rg := hR.f 1); have q0 : w.heap.size < wt.heap.size := (by omega); have q2 : wr.heap.size < wt.heap.size := (by omega)) | (go_at_call 116; refine (nodeValid_any _ _ _ _ _ _).mono ?_; rintro e wy ⟨rfl, hby⟩; obtain ⟨hcy, hfy⟩ := bcell hby; have hzy := hby.size; (try simp only [World.size_alloc, World.size_setCell, World.size_drew] at hzy); (try simp only [World.size_alloc, World.size_setCell, World.size_drew] at hcy); (try simp only [World.size_alloc, World.size_setCell, World.size_drew] at hfy); have q0 : w.heap.size < wy.heap.size := (by omega); have q2 : wr.heap.size < wy.heap.size := (by omega)))
    all_goals
     have t0 : wy.cell? ⟨w.heap.size, 0, none⟩ = some (.string ⟨#[]⟩) := by go_simp
     have t1 : wy.cell? ⟨w.heap.size, 1, none⟩ = some (.string ⟨#[]⟩) := by go_simp
     have t2 : wy.cell? ⟨w.heap.size, 2, none⟩ = some (.string ⟨#[]⟩) := by go_simp
     have t3 : wy.cell? ⟨w.heap.size, 3, none⟩ = some (.string ⟨#[]⟩) := by go_simp
     refine bodyPost_ret (v := .tuple #[.agg #[.string ⟨#[]⟩, .string ⟨#[]⟩, .string ⟨#[]⟩, .string ⟨#[]⟩], .bool false]) zq_21 rfl ⟨?_, ?_⟩
     ·have e : z = none := by rw [← HZ.out]; exact if_neg (fun q => by rw [h5] at q; simp at q)
      rw [e]; rfl
     ·(repeat' (first | exact Below.refl _ _ | (with_reducible assumption) | (with_reducible refine Below.setCell ?_ zq_16 _) | refine below_rdr ?_ (by assumption) (by omega) | refine below_then ?_ (by assumption) | (with_reducible refine below_new2 ?_ _)))
   ·subst h
    go_enter Tryd.func113, Tryd.ntmps113
    go_wp2_with (first | (go_at_call 42; refine (isWidth_any _ _).mono ?_; rintro e wq ⟨rfl, rfl⟩) | (go_at_call 124; refine (rsized_any _ _ _ _ zq_8).mono ?_; rintro e wr ⟨rfl, hR, hg⟩; (first | rw [HK.out] at hR ⊢ | rw [HV.out] at hR ⊢); dsimp only at hR ⊢; (have hz := hg.size; (try simp only [World.size_alloc, World.size_setCell, World.size_drew] at hz); obtain ⟨gc, gf⟩ := gcell hg; (try simp only [World.size_alloc, World.size_setCell, World.size_drew] at gc); (try simp only [World.size_alloc, World.size_setCell, World.size_drew] at gf); have rc := hR.c0; have rd := hR.c1; have rf := hR.f 0; have rg := hR.f 1); have q0 : w.heap.size < wr.heap.size := (by omega); have q1 : wr.heap.size ≠ w.heap.size + 1 := (by omega); have q3 : wr.heap.size ≠ w.heap.size := (by omega); have q4 : w.heap.size ≠ wr.heap.size := (by omega)) | (go_at_call 125; refine (numFlag1_any _ _ _ _ zq_2).mono ?_; rintro e wf ⟨rfl, hR, hg⟩; rw [HF.out] at hR ⊢; dsimp only at hR ⊢; rw [HFE.out]; (have hz := hg.size; (try simp only [World.size_alloc, World.size_setCell, World.size_drew] at hz); obtain ⟨gc, gf⟩ := gcell hg; (try simp only [World.size_alloc, World.size_setCell, World.size_drew] at gc); (try simp only [World.size_alloc, World.size_setCell, World.size_drew] at gf); have rc := hR.c0; have rd := hR.c1; have rf := hR.f 0; have rg := hR.f 1); have q0 : w.heap.size < wf.heap.size := (by omega); have q2 : wr.heap.size < wf.heap.size := (by omega)) | (go_at_call 126; refine (text_any _ _ _ _ _ zq_2).mono ?_; rintro e wt ⟨rfl, hR, hg⟩; (first | rw [HL.out] at hR ⊢ | rw [HR.out] at hR ⊢); dsimp only at hR ⊢; (have hz := hg.size; (try simp only [World.size_alloc, World.size_setCell, World.size_drew] at hz); obtain ⟨gc, gf⟩ := gcell hg; (try simp only [World.size_alloc, World.size_setCell, World.size_drew] at gc); (try simp only [World.size_alloc, World.size_setCell, World.size_drew] at gf); have rc := hR.c0; have rd := hR.c1; have rf := hR.f 0; have rg := hR.f 1); have q0 : w.heap.size < wt.heap.size := (by omega); have q2 : wr.heap.size < wt.heap.size := (by omega)) | (go_at_call 116; refine (nodeValid_any _ _ _ _ _ _).mono ?_; rintro e wy ⟨rfl, hby⟩; obtain ⟨hcy, hfy⟩ := bcell hby; have hzy := hby.size; (try simp only [World.size_alloc, World.size_setCell, World.size_drew] at hzy); (try simp only [World.size_alloc, World.size_setCell, World.size_drew] at hcy); (try simp only [World.size_alloc, World.size_setCell, World.size_drew] at hfy); have q0 : w.heap.size < wy.heap.size := (by omega); have q2 : wr.heap.size < wy.heap.size := (by omega)))
    all_goals
     have t0 : wy.cell? ⟨w.heap.size, 0, none⟩ = some (.string ⟨#[]⟩) := by go_simp
     have t1 : wy.cell? ⟨w.heap.size, 1, none⟩ = some (.string ⟨#[]⟩) := by go_simp
     have t2 : wy.cell? ⟨w.heap.size, 2, none⟩ = some (.string ⟨#[]⟩) := by go_simp
     have t3 : wy.cell? ⟨w.heap.size, 3, none⟩ = some (.string ⟨#[]⟩) := by go_simp
     refine bodyPost_ret (v := .tuple #[.agg #[.string k, .string v, .string ⟨#[]⟩, .string r], .bool true]) zq_21 rfl ⟨?_, ?_⟩
     ·have e : z = some (k, v, ⟨#[]⟩, r) := by rw [← HZ.out]; have e := HSZ.out; rw [h3] at e; have e2 := of_decide_eq_true e.symm; have e3 : f ≤ 3 := (by omega); exact if_pos (by simp [hw, e2, h5, e3])
      rw [e]; rfl
     ·(repeat' (first | exact Below.refl _ _ | (with_reducible assumption) | (with_reducible refine Below.setCell ?_ zq_16 _) | refine below_rdr ?_ (by assumption) (by omega) | refine below_then ?_ (by assumption) | (with_reducible refine below_new2 ?_ _)))
  ·obtain ⟨rfl, rfl, rfl⟩ := HR.out
   rcases hcase with h | ⟨h, h3⟩ | ⟨h, h3, h4⟩ | ⟨h, h3, h4, h5⟩ | ⟨h, h3, h4, h5⟩
   ·subst h
    go_enter Tryd.func113, Tryd.ntmps113
    go_wp2_with (first | (go_at_call 42; refine (isWidth_any _ _).mono ?_; rintro e wq ⟨rfl, rfl⟩) | (go_at_call 124; refine (rsized_any _ _ _ _ zq_8).mono ?_; rintro e wr ⟨rfl, hR, hg⟩; (first | rw [HK.out] at hR ⊢ | rw [HV.out] at hR ⊢); dsimp only at hR ⊢; (have hz := hg.size; (try simp only [World.size_alloc, World.size_setCell, World.size_drew] at hz); obtain ⟨gc, gf⟩ := gcell hg; (try simp only [World.size_alloc, World.size_setCell, World.size_drew] at gc); (try simp only [World.size_alloc, World.size_setCell, World.size_drew] at gf); have rc := hR.c0; have rd := hR.c1; have rf := hR.f 0; have rg := hR.f 1); have q0 : w.heap.size < wr.heap.size := (by omega); have q1 : wr.heap.size ≠ w.heap.size + 1 := (by omega); have q3 : wr.heap.size ≠ w.heap.size := (by omega); have q4 : w.heap.size ≠ wr.heap.size := (by omega)) | (go_at_call 125; refine (numFlag1_any _ _ _ _ zq_2).mono ?_; rintro e wf ⟨rfl, hR, hg⟩; rw [HF.out] at hR ⊢; dsimp only at hR ⊢; rw [HFE.out]; (have hz := hg.size; (try simp only [World.size_alloc, World.size_setCell, World.size_drew] at hz); obtain ⟨gc, gf⟩ := gcell hg; (try simp only [World.size_alloc, World.size_setCell, World.size_drew] at gc); (try simp only [World.size_alloc, World.size_setCell, World.size_drew] at gf); have rc := hR.c0; have rd := hR.c1; have rf := hR.f 0; have rg := hR.f 1); have q0 : w.heap.size < wf.heap.size := (by omega); have q2 : wr.heap.size < wf.heap.size := (by omega)) | (go_at_call 126; refine (text_any _ _ _ _ _ zq_2).mono ?_; rintro e wt ⟨rfl, hR, hg⟩; (first | rw [HL.out] at hR ⊢ | rw [HR.out] at hR ⊢); dsimp only at hR ⊢; (have hz := hg.size; (try simp only [World.size_alloc, World.size_setCell, World.size_drew] at hz); obtain ⟨gc, gf⟩ := gcell hg; (try simp only [World.size_alloc, World.size_setCell, World.size_drew] at gc); (try simp only [World.size_alloc, World.size_setCell, World.size_drew] at gf); have rc := hR.c0; have rd := hR.c1; have rf := hR.f 0; have rg := hR.f 1); have q0 : w.heap.size < wt.heap.size := (by omega); have q2 : wr.heap.size < wt.heap.size := (by omega)) | (go_at_call 116; refine (nodeValid_any _ _ _ _ _ _).mono ?_; rintro e wy ⟨rfl, hby⟩; obtain ⟨hcy, hfy⟩ := bcell hby; have hzy := hby.size; (try simp only [World.size_alloc, World.size_setCell, World.size_drew] at hzy); (try simp only [World.size_alloc, World.size_setCell, World.size_drew] at hcy); (try simp only [World.size_alloc, World.size_setCell, World.size_drew] at hfy); have q0 : w.heap.size < wy.heap.size := (by omega); have q2 : wr.heap.size < wy.heap.size := (by omega)))
    all_goals
     have t0 : wt.cell? ⟨w.heap.size, 0, none⟩ = some (.string ⟨#[]⟩) := by go_simp
     have t1 : wt.cell? ⟨w.heap.size, 1, none⟩ = some (.string ⟨#[]⟩) := by go_simp
     have t2 : wt.cell? ⟨w.heap.size, 2, none⟩ = some (.string ⟨#[]⟩) := by go_simp
     have t3 : wt.cell? ⟨w.heap.size, 3, none⟩ = some (.string ⟨#[]⟩) := by go_simp
     refine bodyPost_ret (v := .tuple #[.agg #[.string ⟨#[]⟩, .string ⟨#[]⟩, .string ⟨#[]⟩, .string ⟨#[]⟩], .bool false]) zq_21 rfl ⟨?_, ?_⟩
     ·have e : z = none := by rw [← HZ.out]; exact if_neg (fun q => by simp at q)
      rw [e]; rfl
     ·(repeat' (first | exact Below.refl _ _ | (with_reducible assumption) | (with_reducible refine Below.setCell ?_ zq_16 _) | refine below_rdr ?_ (by assumption) (by omega) | refine below_then ?_ (by assumption) | (with_reducible refine below_new2 ?_ _)))
   ·subst h
    go_enter Tryd.func113, Tryd.ntmps113
    go_wp2_with (first | (go_at_call 42; refine (isWidth_any _ _).mono ?_; rintro e wq ⟨rfl, rfl⟩) | (go_at_call 124; refine (rsized_any _ _ _ _ zq_8).mono ?_; rintro e wr ⟨rfl, hR, hg⟩; (first | rw [HK.out] at hR ⊢ | rw [HV.out] at hR ⊢); dsimp only at hR ⊢; (have hz := hg.size; (try simp only [World.size_alloc, World.size_setCell, World.size_drew] at hz); obtain ⟨gc, gf⟩ := gcell hg; (try simp only [World.size_alloc, World.size_setCell, World.size_drew] at gc); (try simp only [World.size_alloc, World.size_setCell, World.size_drew] at gf); have rc := hR.c0; have rd := hR.c1; have rf := hR.f 0; have rg := hR.f 1); have q0 : w.heap.size < wr.heap.size := (by omega); have q1 : wr.heap.size ≠ w.heap.size + 1 := (by omega); have q3 : wr.heap.size ≠ w.heap.size := (by omega); have q4 : w.heap.size ≠ wr.heap.size := (by omega)) | (go_at_call 125; refine (numFlag1_any _ _ _ _ zq_2).mono ?_; rintro e wf ⟨rfl, hR, hg⟩; rw [HF.out] at hR ⊢; dsimp only at hR ⊢; rw [HFE.out]; (have hz := hg.size; (try simp only [World.size_alloc, World.size_setCell, World.size_drew] at hz); obtain ⟨gc, gf⟩ := gcell hg; (try simp only [World.size_alloc, World.size_setCell, World.size_drew] at gc); (try simp only [World.size_alloc, World.size_setCell, World.size_drew] at gf); have rc := hR.c0; have rd := hR.c1; have rf := hR.f 0; have rg := hR.f 1); have q0 : w.heap.size < wf.heap.size := (by omega); have q2 : wr.heap.size < wf.heap.size := (by omega)) | (go_at_call 126; refine (text_any _ _ _ _ _ zq_2).mono ?_; rintro e wt ⟨rfl, hR, hg⟩; (first | rw [HL.out] at hR ⊢ | rw [HR.out] at hR ⊢); dsimp only at hR ⊢; (have hz := hg.size; (try simp only [World.size_alloc, World.size_setCell, World.size_drew] at hz); obtain ⟨gc, gf⟩ := gcell hg; (try simp only [World.size_alloc, World.size_setCell, World.size_drew] at gc); (try simp only [World.size_alloc, World.size_setCell, World.size_drew] at gf); have rc := hR.c0; have rd := hR.c1; have rf := hR.f 0; have rg := hR.f 1); have q0 : w.heap.size < wt.heap.size := (by omega); have q2 : wr.heap.size < wt.heap.size := (by omega)) | (go_at_call 116; refine (nodeValid_any _ _ _ _ _ _).mono ?_; rintro e wy ⟨rfl, hby⟩; obtain ⟨hcy, hfy⟩ := bcell hby; have hzy := hby.size; (try simp only [World.size_alloc, World.size_setCell, World.size_drew] at hzy); (try simp only [World.size_alloc, World.size_setCell, World.size_drew] at hcy); (try simp only [World.size_alloc, World.size_setCell, World.size_drew] at hfy); have q0 : w.heap.size < wy.heap.size := (by omega); have q2 : wr.heap.size < wy.heap.size := (by omega)))
    all_goals
     have t0 : wt.cell? ⟨w.heap.size, 0, none⟩ = some (.string ⟨#[]⟩) := by go_simp
     have t1 : wt.cell? ⟨w.heap.size, 1, none⟩ = some (.string ⟨#[]⟩) := by go_simp
     have t2 : wt.cell? ⟨w.heap.size, 2, none⟩ = some (.string ⟨#[]⟩) := by go_simp
     have t3 : wt.cell? ⟨w.heap.size, 3, none⟩ = some (.string ⟨#[]⟩) := by go_simp
     refine bodyPost_ret (v := .tuple #[.agg #[.string ⟨#[]⟩, .string ⟨#[]⟩, .string ⟨#[]⟩, .string ⟨#[]⟩], .bool false]) zq_21 rfl ⟨?_, ?_⟩
     ·have e : z = none := by rw [← HZ.out]; exact if_neg (fun q => by have e := HSZ.out; rw [h3, q.2.2.1] at e; simp at e)
      rw [e]; rfl
     ·(repeat' (first | exact Below.refl _ _ | (with_reducible assumption) | (with_reducible refine Below.setCell ?_ zq_16 _) | refine below_rdr ?_ (by assumption) (by omega) | refine below_then ?_ (by assumption) | (with_reducible refine below_new2 ?_ _)))
   ·subst h
    go_enter Tryd.func113, Tryd.ntmps113
    go_wp2_with (first | (go_at_call 42; refine (isWidth_any _ _).mono ?_; rintro e wq ⟨rfl, rfl⟩) | (go_at_call 124; refine (rsized_any _ _ _ _ zq_8).mono ?_; rintro e wr ⟨rfl, hR, hg⟩; (first | rw [HK.out] at hR ⊢ | rw [HV.out] at hR ⊢); dsimp only at hR ⊢; (have hz := hg.size; (try simp only [World.size_alloc, World.size_setCell, World.size_drew] at hz); obtain ⟨gc, gf⟩ := gcell hg; (try simp only [World.size_alloc, World.size_setCell, World.size_drew] at gc); (try simp only [World.size_alloc, World.size_setCell, World.size_drew] at gf); have rc := hR.c0; have rd := hR.c1; have rf := hR.f 0; have rg := hR.f 1); have q0 : w.heap.size < wr.heap.size := (by omega); have q1 : wr.heap.size ≠ w.heap.size + 1 := (by omega); have q3 : wr.heap.size ≠ w.heap.size := (by omega); have q4 : w.heap.size ≠ wr.heap.size := (by omega)) | (go_at_call 125; refine (numFlag1_any _ _ _ _ zq_2).mono ?_; rintro e wf ⟨rfl, hR, hg⟩; rw [HF.out] at hR ⊢; dsimp only at hR ⊢; rw [HFE.out]; (have hz := hg.size; (try simp only [World.size_alloc, World.size_setCell, World.size_drew] at hz); obtain ⟨gc, gf⟩ := gcell hg; (try simp only [World.size_alloc, World.size_setCell, World.size_drew] at gc); (try simp only [World.size_alloc, World.size_setCell, World.size_drew] at gf); have rc := hR.c0; have rd := hR.c1; have rf := hR.f 0; have rg := hR.f 1); have q0 : w.heap.size < wf.heap.size := (by omega); have q2 : wr.heap.size < wf.heap.size := (by omega)) | (go_at_call 126; refine (text_any _ _ _ _ _ zq_2).mono ?_; rintro e wt ⟨rfl, hR, hg⟩; (first | rw [HL.out] at hR ⊢ | rw [HR.out] at hR ⊢); dsimp only at hR ⊢; (have hz := hg.size; (try simp only [World.size_alloc, World.size_setCell, World.size_drew] at hz); obtain ⟨gc, gf⟩ := gcell hg; (try simp only [World.size_alloc, World.size_setCell, World.size_drew] at gc); (try simp only [World.size_alloc, World.size_setCell, World.size_drew] at gf); have rc := hR.c0; have rd := hR.c1; have rf := hR.f 0; have rg := hR.f 1); have q0 : w.heap.size < wt.heap.size := (by omega); have q2 : wr.heap.size < wt.heap.size := (by omega)) | (go_at_call 116; refine (nodeValid_any _ _ _ _ _ _).mono ?_; rintro e wy ⟨rfl, hby⟩; obtain ⟨hcy, hfy⟩ := bcell hby; have hzy := hby.size; (try simp only [World.size_alloc, World.size_setCell, World.size_drew] at hzy); (try simp only [World.size_alloc, World.size_setCell, World.size_drew] at hcy); (try simp only [World.size_alloc, World.size_setCell, World.size_drew] at hfy); have q0 : w.heap.size < wy.heap.size := (by omega); have q2 : wr.heap.size < wy.heap.size := (by omega)))
    all_goals
     have t0 : wt.cell? ⟨w.heap.size, 0, none⟩ = some (.string ⟨#[]⟩) := by go_simp
     have t1 : wt.cell? ⟨w.heap.size, 1, none⟩ = some (.string ⟨#[]⟩) := by go_simp
     have t2 : wt.cell? ⟨w.heap.size, 2, none⟩ = some (.string ⟨#[]⟩) := by go_simp
     have t3 : wt.cell? ⟨w.heap.size, 3, none⟩ = some (.string ⟨#[]⟩) := by go_simp
     refine bodyPost_ret (v := .tuple #[.agg #[.string ⟨#[]⟩, .string ⟨#[]⟩, .string ⟨#[]⟩, .string ⟨#[]⟩], .bool false]) zq_21 rfl ⟨?_, ?_⟩
     ·have e : z = none := by rw [← HZ.out]; exact if_neg (fun q => by have := q.2.2.2.1; omega)
      rw [e]; rfl
     ·(repeat' (first | exact Below.refl _ _ | (with_reducible assumption) | (with_reducible refine Below.setCell ?_ zq_16 _) | refine below_rdr ?_ (by assumption) (by omega) | refine below_then ?_ (by assumption) | (with_reducible refine below_new2 ?_ _)))
   ·subst h
    go_enter Tryd.func113, Tryd.ntmps113
    go_wp2_with (first | (go_at_call 42; refine (isWidth_any _ _).mono ?_; rintro e wq ⟨rfl, rfl⟩) | (go_at_call 124; refine (rsized_any _ _ _ _ zq_8).mono ?_; rintro e wr ⟨rfl, hR, hg⟩; (first | rw [HK.out] at hR ⊢ | rw [HV.out] at hR ⊢); dsimp only at hR ⊢; (have hz := hg.size; (try simp only [World.size_alloc, World.size_setCell, World.size_drew] at hz); obtain ⟨gc, gf⟩ := gcell hg; (try simp only [World.size_alloc, World.size_setCell, World.size_drew] at gc); (try simp only [World.size_alloc, World.size_setCell, World.size_drew] at gf); have rc := hR.c0; have rd := hR.c1; have rf := hR.f 0; have rg := hR.f 1); have q0 : w.heap.size < wr.heap.size := (by omega); have q1 : wr.heap.size ≠ w.heap.size + 1 := (by omega); have q3 : wr.heap.size ≠ w.heap.size := (by omega); have q4 : w.heap.size ≠ wr.heap.size := (by omega)) | (go_at_call 125; refine (numFlag1_any _ _ _ _ zq_2).mono ?_; rintro e wf ⟨rfl, hR, hg⟩; rw [HF.out] at hR ⊢; dsimp only at hR ⊢; rw [HFE.out]; (have hz := hg.size; (try simp only [World.size_alloc, World.size_setCell, World.size_drew] at hz); obtain ⟨gc, gf⟩ := gcell hg; (try simp only [World.size_alloc, World.size_setCell, World.size_drew] at gc); (try simp only [World.size_alloc, World.size_setCell, World.size_drew] at gf); have rc := hR.c0; have rd := hR.c1; have rf := hR.f 0; have rg := hR.f 1); have q0 : w.heap.size < wf.heap.size := (by omega); have q2 : wr.heap.size < wf.heap.size := (by omega)) | (go_at_call 126; refine (text_any _ _ _ _ _ zq_2).mono ?_; rintro e wt ⟨rfl, hR, hg⟩; (first | rw [HL.out] at hR ⊢ | rw [HR.out] at hR ⊢); dsimp only at hR ⊢; (have hz := hg.size; (try simp only [World.size_alloc, World.size_setCell, World.size_drew] at hz); obtain ⟨gc, gf⟩ := gcell hg; (try simp only [World.size_alloc, World.size_setCell, World.size_drew] at gc); (try simp only [World.size_alloc, World.size_setCell, World.size_drew] at gf); have rc := hR.c0; have rd := hR.c1; have rf := hR.f 0; have rg := hR.f 1); have q0 : w.heap.size < wt.heap.size := (by omega); have q2 : wr.heap.size < wt.heap.size := (by omega)) | (go_at_call 116; refine (nodeValid_any _ _ _ _ _ _).mono ?_; rintro e wy ⟨rfl, hby⟩; obtain ⟨hcy, hfy⟩ := bcell hby; have hzy := hby.size; (try simp only [World.size_alloc, World.size_setCell, World.size_drew] at hzy); (try simp only [World.size_alloc, World.size_setCell, World.size_drew] at hcy); (try simp only [World.size_alloc, World.size_setCell, World.size_drew] at hfy); have q0 : w.heap.size < wy.heap.size := (by omega); have q2 : wr.heap.size < wy.heap.size := (by omega)))
    all_goals
     have t0 : wy.cell? ⟨w.heap.size, 0, none⟩ = some (.string ⟨#[]⟩) := by go_simp
     have t1 : wy.cell? ⟨w.heap.size, 1, none⟩ = some (.string ⟨#[]⟩) := by go_simp
     have t2 : wy.cell? ⟨w.heap.size, 2, none⟩ = some (.string ⟨#[]⟩) := by go_simp
     have t3 : wy.cell? ⟨w.heap.size, 3, none⟩ = some (.string ⟨#[]⟩) := by go_simp
     refine bodyPost_ret (v := .tuple #[.agg #[.string ⟨#[]⟩, .string ⟨#[]⟩, .string ⟨#[]⟩, .string ⟨#[]⟩], .bool false]) zq_21 rfl ⟨?_, ?_⟩
     ·have e : z = none := by rw [← HZ.out]; exact if_neg (fun q => by rw [h5] at q; simp at q)
      rw [e]; rfl
     ·(repeat' (first | exact Below.refl _ _ | (with_reducible assumption) | (with_reducible refine Below.setCell ?_ zq_16 _) | refine below_rdr ?_ (by assumption) (by omega) | refine below_then ?_ (by assumption) | (with_reducible refine below_new2 ?_ _)))
   ·subst h
    go_enter Tryd.func113, Tryd.ntmps113
    go_wp2_with (first | (go_at_call 42; refine (isWidth_any _ _).mono ?_; rintro e wq ⟨rfl, rfl⟩) | (go_at_call 124; refine (rsized_any _ _ _ _ zq_8).mono ?_; rintro e wr ⟨rfl, hR, hg⟩; (first | rw [HK.out] at hR ⊢ | rw [HV.out] at hR ⊢); dsimp only at hR ⊢; (have hz := hg.size; (try simp only [World.size_alloc, World.size_setCell, World.size_drew] at hz); obtain ⟨gc, gf⟩ := gcell hg; (try simp only [World.size_alloc, World.size_setCell, World.size_drew] at gc); (try simp only [World.size_alloc, World.size_setCell, World.size_drew] at gf); have rc := hR.c0; have rd := hR.c1; have rf := hR.f 0; have rg := hR.f 1); have q0 : w.heap.size < wr.heap.size := (by omega); have q1 : wr.heap.size ≠ w.heap.size + 1 := (by omega); have q3 : wr.heap.size ≠ w.heap.size := (by omega); have q4 : w.heap.size ≠ wr.heap.size := (by omega)) | (go_at_call 125; refine (numFlag1_any _ _ _ _ zq_2).mono ?_; rintro e wf ⟨rfl, hR, hg⟩; rw [HF.out] at hR ⊢; dsimp only at hR ⊢; rw [HFE.out]; (have hz := hg.size; (try simp only [World.size_alloc, World.size_setCell, World.size_drew] at hz); obtain ⟨gc, gf⟩ := gcell hg; (try simp only [World.size_alloc, World.size_setCell, World.size_drew] at gc); (try simp only [World.size_alloc, World.size_setCell, World.size_drew] at gf); have rc := hR.c0; have rd := hR.c1; have rf := hR.f 0; have rg := hR.f 1); have q0 : w.heap.size < wf.heap.size := (by omega); have q2 : wr.heap.size < wf.heap.size := (by omega)) | (go_at_call 126; refine (text_any _ _ _ _ _ zq_2).mono ?_; rintro e wt ⟨rfl, hR, hg⟩; (first | rw [HL.out] at hR ⊢ | rw [HR.out] at hR ⊢); dsimp only at hR ⊢; (have hz := hg.size; (try simp only [World.size_alloc, World.size_setCell, World.size_drew] at hz); obtain ⟨gc, gf⟩ := gcell hg; (try simp only [World.size_alloc, World.size_setCell, World.size_drew] at gc); (try simp only [World.size_alloc, World.size_setCell, World.size_drew] at gf); have rc := hR.c0; have rd := hR.c1; have rf := hR.f 0; have rg := hR.f 1); have q0 : w.heap.size < wt.heap.size := (by omega); have q2 : wr.heap.size < wt.heap.size := (by omega)) | (go_at_call 116; refine (nodeValid_any _ _ _ _ _ _).mono ?_; rintro e wy ⟨rfl, hby⟩; obtain ⟨hcy, hfy⟩ := bcell hby; have hzy := hby.size; (try simp only [World.size_alloc, World.size_setCell, World.size_drew] at hzy); (try simp only [World.size_alloc, World.size_setCell, World.size_drew] at hcy); (try simp only [World.size_alloc, World.size_setCell, World.size_drew] at hfy); have q0 : w.heap.size < wy.heap.size := (by omega); have q2 : wr.heap.size < wy.heap.size := (by omega)))
    all_goals
     have t0 : wy.cell? ⟨w.heap.size, 0, none⟩ = some (.string ⟨#[]⟩) := by go_simp
     have t1 : wy.cell? ⟨w.heap.size, 1, none⟩ = some (.string ⟨#[]⟩) := by go_simp
     have t2 : wy.cell? ⟨w.heap.size, 2, none⟩ = some (.string ⟨#[]⟩) := by go_simp
     have t3 : wy.cell? ⟨w.heap.size, 3, none⟩ = some (.string ⟨#[]⟩) := by go_simp
     refine bodyPost_ret (v := .tuple #[.agg #[.string k, .string v, .string l, .string ⟨#[]⟩], .bool true]) zq_21 rfl ⟨?_, ?_⟩
     ·have e : z = some (k, v, l, ⟨#[]⟩) := by rw [← HZ.out]; have e := HSZ.out; rw [h3] at e; have e2 := of_decide_eq_true e.symm; have e3 : f ≤ 3 := (by omega); exact if_pos (by simp [hw, e2, h5, e3])
      rw [e]; rfl
     ·(repeat' (first | exact Below.refl _ _ | (with_reducible assumption) | (with_reducible refine Below.setCell ?_ zq_16 _) | refine below_rdr ?_ (by assumption) (by omega) | refine below_then ?_ (by assumption) | (with_reducible refine below_new2 ?_ _)))
  ·rcases hcase with h | ⟨h, h3⟩ | ⟨h, h3, h4⟩ | ⟨h, h3, h4, h5⟩ | ⟨h, h3, h4, h5⟩
   ·subst h
    go_enter Tryd.func113, Tryd.ntmps113
    go_wp2_with (first | (go_at_call 42; refine (isWidth_any _ _).mono ?_; rintro e wq ⟨rfl, rfl⟩) | (go_at_call 124; refine (rsized_any _ _ _ _ zq_8).mono ?_; rintro e wr ⟨rfl, hR, hg⟩; (first | rw [HK.out] at hR ⊢ | rw [HV.out] at hR ⊢); dsimp only at hR ⊢; (have hz := hg.size; (try simp only [World.size_alloc, World.size_setCell, World.size_drew] at hz); obtain ⟨gc, gf⟩ := gcell hg; (try simp only [World.size_alloc, World.size_setCell, World.size_drew] at gc); (try simp only [World.size_alloc, World.size_setCell, World.size_drew] at gf); have rc := hR.c0; have rd := hR.c1; have rf := hR.f 0; have rg := hR.f 1); have q0 : w.heap.size < wr.heap.size := (by omega); have q1 : wr.heap.size ≠ w.heap.size + 1 := (by omega); have q3 : wr.heap.size ≠ w.heap.size := (by omega); have q4 : w.heap.size ≠ wr.heap.size := (by omega)) | (go_at_call 125; refine (numFlag1_any _ _ _ _ zq_2).mono ?_; rintro e wf ⟨rfl, hR, hg⟩; rw [HF.out] at hR ⊢; dsimp only at hR ⊢; rw [HFE.out]; (have hz := hg.size; (try simp only [World.size_alloc, World.size_setCell, World.size_drew] at hz); obtain ⟨gc, gf⟩ := gcell hg; (try simp only [World.size_alloc, World.size_setCell, World.size_drew] at gc); (try simp only [World.size_alloc, World.size_setCell, World.size_drew] at gf); have rc := hR.c0; have rd := hR.c1; have rf := hR.f 0; have rg := hR.f 1); have q0 : w.heap.size < wf.heap.size := (by omega); have q2 : wr.heap.size < wf.heap.size := (by omega)) | (go_at_call 126; refine (text_any _ _ _ _ _ zq_2).mono ?_; rintro e wt ⟨rfl, hR, hg⟩; (first | rw [HL.out] at hR ⊢ | rw [HR.out] at hR ⊢); dsimp only at hR ⊢; (have hz := hg.size; (try simp only [World.size_alloc, World.size_setCell, World.size_drew] at hz); obtain ⟨gc, gf⟩ := gcell hg; (try simp only [World.size_alloc, World.size_setCell, World.size_drew] at gc); (try simp only [World.size_alloc, World.size_setCell, World.size_drew] at gf); have rc := hR.c0; have rd := hR.c1; have rf := hR.f 0; have rg := hR.f 1); have q0 : w.heap.size < wt.heap.size := (by omega); have q2 : wr.heap.size < wt.heap.size := (by omega)) | (go_at_call 116; refine (nodeValid_any _ _ _ _ _ _).mono ?_; rintro e wy ⟨rfl, hby⟩; obtain ⟨hcy, hfy⟩ := bcell hby; have hzy := hby.size; (try simp only [World.size_alloc, World.size_setCell, World.size_drew] at hzy); (try simp only [World.size_alloc, World.size_setCell, World.size_drew] at hcy); (try simp only [World.size_alloc, World.size_setCell, World.size_drew] at hfy); have q0 : w.heap.size < wy.heap.size := (by omega); have q2 : wr.heap.size < wy.heap.size := (by omega)))
    all_goals
     have t0 : wt.cell? ⟨w.heap.size, 0, none⟩ = some (.string ⟨#[]⟩) := by go_simp
     have t1 : wt.cell? ⟨w.heap.size, 1, none⟩ = some (.string ⟨#[]⟩) := by go_simp
     have t2 : wt.cell? ⟨w.heap.size, 2, none⟩ = some (.string ⟨#[]⟩) := by go_simp
     have t3 : wt.cell? ⟨w.heap.size, 3, none⟩ = some (.string ⟨#[]⟩) := by go_simp
     refine bodyPost_ret (v := .tuple #[.agg #[.string ⟨#[]⟩, .string ⟨#[]⟩, .string ⟨#[]⟩, .string ⟨#[]⟩], .bool false]) zq_21 rfl ⟨?_, ?_⟩
     ·have e : z = none := by rw [← HZ.out]; exact if_neg (fun q => by simp at q)
      rw [e]; rfl
     ·(repeat' (first | exact Below.refl _ _ | (with_reducible assumption) | (with_reducible refine Below.setCell ?_ zq_16 _) | refine below_rdr ?_ (by assumption) (by omega) | refine below_then ?_ (by assumption) | (with_reducible refine below_new2 ?_ _)))
   ·subst h
    go_enter Tryd.func113, Tryd.ntmps113
    go_wp2_with (first | (go_at_call 42; refine (isWidth_any _ _).mono ?_; rintro e wq ⟨rfl, rfl⟩) | (go_at_call 124; refine (rsized_any _ _ _ _ zq_8).mono ?_; rintro e wr ⟨rfl, hR, hg⟩; (first | rw [HK.out] at hR ⊢ | rw [HV.out] at hR ⊢); dsimp only at hR ⊢; (have hz := hg.size; (try simp only [World.size_alloc, World.size_setCell, World.size_drew] at hz); obtain ⟨gc, gf⟩ := gcell hg; (try simp only [World.size_alloc, World.size_setCell, World.size_drew] at gc); (try simp only [World.size_alloc, World.size_setCell, World.size_drew] at gf); have rc := hR.c0; have rd := hR.c1; have rf := hR.f 0; have rg := hR.f 1); have q0 : w.heap.size < wr.heap.size := (by omega); have q1 : wr.heap.size ≠ w.heap.size + 1 := (by omega); have q3 : wr.heap.size ≠ w.heap.size := (by omega); have q4 : w.heap.size ≠ wr.heap.size := (by omega)) | (go_at_call 125; refine (numFlag1_any _ _ _ _ zq_2).mono ?_; rintro e wf ⟨rfl, hR, hg⟩; rw [HF.out] at hR ⊢; dsimp only at hR ⊢; rw [HFE.out]; (have hz := hg.size; (try simp only [World.size_alloc, World.size_setCell, World.size_drew] at hz); obtain ⟨gc, gf⟩ := gcell hg; (try simp only [World.size_alloc, World.size_setCell, World.size_drew] at gc); (try simp only [World.size_alloc, World.size_setCell, World.size_drew] at gf); have rc := hR.c0; have rd := hR.c1; have rf := hR.f 0; have rg := hR.f 1); have q0 : w.heap.size < wf.heap.size := (by omega); have q2 : wr.heap.size < wf.heap.size := (by omega)) | (go_at_call 126; refine (text_any _ _ _ _ _ zq_2).mono ?_; rintro e wt ⟨rfl, hR, hg⟩; (first | rw [HL.out] at hR ⊢ | rw [HR.out] at hR ⊢); dsimp only at hR ⊢; (have hz := hg.size; (try simp only [World.size_alloc, World.size_setCell, World.size_drew] at hz); obtain ⟨gc, gf⟩ := gcell hg; (try simp only [World.size_alloc, World.size_setCell, World.size_drew] at gc); (try simp only [World.size_alloc, World.size_setCell, World.size_drew] at gf); have rc := hR.c0; have rd := hR.c1; have rf := hR.f 0; have rg := hR.f 1); have q0 : w.heap.size < wt.heap.size := (by omega); have q2 : wr.heap.size < wt.heap.size := (by omega)) | (go_at_call 116; refine (nodeValid_any _ _ _ _ _ _).mono ?_; rintro e wy ⟨rfl, hby⟩; obtain ⟨hcy, hfy⟩ := bcell hby; have hzy := hby.size; (try simp only [World.size_alloc, World.size_setCell, World.size_drew] at hzy); (try simp only [World.size_alloc, World.size_setCell, World.size_drew] at hcy); (try simp only [World.size_alloc, World.size_setCell, World.size_drew] at hfy); have q0 : w.heap.size < wy.heap.size := (by omega); have q2 : wr.heap.size < wy.heap.size := (by omega)))
    all_goals
     have t0 : wt.cell? ⟨w.heap.size, 0, none⟩ = some (.string ⟨#[]⟩) := by go_simp
     have t1 : wt.cell? ⟨w.heap.size, 1, none⟩ = some (.string ⟨#[]⟩) := by go_simp
     have t2 : wt.cell? ⟨w.heap.size, 2, none⟩ = some (.string ⟨#[]⟩) := by go_simp
     have t3 : wt.cell? ⟨w.heap.size, 3, none⟩ = some (.string ⟨#[]⟩) := by go_simp
     refine bodyPost_ret (v := .tuple #[.agg #[.string ⟨#[]⟩, .string ⟨#[]⟩, .string ⟨#[]⟩, .string ⟨#[]⟩], .bool false]) zq_21 rfl ⟨?_, ?_⟩
     ·have e : z = none := by rw [← HZ.out]; exact if_neg (fun q => by have e := HSZ.out; rw [h3, q.2.2.1] at e; simp at e)
      rw [e]; rfl
     ·(repeat' (first | exact Below.refl _ _ | (with_reducible assumption) | (with_reducible refine Below.setCell ?_ zq_16 _) | refine below_rdr ?_ (by assumption) (by omega) | refine below_then ?_ (by assumption) | (with_reducible refine below_new2 ?_ _)))
   ·subst h
    go_enter Tryd.func113, Tryd.ntmps113
    go_wp2_with (first | (go_at_call 42; refine (isWidth_any _ _).mono ?_; rintro e wq ⟨rfl, rfl⟩) | (go_at_call 124; refine (rsized_any _ _ _ _ zq_8).mono ?_; rintro e wr ⟨rfl, hR, hg⟩; (first | rw [HK.out] at hR ⊢ | rw [HV.out] at hR ⊢); dsimp only at hR ⊢; (have hz := hg.size; (try simp only [World.size_alloc, World.size_setCell, World.size_drew] at hz); obtain ⟨gc, gf⟩ := gcell hg; (try simp only [World.size_alloc, World.size_setCell, World.size_drew] at gc); (try simp only [World.size_alloc, World.size_setCell, World.size_drew] at gf); have rc := hR.c0; have rd := hR.c1; have rf := hR.f 0; have rg := hR.f 1); have q0 : w.heap.size < wr.heap.size := (by omega); have q1 : wr.heap.size ≠ w.heap.size + 1 := (by omega); have q3 : wr.heap.size ≠ w.heap.size := (by omega); have q4 : w.heap.size ≠ wr.heap.size := (by omega)) | (go_at_call 125; refine (numFlag1_any _ _ _ _ zq_2).mono ?_; rintro e wf ⟨rfl, hR, hg⟩; rw [HF.out] at hR ⊢; dsimp only at hR ⊢; rw [HFE.out]; (have hz := hg.size; (try simp only [World.size_alloc, World.size_setCell, World.size_drew] at hz); obtain ⟨gc, gf⟩ := gcell hg; (try simp only [World.size_alloc, World.size_setCell, World.size_drew] at gc); (try simp only [World.size_alloc, World.size_setCell, World.size_drew] at gf); have rc := hR.c0; have rd := hR.c1; have rf := hR.f 0; have rg := hR.f 1); have q0 : w.heap.size < wf.heap.size := (by omega); have q2 : wr.heap.size < wf.heap.size := (by omega)) | (go_at_call 126; refine (text_any _ _ _ _ _ zq_2).mono ?_; rintro e wt ⟨rfl, hR, hg⟩; (first | rw [HL.out] at hR ⊢ | rw [HR.out] at hR ⊢); dsimp only at hR ⊢; (have hz := hg.size; (try simp only [World.size_alloc, World.size_setCell, World.size_drew] at hz); obtain ⟨gc, gf⟩ := gcell hg; (try simp only [World.size_alloc, World.size_setCell, World.size_drew] at gc); (try simp only [World.size_alloc, World.size_setCell, World.size_drew] at gf); have rc := hR.c0; have rd := hR.c1; have rf := hR.f 0; have rg := hR.f 1); have q0 : w.heap.size < wt.heap.size := (by omega); have q2 : wr.heap.size < wt.heap.size := (by omega)) | (go_at_call 116; refine (nodeValid_any _ _ _ _ _ _).mono ?_; rintro e wy ⟨rfl, hby⟩; obtain ⟨hcy, hfy⟩ := bcell hby; have hzy := hby.size; (try simp only [World.size_alloc, World.size_setCell, World.size_drew] at hzy); (try simp only [World.size_alloc, World.size_setCell, World.size_drew] at hcy); (try simp only [World.size_alloc, World.size_setCell, World.size_drew] at hfy); have q0 : w.heap.size < wy.heap.size := (by omega); have q2 : wr.heap.size < wy.heap.size := (by omega)))
    all_goals
     have t0 : wt.cell? ⟨w.heap.size, 0, none⟩ = some (.string ⟨#[]⟩) := by go_simp
     have t1 : wt.cell? ⟨w.heap.size, 1, none⟩ = some (.string ⟨#[]⟩) := by go_simp
     have t2 : wt.cell? ⟨w.heap.size, 2, none⟩ = some (.string ⟨#[]⟩) := by go_simp
     have t3 : wt.cell? ⟨w.heap.size, 3, none⟩ = some (.string ⟨#[]⟩) := by go_simp
     refine bodyPost_ret (v := .tuple #[.agg #[.string ⟨#[]⟩, .string ⟨#[]⟩, .string ⟨#[]⟩, .string ⟨#[]⟩], .bool false]) zq_21 rfl ⟨?_, ?_⟩
     ·have e : z = none := by rw [← HZ.out]; exact if_neg (fun q => by have := q.2.2.2.1; omega)
      rw [e]; rfl
     ·(repeat' (first | exact Below.refl _ _ | (with_reducible assumption) | (with_reducible refine Below.setCell ?_ zq_16 _) | refine below_rdr ?_ (by assumption) (by omega) | refine below_then ?_ (by assumption) | (with_reducible refine below_new2 ?_ _)))
   ·subst h
    go_enter Tryd.func113, Tryd.ntmps113
    go_wp2_with (first | (go_at_call 42; refine (isWidth_any _ _).mono ?_; rintro e wq ⟨rfl, rfl⟩) | (go_at_call 124; refine (rsized_any _ _ _ _ zq_8).mono ?_; rintro e wr ⟨rfl, hR, hg⟩; (first | rw [HK.out] at hR ⊢ | rw [HV.out] at hR ⊢); dsimp only at hR ⊢; (have hz := hg.size; (try simp only [World.size_alloc, World.size_setCell, World.size_drew] at hz); obtain ⟨gc, gf⟩ := gcell hg; (try simp only [World.size_alloc, World.size_setCell, World.size_drew] at gc); (try simp only [World.size_alloc, World.size_setCell, World.size_drew] at gf); have rc := hR.c0; have rd := hR.c1; have rf := hR.f 0; have rg := hR.f 1); have q0 : w.heap.size < wr.heap.size := (by omega); have q1 : wr.heap.size ≠ w.heap.size + 1 := (by omega); have q3 : wr.heap.size ≠ w.heap.size := (by omega); have q4 : w.heap.size ≠ wr.heap.size := (by omega)) | (go_at_call 125; refine (numFlag1_any _ _ _ _ zq_2).mono ?_; rintro e wf ⟨rfl, hR, hg⟩; rw [HF.out] at hR ⊢; dsimp only at hR ⊢; rw [HFE.out]; (have hz := hg.size; (try simp only [World.size_alloc, World.size_setCell, World.size_drew] at hz); obtain ⟨gc, gf⟩ := gcell hg; (try simp only [World.size_alloc, World.size_setCell, World.size_drew] at gc); (try simp only [World.size_alloc, World.size_setCell, World.size_drew] at gf); have rc := hR.c0; have rd := hR.c1; have rf := hR.f 0; have rg := hR.f 1); have q0 : w.heap.size < wf.heap.size := (by omega); have q2 : wr.heap.size < wf.heap.size := (by omega)) | (go_at_call 126; refine (text_any _ _ _ _ _ zq_2).mono ?_; rintro e wt ⟨rfl, hR, hg⟩; (first | rw [HL.out] at hR ⊢ | rw [HR.out] at hR ⊢); dsimp only at hR ⊢; (have hz := hg.size; (try simp only [World.size_alloc, World.size_setCell, World.size_drew] at hz); obtain ⟨gc, gf⟩ := gcell hg; (try simp only [World.size_alloc, World.size_setCell, World.size_drew] at gc); (try simp only [World.size_alloc, World.size_setCell, World.size_drew] at gf); have rc := hR.c0; have rd := hR.c1; have rf := hR.f 0; have rg := hR.f 1); have q0 : w.heap.size < wt.heap.size := (by omega); have q2 : wr.heap.size < wt.heap.size := (by omega)) | (go_at_call 116; refine (nodeValid_any _ _ _ _ _ _).mono ?_; rintro e wy ⟨rfl, hby⟩; obtain ⟨hcy, hfy⟩ := bcell hby; have hzy := hby.size; (try simp only [World.size_alloc, World.size_setCell, World.size_drew] at hzy); (try simp only [World.size_alloc, World.size_setCell, World.size_drew] at hcy); (try simp only [World.size_alloc, World.size_setCell, World.size_drew] at hfy); have q0 : w.heap.size < wy.heap.size := (by omega); have q2 : wr.heap.size < wy.heap.size := (by omega)))
    all_goals
     have t0 : wy.cell? ⟨w.heap.size, 0, none⟩ = some (.string ⟨#[]⟩) := by go_simp
     have t1 : wy.cell? ⟨w.heap.size, 1, none⟩ = some (.string ⟨#[]⟩) := by go_simp
     have t2 : wy.cell? ⟨w.heap.size, 2, none⟩ = some (.string ⟨#[]⟩) := by go_simp
     have t3 : wy.cell? ⟨w.heap.size, 3, none⟩ = some (.string ⟨#[]⟩) := by go_simp
     refine bodyPost_ret (v := .tuple #[.agg #[.string ⟨#[]⟩, .string ⟨#[]⟩, .string ⟨#[]⟩, .string ⟨#[]⟩], .bool false]) zq_21 rfl ⟨?_, ?_⟩
     ·have e : z = none := by rw [← HZ.out]; exact if_neg (fun q => by rw [h5] at q; simp at q)
      rw [e]; rfl
     ·(repeat' (first | exact Below.refl _ _ | (with_reducible assumption) | (with_reducible refine Below.setCell ?_ zq_16 _) | refine below_rdr ?_ (by assumption) (by omega) | refine below_then ?_ (by assumption) | (with_reducible refine below_new2 ?_ _)))
   ·subst h
    go_enter Tryd.func113, Tryd.ntmps113
    go_wp2_with (first | (go_at_call 42; refine (isWidth_any _ _).mono ?_; rintro e wq ⟨rfl, rfl⟩) | (go_at_call 124; refine (rsized_any _ _ _ _ zq_8).mono ?_; rintro e wr ⟨rfl, hR, hg⟩; (first | rw [HK.out] at hR ⊢ | rw [HV.out] at hR ⊢); dsimp only at hR ⊢; (have hz := hg.size; (try simp only [World.size_alloc, World.size_setCell, World.size_drew] at hz); obtain ⟨gc, gf⟩ := gcell hg; (try simp only [World.size_alloc, World.size_setCell, World.size_drew] at gc); (try simp only [World.size_alloc, World.size_setCell, World.size_drew] at gf); have rc := hR.c0; have rd := hR.c1; have rf := hR.f 0; have rg := hR.f 1); have q0 : w.heap.size < wr.heap.size := (by omega); have q1 : wr.heap.size ≠ w.heap.size + 1 := (by omega); have q3 : wr.heap.size ≠ w.heap.size := (by omega); have q4 : w.heap.size ≠ wr.heap.size := (by omega)) | (go_at_call 125; refine (numFlag1_any _ _ _ _ zq_2).mono ?_; rintro e wf ⟨rfl, hR, hg⟩; rw [HF.out] at hR ⊢; dsimp only at hR ⊢; rw [HFE.out]; (have hz := hg.size; (try simp only [World.size_alloc, World.size_setCell, World.size_drew] at hz); obtain ⟨gc, gf⟩ := gcell hg; (try simp only [World.size_alloc, World.size_setCell, World.size_drew] at gc); (try simp only [World.size_alloc, World.size_setCell, World.size_drew] at gf); have rc := hR.c0; have rd := hR.c1; have rf := hR.f 0; have rg := hR.f 1); have q0 : w.heap.size < wf.heap.size := (by omega); have q2 : wr.heap.size < wf.heap.size := (by omega)) | (go_at_call 126; refine (text_any _ _ _ _ _ zq_2).mono ?_; rintro e wt ⟨rfl, hR, hg⟩; (first | rw [HL.out] at hR ⊢ | rw [HR.out] at hR ⊢); dsimp only at hR ⊢; (have hz := hg.size; (try simp only [World.size_alloc, World.size_setCell, World.size_drew] at hz); obtain ⟨gc, gf⟩ := gcell hg; (try simp only [World.size_alloc, World.size_setCell, World.size_drew] at gc); (try simp only [World.size_alloc, World.size_setCell, World.size_drew] at gf); have rc := hR.c0; have rd := hR.c1; have rf := hR.f 0; have rg := hR.f 1); have q0 : w.heap.size < wt.heap.size := (by omega); have q2 : wr.heap.size < wt.heap.size := (by omega)) | (go_at_call 116; refine (nodeValid_any _ _ _ _ _ _).mono ?_; rintro e wy ⟨rfl, hby⟩; obtain ⟨hcy, hfy⟩ := bcell hby; have hzy := hby.size; (try simp only [World.size_alloc, World.size_setCell, World.size_drew] at hzy); (try simp only [World.size_alloc, World.size_setCell, World.size_drew] at hcy); (try simp only [World.size_alloc, World.size_setCell, World.size_drew] at hfy); have q0 : w.heap.size < wy.heap.size := (by omega); have q2 : wr.heap.size < wy.heap.size := (by omega)))
    all_goals
     have t0 : wy.cell? ⟨w.heap.size, 0, none⟩ = some (.string ⟨#[]⟩) := by go_simp
     have t1 : wy.cell? ⟨w.heap.size, 1, none⟩ = some (.string ⟨#[]⟩) := by go_simp
     have t2 : wy.cell? ⟨w.heap.size, 2, none⟩ = some (.string ⟨#[]⟩) := by go_simp
     have t3 : wy.cell? ⟨w.heap.size, 3, none⟩ = some (.string ⟨#[]⟩) := by go_simp
     refine bodyPost_ret (v := .tuple #[.agg #[.string k, .string v, .string l, .string r], .bool true]) zq_21 rfl ⟨?_, ?_⟩
     ·have e : z = some (k, v, l, r) := by rw [← HZ.out]; have e := HSZ.out; rw [h3] at e; have e2 := of_decide_eq_true e.symm; have e3 : f ≤ 3 := (by omega); exact if_pos (by simp [hw, e2, h5, e3])
      rw [e]; rfl
     ·(repeat' (first | exact Below.refl _ _ | (with_reducible assumption) | (with_reducible refine Below.setCell ?_ zq_16 _) | refine below_rdr ?_ (by assumption) (by omega) | refine below_then ?_ (by assumption) | (with_reducible refine below_new2 ?_ _)))
 ·have hn : decI s x = none := by unfold decI; simp [hw]
  rw [hn]
  go_enter Tryd.func113, Tryd.ntmps113
  go_wp2_with (first | (go_at_call 42; refine (isWidth_any _ _).mono ?_; rintro e wq ⟨rfl, rfl⟩))
  refine bodyPost_ret (v := nodeV none) (by simp [results, Tryd.results113, go_sem, nodeV]; try rfl) rfl ⟨?_, ?_⟩
  ·rfl
  ·(repeat' (first | exact Below.refl _ _ | (with_reducible assumption) | (with_reducible refine Below.setCell ?_ zq_16 _) | refine below_then ?_ (by assumption) | (with_reducible refine below_new2 ?_ _) | (with_reducible refine Below.drew ?_) | (with_reducible refine bdrewN ?_ _)))
end Go.Proofs.YthnnphinfiobmaaDoor
end
section
namespace Go.Proofs.YthnnphinfiobmaaDoor
open Go.RowKit
set_option linter.unusedVariables false
set_option linter.unusedSimpArgs false
def byteAt (s : ByteArray) (i : Nat) : Nat := (s.data.toList.getD i 0).toNat
theorem byteAt_lt (s : ByteArray) (i : Nat) : byteAt s i < 256 := UInt8.toNat_lt _
theorem byteAt_eq (s : ByteArray) (i : Nat) (h : i < s.size) : byteAt s i = (s[i]'h).toNat := by
 have h2 : i < s.data.toList.length := by simpa using h
 unfold byteAt; rw [List.getD_eq_getElem?_getD, List.getElem?_eq_getElem h2]; rfl
theorem pieceNum (s : ByteArray) (i : Nat) (h : i < s.size) (h2 : i + 1 < s.size) :
  wrap64 (wrap64 (wrap64 ((s[i]'h).toNat : Int) * 256) + wrap64 ((s[i + 1]'h2).toNat : Int)) = ((byteAt s i * 256 + byteAt s (i + 1) : Nat) : Int) := by
 rw [byteAt_eq s i h, byteAt_eq s (i + 1) h2]; have h3 := (s[i]'h).toNat_lt; have h4 := (s[i + 1]'h2).toNat_lt; unfold wrap64; omega
def pieceS (s : ByteArray) (i : Nat) : Option (ByteArray × Nat) :=
 if s.size < i + 2 then none else if s.size < i + 2 + (byteAt s i * 256 + byteAt s (i + 1)) then none else
  some (s.extract (i + 2) (i + 2 + (byteAt s i * 256 + byteAt s (i + 1))), i + 2 + (byteAt s i * 256 + byteAt s (i + 1)))
def pieceV : Option (ByteArray × Nat) → Value
 | some (k, n) => .tuple #[.string k, .int .i64 n, .bool true]
 | none => .tuple #[.string ⟨#[]⟩, .int .i64 0, .bool false]
set_option maxHeartbeats 400000 in
theorem l2Piece_any (s : ByteArray) (i : Nat) (hs : s.size ≤ 4294967296) (hi : i ≤ 4294967296) (w : World) :
  Calls Tryd.prog 123 #[.string s, .int .i64 i] w fun e w' => e = .returned (pieceV (pieceS s i)) ∧ Below w.heap.size w w' := by
 unfold pieceS; have hm := byteAt_lt s i; have hl := byteAt_lt s (i + 1)
 by_cases h1 : s.size < i + 2
 ·rw [if_pos h1]; have g1 : (s.size : Int) < (i : Int) + 2 := by omega
  go_enter Tryd.func123, Tryd.ntmps123
  go_wp2
  refine bodyPost_ret (v := pieceV none) (by simp [results, Tryd.results123, go_sem, pieceV]; try rfl) rfl ⟨?_, ?_⟩
  ·rfl
  ·(repeat' (first | exact Below.refl _ _ | (with_reducible assumption) | (with_reducible refine Below.setCell ?_ zq_16 _) | refine below_then ?_ (by assumption) | (with_reducible refine below_new2 ?_ _) | (with_reducible refine Below.drew ?_) | (with_reducible refine bdrewN ?_ _)))
 ·rw [if_neg h1]; have g1 : ¬ (s.size : Int) < (i : Int) + 2 := by omega
  have b1 : i < s.size := by omega
  have b2 : i + 1 < s.size := by omega
  have hnb : byteAt s i * 256 + byteAt s (i + 1) < 65536 := by omega
  have hnum := pieceNum s i b1 b2; generalize byteAt s i * 256 + byteAt s (i + 1) = n at hnb hnum ⊢; have HN := Lib.hid hnum; clear hnum; have b3 : (0 : Int) ≤ (i : Int) := by omega
  have b4 : (i : Int) < (s.size : Int) := by omega
  have b5 : (0 : Int) ≤ (i : Int) + 1 := by omega
  have b6 : (i : Int) + 1 < (s.size : Int) := by omega
  clear hm hl
  by_cases h2 : s.size < i + 2 + n
  ·rw [if_pos h2]; have g2 : (s.size : Int) < (i : Int) + 2 + n := by omega
   go_enter Tryd.func123, Tryd.ntmps123
   go_wp2
   go_region
   rw [HN.out]
   go_wp2
   refine bodyPost_ret (v := pieceV none) (by simp [results, Tryd.results123, go_sem, pieceV]; try rfl) rfl ⟨?_, ?_⟩
   ·rfl
   ·(repeat' (first | exact Below.refl _ _ | (with_reducible assumption) | (with_reducible refine Below.setCell ?_ zq_16 _) | refine below_then ?_ (by assumption) | (with_reducible refine below_new2 ?_ _) | (with_reducible refine Below.drew ?_) | (with_reducible refine bdrewN ?_ _)))
  ·rw [if_neg h2]; have g2 : ¬ (s.size : Int) < (i : Int) + 2 + n := by omega
   have g3 : (i : Int) + 2 + n ≤ s.size := by omega
   have g4 : (0 : Int) ≤ (i : Int) + 2 := by omega
   have g5 : (i : Int) + 2 ≤ (i : Int) + 2 + n := by omega
   go_enter Tryd.func123, Tryd.ntmps123
   go_wp2
   go_region
   rw [HN.out]
   go_wp2
   refine bodyPost_ret (v := .tuple #[.string (s.extract (i + 2) (i + 2 + n)), .int .i64 ((i : Int) + 2 + n), .bool true]) (by simp [results, Tryd.results123, go_sem, pieceV]; try rfl) rfl ⟨?_, ?_⟩
   ·simp [pieceV]
   ·(repeat' (first | exact Below.refl _ _ | (with_reducible assumption) | (with_reducible refine Below.setCell ?_ zq_16 _) | refine below_then ?_ (by assumption) | (with_reducible refine below_new2 ?_ _) | (with_reducible refine Below.drew ?_) | (with_reducible refine bdrewN ?_ _)))
theorem l2Piece0_any (s : ByteArray) (hs : s.size ≤ 4294967296) (w : World) :
  Calls Tryd.prog 123 #[.string s, .int .i64 0] w fun e w' => e = .returned (pieceV (pieceS s 0)) ∧ Below w.heap.size w w' := l2Piece_any s 0 hs (by omega) w
theorem pieceS_le {s k : ByteArray} {i n : Nat} (h : pieceS s i = some (k, n)) : n ≤ s.size ∧ i + 2 ≤ n := by
 unfold pieceS at h
 split at h
 ·cases h
 ·split at h
  ·cases h
  ·simp only [Option.some.injEq, Prod.mk.injEq] at h; omega
def finS (s : ByteArray) (x : Int) (k v l r : ByteArray) : Option (ByteArray × ByteArray × ByteArray × ByteArray) := if encNode k v l r x = s then some (k, v, l, r) else none
def decS (s : ByteArray) (x : Int) : Option (ByteArray × ByteArray × ByteArray × ByteArray) :=
 match pieceS s 0 with
 | none => none
 | some (k, i) =>
  match pieceS s i with
  | none => none
  | some (v, n) =>
   if s.size ≤ n ∨ isW x = false then none else
   if byteAt s n % 2 = 1 then
    if ((s.size - (n + 1) : Nat) : Int) < x then none else finS s x k v ((s.extract (n + 1) s.size).extract 0 x.toNat) ((s.extract (n + 1) s.size).extract x.toNat (s.size - (n + 1)))
   else finS s x k v ⟨#[]⟩ (s.extract (n + 1) s.size)
set_option maxHeartbeats 4000000 in
theorem specDecodeNode_any (s : ByteArray) (x : Int) (hs : s.size ≤ 4294967296) (w : World) :
  Calls Tryd.prog 112 #[.string s, .int .i64 x] w fun e w' => e = .returned (nodeV (decS s x)) ∧ Below w.heap.size w w' := by
 unfold decS
 rcases h1 : pieceS s 0 with _ | ⟨k, i⟩
 ·have H1 := Lib.hid h1; clear h1; dsimp only
  go_enter Tryd.func112, Tryd.ntmps112
  go_wp2_with (first | (go_at_call_of 123 (Value.int .i64 0); refine (l2Piece0_any s hs _).mono ?_; rintro e wa ⟨rfl, hb_wa⟩; rw [H1.out]; obtain ⟨hc_wa, hf_wa⟩ := bcell hb_wa; have hz_wa := hb_wa.size; (try simp only [World.size_alloc] at hz_wa); (try simp only [World.size_alloc] at hc_wa); (try simp only [World.size_alloc] at hf_wa); have q0 : w.heap.size < wa.heap.size := (by omega); unfold pieceV))
  all_goals
   have t0 : wa.cell? ⟨w.heap.size, 0, none⟩ = some (.string ⟨#[]⟩) := by go_simp
   have t1 : wa.cell? ⟨w.heap.size, 1, none⟩ = some (.string ⟨#[]⟩) := by go_simp
   have t2 : wa.cell? ⟨w.heap.size, 2, none⟩ = some (.string ⟨#[]⟩) := by go_simp
   have t3 : wa.cell? ⟨w.heap.size, 3, none⟩ = some (.string ⟨#[]⟩) := by go_simp
   refine bodyPost_ret (v := .tuple #[.agg #[.string ⟨#[]⟩, .string ⟨#[]⟩, .string ⟨#[]⟩, .string ⟨#[]⟩], .bool false]) (by simp [results, Tryd.results112, go_sem, t0, t1, t2, t3]; try rfl) rfl ⟨?_, ?_⟩
   ·rfl
   ·(repeat' (first | exact Below.refl _ _ | (with_reducible assumption) | (with_reducible refine Below.setCell ?_ zq_16 _) | refine below_then ?_ (by assumption) | (with_reducible refine below_new2 ?_ _) | (with_reducible refine Below.drew ?_) | (with_reducible refine bdrewN ?_ _)))
 ·have hi := (pieceS_le h1).1; have H1 := Lib.hid h1; clear h1; dsimp only
  rcases h2 : pieceS s i with _ | ⟨v, n⟩
  ·have H2 := Lib.hid h2; clear h2; dsimp only
   go_enter Tryd.func112, Tryd.ntmps112
   go_wp2_with (first | (go_at_call_of 123 (Value.int .i64 0); refine (l2Piece0_any s hs _).mono ?_; rintro e wa ⟨rfl, hb_wa⟩; rw [H1.out]; obtain ⟨hc_wa, hf_wa⟩ := bcell hb_wa; have hz_wa := hb_wa.size; (try simp only [World.size_alloc] at hz_wa); (try simp only [World.size_alloc] at hc_wa); (try simp only [World.size_alloc] at hf_wa); have q0 : w.heap.size < wa.heap.size := (by omega); unfold pieceV) | (go_at_call_of 123 (Value.int .i64 (i : Int)); refine (l2Piece_any s i hs (by omega) _).mono ?_; rintro e wb ⟨rfl, hb_wb⟩; rw [H2.out]; obtain ⟨hc_wb, hf_wb⟩ := bcell hb_wb; have hz_wb := hb_wb.size; (try simp only [World.size_alloc] at hz_wb); (try simp only [World.size_alloc] at hc_wb); (try simp only [World.size_alloc] at hf_wb); have q1 : w.heap.size < wb.heap.size := (by omega); unfold pieceV))
   all_goals
    have t0 : wb.cell? ⟨w.heap.size, 0, none⟩ = some (.string ⟨#[]⟩) := by go_simp
    have t1 : wb.cell? ⟨w.heap.size, 1, none⟩ = some (.string ⟨#[]⟩) := by go_simp
    have t2 : wb.cell? ⟨w.heap.size, 2, none⟩ = some (.string ⟨#[]⟩) := by go_simp
    have t3 : wb.cell? ⟨w.heap.size, 3, none⟩ = some (.string ⟨#[]⟩) := by go_simp
    refine bodyPost_ret (v := .tuple #[.agg #[.string ⟨#[]⟩, .string ⟨#[]⟩, .string ⟨#[]⟩, .string ⟨#[]⟩], .bool false]) (by simp [results, Tryd.results112, go_sem, t0, t1, t2, t3]; try rfl) rfl ⟨?_, ?_⟩
    ·rfl
    ·(repeat' (first | exact Below.refl _ _ | (with_reducible assumption) | (with_reducible refine Below.setCell ?_ zq_16 _) | refine below_then ?_ (by assumption) | (with_reducible refine below_new2 ?_ _) | (with_reducible refine Below.drew ?_) | (with_reducible refine bdrewN ?_ _)))
  ·have hn := (pieceS_le h2).1; have H2 := Lib.hid h2; clear h2; dsimp only
   by_cases h3 : s.size ≤ n ∨ isW x = false
   ·rw [if_pos h3]
    by_cases h4 : s.size ≤ n
    ·clear h3; have h5 : (s.size : Int) ≤ (n : Int) := by omega
     go_enter Tryd.func112, Tryd.ntmps112
     go_wp2_with (first | (go_at_call_of 123 (Value.int .i64 0); refine (l2Piece0_any s hs _).mono ?_; rintro e wa ⟨rfl, hb_wa⟩; rw [H1.out]; obtain ⟨hc_wa, hf_wa⟩ := bcell hb_wa; have hz_wa := hb_wa.size; (try simp only [World.size_alloc] at hz_wa); (try simp only [World.size_alloc] at hc_wa); (try simp only [World.size_alloc] at hf_wa); have q0 : w.heap.size < wa.heap.size := (by omega); unfold pieceV) | (go_at_call_of 123 (Value.int .i64 (i : Int)); refine (l2Piece_any s i hs (by omega) _).mono ?_; rintro e wb ⟨rfl, hb_wb⟩; rw [H2.out]; obtain ⟨hc_wb, hf_wb⟩ := bcell hb_wb; have hz_wb := hb_wb.size; (try simp only [World.size_alloc] at hz_wb); (try simp only [World.size_alloc] at hc_wb); (try simp only [World.size_alloc] at hf_wb); have q1 : w.heap.size < wb.heap.size := (by omega); unfold pieceV))
     all_goals
      have t0 : wb.cell? ⟨w.heap.size, 0, none⟩ = some (.string ⟨#[]⟩) := by go_simp
      have t1 : wb.cell? ⟨w.heap.size, 1, none⟩ = some (.string ⟨#[]⟩) := by go_simp
      have t2 : wb.cell? ⟨w.heap.size, 2, none⟩ = some (.string ⟨#[]⟩) := by go_simp
      have t3 : wb.cell? ⟨w.heap.size, 3, none⟩ = some (.string ⟨#[]⟩) := by go_simp
      refine bodyPost_ret (v := .tuple #[.agg #[.string ⟨#[]⟩, .string ⟨#[]⟩, .string ⟨#[]⟩, .string ⟨#[]⟩], .bool false]) (by simp [results, Tryd.results112, go_sem, t0, t1, t2, t3]; try rfl) rfl ⟨?_, ?_⟩
      ·rfl
      ·(repeat' (first | exact Below.refl _ _ | (with_reducible assumption) | (with_reducible refine Below.setCell ?_ zq_16 _) | refine below_then ?_ (by assumption) | (with_reducible refine below_new2 ?_ _) | (with_reducible refine Below.drew ?_) | (with_reducible refine bdrewN ?_ _)))
    ·have h5 : ¬ (s.size : Int) ≤ (n : Int) := by omega
     have h6 : isW x = false := by rcases h3 with h | h <;> simp_all
     clear h3
     go_enter Tryd.func112, Tryd.ntmps112
     go_wp2_with (first | (go_at_call_of 123 (Value.int .i64 0); refine (l2Piece0_any s hs _).mono ?_; rintro e wa ⟨rfl, hb_wa⟩; rw [H1.out]; obtain ⟨hc_wa, hf_wa⟩ := bcell hb_wa; have hz_wa := hb_wa.size; (try simp only [World.size_alloc] at hz_wa); (try simp only [World.size_alloc] at hc_wa); (try simp only [World.size_alloc] at hf_wa); have q0 : w.heap.size < wa.heap.size := (by omega); unfold pieceV) | (go_at_call_of 123 (Value.int .i64 (i : Int)); refine (l2Piece_any s i hs (by omega) _).mono ?_; rintro e wb ⟨rfl, hb_wb⟩; rw [H2.out]; obtain ⟨hc_wb, hf_wb⟩ := bcell hb_wb; have hz_wb := hb_wb.size; (try simp only [World.size_alloc] at hz_wb); (try simp only [World.size_alloc] at hc_wb); (try simp only [World.size_alloc] at hf_wb); have q1 : w.heap.size < wb.heap.size := (by omega); unfold pieceV) | (go_at_call 38; refine (l1Width_any _ _).mono ?_; rintro e wq ⟨rfl, rfl⟩))
     all_goals
      have t0 : wb.cell? ⟨w.heap.size, 0, none⟩ = some (.string ⟨#[]⟩) := by go_simp
      have t1 : wb.cell? ⟨w.heap.size, 1, none⟩ = some (.string ⟨#[]⟩) := by go_simp
      have t2 : wb.cell? ⟨w.heap.size, 2, none⟩ = some (.string ⟨#[]⟩) := by go_simp
      have t3 : wb.cell? ⟨w.heap.size, 3, none⟩ = some (.string ⟨#[]⟩) := by go_simp
      refine bodyPost_ret (v := .tuple #[.agg #[.string ⟨#[]⟩, .string ⟨#[]⟩, .string ⟨#[]⟩, .string ⟨#[]⟩], .bool false]) (by simp [results, Tryd.results112, go_sem, t0, t1, t2, t3]; try rfl) rfl ⟨?_, ?_⟩
      ·rfl
      ·(repeat' (first | exact Below.refl _ _ | (with_reducible assumption) | (with_reducible refine Below.setCell ?_ zq_16 _) | refine below_then ?_ (by assumption) | (with_reducible refine below_new2 ?_ _) | (with_reducible refine Below.drew ?_) | (with_reducible refine bdrewN ?_ _)))
   ·rw [if_neg h3]; have h5 : ¬ (s.size : Int) ≤ (n : Int) := by omega
    have h6 : isW x = true := by cases h : isW x <;> simp_all
    clear h3; have h7 : 1 ≤ x ∧ x ≤ 32 := by unfold isW at h6; simp at h6; omega
    obtain ⟨h8, h9⟩ := h7; have g0 : (0 : Int) ≤ (n : Int) := by omega
    have g1 : (n : Int) < (s.size : Int) := by omega
    have g2 : (0 : Int) ≤ (n : Int) + 1 := by omega
    have g3 : (n : Int) + 1 ≤ (s.size : Int) := by omega
    have b1 : n < s.size := by omega
    have hby := byteAt_eq s n b1
    by_cases h10 : byteAt s n % 2 = 1
    ·rw [if_pos h10]; have g4 : (((s[n]'b1).toNat : Int) % 2 == 1) = true := by rw [hby] at h10; rw [beq_iff_eq]; omega
     clear hby h10
     by_cases h11 : ((s.size - (n + 1) : Nat) : Int) < x
     ·rw [if_pos h11]
      go_enter Tryd.func112, Tryd.ntmps112
      go_wp2_with (first | (go_at_call_of 123 (Value.int .i64 0); refine (l2Piece0_any s hs _).mono ?_; rintro e wa ⟨rfl, hb_wa⟩; rw [H1.out]; obtain ⟨hc_wa, hf_wa⟩ := bcell hb_wa; have hz_wa := hb_wa.size; (try simp only [World.size_alloc] at hz_wa); (try simp only [World.size_alloc] at hc_wa); (try simp only [World.size_alloc] at hf_wa); have q0 : w.heap.size < wa.heap.size := (by omega); unfold pieceV) | (go_at_call_of 123 (Value.int .i64 (i : Int)); refine (l2Piece_any s i hs (by omega) _).mono ?_; rintro e wb ⟨rfl, hb_wb⟩; rw [H2.out]; obtain ⟨hc_wb, hf_wb⟩ := bcell hb_wb; have hz_wb := hb_wb.size; (try simp only [World.size_alloc] at hz_wb); (try simp only [World.size_alloc] at hc_wb); (try simp only [World.size_alloc] at hf_wb); have q1 : w.heap.size < wb.heap.size := (by omega); unfold pieceV) | (go_at_call 38; refine (l1Width_any _ _).mono ?_; rintro e wq ⟨rfl, rfl⟩) | (go_at_call 83; refine (specEncodeNode_any _ _ _ _ _ _).mono ?_; rintro e wc ⟨rfl, hb_wc⟩; obtain ⟨hc_wc, hf_wc⟩ := bcell hb_wc; have hz_wc := hb_wc.size; (try simp only [World.size_alloc, World.size_setCell, World.size_drew] at hz_wc); (try simp only [World.size_alloc, World.size_setCell, World.size_drew] at hc_wc); (try simp only [World.size_alloc, World.size_setCell, World.size_drew] at hf_wc); (try have q_w_0_wc : w.heap.size < wc.heap.size := by omega); (try have q_wb_0_wc : wb.heap.size < wc.heap.size := by omega)))
      all_goals
       have t0 : wb.cell? ⟨w.heap.size, 0, none⟩ = some (.string ⟨#[]⟩) := by go_simp
       have t1 : wb.cell? ⟨w.heap.size, 1, none⟩ = some (.string ⟨#[]⟩) := by go_simp
       have t2 : wb.cell? ⟨w.heap.size, 2, none⟩ = some (.string ⟨#[]⟩) := by go_simp
       have t3 : wb.cell? ⟨w.heap.size, 3, none⟩ = some (.string ⟨#[]⟩) := by go_simp
       refine bodyPost_ret (v := .tuple #[.agg #[.string ⟨#[]⟩, .string ⟨#[]⟩, .string ⟨#[]⟩, .string ⟨#[]⟩], .bool false]) (by simp [results, Tryd.results112, go_sem, t0, t1, t2, t3, q1]; try rfl) rfl ⟨?_, ?_⟩
       ·rfl
       ·(repeat' (first | exact Below.refl _ _ | (with_reducible assumption) | (with_reducible refine Below.setCell ?_ zq_16 _) | refine below_then ?_ (by assumption) | (with_reducible refine below_new2 ?_ _) | (with_reducible refine Below.drew ?_) | (with_reducible refine bdrewN ?_ _)))
     ·rw [if_neg h11]; have g5 : x ≤ ((s.size - (n + 1) : Nat) : Int) := by omega
      have g7 : (0 : Int) ≤ x := by omega
      unfold finS
      by_cases h12 : encNode k v ((s.extract (n + 1) s.size).extract 0 x.toNat) ((s.extract (n + 1) s.size).extract x.toNat (s.size - (n + 1))) x = s
      ·rw [if_pos h12]; have g6 : ((encNode k v ((s.extract (n + 1) s.size).extract 0 x.toNat) ((s.extract (n + 1) s.size).extract x.toNat (s.size - (n + 1))) x).toList == s.toList) = true := by rw [str_eq]; exact decide_eq_true h12
       clear h12
       go_enter Tryd.func112, Tryd.ntmps112
       go_wp2_with (first | (go_at_call_of 123 (Value.int .i64 0); refine (l2Piece0_any s hs _).mono ?_; rintro e wa ⟨rfl, hb_wa⟩; rw [H1.out]; obtain ⟨hc_wa, hf_wa⟩ := bcell hb_wa; have hz_wa := hb_wa.size; (try simp only [World.size_alloc] at hz_wa); (try simp only [World.size_alloc] at hc_wa); (try simp only [World.size_alloc] at hf_wa); have q0 : w.heap.size < wa.heap.size := (by omega); unfold pieceV) | (go_at_call_of 123 (Value.int .i64 (i : Int)); refine (l2Piece_any s i hs (by omega) _).mono ?_; rintro e wb ⟨rfl, hb_wb⟩; rw [H2.out]; obtain ⟨hc_wb, hf_wb⟩ := bcell hb_wb; have hz_wb := hb_wb.size; (try simp only [World.size_alloc] at hz_wb); (try simp only [World.size_alloc] at hc_wb); (try simp only [World.size_alloc] at hf_wb); have q1 : w.heap.size < wb.heap.size := (by omega); unfold pieceV) | (go_at_call 38; refine (l1Width_any _ _).mono ?_; rintro e wq ⟨rfl, rfl⟩) | (go_at_call 83; refine (specEncodeNode_any _ _ _ _ _ _).mono ?_; rintro e wc ⟨rfl, hb_wc⟩; obtain ⟨hc_wc, hf_wc⟩ := bcell hb_wc; have hz_wc := hb_wc.size; (try simp only [World.size_alloc, World.size_setCell, World.size_drew] at hz_wc); (try simp only [World.size_alloc, World.size_setCell, World.size_drew] at hc_wc); (try simp only [World.size_alloc, World.size_setCell, World.size_drew] at hf_wc); (try have q_w_0_wc : w.heap.size < wc.heap.size := by omega); (try have q_wb_0_wc : wb.heap.size < wc.heap.size := by omega)))
       all_goals
        have t0 : wc.cell? ⟨w.heap.size, 0, none⟩ = some (.string ⟨#[]⟩) := by go_simp
        have t1 : wc.cell? ⟨w.heap.size, 1, none⟩ = some (.string ⟨#[]⟩) := by go_simp
        have t2 : wc.cell? ⟨w.heap.size, 2, none⟩ = some (.string ⟨#[]⟩) := by go_simp
        have t3 : wc.cell? ⟨w.heap.size, 3, none⟩ = some (.string ⟨#[]⟩) := by go_simp
        refine bodyPost_ret (v := .tuple #[.agg #[.string k, .string v, .string ((s.extract (n + 1) s.size).extract 0 x.toNat), .string ((s.extract (n + 1) s.size).extract x.toNat (s.size - (n + 1)))], .bool true]) (by simp [results, Tryd.results112, go_sem, t0, t1, t2, t3, q1]; try rfl) rfl ⟨?_, ?_⟩
        ·rfl
        ·(repeat' (first | exact Below.refl _ _ | (with_reducible assumption) | (with_reducible refine Below.setCell ?_ zq_16 _) | refine below_then ?_ (by assumption) | (with_reducible refine below_new2 ?_ _) | (with_reducible refine Below.drew ?_) | (with_reducible refine bdrewN ?_ _)))
      ·rw [if_neg h12]; have g6 : ((encNode k v ((s.extract (n + 1) s.size).extract 0 x.toNat) ((s.extract (n + 1) s.size).extract x.toNat (s.size - (n + 1))) x).toList == s.toList) = false := by rw [str_eq]; exact decide_eq_false h12
       clear h12
       go_enter Tryd.func112, Tryd.ntmps112
       go_wp2_with (first | (go_at_call_of 123 (Value.int .i64 0); refine (l2Piece0_any s hs _).mono ?_; rintro e wa ⟨rfl, hb_wa⟩; rw [H1.out]; obtain ⟨hc_wa, hf_wa⟩ := bcell hb_wa; have hz_wa := hb_wa.size; (try simp only [World.size_alloc] at hz_wa); (try simp only [World.size_alloc] at hc_wa); (try simp only [World.size_alloc] at hf_wa); have q0 : w.heap.size < wa.heap.size := (by omega); unfold pieceV) | (go_at_call_of 123 (Value.int .i64 (i : Int)); refine (l2Piece_any s i hs (by omega) _).mono ?_; rintro e wb ⟨rfl, hb_wb⟩; rw [H2.out]; obtain ⟨hc_wb, hf_wb⟩ := bcell hb_wb; have hz_wb := hb_wb.size; (try simp only [World.size_alloc] at hz_wb); (try simp only [World.size_alloc] at hc_wb); (try simp only [World.size_alloc] at hf_wb); have q1 : w.heap.size < wb.heap.size := (by omega); unfold pieceV) | (go_at_call 38; refine (l1Width_any _ _).mono ?_; rintro e wq ⟨rfl, rfl⟩) | (go_at_call 83; refine (specEncodeNode_any _ _ _ _ _ _).mono ?_; rintro e wc ⟨rfl, hb_wc⟩; obtain ⟨hc_wc, hf_wc⟩ := bcell hb_wc; have hz_wc := hb_wc.size; (try simp only [World.size_alloc, World.size_setCell, World.size_drew] at hz_wc); (try simp only [World.size_alloc, World.size_setCell, World.size_drew] at hc_wc); (try simp only [World.size_alloc, World.size_setCell, World.size_drew] at hf_wc); (try have q_w_0_wc : w.heap.size < wc.heap.size := by omega); (try have q_wb_0_wc : wb.heap.size < wc.heap.size := by omega)))
       all_goals
        have t0 : wc.cell? ⟨w.heap.size, 0, none⟩ = some (.string ⟨#[]⟩) := by go_simp
        have t1 : wc.cell? ⟨w.heap.size, 1, none⟩ = some (.string ⟨#[]⟩) := by go_simp
        have t2 : wc.cell? ⟨w.heap.size, 2, none⟩ = some (.string ⟨#[]⟩) := by go_simp
        have t3 : wc.cell? ⟨w.heap.size, 3, none⟩ = some (.string ⟨#[]⟩) := by go_simp
        refine bodyPost_ret (v := .tuple #[.agg #[.string ⟨#[]⟩, .string ⟨#[]⟩, .string ⟨#[]⟩, .string ⟨#[]⟩], .bool false]) (by simp [results, Tryd.results112, go_sem, t0, t1, t2, t3, q1]; try rfl) rfl ⟨?_, ?_⟩
        ·rfl
        ·(repeat' (first | exact Below.refl _ _ | (with_reducible assumption) | (with_reducible refine Below.setCell ?_ zq_16 _) | refine below_then ?_ (by assumption) | (with_reducible refine below_new2 ?_ _) | (with_reducible refine Below.drew ?_) | (with_reducible refine bdrewN ?_ _)))
    ·rw [if_neg h10]; have g4 : (((s[n]'b1).toNat : Int) % 2 == 1) = false := by rw [hby] at h10; rw [beq_eq_false_iff_ne]; omega
     clear hby h10; unfold finS
     by_cases h12 : encNode k v ⟨#[]⟩ (s.extract (n + 1) s.size) x = s
     ·rw [if_pos h12]; have g6 : ((encNode k v ⟨#[]⟩ (s.extract (n + 1) s.size) x).toList == s.toList) = true := by rw [str_eq]; exact decide_eq_true h12
      clear h12
      go_enter Tryd.func112, Tryd.ntmps112
      go_wp2_with (first | (go_at_call_of 123 (Value.int .i64 0); refine (l2Piece0_any s hs _).mono ?_; rintro e wa ⟨rfl, hb_wa⟩; rw [H1.out]; obtain ⟨hc_wa, hf_wa⟩ := bcell hb_wa; have hz_wa := hb_wa.size; (try simp only [World.size_alloc] at hz_wa); (try simp only [World.size_alloc] at hc_wa); (try simp only [World.size_alloc] at hf_wa); have q0 : w.heap.size < wa.heap.size := (by omega); unfold pieceV) | (go_at_call_of 123 (Value.int .i64 (i : Int)); refine (l2Piece_any s i hs (by omega) _).mono ?_; rintro e wb ⟨rfl, hb_wb⟩; rw [H2.out]; obtain ⟨hc_wb, hf_wb⟩ := bcell hb_wb; have hz_wb := hb_wb.size; (try simp only [World.size_alloc] at hz_wb); (try simp only [World.size_alloc] at hc_wb); (try simp only [World.size_alloc] at hf_wb); have q1 : w.heap.size < wb.heap.size := (by omega); unfold pieceV) | (go_at_call 38; refine (l1Width_any _ _).mono ?_; rintro e wq ⟨rfl, rfl⟩) | (go_at_call 83; refine (specEncodeNode_any _ _ _ _ _ _).mono ?_; rintro e wc ⟨rfl, hb_wc⟩; obtain ⟨hc_wc, hf_wc⟩ := bcell hb_wc; have hz_wc := hb_wc.size; (try simp only [World.size_alloc, World.size_setCell, World.size_drew] at hz_wc); (try simp only [World.size_alloc, World.size_setCell, World.size_drew] at hc_wc); (try simp only [World.size_alloc, World.size_setCell, World.size_drew] at hf_wc); (try have q_w_0_wc : w.heap.size < wc.heap.size := by omega); (try have q_wb_0_wc : wb.heap.size < wc.heap.size := by omega)))
      all_goals
       have t0 : wc.cell? ⟨w.heap.size, 0, none⟩ = some (.string ⟨#[]⟩) := by go_simp
       have t1 : wc.cell? ⟨w.heap.size, 1, none⟩ = some (.string ⟨#[]⟩) := by go_simp
       have t2 : wc.cell? ⟨w.heap.size, 2, none⟩ = some (.string ⟨#[]⟩) := by go_simp
       have t3 : wc.cell? ⟨w.heap.size, 3, none⟩ = some (.string ⟨#[]⟩) := by go_simp
       refine bodyPost_ret (v := .tuple #[.agg #[.string k, .string v, .string ⟨#[]⟩, .string (s.extract (n + 1) s.size)], .bool true]) (by simp [results, Tryd.results112, go_sem, t0, t1, t2, t3, q1]; try rfl) rfl ⟨?_, ?_⟩
       ·rfl
       ·(repeat' (first | exact Below.refl _ _ | (with_reducible assumption) | (with_reducible refine Below.setCell ?_ zq_16 _) | refine below_then ?_ (by assumption) | (with_reducible refine below_new2 ?_ _) | (with_reducible refine Below.drew ?_) | (with_reducible refine bdrewN ?_ _)))
     ·rw [if_neg h12]; have g6 : ((encNode k v ⟨#[]⟩ (s.extract (n + 1) s.size) x).toList == s.toList) = false := by rw [str_eq]; exact decide_eq_false h12
      clear h12
      go_enter Tryd.func112, Tryd.ntmps112
      go_wp2_with (first | (go_at_call_of 123 (Value.int .i64 0); refine (l2Piece0_any s hs _).mono ?_; rintro e wa ⟨rfl, hb_wa⟩; rw [H1.out]; obtain ⟨hc_wa, hf_wa⟩ := bcell hb_wa; have hz_wa := hb_wa.size; (try simp only [World.size_alloc] at hz_wa); (try simp only [World.size_alloc] at hc_wa); (try simp only [World.size_alloc] at hf_wa); have q0 : w.heap.size < wa.heap.size := (by omega); unfold pieceV) | (go_at_call_of 123 (Value.int .i64 (i : Int)); refine (l2Piece_any s i hs (by omega) _).mono ?_; rintro e wb ⟨rfl, hb_wb⟩; rw [H2.out]; obtain ⟨hc_wb, hf_wb⟩ := bcell hb_wb; have hz_wb := hb_wb.size; (try simp only [World.size_alloc] at hz_wb); (try simp only [World.size_alloc] at hc_wb); (try simp only [World.size_alloc] at hf_wb); have q1 : w.heap.size < wb.heap.size := (by omega); unfold pieceV) | (go_at_call 38; refine (l1Width_any _ _).mono ?_; rintro e wq ⟨rfl, rfl⟩) | (go_at_call 83; refine (specEncodeNode_any _ _ _ _ _ _).mono ?_; rintro e wc ⟨rfl, hb_wc⟩; obtain ⟨hc_wc, hf_wc⟩ := bcell hb_wc; have hz_wc := hb_wc.size; (try simp only [World.size_alloc, World.size_setCell, World.size_drew] at hz_wc); (try simp only [World.size_alloc, World.size_setCell, World.size_drew] at hc_wc); (try simp only [World.size_alloc, World.size_setCell, World.size_drew] at hf_wc); (try have q_w_0_wc : w.heap.size < wc.heap.size := by omega); (try have q_wb_0_wc : wb.heap.size < wc.heap.size := by omega)))
      all_goals
       have t0 : wc.cell? ⟨w.heap.size, 0, none⟩ = some (.string ⟨#[]⟩) := by go_simp
       have t1 : wc.cell? ⟨w.heap.size, 1, none⟩ = some (.string ⟨#[]⟩) := by go_simp
       have t2 : wc.cell? ⟨w.heap.size, 2, none⟩ = some (.string ⟨#[]⟩) := by go_simp
       have t3 : wc.cell? ⟨w.heap.size, 3, none⟩ = some (.string ⟨#[]⟩) := by go_simp
       refine bodyPost_ret (v := .tuple #[.agg #[.string ⟨#[]⟩, .string ⟨#[]⟩, .string ⟨#[]⟩, .string ⟨#[]⟩], .bool false]) (by simp [results, Tryd.results112, go_sem, t0, t1, t2, t3, q1]; try rfl) rfl ⟨?_, ?_⟩
       ·rfl
       ·(repeat' (first | exact Below.refl _ _ | (with_reducible assumption) | (with_reducible refine Below.setCell ?_ zq_16 _) | refine below_then ?_ (by assumption) | (with_reducible refine below_new2 ?_ _) | (with_reducible refine Below.drew ?_) | (with_reducible refine bdrewN ?_ _)))
end Go.Proofs.YthnnphinfiobmaaDoor
end
