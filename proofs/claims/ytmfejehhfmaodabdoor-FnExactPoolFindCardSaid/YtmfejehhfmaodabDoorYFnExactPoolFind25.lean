/- Own texts and the print's words that they use, joined by a program of this session. -/
import Derived.Test.YtmfejehhfmaodabDoorYFnExactPoolFind24
import Derived.Test.YtmfejehhfmaodabDoorYFnExactPoolFind21
section
namespace Go.Proofs.YtmfejehhfmaodabDoor
open Go.RowKit
set_option linter.unusedVariables false
set_option linter.unusedSimpArgs false
theorem gcell {b : Nat} {W w1 : World} (hg : W.grownBy w1 (some b)) : (∀ k o, k < W.heap.size → k ≠ b → w1.cell? ⟨k, o, none⟩ = W.cell? ⟨k, o, none⟩) ∧ (∀ k o, k < W.heap.size → k ≠ b → w1.frozen? ⟨k, o, none⟩ = W.frozen? ⟨k, o, none⟩) :=
  ⟨fun k o h hn => World.cell?_of_block (a := ⟨k, o, none⟩) (hg.block k h (by simpa using hn)), fun k o h hn => World.frozen?_of_block (a := ⟨k, o, none⟩) (hg.block k h (by simpa using hn))⟩
theorem below_rdr {b : Nat} {a w w' : World} (h : Below a.heap.size a w) (hg : w.grownBy w' (some b)) (hb : a.heap.size ≤ b) : Below a.heap.size a w' := h.grown hg h.size fun k hk => by cases hk; exact hb
def nodeV : Option (ByteArray × ByteArray × ByteArray × ByteArray) → Value
  | some (a, b, c, d) => .tuple #[.agg #[.string a, .string b, .string c, .string d], .bool true]
  | none => .tuple #[.agg #[.string ⟨#[]⟩, .string ⟨#[]⟩, .string ⟨#[]⟩, .string ⟨#[]⟩], .bool false]
def optText (p : Bool) (t : ByteArray × ByteArray × Bool) (x : Int) : ByteArray × ByteArray × Bool := if p = true then textR t.2.1 t.2.2 x else (⟨#[]⟩, t.2.1, t.2.2)
def decI (s : ByteArray) (x : Int) : Option (ByteArray × ByteArray × ByteArray × ByteArray) :=
  let K := sizedR s false
  let V := sizedR K.2.1 K.2.2
  let F := textR V.2.1 V.2.2 1
  let f := numV F.1.data.toList
  let L := optText (decide (f % 2 = 1)) F x
  let R := optText (decide (f / 2 % 2 = 1)) L x
  if isW x = true ∧ R.2.2 = false ∧ R.2.1.size = 0 ∧ f ≤ 3 ∧ nodeOk K.1 V.1 L.1 R.1 x = true then some (K.1, V.1, L.1, R.1) else none
theorem bitsAnd1 : ∀ f : Nat, f < 256 → bits .and .u32 (f : Int) 1 = ((f % 2 : Nat) : Int) := by decide +kernel
theorem bitsAnd2 : ∀ f : Nat, f < 256 → bits .and .u32 (f : Int) 2 = ((f / 2 % 2 * 2 : Nat) : Int) := by decide +kernel
theorem text1_lt (r : ByteArray) (bad : Bool) : numV (textR r bad 1).1.data.toList < 256 := by
  have h := numV_lt (textR r bad 1).1.data.toList
  have h2 : (textR r bad 1).1.data.toList.length ≤ 1 := by
    unfold textR
    split
    · exact Nat.zero_le _
    · simp; omega
  have := Nat.pow_le_pow_right (n := 256) (by decide) h2
  omega
theorem Rdr.fresh2 {b : Nat} (s : ByteArray) (w : World) (h : b = w.heap.size) : Rdr b s false (w.alloc (.cells #[.string s, .bool false] 141)) := by
  subst h
  exact Rdr.fresh s w
theorem Rdr.alloc2 {b : Nat} {r : ByteArray} {bad : Bool} {w : World} (h : Rdr b r bad w) (o : Obj) : Rdr b r bad (w.alloc o) := h.below ((Below.refl _ _).alloc (Nat.le_refl _) o)
theorem Rdr.setFar {b : Nat} {r : ByteArray} {bad : Bool} {w : World} (h : Rdr b r bad w) (p : Addr) (v : Value) (hn : b ≠ p.block) : Rdr b r bad (w.setCell p v) := (Below.heap_setCell w p v b hn).trans h
theorem numFlag1_any (b : Nat) (r : ByteArray) (bad : Bool) (w : World) (h : Rdr b r bad w) :
    Calls Tryd.prog 105 #[.pointer (some ⟨b, 0, none⟩), .int .i64 1] w fun e w' => e = .returned (.int .u32 (numV (textR r bad 1).1.data.toList)) ∧ Rdr b (textR r bad 1).2.1 (textR r bad 1).2.2 w' ∧ w.grownBy w' (some b) := numFlag_any b r bad 1 (by omega) w h
set_option maxHeartbeats 16000000 in
theorem decodeNode_any (s : ByteArray) (x : Int) (w : World) :
    Calls Tryd.prog 77 #[.string s, .int .i64 x] w fun e w' => e = .returned (nodeV (decI s x)) ∧ Below w.heap.size w w' := by
  by_cases hw : isW x = true
  · unfold decI
    have hf := text1_lt (sizedR (sizedR s false).2.1 (sizedR s false).2.2).2.1 (sizedR (sizedR s false).2.1 (sizedR s false).2.2).2.2
    obtain ⟨k, rk, bk, hk⟩ : ∃ k rk bk, sizedR s false = (k, rk, bk) := ⟨_, _, _, rfl⟩
    rw [hk] at hf ⊢
    have HK := Lib.hid hk; clear hk
    dsimp only at hf ⊢
    obtain ⟨v, rv, bv, hv⟩ : ∃ v rv bv, sizedR rk bk = (v, rv, bv) := ⟨_, _, _, rfl⟩
    rw [hv] at hf ⊢
    have HV := Lib.hid hv; clear hv
    dsimp only at hf ⊢
    generalize hfe : numV (textR rv bv 1).1.data.toList = f at hf ⊢
    obtain ⟨ft, rf, bf, hft⟩ : ∃ ft rf bf, textR rv bv 1 = (ft, rf, bf) := ⟨_, _, _, rfl⟩
    rw [hft] at hfe ⊢
    have HF := Lib.hid hft; clear hft
    dsimp only at hfe
    have HFE := Lib.hid hfe; clear hfe
    have hb1 := bitsAnd1 f hf
    have hb2 := bitsAnd2 f hf
    clear hf
    obtain ⟨l, rl, bl, hl⟩ : ∃ l rl bl, optText (decide (f % 2 = 1)) (ft, rf, bf) x = (l, rl, bl) := ⟨_, _, _, rfl⟩
    rw [hl]
    obtain ⟨r, rr, br, hr⟩ : ∃ r rr br, optText (decide (f / 2 % 2 = 1)) (l, rl, bl) x = (r, rr, br) := ⟨_, _, _, rfl⟩
    rw [hr]
    dsimp only
    have hcase : br = true ∨ (br = false ∧ rr.toList.isEmpty = false) ∨ (br = false ∧ rr.toList.isEmpty = true ∧ 3 < (f : Int)) ∨ (br = false ∧ rr.toList.isEmpty = true ∧ ¬ 3 < (f : Int) ∧ nodeOk k v l r x = false) ∨ (br = false ∧ rr.toList.isEmpty = true ∧ ¬ 3 < (f : Int) ∧ nodeOk k v l r x = true) := by
      cases br <;> cases rr.toList.isEmpty <;> cases nodeOk k v l r x <;> simp <;> omega
    have hgoal : ∀ z, (if isW x = true ∧ br = false ∧ rr.size = 0 ∧ f ≤ 3 ∧ nodeOk k v l r x = true then some (k, v, l, r) else none) = z → (if isW x = true ∧ br = false ∧ rr.size = 0 ∧ f ≤ 3 ∧ nodeOk k v l r x = true then some (k, v, l, r) else none) = z := fun _ h => h
    clear hgoal
    obtain ⟨z, hz⟩ : ∃ z, (if isW x = true ∧ br = false ∧ rr.size = 0 ∧ f ≤ 3 ∧ nodeOk k v l r x = true then some (k, v, l, r) else none) = z := ⟨_, rfl⟩
    rw [hz]
    have HZ := Lib.hid hz; clear hz
    have HSZ := Lib.hid (isEmpty_size rr)
    have h01 : f % 2 = 0 ∨ f % 2 = 1 := by omega
    have h02 : f / 2 % 2 = 0 ∨ f / 2 % 2 = 1 := by omega
    rcases h01 with h1 | h1
    all_goals
      rcases h02 with h2 | h2
      all_goals
        rw [h1] at hb1
        rw [h2] at hb2
        simp only [h1, h2, optText, decide_true, if_true, Nat.zero_ne_one, decide_false, Bool.false_eq_true, if_false, Prod.mk.injEq] at hl hr
        have HL := Lib.hid hl; clear hl
        have HR := Lib.hid hr; clear hr
        clear h1 h2
    --CASES
    --CASES
    --CASES
    --CASES
    · obtain ⟨rfl, rfl, rfl⟩ := HL.out
      obtain ⟨rfl, rfl, rfl⟩ := HR.out
      rcases hcase with h | ⟨h, h3⟩ | ⟨h, h3, h4⟩ | ⟨h, h3, h4, h5⟩ | ⟨h, h3, h4, h5⟩
      · subst h
        go_enter Tryd.func77, Tryd.ntmps77
        go_wp2_with (first | (go_at_call 47; refine (isWidth_any _ _).mono ?_; rintro e wq ⟨rfl, rfl⟩) | (go_at_call 104; refine (rsized_any _ _ _ _ (by first | exact Rdr.fresh2 _ _ (by simp) | (first | assumption | exact Rdr.alloc2 (by assumption) _ | exact Rdr.setFar (by assumption) _ _ (by first | (simp; done) | (simp; omega) | omega)))).mono ?_; rintro e wr ⟨rfl, hR, hg⟩; (first | rw [HK.out] at hR ⊢ | rw [HV.out] at hR ⊢); dsimp only at hR ⊢; (have hz := hg.size; (try simp only [World.size_alloc, World.size_setCell, World.size_drew] at hz); obtain ⟨gc, gf⟩ := gcell hg; (try simp only [World.size_alloc, World.size_setCell, World.size_drew] at gc); (try simp only [World.size_alloc, World.size_setCell, World.size_drew] at gf); have rc := hR.c0; have rd := hR.c1; have rf := hR.f 0; have rg := hR.f 1); have q0 : w.heap.size < wr.heap.size := (by omega); have q1 : wr.heap.size ≠ w.heap.size + 1 := (by omega); have q3 : wr.heap.size ≠ w.heap.size := (by omega); have q4 : w.heap.size ≠ wr.heap.size := (by omega)) | (go_at_call 105; refine (numFlag1_any _ _ _ _ (by (first | assumption | exact Rdr.alloc2 (by assumption) _ | exact Rdr.setFar (by assumption) _ _ (by first | (simp; done) | (simp; omega) | omega)))).mono ?_; rintro e wf ⟨rfl, hR, hg⟩; rw [HF.out] at hR ⊢; dsimp only at hR ⊢; rw [HFE.out]; (have hz := hg.size; (try simp only [World.size_alloc, World.size_setCell, World.size_drew] at hz); obtain ⟨gc, gf⟩ := gcell hg; (try simp only [World.size_alloc, World.size_setCell, World.size_drew] at gc); (try simp only [World.size_alloc, World.size_setCell, World.size_drew] at gf); have rc := hR.c0; have rd := hR.c1; have rf := hR.f 0; have rg := hR.f 1); have q0 : w.heap.size < wf.heap.size := (by omega); have q2 : wr.heap.size < wf.heap.size := (by omega)) | (go_at_call 106; refine (text_any _ _ _ _ _ (by (first | assumption | exact Rdr.alloc2 (by assumption) _ | exact Rdr.setFar (by assumption) _ _ (by first | (simp; done) | (simp; omega) | omega)))).mono ?_; rintro e wt ⟨rfl, hR, hg⟩; (first | rw [HL.out] at hR ⊢ | rw [HR.out] at hR ⊢); dsimp only at hR ⊢; (have hz := hg.size; (try simp only [World.size_alloc, World.size_setCell, World.size_drew] at hz); obtain ⟨gc, gf⟩ := gcell hg; (try simp only [World.size_alloc, World.size_setCell, World.size_drew] at gc); (try simp only [World.size_alloc, World.size_setCell, World.size_drew] at gf); have rc := hR.c0; have rd := hR.c1; have rf := hR.f 0; have rg := hR.f 1); have q0 : w.heap.size < wt.heap.size := (by omega); have q2 : wr.heap.size < wt.heap.size := (by omega)) | (go_at_call 107; refine (nodeValid_any _ _ _ _ _ _).mono ?_; rintro e wy ⟨rfl, hby⟩; obtain ⟨hcy, hfy⟩ := bcell hby; have hzy := hby.size; (try simp only [World.size_alloc, World.size_setCell, World.size_drew] at hzy); (try simp only [World.size_alloc, World.size_setCell, World.size_drew] at hcy); (try simp only [World.size_alloc, World.size_setCell, World.size_drew] at hfy); have q0 : w.heap.size < wy.heap.size := (by omega); have q2 : wr.heap.size < wy.heap.size := (by omega)))
        all_goals
          have t0 : wf.cell? ⟨w.heap.size, 0, none⟩ = some (.string ⟨#[]⟩) := by go_simp
          have t1 : wf.cell? ⟨w.heap.size, 1, none⟩ = some (.string ⟨#[]⟩) := by go_simp
          have t2 : wf.cell? ⟨w.heap.size, 2, none⟩ = some (.string ⟨#[]⟩) := by go_simp
          have t3 : wf.cell? ⟨w.heap.size, 3, none⟩ = some (.string ⟨#[]⟩) := by go_simp
          refine bodyPost_ret (v := .tuple #[.agg #[.string ⟨#[]⟩, .string ⟨#[]⟩, .string ⟨#[]⟩, .string ⟨#[]⟩], .bool false]) (by simp [results, Tryd.results77, go_sem, t0, t1, t2, t3, q3, q4]; try rfl) rfl ⟨?_, ?_⟩
          · have e : z = none := by rw [← HZ.out]; exact if_neg (fun q => by simp at q)
            rw [e]; rfl
          · (repeat' (first | exact Below.refl _ _ | (with_reducible assumption) | (with_reducible refine Below.setCell ?_ (by first | (simp; done) | (simp; omega)) _) | refine below_rdr ?_ (by assumption) (by omega) | refine below_then ?_ (by assumption) | (with_reducible refine below_new2 ?_ _)))
      · subst h
        go_enter Tryd.func77, Tryd.ntmps77
        go_wp2_with (first | (go_at_call 47; refine (isWidth_any _ _).mono ?_; rintro e wq ⟨rfl, rfl⟩) | (go_at_call 104; refine (rsized_any _ _ _ _ (by first | exact Rdr.fresh2 _ _ (by simp) | (first | assumption | exact Rdr.alloc2 (by assumption) _ | exact Rdr.setFar (by assumption) _ _ (by first | (simp; done) | (simp; omega) | omega)))).mono ?_; rintro e wr ⟨rfl, hR, hg⟩; (first | rw [HK.out] at hR ⊢ | rw [HV.out] at hR ⊢); dsimp only at hR ⊢; (have hz := hg.size; (try simp only [World.size_alloc, World.size_setCell, World.size_drew] at hz); obtain ⟨gc, gf⟩ := gcell hg; (try simp only [World.size_alloc, World.size_setCell, World.size_drew] at gc); (try simp only [World.size_alloc, World.size_setCell, World.size_drew] at gf); have rc := hR.c0; have rd := hR.c1; have rf := hR.f 0; have rg := hR.f 1); have q0 : w.heap.size < wr.heap.size := (by omega); have q1 : wr.heap.size ≠ w.heap.size + 1 := (by omega); have q3 : wr.heap.size ≠ w.heap.size := (by omega); have q4 : w.heap.size ≠ wr.heap.size := (by omega)) | (go_at_call 105; refine (numFlag1_any _ _ _ _ (by (first | assumption | exact Rdr.alloc2 (by assumption) _ | exact Rdr.setFar (by assumption) _ _ (by first | (simp; done) | (simp; omega) | omega)))).mono ?_; rintro e wf ⟨rfl, hR, hg⟩; rw [HF.out] at hR ⊢; dsimp only at hR ⊢; rw [HFE.out]; (have hz := hg.size; (try simp only [World.size_alloc, World.size_setCell, World.size_drew] at hz); obtain ⟨gc, gf⟩ := gcell hg; (try simp only [World.size_alloc, World.size_setCell, World.size_drew] at gc); (try simp only [World.size_alloc, World.size_setCell, World.size_drew] at gf); have rc := hR.c0; have rd := hR.c1; have rf := hR.f 0; have rg := hR.f 1); have q0 : w.heap.size < wf.heap.size := (by omega); have q2 : wr.heap.size < wf.heap.size := (by omega)) | (go_at_call 106; refine (text_any _ _ _ _ _ (by (first | assumption | exact Rdr.alloc2 (by assumption) _ | exact Rdr.setFar (by assumption) _ _ (by first | (simp; done) | (simp; omega) | omega)))).mono ?_; rintro e wt ⟨rfl, hR, hg⟩; (first | rw [HL.out] at hR ⊢ | rw [HR.out] at hR ⊢); dsimp only at hR ⊢; (have hz := hg.size; (try simp only [World.size_alloc, World.size_setCell, World.size_drew] at hz); obtain ⟨gc, gf⟩ := gcell hg; (try simp only [World.size_alloc, World.size_setCell, World.size_drew] at gc); (try simp only [World.size_alloc, World.size_setCell, World.size_drew] at gf); have rc := hR.c0; have rd := hR.c1; have rf := hR.f 0; have rg := hR.f 1); have q0 : w.heap.size < wt.heap.size := (by omega); have q2 : wr.heap.size < wt.heap.size := (by omega)) | (go_at_call 107; refine (nodeValid_any _ _ _ _ _ _).mono ?_; rintro e wy ⟨rfl, hby⟩; obtain ⟨hcy, hfy⟩ := bcell hby; have hzy := hby.size; (try simp only [World.size_alloc, World.size_setCell, World.size_drew] at hzy); (try simp only [World.size_alloc, World.size_setCell, World.size_drew] at hcy); (try simp only [World.size_alloc, World.size_setCell, World.size_drew] at hfy); have q0 : w.heap.size < wy.heap.size := (by omega); have q2 : wr.heap.size < wy.heap.size := (by omega)))
        all_goals
          have t0 : wf.cell? ⟨w.heap.size, 0, none⟩ = some (.string ⟨#[]⟩) := by go_simp
          have t1 : wf.cell? ⟨w.heap.size, 1, none⟩ = some (.string ⟨#[]⟩) := by go_simp
          have t2 : wf.cell? ⟨w.heap.size, 2, none⟩ = some (.string ⟨#[]⟩) := by go_simp
          have t3 : wf.cell? ⟨w.heap.size, 3, none⟩ = some (.string ⟨#[]⟩) := by go_simp
          refine bodyPost_ret (v := .tuple #[.agg #[.string ⟨#[]⟩, .string ⟨#[]⟩, .string ⟨#[]⟩, .string ⟨#[]⟩], .bool false]) (by simp [results, Tryd.results77, go_sem, t0, t1, t2, t3, q3, q4]; try rfl) rfl ⟨?_, ?_⟩
          · have e : z = none := by rw [← HZ.out]; exact if_neg (fun q => by have e := HSZ.out; rw [h3, q.2.2.1] at e; simp at e)
            rw [e]; rfl
          · (repeat' (first | exact Below.refl _ _ | (with_reducible assumption) | (with_reducible refine Below.setCell ?_ (by first | (simp; done) | (simp; omega)) _) | refine below_rdr ?_ (by assumption) (by omega) | refine below_then ?_ (by assumption) | (with_reducible refine below_new2 ?_ _)))
      · subst h
        go_enter Tryd.func77, Tryd.ntmps77
        go_wp2_with (first | (go_at_call 47; refine (isWidth_any _ _).mono ?_; rintro e wq ⟨rfl, rfl⟩) | (go_at_call 104; refine (rsized_any _ _ _ _ (by first | exact Rdr.fresh2 _ _ (by simp) | (first | assumption | exact Rdr.alloc2 (by assumption) _ | exact Rdr.setFar (by assumption) _ _ (by first | (simp; done) | (simp; omega) | omega)))).mono ?_; rintro e wr ⟨rfl, hR, hg⟩; (first | rw [HK.out] at hR ⊢ | rw [HV.out] at hR ⊢); dsimp only at hR ⊢; (have hz := hg.size; (try simp only [World.size_alloc, World.size_setCell, World.size_drew] at hz); obtain ⟨gc, gf⟩ := gcell hg; (try simp only [World.size_alloc, World.size_setCell, World.size_drew] at gc); (try simp only [World.size_alloc, World.size_setCell, World.size_drew] at gf); have rc := hR.c0; have rd := hR.c1; have rf := hR.f 0; have rg := hR.f 1); have q0 : w.heap.size < wr.heap.size := (by omega); have q1 : wr.heap.size ≠ w.heap.size + 1 := (by omega); have q3 : wr.heap.size ≠ w.heap.size := (by omega); have q4 : w.heap.size ≠ wr.heap.size := (by omega)) | (go_at_call 105; refine (numFlag1_any _ _ _ _ (by (first | assumption | exact Rdr.alloc2 (by assumption) _ | exact Rdr.setFar (by assumption) _ _ (by first | (simp; done) | (simp; omega) | omega)))).mono ?_; rintro e wf ⟨rfl, hR, hg⟩; rw [HF.out] at hR ⊢; dsimp only at hR ⊢; rw [HFE.out]; (have hz := hg.size; (try simp only [World.size_alloc, World.size_setCell, World.size_drew] at hz); obtain ⟨gc, gf⟩ := gcell hg; (try simp only [World.size_alloc, World.size_setCell, World.size_drew] at gc); (try simp only [World.size_alloc, World.size_setCell, World.size_drew] at gf); have rc := hR.c0; have rd := hR.c1; have rf := hR.f 0; have rg := hR.f 1); have q0 : w.heap.size < wf.heap.size := (by omega); have q2 : wr.heap.size < wf.heap.size := (by omega)) | (go_at_call 106; refine (text_any _ _ _ _ _ (by (first | assumption | exact Rdr.alloc2 (by assumption) _ | exact Rdr.setFar (by assumption) _ _ (by first | (simp; done) | (simp; omega) | omega)))).mono ?_; rintro e wt ⟨rfl, hR, hg⟩; (first | rw [HL.out] at hR ⊢ | rw [HR.out] at hR ⊢); dsimp only at hR ⊢; (have hz := hg.size; (try simp only [World.size_alloc, World.size_setCell, World.size_drew] at hz); obtain ⟨gc, gf⟩ := gcell hg; (try simp only [World.size_alloc, World.size_setCell, World.size_drew] at gc); (try simp only [World.size_alloc, World.size_setCell, World.size_drew] at gf); have rc := hR.c0; have rd := hR.c1; have rf := hR.f 0; have rg := hR.f 1); have q0 : w.heap.size < wt.heap.size := (by omega); have q2 : wr.heap.size < wt.heap.size := (by omega)) | (go_at_call 107; refine (nodeValid_any _ _ _ _ _ _).mono ?_; rintro e wy ⟨rfl, hby⟩; obtain ⟨hcy, hfy⟩ := bcell hby; have hzy := hby.size; (try simp only [World.size_alloc, World.size_setCell, World.size_drew] at hzy); (try simp only [World.size_alloc, World.size_setCell, World.size_drew] at hcy); (try simp only [World.size_alloc, World.size_setCell, World.size_drew] at hfy); have q0 : w.heap.size < wy.heap.size := (by omega); have q2 : wr.heap.size < wy.heap.size := (by omega)))
        all_goals
          have t0 : wf.cell? ⟨w.heap.size, 0, none⟩ = some (.string ⟨#[]⟩) := by go_simp
          have t1 : wf.cell? ⟨w.heap.size, 1, none⟩ = some (.string ⟨#[]⟩) := by go_simp
          have t2 : wf.cell? ⟨w.heap.size, 2, none⟩ = some (.string ⟨#[]⟩) := by go_simp
          have t3 : wf.cell? ⟨w.heap.size, 3, none⟩ = some (.string ⟨#[]⟩) := by go_simp
          refine bodyPost_ret (v := .tuple #[.agg #[.string ⟨#[]⟩, .string ⟨#[]⟩, .string ⟨#[]⟩, .string ⟨#[]⟩], .bool false]) (by simp [results, Tryd.results77, go_sem, t0, t1, t2, t3, q3, q4]; try rfl) rfl ⟨?_, ?_⟩
          · have e : z = none := by rw [← HZ.out]; exact if_neg (fun q => by have := q.2.2.2.1; omega)
            rw [e]; rfl
          · (repeat' (first | exact Below.refl _ _ | (with_reducible assumption) | (with_reducible refine Below.setCell ?_ (by first | (simp; done) | (simp; omega)) _) | refine below_rdr ?_ (by assumption) (by omega) | refine below_then ?_ (by assumption) | (with_reducible refine below_new2 ?_ _)))
      · subst h
        go_enter Tryd.func77, Tryd.ntmps77
        go_wp2_with (first | (go_at_call 47; refine (isWidth_any _ _).mono ?_; rintro e wq ⟨rfl, rfl⟩) | (go_at_call 104; refine (rsized_any _ _ _ _ (by first | exact Rdr.fresh2 _ _ (by simp) | (first | assumption | exact Rdr.alloc2 (by assumption) _ | exact Rdr.setFar (by assumption) _ _ (by first | (simp; done) | (simp; omega) | omega)))).mono ?_; rintro e wr ⟨rfl, hR, hg⟩; (first | rw [HK.out] at hR ⊢ | rw [HV.out] at hR ⊢); dsimp only at hR ⊢; (have hz := hg.size; (try simp only [World.size_alloc, World.size_setCell, World.size_drew] at hz); obtain ⟨gc, gf⟩ := gcell hg; (try simp only [World.size_alloc, World.size_setCell, World.size_drew] at gc); (try simp only [World.size_alloc, World.size_setCell, World.size_drew] at gf); have rc := hR.c0; have rd := hR.c1; have rf := hR.f 0; have rg := hR.f 1); have q0 : w.heap.size < wr.heap.size := (by omega); have q1 : wr.heap.size ≠ w.heap.size + 1 := (by omega); have q3 : wr.heap.size ≠ w.heap.size := (by omega); have q4 : w.heap.size ≠ wr.heap.size := (by omega)) | (go_at_call 105; refine (numFlag1_any _ _ _ _ (by (first | assumption | exact Rdr.alloc2 (by assumption) _ | exact Rdr.setFar (by assumption) _ _ (by first | (simp; done) | (simp; omega) | omega)))).mono ?_; rintro e wf ⟨rfl, hR, hg⟩; rw [HF.out] at hR ⊢; dsimp only at hR ⊢; rw [HFE.out]; (have hz := hg.size; (try simp only [World.size_alloc, World.size_setCell, World.size_drew] at hz); obtain ⟨gc, gf⟩ := gcell hg; (try simp only [World.size_alloc, World.size_setCell, World.size_drew] at gc); (try simp only [World.size_alloc, World.size_setCell, World.size_drew] at gf); have rc := hR.c0; have rd := hR.c1; have rf := hR.f 0; have rg := hR.f 1); have q0 : w.heap.size < wf.heap.size := (by omega); have q2 : wr.heap.size < wf.heap.size := (by omega)) | (go_at_call 106; refine (text_any _ _ _ _ _ (by (first | assumption | exact Rdr.alloc2 (by assumption) _ | exact Rdr.setFar (by assumption) _ _ (by first | (simp; done) | (simp; omega) | omega)))).mono ?_; rintro e wt ⟨rfl, hR, hg⟩; (first | rw [HL.out] at hR ⊢ | rw [HR.out] at hR ⊢); dsimp only at hR ⊢; (have hz := hg.size; (try simp only [World.size_alloc, World.size_setCell, World.size_drew] at hz); obtain ⟨gc, gf⟩ := gcell hg; (try simp only [World.size_alloc, World.size_setCell, World.size_drew] at gc); (try simp only [World.size_alloc, World.size_setCell, World.size_drew] at gf); have rc := hR.c0; have rd := hR.c1; have rf := hR.f 0; have rg := hR.f 1); have q0 : w.heap.size < wt.heap.size := (by omega); have q2 : wr.heap.size < wt.heap.size := (by omega)) | (go_at_call 107; refine (nodeValid_any _ _ _ _ _ _).mono ?_; rintro e wy ⟨rfl, hby⟩; obtain ⟨hcy, hfy⟩ := bcell hby; have hzy := hby.size; (try simp only [World.size_alloc, World.size_setCell, World.size_drew] at hzy); (try simp only [World.size_alloc, World.size_setCell, World.size_drew] at hcy); (try simp only [World.size_alloc, World.size_setCell, World.size_drew] at hfy); have q0 : w.heap.size < wy.heap.size := (by omega); have q2 : wr.heap.size < wy.heap.size := (by omega)))
        all_goals
          have t0 : wy.cell? ⟨w.heap.size, 0, none⟩ = some (.string ⟨#[]⟩) := by go_simp
          have t1 : wy.cell? ⟨w.heap.size, 1, none⟩ = some (.string ⟨#[]⟩) := by go_simp
          have t2 : wy.cell? ⟨w.heap.size, 2, none⟩ = some (.string ⟨#[]⟩) := by go_simp
          have t3 : wy.cell? ⟨w.heap.size, 3, none⟩ = some (.string ⟨#[]⟩) := by go_simp
          refine bodyPost_ret (v := .tuple #[.agg #[.string ⟨#[]⟩, .string ⟨#[]⟩, .string ⟨#[]⟩, .string ⟨#[]⟩], .bool false]) (by simp [results, Tryd.results77, go_sem, t0, t1, t2, t3, q3, q4]; try rfl) rfl ⟨?_, ?_⟩
          · have e : z = none := by rw [← HZ.out]; exact if_neg (fun q => by rw [h5] at q; simp at q)
            rw [e]; rfl
          · (repeat' (first | exact Below.refl _ _ | (with_reducible assumption) | (with_reducible refine Below.setCell ?_ (by first | (simp; done) | (simp; omega)) _) | refine below_rdr ?_ (by assumption) (by omega) | refine below_then ?_ (by assumption) | (with_reducible refine below_new2 ?_ _)))
      · subst h
        go_enter Tryd.func77, Tryd.ntmps77
        go_wp2_with (first | (go_at_call 47; refine (isWidth_any _ _).mono ?_; rintro e wq ⟨rfl, rfl⟩) | (go_at_call 104; refine (rsized_any _ _ _ _ (by first | exact Rdr.fresh2 _ _ (by simp) | (first | assumption | exact Rdr.alloc2 (by assumption) _ | exact Rdr.setFar (by assumption) _ _ (by first | (simp; done) | (simp; omega) | omega)))).mono ?_; rintro e wr ⟨rfl, hR, hg⟩; (first | rw [HK.out] at hR ⊢ | rw [HV.out] at hR ⊢); dsimp only at hR ⊢; (have hz := hg.size; (try simp only [World.size_alloc, World.size_setCell, World.size_drew] at hz); obtain ⟨gc, gf⟩ := gcell hg; (try simp only [World.size_alloc, World.size_setCell, World.size_drew] at gc); (try simp only [World.size_alloc, World.size_setCell, World.size_drew] at gf); have rc := hR.c0; have rd := hR.c1; have rf := hR.f 0; have rg := hR.f 1); have q0 : w.heap.size < wr.heap.size := (by omega); have q1 : wr.heap.size ≠ w.heap.size + 1 := (by omega); have q3 : wr.heap.size ≠ w.heap.size := (by omega); have q4 : w.heap.size ≠ wr.heap.size := (by omega)) | (go_at_call 105; refine (numFlag1_any _ _ _ _ (by (first | assumption | exact Rdr.alloc2 (by assumption) _ | exact Rdr.setFar (by assumption) _ _ (by first | (simp; done) | (simp; omega) | omega)))).mono ?_; rintro e wf ⟨rfl, hR, hg⟩; rw [HF.out] at hR ⊢; dsimp only at hR ⊢; rw [HFE.out]; (have hz := hg.size; (try simp only [World.size_alloc, World.size_setCell, World.size_drew] at hz); obtain ⟨gc, gf⟩ := gcell hg; (try simp only [World.size_alloc, World.size_setCell, World.size_drew] at gc); (try simp only [World.size_alloc, World.size_setCell, World.size_drew] at gf); have rc := hR.c0; have rd := hR.c1; have rf := hR.f 0; have rg := hR.f 1); have q0 : w.heap.size < wf.heap.size := (by omega); have q2 : wr.heap.size < wf.heap.size := (by omega)) | (go_at_call 106; refine (text_any _ _ _ _ _ (by (first | assumption | exact Rdr.alloc2 (by assumption) _ | exact Rdr.setFar (by assumption) _ _ (by first | (simp; done) | (simp; omega) | omega)))).mono ?_; rintro e wt ⟨rfl, hR, hg⟩; (first | rw [HL.out] at hR ⊢ | rw [HR.out] at hR ⊢); dsimp only at hR ⊢; (have hz := hg.size; (try simp only [World.size_alloc, World.size_setCell, World.size_drew] at hz); obtain ⟨gc, gf⟩ := gcell hg; (try simp only [World.size_alloc, World.size_setCell, World.size_drew] at gc); (try simp only [World.size_alloc, World.size_setCell, World.size_drew] at gf); have rc := hR.c0; have rd := hR.c1; have rf := hR.f 0; have rg := hR.f 1); have q0 : w.heap.size < wt.heap.size := (by omega); have q2 : wr.heap.size < wt.heap.size := (by omega)) | (go_at_call 107; refine (nodeValid_any _ _ _ _ _ _).mono ?_; rintro e wy ⟨rfl, hby⟩; obtain ⟨hcy, hfy⟩ := bcell hby; have hzy := hby.size; (try simp only [World.size_alloc, World.size_setCell, World.size_drew] at hzy); (try simp only [World.size_alloc, World.size_setCell, World.size_drew] at hcy); (try simp only [World.size_alloc, World.size_setCell, World.size_drew] at hfy); have q0 : w.heap.size < wy.heap.size := (by omega); have q2 : wr.heap.size < wy.heap.size := (by omega)))
        all_goals
          have t0 : wy.cell? ⟨w.heap.size, 0, none⟩ = some (.string ⟨#[]⟩) := by go_simp
          have t1 : wy.cell? ⟨w.heap.size, 1, none⟩ = some (.string ⟨#[]⟩) := by go_simp
          have t2 : wy.cell? ⟨w.heap.size, 2, none⟩ = some (.string ⟨#[]⟩) := by go_simp
          have t3 : wy.cell? ⟨w.heap.size, 3, none⟩ = some (.string ⟨#[]⟩) := by go_simp
          refine bodyPost_ret (v := .tuple #[.agg #[.string k, .string v, .string ⟨#[]⟩, .string ⟨#[]⟩], .bool true]) (by simp [results, Tryd.results77, go_sem, t0, t1, t2, t3, q3, q4]; try rfl) rfl ⟨?_, ?_⟩
          · have e : z = some (k, v, ⟨#[]⟩, ⟨#[]⟩) := by rw [← HZ.out]; have e := HSZ.out; rw [h3] at e; have e2 := of_decide_eq_true e.symm; have e3 : f ≤ 3 := (by omega); exact if_pos (by simp [hw, e2, h5, e3])
            rw [e]; rfl
          · (repeat' (first | exact Below.refl _ _ | (with_reducible assumption) | (with_reducible refine Below.setCell ?_ (by first | (simp; done) | (simp; omega)) _) | refine below_rdr ?_ (by assumption) (by omega) | refine below_then ?_ (by assumption) | (with_reducible refine below_new2 ?_ _)))
    · obtain ⟨rfl, rfl, rfl⟩ := HL.out
      rcases hcase with h | ⟨h, h3⟩ | ⟨h, h3, h4⟩ | ⟨h, h3, h4, h5⟩ | ⟨h, h3, h4, h5⟩
      · subst h
        go_enter Tryd.func77, Tryd.ntmps77
        go_wp2_with (first | (go_at_call 47; refine (isWidth_any _ _).mono ?_; rintro e wq ⟨rfl, rfl⟩) | (go_at_call 104; refine (rsized_any _ _ _ _ (by first | exact Rdr.fresh2 _ _ (by simp) | (first | assumption | exact Rdr.alloc2 (by assumption) _ | exact Rdr.setFar (by assumption) _ _ (by first | (simp; done) | (simp; omega) | omega)))).mono ?_; rintro e wr ⟨rfl, hR, hg⟩; (first | rw [HK.out] at hR ⊢ | rw [HV.out] at hR ⊢); dsimp only at hR ⊢; (have hz := hg.size; (try simp only [World.size_alloc, World.size_setCell, World.size_drew] at hz); obtain ⟨gc, gf⟩ := gcell hg; (try simp only [World.size_alloc, World.size_setCell, World.size_drew] at gc); (try simp only [World.size_alloc, World.size_setCell, World.size_drew] at gf); have rc := hR.c0; have rd := hR.c1; have rf := hR.f 0; have rg := hR.f 1); have q0 : w.heap.size < wr.heap.size := (by omega); have q1 : wr.heap.size ≠ w.heap.size + 1 := (by omega); have q3 : wr.heap.size ≠ w.heap.size := (by omega); have q4 : w.heap.size ≠ wr.heap.size := (by omega)) | (go_at_call 105; refine (numFlag1_any _ _ _ _ (by (first | assumption | exact Rdr.alloc2 (by assumption) _ | exact Rdr.setFar (by assumption) _ _ (by first | (simp; done) | (simp; omega) | omega)))).mono ?_; rintro e wf ⟨rfl, hR, hg⟩; rw [HF.out] at hR ⊢; dsimp only at hR ⊢; rw [HFE.out]; (have hz := hg.size; (try simp only [World.size_alloc, World.size_setCell, World.size_drew] at hz); obtain ⟨gc, gf⟩ := gcell hg; (try simp only [World.size_alloc, World.size_setCell, World.size_drew] at gc); (try simp only [World.size_alloc, World.size_setCell, World.size_drew] at gf); have rc := hR.c0; have rd := hR.c1; have rf := hR.f 0; have rg := hR.f 1); have q0 : w.heap.size < wf.heap.size := (by omega); have q2 : wr.heap.size < wf.heap.size := (by omega)) | (go_at_call 106; refine (text_any _ _ _ _ _ (by (first | assumption | exact Rdr.alloc2 (by assumption) _ | exact Rdr.setFar (by assumption) _ _ (by first | (simp; done) | (simp; omega) | omega)))).mono ?_; rintro e wt ⟨rfl, hR, hg⟩; (first | rw [HL.out] at hR ⊢ | rw [HR.out] at hR ⊢); dsimp only at hR ⊢; (have hz := hg.size; (try simp only [World.size_alloc, World.size_setCell, World.size_drew] at hz); obtain ⟨gc, gf⟩ := gcell hg; (try simp only [World.size_alloc, World.size_setCell, World.size_drew] at gc); (try simp only [World.size_alloc, World.size_setCell, World.size_drew] at gf); have rc := hR.c0; have rd := hR.c1; have rf := hR.f 0; have rg := hR.f 1); have q0 : w.heap.size < wt.heap.size := (by omega); have q2 : wr.heap.size < wt.heap.size := (by omega)) | (go_at_call 107; refine (nodeValid_any _ _ _ _ _ _).mono ?_; rintro e wy ⟨rfl, hby⟩; obtain ⟨hcy, hfy⟩ := bcell hby; have hzy := hby.size; (try simp only [World.size_alloc, World.size_setCell, World.size_drew] at hzy); (try simp only [World.size_alloc, World.size_setCell, World.size_drew] at hcy); (try simp only [World.size_alloc, World.size_setCell, World.size_drew] at hfy); have q0 : w.heap.size < wy.heap.size := (by omega); have q2 : wr.heap.size < wy.heap.size := (by omega)))
        all_goals
          have t0 : wt.cell? ⟨w.heap.size, 0, none⟩ = some (.string ⟨#[]⟩) := by go_simp
          have t1 : wt.cell? ⟨w.heap.size, 1, none⟩ = some (.string ⟨#[]⟩) := by go_simp
          have t2 : wt.cell? ⟨w.heap.size, 2, none⟩ = some (.string ⟨#[]⟩) := by go_simp
          have t3 : wt.cell? ⟨w.heap.size, 3, none⟩ = some (.string ⟨#[]⟩) := by go_simp
          refine bodyPost_ret (v := .tuple #[.agg #[.string ⟨#[]⟩, .string ⟨#[]⟩, .string ⟨#[]⟩, .string ⟨#[]⟩], .bool false]) (by simp [results, Tryd.results77, go_sem, t0, t1, t2, t3, q3, q4]; try rfl) rfl ⟨?_, ?_⟩
          · have e : z = none := by rw [← HZ.out]; exact if_neg (fun q => by simp at q)
            rw [e]; rfl
          · (repeat' (first | exact Below.refl _ _ | (with_reducible assumption) | (with_reducible refine Below.setCell ?_ (by first | (simp; done) | (simp; omega)) _) | refine below_rdr ?_ (by assumption) (by omega) | refine below_then ?_ (by assumption) | (with_reducible refine below_new2 ?_ _)))
      · subst h
        go_enter Tryd.func77, Tryd.ntmps77
        go_wp2_with (first | (go_at_call 47; refine (isWidth_any _ _).mono ?_; rintro e wq ⟨rfl, rfl⟩) | (go_at_call 104; refine (rsized_any _ _ _ _ (by first | exact Rdr.fresh2 _ _ (by simp) | (first | assumption | exact Rdr.alloc2 (by assumption) _ | exact Rdr.setFar (by assumption) _ _ (by first | (simp; done) | (simp; omega) | omega)))).mono ?_; rintro e wr ⟨rfl, hR, hg⟩; (first | rw [HK.out] at hR ⊢ | rw [HV.out] at hR ⊢); dsimp only at hR ⊢; (have hz := hg.size; (try simp only [World.size_alloc, World.size_setCell, World.size_drew] at hz); obtain ⟨gc, gf⟩ := gcell hg; (try simp only [World.size_alloc, World.size_setCell, World.size_drew] at gc); (try simp only [World.size_alloc, World.size_setCell, World.size_drew] at gf); have rc := hR.c0; have rd := hR.c1; have rf := hR.f 0; have rg := hR.f 1); have q0 : w.heap.size < wr.heap.size := (by omega); have q1 : wr.heap.size ≠ w.heap.size + 1 := (by omega); have q3 : wr.heap.size ≠ w.heap.size := (by omega); have q4 : w.heap.size ≠ wr.heap.size := (by omega)) | (go_at_call 105; refine (numFlag1_any _ _ _ _ (by (first | assumption | exact Rdr.alloc2 (by assumption) _ | exact Rdr.setFar (by assumption) _ _ (by first | (simp; done) | (simp; omega) | omega)))).mono ?_; rintro e wf ⟨rfl, hR, hg⟩; rw [HF.out] at hR ⊢; dsimp only at hR ⊢; rw [HFE.out]; (have hz := hg.size; (try simp only [World.size_alloc, World.size_setCell, World.size_drew] at hz); obtain ⟨gc, gf⟩ := gcell hg; (try simp only [World.size_alloc, World.size_setCell, World.size_drew] at gc); (try simp only [World.size_alloc, World.size_setCell, World.size_drew] at gf); have rc := hR.c0; have rd := hR.c1; have rf := hR.f 0; have rg := hR.f 1); have q0 : w.heap.size < wf.heap.size := (by omega); have q2 : wr.heap.size < wf.heap.size := (by omega)) | (go_at_call 106; refine (text_any _ _ _ _ _ (by (first | assumption | exact Rdr.alloc2 (by assumption) _ | exact Rdr.setFar (by assumption) _ _ (by first | (simp; done) | (simp; omega) | omega)))).mono ?_; rintro e wt ⟨rfl, hR, hg⟩; (first | rw [HL.out] at hR ⊢ | rw [HR.out] at hR ⊢); dsimp only at hR ⊢; (have hz := hg.size; (try simp only [World.size_alloc, World.size_setCell, World.size_drew] at hz); obtain ⟨gc, gf⟩ := gcell hg; (try simp only [World.size_alloc, World.size_setCell, World.size_drew] at gc); (try simp only [World.size_alloc, World.size_setCell, World.size_drew] at gf); have rc := hR.c0; have rd := hR.c1; have rf := hR.f 0; have rg := hR.f 1); have q0 : w.heap.size < wt.heap.size := (by omega); have q2 : wr.heap.size < wt.heap.size := (by omega)) | (go_at_call 107; refine (nodeValid_any _ _ _ _ _ _).mono ?_; rintro e wy ⟨rfl, hby⟩; obtain ⟨hcy, hfy⟩ := bcell hby; have hzy := hby.size; (try simp only [World.size_alloc, World.size_setCell, World.size_drew] at hzy); (try simp only [World.size_alloc, World.size_setCell, World.size_drew] at hcy); (try simp only [World.size_alloc, World.size_setCell, World.size_drew] at hfy); have q0 : w.heap.size < wy.heap.size := (by omega); have q2 : wr.heap.size < wy.heap.size := (by omega)))
        all_goals
          have t0 : wt.cell? ⟨w.heap.size, 0, none⟩ = some (.string ⟨#[]⟩) := by go_simp
          have t1 : wt.cell? ⟨w.heap.size, 1, none⟩ = some (.string ⟨#[]⟩) := by go_simp
          have t2 : wt.cell? ⟨w.heap.size, 2, none⟩ = some (.string ⟨#[]⟩) := by go_simp
          have t3 : wt.cell? ⟨w.heap.size, 3, none⟩ = some (.string ⟨#[]⟩) := by go_simp
          refine bodyPost_ret (v := .tuple #[.agg #[.string ⟨#[]⟩, .string ⟨#[]⟩, .string ⟨#[]⟩, .string ⟨#[]⟩], .bool false]) (by simp [results, Tryd.results77, go_sem, t0, t1, t2, t3, q3, q4]; try rfl) rfl ⟨?_, ?_⟩
          · have e : z = none := by rw [← HZ.out]; exact if_neg (fun q => by have e := HSZ.out; rw [h3, q.2.2.1] at e; simp at e)
            rw [e]; rfl
          · (repeat' (first | exact Below.refl _ _ | (with_reducible assumption) | (with_reducible refine Below.setCell ?_ (by first | (simp; done) | (simp; omega)) _) | refine below_rdr ?_ (by assumption) (by omega) | refine below_then ?_ (by assumption) | (with_reducible refine below_new2 ?_ _)))
      · subst h
        go_enter Tryd.func77, Tryd.ntmps77
        go_wp2_with (first | (go_at_call 47; refine (isWidth_any _ _).mono ?_; rintro e wq ⟨rfl, rfl⟩) | (go_at_call 104; refine (rsized_any _ _ _ _ (by first | exact Rdr.fresh2 _ _ (by simp) | (first | assumption | exact Rdr.alloc2 (by assumption) _ | exact Rdr.setFar (by assumption) _ _ (by first | (simp; done) | (simp; omega) | omega)))).mono ?_; rintro e wr ⟨rfl, hR, hg⟩; (first | rw [HK.out] at hR ⊢ | rw [HV.out] at hR ⊢); dsimp only at hR ⊢; (have hz := hg.size; (try simp only [World.size_alloc, World.size_setCell, World.size_drew] at hz); obtain ⟨gc, gf⟩ := gcell hg; (try simp only [World.size_alloc, World.size_setCell, World.size_drew] at gc); (try simp only [World.size_alloc, World.size_setCell, World.size_drew] at gf); have rc := hR.c0; have rd := hR.c1; have rf := hR.f 0; have rg := hR.f 1); have q0 : w.heap.size < wr.heap.size := (by omega); have q1 : wr.heap.size ≠ w.heap.size + 1 := (by omega); have q3 : wr.heap.size ≠ w.heap.size := (by omega); have q4 : w.heap.size ≠ wr.heap.size := (by omega)) | (go_at_call 105; refine (numFlag1_any _ _ _ _ (by (first | assumption | exact Rdr.alloc2 (by assumption) _ | exact Rdr.setFar (by assumption) _ _ (by first | (simp; done) | (simp; omega) | omega)))).mono ?_; rintro e wf ⟨rfl, hR, hg⟩; rw [HF.out] at hR ⊢; dsimp only at hR ⊢; rw [HFE.out]; (have hz := hg.size; (try simp only [World.size_alloc, World.size_setCell, World.size_drew] at hz); obtain ⟨gc, gf⟩ := gcell hg; (try simp only [World.size_alloc, World.size_setCell, World.size_drew] at gc); (try simp only [World.size_alloc, World.size_setCell, World.size_drew] at gf); have rc := hR.c0; have rd := hR.c1; have rf := hR.f 0; have rg := hR.f 1); have q0 : w.heap.size < wf.heap.size := (by omega); have q2 : wr.heap.size < wf.heap.size := (by omega)) | (go_at_call 106; refine (text_any _ _ _ _ _ (by (first | assumption | exact Rdr.alloc2 (by assumption) _ | exact Rdr.setFar (by assumption) _ _ (by first | (simp; done) | (simp; omega) | omega)))).mono ?_; rintro e wt ⟨rfl, hR, hg⟩; (first | rw [HL.out] at hR ⊢ | rw [HR.out] at hR ⊢); dsimp only at hR ⊢; (have hz := hg.size; (try simp only [World.size_alloc, World.size_setCell, World.size_drew] at hz); obtain ⟨gc, gf⟩ := gcell hg; (try simp only [World.size_alloc, World.size_setCell, World.size_drew] at gc); (try simp only [World.size_alloc, World.size_setCell, World.size_drew] at gf); have rc := hR.c0; have rd := hR.c1; have rf := hR.f 0; have rg := hR.f 1); have q0 : w.heap.size < wt.heap.size := (by omega); have q2 : wr.heap.size < wt.heap.size := (by omega)) | (go_at_call 107; refine (nodeValid_any _ _ _ _ _ _).mono ?_; rintro e wy ⟨rfl, hby⟩; obtain ⟨hcy, hfy⟩ := bcell hby; have hzy := hby.size; (try simp only [World.size_alloc, World.size_setCell, World.size_drew] at hzy); (try simp only [World.size_alloc, World.size_setCell, World.size_drew] at hcy); (try simp only [World.size_alloc, World.size_setCell, World.size_drew] at hfy); have q0 : w.heap.size < wy.heap.size := (by omega); have q2 : wr.heap.size < wy.heap.size := (by omega)))
        all_goals
          have t0 : wt.cell? ⟨w.heap.size, 0, none⟩ = some (.string ⟨#[]⟩) := by go_simp
          have t1 : wt.cell? ⟨w.heap.size, 1, none⟩ = some (.string ⟨#[]⟩) := by go_simp
          have t2 : wt.cell? ⟨w.heap.size, 2, none⟩ = some (.string ⟨#[]⟩) := by go_simp
          have t3 : wt.cell? ⟨w.heap.size, 3, none⟩ = some (.string ⟨#[]⟩) := by go_simp
          refine bodyPost_ret (v := .tuple #[.agg #[.string ⟨#[]⟩, .string ⟨#[]⟩, .string ⟨#[]⟩, .string ⟨#[]⟩], .bool false]) (by simp [results, Tryd.results77, go_sem, t0, t1, t2, t3, q3, q4]; try rfl) rfl ⟨?_, ?_⟩
          · have e : z = none := by rw [← HZ.out]; exact if_neg (fun q => by have := q.2.2.2.1; omega)
            rw [e]; rfl
          · (repeat' (first | exact Below.refl _ _ | (with_reducible assumption) | (with_reducible refine Below.setCell ?_ (by first | (simp; done) | (simp; omega)) _) | refine below_rdr ?_ (by assumption) (by omega) | refine below_then ?_ (by assumption) | (with_reducible refine below_new2 ?_ _)))
      · subst h
        go_enter Tryd.func77, Tryd.ntmps77
        go_wp2_with (first | (go_at_call 47; refine (isWidth_any _ _).mono ?_; rintro e wq ⟨rfl, rfl⟩) | (go_at_call 104; refine (rsized_any _ _ _ _ (by first | exact Rdr.fresh2 _ _ (by simp) | (first | assumption | exact Rdr.alloc2 (by assumption) _ | exact Rdr.setFar (by assumption) _ _ (by first | (simp; done) | (simp; omega) | omega)))).mono ?_; rintro e wr ⟨rfl, hR, hg⟩; (first | rw [HK.out] at hR ⊢ | rw [HV.out] at hR ⊢); dsimp only at hR ⊢; (have hz := hg.size; (try simp only [World.size_alloc, World.size_setCell, World.size_drew] at hz); obtain ⟨gc, gf⟩ := gcell hg; (try simp only [World.size_alloc, World.size_setCell, World.size_drew] at gc); (try simp only [World.size_alloc, World.size_setCell, World.size_drew] at gf); have rc := hR.c0; have rd := hR.c1; have rf := hR.f 0; have rg := hR.f 1); have q0 : w.heap.size < wr.heap.size := (by omega); have q1 : wr.heap.size ≠ w.heap.size + 1 := (by omega); have q3 : wr.heap.size ≠ w.heap.size := (by omega); have q4 : w.heap.size ≠ wr.heap.size := (by omega)) | (go_at_call 105; refine (numFlag1_any _ _ _ _ (by (first | assumption | exact Rdr.alloc2 (by assumption) _ | exact Rdr.setFar (by assumption) _ _ (by first | (simp; done) | (simp; omega) | omega)))).mono ?_; rintro e wf ⟨rfl, hR, hg⟩; rw [HF.out] at hR ⊢; dsimp only at hR ⊢; rw [HFE.out]; (have hz := hg.size; (try simp only [World.size_alloc, World.size_setCell, World.size_drew] at hz); obtain ⟨gc, gf⟩ := gcell hg; (try simp only [World.size_alloc, World.size_setCell, World.size_drew] at gc); (try simp only [World.size_alloc, World.size_setCell, World.size_drew] at gf); have rc := hR.c0; have rd := hR.c1; have rf := hR.f 0; have rg := hR.f 1); have q0 : w.heap.size < wf.heap.size := (by omega); have q2 : wr.heap.size < wf.heap.size := (by omega)) | (go_at_call 106; refine (text_any _ _ _ _ _ (by (first | assumption | exact Rdr.alloc2 (by assumption) _ | exact Rdr.setFar (by assumption) _ _ (by first | (simp; done) | (simp; omega) | omega)))).mono ?_; rintro e wt ⟨rfl, hR, hg⟩; (first | rw [HL.out] at hR ⊢ | rw [HR.out] at hR ⊢); dsimp only at hR ⊢; (have hz := hg.size; (try simp only [World.size_alloc, World.size_setCell, World.size_drew] at hz); obtain ⟨gc, gf⟩ := gcell hg; (try simp only [World.size_alloc, World.size_setCell, World.size_drew] at gc); (try simp only [World.size_alloc, World.size_setCell, World.size_drew] at gf); have rc := hR.c0; have rd := hR.c1; have rf := hR.f 0; have rg := hR.f 1); have q0 : w.heap.size < wt.heap.size := (by omega); have q2 : wr.heap.size < wt.heap.size := (by omega)) | (go_at_call 107; refine (nodeValid_any _ _ _ _ _ _).mono ?_; rintro e wy ⟨rfl, hby⟩; obtain ⟨hcy, hfy⟩ := bcell hby; have hzy := hby.size; (try simp only [World.size_alloc, World.size_setCell, World.size_drew] at hzy); (try simp only [World.size_alloc, World.size_setCell, World.size_drew] at hcy); (try simp only [World.size_alloc, World.size_setCell, World.size_drew] at hfy); have q0 : w.heap.size < wy.heap.size := (by omega); have q2 : wr.heap.size < wy.heap.size := (by omega)))
        all_goals
          have t0 : wy.cell? ⟨w.heap.size, 0, none⟩ = some (.string ⟨#[]⟩) := by go_simp
          have t1 : wy.cell? ⟨w.heap.size, 1, none⟩ = some (.string ⟨#[]⟩) := by go_simp
          have t2 : wy.cell? ⟨w.heap.size, 2, none⟩ = some (.string ⟨#[]⟩) := by go_simp
          have t3 : wy.cell? ⟨w.heap.size, 3, none⟩ = some (.string ⟨#[]⟩) := by go_simp
          refine bodyPost_ret (v := .tuple #[.agg #[.string ⟨#[]⟩, .string ⟨#[]⟩, .string ⟨#[]⟩, .string ⟨#[]⟩], .bool false]) (by simp [results, Tryd.results77, go_sem, t0, t1, t2, t3, q3, q4]; try rfl) rfl ⟨?_, ?_⟩
          · have e : z = none := by rw [← HZ.out]; exact if_neg (fun q => by rw [h5] at q; simp at q)
            rw [e]; rfl
          · (repeat' (first | exact Below.refl _ _ | (with_reducible assumption) | (with_reducible refine Below.setCell ?_ (by first | (simp; done) | (simp; omega)) _) | refine below_rdr ?_ (by assumption) (by omega) | refine below_then ?_ (by assumption) | (with_reducible refine below_new2 ?_ _)))
      · subst h
        go_enter Tryd.func77, Tryd.ntmps77
        go_wp2_with (first | (go_at_call 47; refine (isWidth_any _ _).mono ?_; rintro e wq ⟨rfl, rfl⟩) | (go_at_call 104; refine (rsized_any _ _ _ _ (by first | exact Rdr.fresh2 _ _ (by simp) | (first | assumption | exact Rdr.alloc2 (by assumption) _ | exact Rdr.setFar (by assumption) _ _ (by first | (simp; done) | (simp; omega) | omega)))).mono ?_; rintro e wr ⟨rfl, hR, hg⟩; (first | rw [HK.out] at hR ⊢ | rw [HV.out] at hR ⊢); dsimp only at hR ⊢; (have hz := hg.size; (try simp only [World.size_alloc, World.size_setCell, World.size_drew] at hz); obtain ⟨gc, gf⟩ := gcell hg; (try simp only [World.size_alloc, World.size_setCell, World.size_drew] at gc); (try simp only [World.size_alloc, World.size_setCell, World.size_drew] at gf); have rc := hR.c0; have rd := hR.c1; have rf := hR.f 0; have rg := hR.f 1); have q0 : w.heap.size < wr.heap.size := (by omega); have q1 : wr.heap.size ≠ w.heap.size + 1 := (by omega); have q3 : wr.heap.size ≠ w.heap.size := (by omega); have q4 : w.heap.size ≠ wr.heap.size := (by omega)) | (go_at_call 105; refine (numFlag1_any _ _ _ _ (by (first | assumption | exact Rdr.alloc2 (by assumption) _ | exact Rdr.setFar (by assumption) _ _ (by first | (simp; done) | (simp; omega) | omega)))).mono ?_; rintro e wf ⟨rfl, hR, hg⟩; rw [HF.out] at hR ⊢; dsimp only at hR ⊢; rw [HFE.out]; (have hz := hg.size; (try simp only [World.size_alloc, World.size_setCell, World.size_drew] at hz); obtain ⟨gc, gf⟩ := gcell hg; (try simp only [World.size_alloc, World.size_setCell, World.size_drew] at gc); (try simp only [World.size_alloc, World.size_setCell, World.size_drew] at gf); have rc := hR.c0; have rd := hR.c1; have rf := hR.f 0; have rg := hR.f 1); have q0 : w.heap.size < wf.heap.size := (by omega); have q2 : wr.heap.size < wf.heap.size := (by omega)) | (go_at_call 106; refine (text_any _ _ _ _ _ (by (first | assumption | exact Rdr.alloc2 (by assumption) _ | exact Rdr.setFar (by assumption) _ _ (by first | (simp; done) | (simp; omega) | omega)))).mono ?_; rintro e wt ⟨rfl, hR, hg⟩; (first | rw [HL.out] at hR ⊢ | rw [HR.out] at hR ⊢); dsimp only at hR ⊢; (have hz := hg.size; (try simp only [World.size_alloc, World.size_setCell, World.size_drew] at hz); obtain ⟨gc, gf⟩ := gcell hg; (try simp only [World.size_alloc, World.size_setCell, World.size_drew] at gc); (try simp only [World.size_alloc, World.size_setCell, World.size_drew] at gf); have rc := hR.c0; have rd := hR.c1; have rf := hR.f 0; have rg := hR.f 1); have q0 : w.heap.size < wt.heap.size := (by omega); have q2 : wr.heap.size < wt.heap.size := (by omega)) | (go_at_call 107; refine (nodeValid_any _ _ _ _ _ _).mono ?_; rintro e wy ⟨rfl, hby⟩; obtain ⟨hcy, hfy⟩ := bcell hby; have hzy := hby.size; (try simp only [World.size_alloc, World.size_setCell, World.size_drew] at hzy); (try simp only [World.size_alloc, World.size_setCell, World.size_drew] at hcy); (try simp only [World.size_alloc, World.size_setCell, World.size_drew] at hfy); have q0 : w.heap.size < wy.heap.size := (by omega); have q2 : wr.heap.size < wy.heap.size := (by omega)))
        all_goals
          have t0 : wy.cell? ⟨w.heap.size, 0, none⟩ = some (.string ⟨#[]⟩) := by go_simp
          have t1 : wy.cell? ⟨w.heap.size, 1, none⟩ = some (.string ⟨#[]⟩) := by go_simp
          have t2 : wy.cell? ⟨w.heap.size, 2, none⟩ = some (.string ⟨#[]⟩) := by go_simp
          have t3 : wy.cell? ⟨w.heap.size, 3, none⟩ = some (.string ⟨#[]⟩) := by go_simp
          refine bodyPost_ret (v := .tuple #[.agg #[.string k, .string v, .string ⟨#[]⟩, .string r], .bool true]) (by simp [results, Tryd.results77, go_sem, t0, t1, t2, t3, q3, q4]; try rfl) rfl ⟨?_, ?_⟩
          · have e : z = some (k, v, ⟨#[]⟩, r) := by rw [← HZ.out]; have e := HSZ.out; rw [h3] at e; have e2 := of_decide_eq_true e.symm; have e3 : f ≤ 3 := (by omega); exact if_pos (by simp [hw, e2, h5, e3])
            rw [e]; rfl
          · (repeat' (first | exact Below.refl _ _ | (with_reducible assumption) | (with_reducible refine Below.setCell ?_ (by first | (simp; done) | (simp; omega)) _) | refine below_rdr ?_ (by assumption) (by omega) | refine below_then ?_ (by assumption) | (with_reducible refine below_new2 ?_ _)))
    · obtain ⟨rfl, rfl, rfl⟩ := HR.out
      rcases hcase with h | ⟨h, h3⟩ | ⟨h, h3, h4⟩ | ⟨h, h3, h4, h5⟩ | ⟨h, h3, h4, h5⟩
      · subst h
        go_enter Tryd.func77, Tryd.ntmps77
        go_wp2_with (first | (go_at_call 47; refine (isWidth_any _ _).mono ?_; rintro e wq ⟨rfl, rfl⟩) | (go_at_call 104; refine (rsized_any _ _ _ _ (by first | exact Rdr.fresh2 _ _ (by simp) | (first | assumption | exact Rdr.alloc2 (by assumption) _ | exact Rdr.setFar (by assumption) _ _ (by first | (simp; done) | (simp; omega) | omega)))).mono ?_; rintro e wr ⟨rfl, hR, hg⟩; (first | rw [HK.out] at hR ⊢ | rw [HV.out] at hR ⊢); dsimp only at hR ⊢; (have hz := hg.size; (try simp only [World.size_alloc, World.size_setCell, World.size_drew] at hz); obtain ⟨gc, gf⟩ := gcell hg; (try simp only [World.size_alloc, World.size_setCell, World.size_drew] at gc); (try simp only [World.size_alloc, World.size_setCell, World.size_drew] at gf); have rc := hR.c0; have rd := hR.c1; have rf := hR.f 0; have rg := hR.f 1); have q0 : w.heap.size < wr.heap.size := (by omega); have q1 : wr.heap.size ≠ w.heap.size + 1 := (by omega); have q3 : wr.heap.size ≠ w.heap.size := (by omega); have q4 : w.heap.size ≠ wr.heap.size := (by omega)) | (go_at_call 105; refine (numFlag1_any _ _ _ _ (by (first | assumption | exact Rdr.alloc2 (by assumption) _ | exact Rdr.setFar (by assumption) _ _ (by first | (simp; done) | (simp; omega) | omega)))).mono ?_; rintro e wf ⟨rfl, hR, hg⟩; rw [HF.out] at hR ⊢; dsimp only at hR ⊢; rw [HFE.out]; (have hz := hg.size; (try simp only [World.size_alloc, World.size_setCell, World.size_drew] at hz); obtain ⟨gc, gf⟩ := gcell hg; (try simp only [World.size_alloc, World.size_setCell, World.size_drew] at gc); (try simp only [World.size_alloc, World.size_setCell, World.size_drew] at gf); have rc := hR.c0; have rd := hR.c1; have rf := hR.f 0; have rg := hR.f 1); have q0 : w.heap.size < wf.heap.size := (by omega); have q2 : wr.heap.size < wf.heap.size := (by omega)) | (go_at_call 106; refine (text_any _ _ _ _ _ (by (first | assumption | exact Rdr.alloc2 (by assumption) _ | exact Rdr.setFar (by assumption) _ _ (by first | (simp; done) | (simp; omega) | omega)))).mono ?_; rintro e wt ⟨rfl, hR, hg⟩; (first | rw [HL.out] at hR ⊢ | rw [HR.out] at hR ⊢); dsimp only at hR ⊢; (have hz := hg.size; (try simp only [World.size_alloc, World.size_setCell, World.size_drew] at hz); obtain ⟨gc, gf⟩ := gcell hg; (try simp only [World.size_alloc, World.size_setCell, World.size_drew] at gc); (try simp only [World.size_alloc, World.size_setCell, World.size_drew] at gf); have rc := hR.c0; have rd := hR.c1; have rf := hR.f 0; have rg := hR.f 1); have q0 : w.heap.size < wt.heap.size := (by omega); have q2 : wr.heap.size < wt.heap.size := (by omega)) | (go_at_call 107; refine (nodeValid_any _ _ _ _ _ _).mono ?_; rintro e wy ⟨rfl, hby⟩; obtain ⟨hcy, hfy⟩ := bcell hby; have hzy := hby.size; (try simp only [World.size_alloc, World.size_setCell, World.size_drew] at hzy); (try simp only [World.size_alloc, World.size_setCell, World.size_drew] at hcy); (try simp only [World.size_alloc, World.size_setCell, World.size_drew] at hfy); have q0 : w.heap.size < wy.heap.size := (by omega); have q2 : wr.heap.size < wy.heap.size := (by omega)))
        all_goals
          have t0 : wt.cell? ⟨w.heap.size, 0, none⟩ = some (.string ⟨#[]⟩) := by go_simp
          have t1 : wt.cell? ⟨w.heap.size, 1, none⟩ = some (.string ⟨#[]⟩) := by go_simp
          have t2 : wt.cell? ⟨w.heap.size, 2, none⟩ = some (.string ⟨#[]⟩) := by go_simp
          have t3 : wt.cell? ⟨w.heap.size, 3, none⟩ = some (.string ⟨#[]⟩) := by go_simp
          refine bodyPost_ret (v := .tuple #[.agg #[.string ⟨#[]⟩, .string ⟨#[]⟩, .string ⟨#[]⟩, .string ⟨#[]⟩], .bool false]) (by simp [results, Tryd.results77, go_sem, t0, t1, t2, t3, q3, q4]; try rfl) rfl ⟨?_, ?_⟩
          · have e : z = none := by rw [← HZ.out]; exact if_neg (fun q => by simp at q)
            rw [e]; rfl
          · (repeat' (first | exact Below.refl _ _ | (with_reducible assumption) | (with_reducible refine Below.setCell ?_ (by first | (simp; done) | (simp; omega)) _) | refine below_rdr ?_ (by assumption) (by omega) | refine below_then ?_ (by assumption) | (with_reducible refine below_new2 ?_ _)))
      · subst h
        go_enter Tryd.func77, Tryd.ntmps77
        go_wp2_with (first | (go_at_call 47; refine (isWidth_any _ _).mono ?_; rintro e wq ⟨rfl, rfl⟩) | (go_at_call 104; refine (rsized_any _ _ _ _ (by first | exact Rdr.fresh2 _ _ (by simp) | (first | assumption | exact Rdr.alloc2 (by assumption) _ | exact Rdr.setFar (by assumption) _ _ (by first | (simp; done) | (simp; omega) | omega)))).mono ?_; rintro e wr ⟨rfl, hR, hg⟩; (first | rw [HK.out] at hR ⊢ | rw [HV.out] at hR ⊢); dsimp only at hR ⊢; (have hz := hg.size; (try simp only [World.size_alloc, World.size_setCell, World.size_drew] at hz); obtain ⟨gc, gf⟩ := gcell hg; (try simp only [World.size_alloc, World.size_setCell, World.size_drew] at gc); (try simp only [World.size_alloc, World.size_setCell, World.size_drew] at gf); have rc := hR.c0; have rd := hR.c1; have rf := hR.f 0; have rg := hR.f 1); have q0 : w.heap.size < wr.heap.size := (by omega); have q1 : wr.heap.size ≠ w.heap.size + 1 := (by omega); have q3 : wr.heap.size ≠ w.heap.size := (by omega); have q4 : w.heap.size ≠ wr.heap.size := (by omega)) | (go_at_call 105; refine (numFlag1_any _ _ _ _ (by (first | assumption | exact Rdr.alloc2 (by assumption) _ | exact Rdr.setFar (by assumption) _ _ (by first | (simp; done) | (simp; omega) | omega)))).mono ?_; rintro e wf ⟨rfl, hR, hg⟩; rw [HF.out] at hR ⊢; dsimp only at hR ⊢; rw [HFE.out]; (have hz := hg.size; (try simp only [World.size_alloc, World.size_setCell, World.size_drew] at hz); obtain ⟨gc, gf⟩ := gcell hg; (try simp only [World.size_alloc, World.size_setCell, World.size_drew] at gc); (try simp only [World.size_alloc, World.size_setCell, World.size_drew] at gf); have rc := hR.c0; have rd := hR.c1; have rf := hR.f 0; have rg := hR.f 1); have q0 : w.heap.size < wf.heap.size := (by omega); have q2 : wr.heap.size < wf.heap.size := (by omega)) | (go_at_call 106; refine (text_any _ _ _ _ _ (by (first | assumption | exact Rdr.alloc2 (by assumption) _ | exact Rdr.setFar (by assumption) _ _ (by first | (simp; done) | (simp; omega) | omega)))).mono ?_; rintro e wt ⟨rfl, hR, hg⟩; (first | rw [HL.out] at hR ⊢ | rw [HR.out] at hR ⊢); dsimp only at hR ⊢; (have hz := hg.size; (try simp only [World.size_alloc, World.size_setCell, World.size_drew] at hz); obtain ⟨gc, gf⟩ := gcell hg; (try simp only [World.size_alloc, World.size_setCell, World.size_drew] at gc); (try simp only [World.size_alloc, World.size_setCell, World.size_drew] at gf); have rc := hR.c0; have rd := hR.c1; have rf := hR.f 0; have rg := hR.f 1); have q0 : w.heap.size < wt.heap.size := (by omega); have q2 : wr.heap.size < wt.heap.size := (by omega)) | (go_at_call 107; refine (nodeValid_any _ _ _ _ _ _).mono ?_; rintro e wy ⟨rfl, hby⟩; obtain ⟨hcy, hfy⟩ := bcell hby; have hzy := hby.size; (try simp only [World.size_alloc, World.size_setCell, World.size_drew] at hzy); (try simp only [World.size_alloc, World.size_setCell, World.size_drew] at hcy); (try simp only [World.size_alloc, World.size_setCell, World.size_drew] at hfy); have q0 : w.heap.size < wy.heap.size := (by omega); have q2 : wr.heap.size < wy.heap.size := (by omega)))
        all_goals
          have t0 : wt.cell? ⟨w.heap.size, 0, none⟩ = some (.string ⟨#[]⟩) := by go_simp
          have t1 : wt.cell? ⟨w.heap.size, 1, none⟩ = some (.string ⟨#[]⟩) := by go_simp
          have t2 : wt.cell? ⟨w.heap.size, 2, none⟩ = some (.string ⟨#[]⟩) := by go_simp
          have t3 : wt.cell? ⟨w.heap.size, 3, none⟩ = some (.string ⟨#[]⟩) := by go_simp
          refine bodyPost_ret (v := .tuple #[.agg #[.string ⟨#[]⟩, .string ⟨#[]⟩, .string ⟨#[]⟩, .string ⟨#[]⟩], .bool false]) (by simp [results, Tryd.results77, go_sem, t0, t1, t2, t3, q3, q4]; try rfl) rfl ⟨?_, ?_⟩
          · have e : z = none := by rw [← HZ.out]; exact if_neg (fun q => by have e := HSZ.out; rw [h3, q.2.2.1] at e; simp at e)
            rw [e]; rfl
          · (repeat' (first | exact Below.refl _ _ | (with_reducible assumption) | (with_reducible refine Below.setCell ?_ (by first | (simp; done) | (simp; omega)) _) | refine below_rdr ?_ (by assumption) (by omega) | refine below_then ?_ (by assumption) | (with_reducible refine below_new2 ?_ _)))
      · subst h
        go_enter Tryd.func77, Tryd.ntmps77
        go_wp2_with (first | (go_at_call 47; refine (isWidth_any _ _).mono ?_; rintro e wq ⟨rfl, rfl⟩) | (go_at_call 104; refine (rsized_any _ _ _ _ (by first | exact Rdr.fresh2 _ _ (by simp) | (first | assumption | exact Rdr.alloc2 (by assumption) _ | exact Rdr.setFar (by assumption) _ _ (by first | (simp; done) | (simp; omega) | omega)))).mono ?_; rintro e wr ⟨rfl, hR, hg⟩; (first | rw [HK.out] at hR ⊢ | rw [HV.out] at hR ⊢); dsimp only at hR ⊢; (have hz := hg.size; (try simp only [World.size_alloc, World.size_setCell, World.size_drew] at hz); obtain ⟨gc, gf⟩ := gcell hg; (try simp only [World.size_alloc, World.size_setCell, World.size_drew] at gc); (try simp only [World.size_alloc, World.size_setCell, World.size_drew] at gf); have rc := hR.c0; have rd := hR.c1; have rf := hR.f 0; have rg := hR.f 1); have q0 : w.heap.size < wr.heap.size := (by omega); have q1 : wr.heap.size ≠ w.heap.size + 1 := (by omega); have q3 : wr.heap.size ≠ w.heap.size := (by omega); have q4 : w.heap.size ≠ wr.heap.size := (by omega)) | (go_at_call 105; refine (numFlag1_any _ _ _ _ (by (first | assumption | exact Rdr.alloc2 (by assumption) _ | exact Rdr.setFar (by assumption) _ _ (by first | (simp; done) | (simp; omega) | omega)))).mono ?_; rintro e wf ⟨rfl, hR, hg⟩; rw [HF.out] at hR ⊢; dsimp only at hR ⊢; rw [HFE.out]; (have hz := hg.size; (try simp only [World.size_alloc, World.size_setCell, World.size_drew] at hz); obtain ⟨gc, gf⟩ := gcell hg; (try simp only [World.size_alloc, World.size_setCell, World.size_drew] at gc); (try simp only [World.size_alloc, World.size_setCell, World.size_drew] at gf); have rc := hR.c0; have rd := hR.c1; have rf := hR.f 0; have rg := hR.f 1); have q0 : w.heap.size < wf.heap.size := (by omega); have q2 : wr.heap.size < wf.heap.size := (by omega)) | (go_at_call 106; refine (text_any _ _ _ _ _ (by (first | assumption | exact Rdr.alloc2 (by assumption) _ | exact Rdr.setFar (by assumption) _ _ (by first | (simp; done) | (simp; omega) | omega)))).mono ?_; rintro e wt ⟨rfl, hR, hg⟩; (first | rw [HL.out] at hR ⊢ | rw [HR.out] at hR ⊢); dsimp only at hR ⊢; (have hz := hg.size; (try simp only [World.size_alloc, World.size_setCell, World.size_drew] at hz); obtain ⟨gc, gf⟩ := gcell hg; (try simp only [World.size_alloc, World.size_setCell, World.size_drew] at gc); (try simp only [World.size_alloc, World.size_setCell, World.size_drew] at gf); have rc := hR.c0; have rd := hR.c1; have rf := hR.f 0; have rg := hR.f 1); have q0 : w.heap.size < wt.heap.size := (by omega); have q2 : wr.heap.size < wt.heap.size := (by omega)) | (go_at_call 107; refine (nodeValid_any _ _ _ _ _ _).mono ?_; rintro e wy ⟨rfl, hby⟩; obtain ⟨hcy, hfy⟩ := bcell hby; have hzy := hby.size; (try simp only [World.size_alloc, World.size_setCell, World.size_drew] at hzy); (try simp only [World.size_alloc, World.size_setCell, World.size_drew] at hcy); (try simp only [World.size_alloc, World.size_setCell, World.size_drew] at hfy); have q0 : w.heap.size < wy.heap.size := (by omega); have q2 : wr.heap.size < wy.heap.size := (by omega)))
        all_goals
          have t0 : wt.cell? ⟨w.heap.size, 0, none⟩ = some (.string ⟨#[]⟩) := by go_simp
          have t1 : wt.cell? ⟨w.heap.size, 1, none⟩ = some (.string ⟨#[]⟩) := by go_simp
          have t2 : wt.cell? ⟨w.heap.size, 2, none⟩ = some (.string ⟨#[]⟩) := by go_simp
          have t3 : wt.cell? ⟨w.heap.size, 3, none⟩ = some (.string ⟨#[]⟩) := by go_simp
          refine bodyPost_ret (v := .tuple #[.agg #[.string ⟨#[]⟩, .string ⟨#[]⟩, .string ⟨#[]⟩, .string ⟨#[]⟩], .bool false]) (by simp [results, Tryd.results77, go_sem, t0, t1, t2, t3, q3, q4]; try rfl) rfl ⟨?_, ?_⟩
          · have e : z = none := by rw [← HZ.out]; exact if_neg (fun q => by have := q.2.2.2.1; omega)
            rw [e]; rfl
          · (repeat' (first | exact Below.refl _ _ | (with_reducible assumption) | (with_reducible refine Below.setCell ?_ (by first | (simp; done) | (simp; omega)) _) | refine below_rdr ?_ (by assumption) (by omega) | refine below_then ?_ (by assumption) | (with_reducible refine below_new2 ?_ _)))
      · subst h
        go_enter Tryd.func77, Tryd.ntmps77
        go_wp2_with (first | (go_at_call 47; refine (isWidth_any _ _).mono ?_; rintro e wq ⟨rfl, rfl⟩) | (go_at_call 104; refine (rsized_any _ _ _ _ (by first | exact Rdr.fresh2 _ _ (by simp) | (first | assumption | exact Rdr.alloc2 (by assumption) _ | exact Rdr.setFar (by assumption) _ _ (by first | (simp; done) | (simp; omega) | omega)))).mono ?_; rintro e wr ⟨rfl, hR, hg⟩; (first | rw [HK.out] at hR ⊢ | rw [HV.out] at hR ⊢); dsimp only at hR ⊢; (have hz := hg.size; (try simp only [World.size_alloc, World.size_setCell, World.size_drew] at hz); obtain ⟨gc, gf⟩ := gcell hg; (try simp only [World.size_alloc, World.size_setCell, World.size_drew] at gc); (try simp only [World.size_alloc, World.size_setCell, World.size_drew] at gf); have rc := hR.c0; have rd := hR.c1; have rf := hR.f 0; have rg := hR.f 1); have q0 : w.heap.size < wr.heap.size := (by omega); have q1 : wr.heap.size ≠ w.heap.size + 1 := (by omega); have q3 : wr.heap.size ≠ w.heap.size := (by omega); have q4 : w.heap.size ≠ wr.heap.size := (by omega)) | (go_at_call 105; refine (numFlag1_any _ _ _ _ (by (first | assumption | exact Rdr.alloc2 (by assumption) _ | exact Rdr.setFar (by assumption) _ _ (by first | (simp; done) | (simp; omega) | omega)))).mono ?_; rintro e wf ⟨rfl, hR, hg⟩; rw [HF.out] at hR ⊢; dsimp only at hR ⊢; rw [HFE.out]; (have hz := hg.size; (try simp only [World.size_alloc, World.size_setCell, World.size_drew] at hz); obtain ⟨gc, gf⟩ := gcell hg; (try simp only [World.size_alloc, World.size_setCell, World.size_drew] at gc); (try simp only [World.size_alloc, World.size_setCell, World.size_drew] at gf); have rc := hR.c0; have rd := hR.c1; have rf := hR.f 0; have rg := hR.f 1); have q0 : w.heap.size < wf.heap.size := (by omega); have q2 : wr.heap.size < wf.heap.size := (by omega)) | (go_at_call 106; refine (text_any _ _ _ _ _ (by (first | assumption | exact Rdr.alloc2 (by assumption) _ | exact Rdr.setFar (by assumption) _ _ (by first | (simp; done) | (simp; omega) | omega)))).mono ?_; rintro e wt ⟨rfl, hR, hg⟩; (first | rw [HL.out] at hR ⊢ | rw [HR.out] at hR ⊢); dsimp only at hR ⊢; (have hz := hg.size; (try simp only [World.size_alloc, World.size_setCell, World.size_drew] at hz); obtain ⟨gc, gf⟩ := gcell hg; (try simp only [World.size_alloc, World.size_setCell, World.size_drew] at gc); (try simp only [World.size_alloc, World.size_setCell, World.size_drew] at gf); have rc := hR.c0; have rd := hR.c1; have rf := hR.f 0; have rg := hR.f 1); have q0 : w.heap.size < wt.heap.size := (by omega); have q2 : wr.heap.size < wt.heap.size := (by omega)) | (go_at_call 107; refine (nodeValid_any _ _ _ _ _ _).mono ?_; rintro e wy ⟨rfl, hby⟩; obtain ⟨hcy, hfy⟩ := bcell hby; have hzy := hby.size; (try simp only [World.size_alloc, World.size_setCell, World.size_drew] at hzy); (try simp only [World.size_alloc, World.size_setCell, World.size_drew] at hcy); (try simp only [World.size_alloc, World.size_setCell, World.size_drew] at hfy); have q0 : w.heap.size < wy.heap.size := (by omega); have q2 : wr.heap.size < wy.heap.size := (by omega)))
        all_goals
          have t0 : wy.cell? ⟨w.heap.size, 0, none⟩ = some (.string ⟨#[]⟩) := by go_simp
          have t1 : wy.cell? ⟨w.heap.size, 1, none⟩ = some (.string ⟨#[]⟩) := by go_simp
          have t2 : wy.cell? ⟨w.heap.size, 2, none⟩ = some (.string ⟨#[]⟩) := by go_simp
          have t3 : wy.cell? ⟨w.heap.size, 3, none⟩ = some (.string ⟨#[]⟩) := by go_simp
          refine bodyPost_ret (v := .tuple #[.agg #[.string ⟨#[]⟩, .string ⟨#[]⟩, .string ⟨#[]⟩, .string ⟨#[]⟩], .bool false]) (by simp [results, Tryd.results77, go_sem, t0, t1, t2, t3, q3, q4]; try rfl) rfl ⟨?_, ?_⟩
          · have e : z = none := by rw [← HZ.out]; exact if_neg (fun q => by rw [h5] at q; simp at q)
            rw [e]; rfl
          · (repeat' (first | exact Below.refl _ _ | (with_reducible assumption) | (with_reducible refine Below.setCell ?_ (by first | (simp; done) | (simp; omega)) _) | refine below_rdr ?_ (by assumption) (by omega) | refine below_then ?_ (by assumption) | (with_reducible refine below_new2 ?_ _)))
      · subst h
        go_enter Tryd.func77, Tryd.ntmps77
        go_wp2_with (first | (go_at_call 47; refine (isWidth_any _ _).mono ?_; rintro e wq ⟨rfl, rfl⟩) | (go_at_call 104; refine (rsized_any _ _ _ _ (by first | exact Rdr.fresh2 _ _ (by simp) | (first | assumption | exact Rdr.alloc2 (by assumption) _ | exact Rdr.setFar (by assumption) _ _ (by first | (simp; done) | (simp; omega) | omega)))).mono ?_; rintro e wr ⟨rfl, hR, hg⟩; (first | rw [HK.out] at hR ⊢ | rw [HV.out] at hR ⊢); dsimp only at hR ⊢; (have hz := hg.size; (try simp only [World.size_alloc, World.size_setCell, World.size_drew] at hz); obtain ⟨gc, gf⟩ := gcell hg; (try simp only [World.size_alloc, World.size_setCell, World.size_drew] at gc); (try simp only [World.size_alloc, World.size_setCell, World.size_drew] at gf); have rc := hR.c0; have rd := hR.c1; have rf := hR.f 0; have rg := hR.f 1); have q0 : w.heap.size < wr.heap.size := (by omega); have q1 : wr.heap.size ≠ w.heap.size + 1 := (by omega); have q3 : wr.heap.size ≠ w.heap.size := (by omega); have q4 : w.heap.size ≠ wr.heap.size := (by omega)) | (go_at_call 105; refine (numFlag1_any _ _ _ _ (by (first | assumption | exact Rdr.alloc2 (by assumption) _ | exact Rdr.setFar (by assumption) _ _ (by first | (simp; done) | (simp; omega) | omega)))).mono ?_; rintro e wf ⟨rfl, hR, hg⟩; rw [HF.out] at hR ⊢; dsimp only at hR ⊢; rw [HFE.out]; (have hz := hg.size; (try simp only [World.size_alloc, World.size_setCell, World.size_drew] at hz); obtain ⟨gc, gf⟩ := gcell hg; (try simp only [World.size_alloc, World.size_setCell, World.size_drew] at gc); (try simp only [World.size_alloc, World.size_setCell, World.size_drew] at gf); have rc := hR.c0; have rd := hR.c1; have rf := hR.f 0; have rg := hR.f 1); have q0 : w.heap.size < wf.heap.size := (by omega); have q2 : wr.heap.size < wf.heap.size := (by omega)) | (go_at_call 106; refine (text_any _ _ _ _ _ (by (first | assumption | exact Rdr.alloc2 (by assumption) _ | exact Rdr.setFar (by assumption) _ _ (by first | (simp; done) | (simp; omega) | omega)))).mono ?_; rintro e wt ⟨rfl, hR, hg⟩; (first | rw [HL.out] at hR ⊢ | rw [HR.out] at hR ⊢); dsimp only at hR ⊢; (have hz := hg.size; (try simp only [World.size_alloc, World.size_setCell, World.size_drew] at hz); obtain ⟨gc, gf⟩ := gcell hg; (try simp only [World.size_alloc, World.size_setCell, World.size_drew] at gc); (try simp only [World.size_alloc, World.size_setCell, World.size_drew] at gf); have rc := hR.c0; have rd := hR.c1; have rf := hR.f 0; have rg := hR.f 1); have q0 : w.heap.size < wt.heap.size := (by omega); have q2 : wr.heap.size < wt.heap.size := (by omega)) | (go_at_call 107; refine (nodeValid_any _ _ _ _ _ _).mono ?_; rintro e wy ⟨rfl, hby⟩; obtain ⟨hcy, hfy⟩ := bcell hby; have hzy := hby.size; (try simp only [World.size_alloc, World.size_setCell, World.size_drew] at hzy); (try simp only [World.size_alloc, World.size_setCell, World.size_drew] at hcy); (try simp only [World.size_alloc, World.size_setCell, World.size_drew] at hfy); have q0 : w.heap.size < wy.heap.size := (by omega); have q2 : wr.heap.size < wy.heap.size := (by omega)))
        all_goals
          have t0 : wy.cell? ⟨w.heap.size, 0, none⟩ = some (.string ⟨#[]⟩) := by go_simp
          have t1 : wy.cell? ⟨w.heap.size, 1, none⟩ = some (.string ⟨#[]⟩) := by go_simp
          have t2 : wy.cell? ⟨w.heap.size, 2, none⟩ = some (.string ⟨#[]⟩) := by go_simp
          have t3 : wy.cell? ⟨w.heap.size, 3, none⟩ = some (.string ⟨#[]⟩) := by go_simp
          refine bodyPost_ret (v := .tuple #[.agg #[.string k, .string v, .string l, .string ⟨#[]⟩], .bool true]) (by simp [results, Tryd.results77, go_sem, t0, t1, t2, t3, q3, q4]; try rfl) rfl ⟨?_, ?_⟩
          · have e : z = some (k, v, l, ⟨#[]⟩) := by rw [← HZ.out]; have e := HSZ.out; rw [h3] at e; have e2 := of_decide_eq_true e.symm; have e3 : f ≤ 3 := (by omega); exact if_pos (by simp [hw, e2, h5, e3])
            rw [e]; rfl
          · (repeat' (first | exact Below.refl _ _ | (with_reducible assumption) | (with_reducible refine Below.setCell ?_ (by first | (simp; done) | (simp; omega)) _) | refine below_rdr ?_ (by assumption) (by omega) | refine below_then ?_ (by assumption) | (with_reducible refine below_new2 ?_ _)))
    · rcases hcase with h | ⟨h, h3⟩ | ⟨h, h3, h4⟩ | ⟨h, h3, h4, h5⟩ | ⟨h, h3, h4, h5⟩
      · subst h
        go_enter Tryd.func77, Tryd.ntmps77
        go_wp2_with (first | (go_at_call 47; refine (isWidth_any _ _).mono ?_; rintro e wq ⟨rfl, rfl⟩) | (go_at_call 104; refine (rsized_any _ _ _ _ (by first | exact Rdr.fresh2 _ _ (by simp) | (first | assumption | exact Rdr.alloc2 (by assumption) _ | exact Rdr.setFar (by assumption) _ _ (by first | (simp; done) | (simp; omega) | omega)))).mono ?_; rintro e wr ⟨rfl, hR, hg⟩; (first | rw [HK.out] at hR ⊢ | rw [HV.out] at hR ⊢); dsimp only at hR ⊢; (have hz := hg.size; (try simp only [World.size_alloc, World.size_setCell, World.size_drew] at hz); obtain ⟨gc, gf⟩ := gcell hg; (try simp only [World.size_alloc, World.size_setCell, World.size_drew] at gc); (try simp only [World.size_alloc, World.size_setCell, World.size_drew] at gf); have rc := hR.c0; have rd := hR.c1; have rf := hR.f 0; have rg := hR.f 1); have q0 : w.heap.size < wr.heap.size := (by omega); have q1 : wr.heap.size ≠ w.heap.size + 1 := (by omega); have q3 : wr.heap.size ≠ w.heap.size := (by omega); have q4 : w.heap.size ≠ wr.heap.size := (by omega)) | (go_at_call 105; refine (numFlag1_any _ _ _ _ (by (first | assumption | exact Rdr.alloc2 (by assumption) _ | exact Rdr.setFar (by assumption) _ _ (by first | (simp; done) | (simp; omega) | omega)))).mono ?_; rintro e wf ⟨rfl, hR, hg⟩; rw [HF.out] at hR ⊢; dsimp only at hR ⊢; rw [HFE.out]; (have hz := hg.size; (try simp only [World.size_alloc, World.size_setCell, World.size_drew] at hz); obtain ⟨gc, gf⟩ := gcell hg; (try simp only [World.size_alloc, World.size_setCell, World.size_drew] at gc); (try simp only [World.size_alloc, World.size_setCell, World.size_drew] at gf); have rc := hR.c0; have rd := hR.c1; have rf := hR.f 0; have rg := hR.f 1); have q0 : w.heap.size < wf.heap.size := (by omega); have q2 : wr.heap.size < wf.heap.size := (by omega)) | (go_at_call 106; refine (text_any _ _ _ _ _ (by (first | assumption | exact Rdr.alloc2 (by assumption) _ | exact Rdr.setFar (by assumption) _ _ (by first | (simp; done) | (simp; omega) | omega)))).mono ?_; rintro e wt ⟨rfl, hR, hg⟩; (first | rw [HL.out] at hR ⊢ | rw [HR.out] at hR ⊢); dsimp only at hR ⊢; (have hz := hg.size; (try simp only [World.size_alloc, World.size_setCell, World.size_drew] at hz); obtain ⟨gc, gf⟩ := gcell hg; (try simp only [World.size_alloc, World.size_setCell, World.size_drew] at gc); (try simp only [World.size_alloc, World.size_setCell, World.size_drew] at gf); have rc := hR.c0; have rd := hR.c1; have rf := hR.f 0; have rg := hR.f 1); have q0 : w.heap.size < wt.heap.size := (by omega); have q2 : wr.heap.size < wt.heap.size := (by omega)) | (go_at_call 107; refine (nodeValid_any _ _ _ _ _ _).mono ?_; rintro e wy ⟨rfl, hby⟩; obtain ⟨hcy, hfy⟩ := bcell hby; have hzy := hby.size; (try simp only [World.size_alloc, World.size_setCell, World.size_drew] at hzy); (try simp only [World.size_alloc, World.size_setCell, World.size_drew] at hcy); (try simp only [World.size_alloc, World.size_setCell, World.size_drew] at hfy); have q0 : w.heap.size < wy.heap.size := (by omega); have q2 : wr.heap.size < wy.heap.size := (by omega)))
        all_goals
          have t0 : wt.cell? ⟨w.heap.size, 0, none⟩ = some (.string ⟨#[]⟩) := by go_simp
          have t1 : wt.cell? ⟨w.heap.size, 1, none⟩ = some (.string ⟨#[]⟩) := by go_simp
          have t2 : wt.cell? ⟨w.heap.size, 2, none⟩ = some (.string ⟨#[]⟩) := by go_simp
          have t3 : wt.cell? ⟨w.heap.size, 3, none⟩ = some (.string ⟨#[]⟩) := by go_simp
          refine bodyPost_ret (v := .tuple #[.agg #[.string ⟨#[]⟩, .string ⟨#[]⟩, .string ⟨#[]⟩, .string ⟨#[]⟩], .bool false]) (by simp [results, Tryd.results77, go_sem, t0, t1, t2, t3, q3, q4]; try rfl) rfl ⟨?_, ?_⟩
          · have e : z = none := by rw [← HZ.out]; exact if_neg (fun q => by simp at q)
            rw [e]; rfl
          · (repeat' (first | exact Below.refl _ _ | (with_reducible assumption) | (with_reducible refine Below.setCell ?_ (by first | (simp; done) | (simp; omega)) _) | refine below_rdr ?_ (by assumption) (by omega) | refine below_then ?_ (by assumption) | (with_reducible refine below_new2 ?_ _)))
      · subst h
        go_enter Tryd.func77, Tryd.ntmps77
        go_wp2_with (first | (go_at_call 47; refine (isWidth_any _ _).mono ?_; rintro e wq ⟨rfl, rfl⟩) | (go_at_call 104; refine (rsized_any _ _ _ _ (by first | exact Rdr.fresh2 _ _ (by simp) | (first | assumption | exact Rdr.alloc2 (by assumption) _ | exact Rdr.setFar (by assumption) _ _ (by first | (simp; done) | (simp; omega) | omega)))).mono ?_; rintro e wr ⟨rfl, hR, hg⟩; (first | rw [HK.out] at hR ⊢ | rw [HV.out] at hR ⊢); dsimp only at hR ⊢; (have hz := hg.size; (try simp only [World.size_alloc, World.size_setCell, World.size_drew] at hz); obtain ⟨gc, gf⟩ := gcell hg; (try simp only [World.size_alloc, World.size_setCell, World.size_drew] at gc); (try simp only [World.size_alloc, World.size_setCell, World.size_drew] at gf); have rc := hR.c0; have rd := hR.c1; have rf := hR.f 0; have rg := hR.f 1); have q0 : w.heap.size < wr.heap.size := (by omega); have q1 : wr.heap.size ≠ w.heap.size + 1 := (by omega); have q3 : wr.heap.size ≠ w.heap.size := (by omega); have q4 : w.heap.size ≠ wr.heap.size := (by omega)) | (go_at_call 105; refine (numFlag1_any _ _ _ _ (by (first | assumption | exact Rdr.alloc2 (by assumption) _ | exact Rdr.setFar (by assumption) _ _ (by first | (simp; done) | (simp; omega) | omega)))).mono ?_; rintro e wf ⟨rfl, hR, hg⟩; rw [HF.out] at hR ⊢; dsimp only at hR ⊢; rw [HFE.out]; (have hz := hg.size; (try simp only [World.size_alloc, World.size_setCell, World.size_drew] at hz); obtain ⟨gc, gf⟩ := gcell hg; (try simp only [World.size_alloc, World.size_setCell, World.size_drew] at gc); (try simp only [World.size_alloc, World.size_setCell, World.size_drew] at gf); have rc := hR.c0; have rd := hR.c1; have rf := hR.f 0; have rg := hR.f 1); have q0 : w.heap.size < wf.heap.size := (by omega); have q2 : wr.heap.size < wf.heap.size := (by omega)) | (go_at_call 106; refine (text_any _ _ _ _ _ (by (first | assumption | exact Rdr.alloc2 (by assumption) _ | exact Rdr.setFar (by assumption) _ _ (by first | (simp; done) | (simp; omega) | omega)))).mono ?_; rintro e wt ⟨rfl, hR, hg⟩; (first | rw [HL.out] at hR ⊢ | rw [HR.out] at hR ⊢); dsimp only at hR ⊢; (have hz := hg.size; (try simp only [World.size_alloc, World.size_setCell, World.size_drew] at hz); obtain ⟨gc, gf⟩ := gcell hg; (try simp only [World.size_alloc, World.size_setCell, World.size_drew] at gc); (try simp only [World.size_alloc, World.size_setCell, World.size_drew] at gf); have rc := hR.c0; have rd := hR.c1; have rf := hR.f 0; have rg := hR.f 1); have q0 : w.heap.size < wt.heap.size := (by omega); have q2 : wr.heap.size < wt.heap.size := (by omega)) | (go_at_call 107; refine (nodeValid_any _ _ _ _ _ _).mono ?_; rintro e wy ⟨rfl, hby⟩; obtain ⟨hcy, hfy⟩ := bcell hby; have hzy := hby.size; (try simp only [World.size_alloc, World.size_setCell, World.size_drew] at hzy); (try simp only [World.size_alloc, World.size_setCell, World.size_drew] at hcy); (try simp only [World.size_alloc, World.size_setCell, World.size_drew] at hfy); have q0 : w.heap.size < wy.heap.size := (by omega); have q2 : wr.heap.size < wy.heap.size := (by omega)))
        all_goals
          have t0 : wt.cell? ⟨w.heap.size, 0, none⟩ = some (.string ⟨#[]⟩) := by go_simp
          have t1 : wt.cell? ⟨w.heap.size, 1, none⟩ = some (.string ⟨#[]⟩) := by go_simp
          have t2 : wt.cell? ⟨w.heap.size, 2, none⟩ = some (.string ⟨#[]⟩) := by go_simp
          have t3 : wt.cell? ⟨w.heap.size, 3, none⟩ = some (.string ⟨#[]⟩) := by go_simp
          refine bodyPost_ret (v := .tuple #[.agg #[.string ⟨#[]⟩, .string ⟨#[]⟩, .string ⟨#[]⟩, .string ⟨#[]⟩], .bool false]) (by simp [results, Tryd.results77, go_sem, t0, t1, t2, t3, q3, q4]; try rfl) rfl ⟨?_, ?_⟩
          · have e : z = none := by rw [← HZ.out]; exact if_neg (fun q => by have e := HSZ.out; rw [h3, q.2.2.1] at e; simp at e)
            rw [e]; rfl
          · (repeat' (first | exact Below.refl _ _ | (with_reducible assumption) | (with_reducible refine Below.setCell ?_ (by first | (simp; done) | (simp; omega)) _) | refine below_rdr ?_ (by assumption) (by omega) | refine below_then ?_ (by assumption) | (with_reducible refine below_new2 ?_ _)))
      · subst h
        go_enter Tryd.func77, Tryd.ntmps77
        go_wp2_with (first | (go_at_call 47; refine (isWidth_any _ _).mono ?_; rintro e wq ⟨rfl, rfl⟩) | (go_at_call 104; refine (rsized_any _ _ _ _ (by first | exact Rdr.fresh2 _ _ (by simp) | (first | assumption | exact Rdr.alloc2 (by assumption) _ | exact Rdr.setFar (by assumption) _ _ (by first | (simp; done) | (simp; omega) | omega)))).mono ?_; rintro e wr ⟨rfl, hR, hg⟩; (first | rw [HK.out] at hR ⊢ | rw [HV.out] at hR ⊢); dsimp only at hR ⊢; (have hz := hg.size; (try simp only [World.size_alloc, World.size_setCell, World.size_drew] at hz); obtain ⟨gc, gf⟩ := gcell hg; (try simp only [World.size_alloc, World.size_setCell, World.size_drew] at gc); (try simp only [World.size_alloc, World.size_setCell, World.size_drew] at gf); have rc := hR.c0; have rd := hR.c1; have rf := hR.f 0; have rg := hR.f 1); have q0 : w.heap.size < wr.heap.size := (by omega); have q1 : wr.heap.size ≠ w.heap.size + 1 := (by omega); have q3 : wr.heap.size ≠ w.heap.size := (by omega); have q4 : w.heap.size ≠ wr.heap.size := (by omega)) | (go_at_call 105; refine (numFlag1_any _ _ _ _ (by (first | assumption | exact Rdr.alloc2 (by assumption) _ | exact Rdr.setFar (by assumption) _ _ (by first | (simp; done) | (simp; omega) | omega)))).mono ?_; rintro e wf ⟨rfl, hR, hg⟩; rw [HF.out] at hR ⊢; dsimp only at hR ⊢; rw [HFE.out]; (have hz := hg.size; (try simp only [World.size_alloc, World.size_setCell, World.size_drew] at hz); obtain ⟨gc, gf⟩ := gcell hg; (try simp only [World.size_alloc, World.size_setCell, World.size_drew] at gc); (try simp only [World.size_alloc, World.size_setCell, World.size_drew] at gf); have rc := hR.c0; have rd := hR.c1; have rf := hR.f 0; have rg := hR.f 1); have q0 : w.heap.size < wf.heap.size := (by omega); have q2 : wr.heap.size < wf.heap.size := (by omega)) | (go_at_call 106; refine (text_any _ _ _ _ _ (by (first | assumption | exact Rdr.alloc2 (by assumption) _ | exact Rdr.setFar (by assumption) _ _ (by first | (simp; done) | (simp; omega) | omega)))).mono ?_; rintro e wt ⟨rfl, hR, hg⟩; (first | rw [HL.out] at hR ⊢ | rw [HR.out] at hR ⊢); dsimp only at hR ⊢; (have hz := hg.size; (try simp only [World.size_alloc, World.size_setCell, World.size_drew] at hz); obtain ⟨gc, gf⟩ := gcell hg; (try simp only [World.size_alloc, World.size_setCell, World.size_drew] at gc); (try simp only [World.size_alloc, World.size_setCell, World.size_drew] at gf); have rc := hR.c0; have rd := hR.c1; have rf := hR.f 0; have rg := hR.f 1); have q0 : w.heap.size < wt.heap.size := (by omega); have q2 : wr.heap.size < wt.heap.size := (by omega)) | (go_at_call 107; refine (nodeValid_any _ _ _ _ _ _).mono ?_; rintro e wy ⟨rfl, hby⟩; obtain ⟨hcy, hfy⟩ := bcell hby; have hzy := hby.size; (try simp only [World.size_alloc, World.size_setCell, World.size_drew] at hzy); (try simp only [World.size_alloc, World.size_setCell, World.size_drew] at hcy); (try simp only [World.size_alloc, World.size_setCell, World.size_drew] at hfy); have q0 : w.heap.size < wy.heap.size := (by omega); have q2 : wr.heap.size < wy.heap.size := (by omega)))
        all_goals
          have t0 : wt.cell? ⟨w.heap.size, 0, none⟩ = some (.string ⟨#[]⟩) := by go_simp
          have t1 : wt.cell? ⟨w.heap.size, 1, none⟩ = some (.string ⟨#[]⟩) := by go_simp
          have t2 : wt.cell? ⟨w.heap.size, 2, none⟩ = some (.string ⟨#[]⟩) := by go_simp
          have t3 : wt.cell? ⟨w.heap.size, 3, none⟩ = some (.string ⟨#[]⟩) := by go_simp
          refine bodyPost_ret (v := .tuple #[.agg #[.string ⟨#[]⟩, .string ⟨#[]⟩, .string ⟨#[]⟩, .string ⟨#[]⟩], .bool false]) (by simp [results, Tryd.results77, go_sem, t0, t1, t2, t3, q3, q4]; try rfl) rfl ⟨?_, ?_⟩
          · have e : z = none := by rw [← HZ.out]; exact if_neg (fun q => by have := q.2.2.2.1; omega)
            rw [e]; rfl
          · (repeat' (first | exact Below.refl _ _ | (with_reducible assumption) | (with_reducible refine Below.setCell ?_ (by first | (simp; done) | (simp; omega)) _) | refine below_rdr ?_ (by assumption) (by omega) | refine below_then ?_ (by assumption) | (with_reducible refine below_new2 ?_ _)))
      · subst h
        go_enter Tryd.func77, Tryd.ntmps77
        go_wp2_with (first | (go_at_call 47; refine (isWidth_any _ _).mono ?_; rintro e wq ⟨rfl, rfl⟩) | (go_at_call 104; refine (rsized_any _ _ _ _ (by first | exact Rdr.fresh2 _ _ (by simp) | (first | assumption | exact Rdr.alloc2 (by assumption) _ | exact Rdr.setFar (by assumption) _ _ (by first | (simp; done) | (simp; omega) | omega)))).mono ?_; rintro e wr ⟨rfl, hR, hg⟩; (first | rw [HK.out] at hR ⊢ | rw [HV.out] at hR ⊢); dsimp only at hR ⊢; (have hz := hg.size; (try simp only [World.size_alloc, World.size_setCell, World.size_drew] at hz); obtain ⟨gc, gf⟩ := gcell hg; (try simp only [World.size_alloc, World.size_setCell, World.size_drew] at gc); (try simp only [World.size_alloc, World.size_setCell, World.size_drew] at gf); have rc := hR.c0; have rd := hR.c1; have rf := hR.f 0; have rg := hR.f 1); have q0 : w.heap.size < wr.heap.size := (by omega); have q1 : wr.heap.size ≠ w.heap.size + 1 := (by omega); have q3 : wr.heap.size ≠ w.heap.size := (by omega); have q4 : w.heap.size ≠ wr.heap.size := (by omega)) | (go_at_call 105; refine (numFlag1_any _ _ _ _ (by (first | assumption | exact Rdr.alloc2 (by assumption) _ | exact Rdr.setFar (by assumption) _ _ (by first | (simp; done) | (simp; omega) | omega)))).mono ?_; rintro e wf ⟨rfl, hR, hg⟩; rw [HF.out] at hR ⊢; dsimp only at hR ⊢; rw [HFE.out]; (have hz := hg.size; (try simp only [World.size_alloc, World.size_setCell, World.size_drew] at hz); obtain ⟨gc, gf⟩ := gcell hg; (try simp only [World.size_alloc, World.size_setCell, World.size_drew] at gc); (try simp only [World.size_alloc, World.size_setCell, World.size_drew] at gf); have rc := hR.c0; have rd := hR.c1; have rf := hR.f 0; have rg := hR.f 1); have q0 : w.heap.size < wf.heap.size := (by omega); have q2 : wr.heap.size < wf.heap.size := (by omega)) | (go_at_call 106; refine (text_any _ _ _ _ _ (by (first | assumption | exact Rdr.alloc2 (by assumption) _ | exact Rdr.setFar (by assumption) _ _ (by first | (simp; done) | (simp; omega) | omega)))).mono ?_; rintro e wt ⟨rfl, hR, hg⟩; (first | rw [HL.out] at hR ⊢ | rw [HR.out] at hR ⊢); dsimp only at hR ⊢; (have hz := hg.size; (try simp only [World.size_alloc, World.size_setCell, World.size_drew] at hz); obtain ⟨gc, gf⟩ := gcell hg; (try simp only [World.size_alloc, World.size_setCell, World.size_drew] at gc); (try simp only [World.size_alloc, World.size_setCell, World.size_drew] at gf); have rc := hR.c0; have rd := hR.c1; have rf := hR.f 0; have rg := hR.f 1); have q0 : w.heap.size < wt.heap.size := (by omega); have q2 : wr.heap.size < wt.heap.size := (by omega)) | (go_at_call 107; refine (nodeValid_any _ _ _ _ _ _).mono ?_; rintro e wy ⟨rfl, hby⟩; obtain ⟨hcy, hfy⟩ := bcell hby; have hzy := hby.size; (try simp only [World.size_alloc, World.size_setCell, World.size_drew] at hzy); (try simp only [World.size_alloc, World.size_setCell, World.size_drew] at hcy); (try simp only [World.size_alloc, World.size_setCell, World.size_drew] at hfy); have q0 : w.heap.size < wy.heap.size := (by omega); have q2 : wr.heap.size < wy.heap.size := (by omega)))
        all_goals
          have t0 : wy.cell? ⟨w.heap.size, 0, none⟩ = some (.string ⟨#[]⟩) := by go_simp
          have t1 : wy.cell? ⟨w.heap.size, 1, none⟩ = some (.string ⟨#[]⟩) := by go_simp
          have t2 : wy.cell? ⟨w.heap.size, 2, none⟩ = some (.string ⟨#[]⟩) := by go_simp
          have t3 : wy.cell? ⟨w.heap.size, 3, none⟩ = some (.string ⟨#[]⟩) := by go_simp
          refine bodyPost_ret (v := .tuple #[.agg #[.string ⟨#[]⟩, .string ⟨#[]⟩, .string ⟨#[]⟩, .string ⟨#[]⟩], .bool false]) (by simp [results, Tryd.results77, go_sem, t0, t1, t2, t3, q3, q4]; try rfl) rfl ⟨?_, ?_⟩
          · have e : z = none := by rw [← HZ.out]; exact if_neg (fun q => by rw [h5] at q; simp at q)
            rw [e]; rfl
          · (repeat' (first | exact Below.refl _ _ | (with_reducible assumption) | (with_reducible refine Below.setCell ?_ (by first | (simp; done) | (simp; omega)) _) | refine below_rdr ?_ (by assumption) (by omega) | refine below_then ?_ (by assumption) | (with_reducible refine below_new2 ?_ _)))
      · subst h
        go_enter Tryd.func77, Tryd.ntmps77
        go_wp2_with (first | (go_at_call 47; refine (isWidth_any _ _).mono ?_; rintro e wq ⟨rfl, rfl⟩) | (go_at_call 104; refine (rsized_any _ _ _ _ (by first | exact Rdr.fresh2 _ _ (by simp) | (first | assumption | exact Rdr.alloc2 (by assumption) _ | exact Rdr.setFar (by assumption) _ _ (by first | (simp; done) | (simp; omega) | omega)))).mono ?_; rintro e wr ⟨rfl, hR, hg⟩; (first | rw [HK.out] at hR ⊢ | rw [HV.out] at hR ⊢); dsimp only at hR ⊢; (have hz := hg.size; (try simp only [World.size_alloc, World.size_setCell, World.size_drew] at hz); obtain ⟨gc, gf⟩ := gcell hg; (try simp only [World.size_alloc, World.size_setCell, World.size_drew] at gc); (try simp only [World.size_alloc, World.size_setCell, World.size_drew] at gf); have rc := hR.c0; have rd := hR.c1; have rf := hR.f 0; have rg := hR.f 1); have q0 : w.heap.size < wr.heap.size := (by omega); have q1 : wr.heap.size ≠ w.heap.size + 1 := (by omega); have q3 : wr.heap.size ≠ w.heap.size := (by omega); have q4 : w.heap.size ≠ wr.heap.size := (by omega)) | (go_at_call 105; refine (numFlag1_any _ _ _ _ (by (first | assumption | exact Rdr.alloc2 (by assumption) _ | exact Rdr.setFar (by assumption) _ _ (by first | (simp; done) | (simp; omega) | omega)))).mono ?_; rintro e wf ⟨rfl, hR, hg⟩; rw [HF.out] at hR ⊢; dsimp only at hR ⊢; rw [HFE.out]; (have hz := hg.size; (try simp only [World.size_alloc, World.size_setCell, World.size_drew] at hz); obtain ⟨gc, gf⟩ := gcell hg; (try simp only [World.size_alloc, World.size_setCell, World.size_drew] at gc); (try simp only [World.size_alloc, World.size_setCell, World.size_drew] at gf); have rc := hR.c0; have rd := hR.c1; have rf := hR.f 0; have rg := hR.f 1); have q0 : w.heap.size < wf.heap.size := (by omega); have q2 : wr.heap.size < wf.heap.size := (by omega)) | (go_at_call 106; refine (text_any _ _ _ _ _ (by (first | assumption | exact Rdr.alloc2 (by assumption) _ | exact Rdr.setFar (by assumption) _ _ (by first | (simp; done) | (simp; omega) | omega)))).mono ?_; rintro e wt ⟨rfl, hR, hg⟩; (first | rw [HL.out] at hR ⊢ | rw [HR.out] at hR ⊢); dsimp only at hR ⊢; (have hz := hg.size; (try simp only [World.size_alloc, World.size_setCell, World.size_drew] at hz); obtain ⟨gc, gf⟩ := gcell hg; (try simp only [World.size_alloc, World.size_setCell, World.size_drew] at gc); (try simp only [World.size_alloc, World.size_setCell, World.size_drew] at gf); have rc := hR.c0; have rd := hR.c1; have rf := hR.f 0; have rg := hR.f 1); have q0 : w.heap.size < wt.heap.size := (by omega); have q2 : wr.heap.size < wt.heap.size := (by omega)) | (go_at_call 107; refine (nodeValid_any _ _ _ _ _ _).mono ?_; rintro e wy ⟨rfl, hby⟩; obtain ⟨hcy, hfy⟩ := bcell hby; have hzy := hby.size; (try simp only [World.size_alloc, World.size_setCell, World.size_drew] at hzy); (try simp only [World.size_alloc, World.size_setCell, World.size_drew] at hcy); (try simp only [World.size_alloc, World.size_setCell, World.size_drew] at hfy); have q0 : w.heap.size < wy.heap.size := (by omega); have q2 : wr.heap.size < wy.heap.size := (by omega)))
        all_goals
          have t0 : wy.cell? ⟨w.heap.size, 0, none⟩ = some (.string ⟨#[]⟩) := by go_simp
          have t1 : wy.cell? ⟨w.heap.size, 1, none⟩ = some (.string ⟨#[]⟩) := by go_simp
          have t2 : wy.cell? ⟨w.heap.size, 2, none⟩ = some (.string ⟨#[]⟩) := by go_simp
          have t3 : wy.cell? ⟨w.heap.size, 3, none⟩ = some (.string ⟨#[]⟩) := by go_simp
          refine bodyPost_ret (v := .tuple #[.agg #[.string k, .string v, .string l, .string r], .bool true]) (by simp [results, Tryd.results77, go_sem, t0, t1, t2, t3, q3, q4]; try rfl) rfl ⟨?_, ?_⟩
          · have e : z = some (k, v, l, r) := by rw [← HZ.out]; have e := HSZ.out; rw [h3] at e; have e2 := of_decide_eq_true e.symm; have e3 : f ≤ 3 := (by omega); exact if_pos (by simp [hw, e2, h5, e3])
            rw [e]; rfl
          · (repeat' (first | exact Below.refl _ _ | (with_reducible assumption) | (with_reducible refine Below.setCell ?_ (by first | (simp; done) | (simp; omega)) _) | refine below_rdr ?_ (by assumption) (by omega) | refine below_then ?_ (by assumption) | (with_reducible refine below_new2 ?_ _)))
  · have hn : decI s x = none := by unfold decI; simp [hw]
    rw [hn]
    go_enter Tryd.func77, Tryd.ntmps77
    go_wp2_with (first | (go_at_call 47; refine (isWidth_any _ _).mono ?_; rintro e wq ⟨rfl, rfl⟩))
    refine bodyPost_ret (v := nodeV none) (by simp [results, Tryd.results77, go_sem, nodeV]; try rfl) rfl ⟨?_, ?_⟩
    · rfl
    · (repeat' (first | exact Below.refl _ _ | (with_reducible assumption) | (with_reducible refine Below.setCell ?_ (by first | (simp; done) | (simp; omega)) _) | refine below_then ?_ (by assumption) | (with_reducible refine below_new2 ?_ _) | (with_reducible refine Below.drew ?_) | (with_reducible refine bdrewN ?_ _)))
end Go.Proofs.YtmfejehhfmaodabDoor
end
section
namespace Go.Proofs.YtmfejehhfmaodabDoor
open Go.RowKit
set_option linter.unusedVariables false
set_option linter.unusedSimpArgs false
def byteAt (s : ByteArray) (i : Nat) : Nat := (s.data.toList.getD i 0).toNat
theorem byteAt_lt (s : ByteArray) (i : Nat) : byteAt s i < 256 := UInt8.toNat_lt _
theorem byteAt_eq (s : ByteArray) (i : Nat) (h : i < s.size) : byteAt s i = (s[i]'h).toNat := by
  have h2 : i < s.data.toList.length := by simpa using h
  unfold byteAt
  rw [List.getD_eq_getElem?_getD, List.getElem?_eq_getElem h2]
  rfl
theorem pieceNum (s : ByteArray) (i : Nat) (h : i < s.size) (h2 : i + 1 < s.size) :
    wrap64 (wrap64 (wrap64 ((s[i]'h).toNat : Int) * 256) + wrap64 ((s[i + 1]'h2).toNat : Int)) = ((byteAt s i * 256 + byteAt s (i + 1) : Nat) : Int) := by
  rw [byteAt_eq s i h, byteAt_eq s (i + 1) h2]
  have h3 := (s[i]'h).toNat_lt
  have h4 := (s[i + 1]'h2).toNat_lt
  unfold wrap64; omega
def pieceS (s : ByteArray) (i : Nat) : Option (ByteArray × Nat) :=
  if s.size < i + 2 then none else if s.size < i + 2 + (byteAt s i * 256 + byteAt s (i + 1)) then none else
    some (s.extract (i + 2) (i + 2 + (byteAt s i * 256 + byteAt s (i + 1))), i + 2 + (byteAt s i * 256 + byteAt s (i + 1)))
def pieceV : Option (ByteArray × Nat) → Value
  | some (k, n) => .tuple #[.string k, .int .i64 n, .bool true]
  | none => .tuple #[.string ⟨#[]⟩, .int .i64 0, .bool false]
set_option maxHeartbeats 400000 in
theorem l2Piece_any (s : ByteArray) (i : Nat) (hs : s.size ≤ 4294967296) (hi : i ≤ 4294967296) (w : World) :
    Calls Tryd.prog 103 #[.string s, .int .i64 i] w fun e w' => e = .returned (pieceV (pieceS s i)) ∧ Below w.heap.size w w' := by
  unfold pieceS
  have hm := byteAt_lt s i
  have hl := byteAt_lt s (i + 1)
  by_cases h1 : s.size < i + 2
  · rw [if_pos h1]
    have g1 : (s.size : Int) < (i : Int) + 2 := by omega
    go_enter Tryd.func103, Tryd.ntmps103
    go_wp2
    refine bodyPost_ret (v := pieceV none) (by simp [results, Tryd.results103, go_sem, pieceV]; try rfl) rfl ⟨?_, ?_⟩
    · rfl
    · (repeat' (first | exact Below.refl _ _ | (with_reducible assumption) | (with_reducible refine Below.setCell ?_ (by first | (simp; done) | (simp; omega)) _) | refine below_then ?_ (by assumption) | (with_reducible refine below_new2 ?_ _) | (with_reducible refine Below.drew ?_) | (with_reducible refine bdrewN ?_ _)))
  · rw [if_neg h1]
    have g1 : ¬ (s.size : Int) < (i : Int) + 2 := by omega
    have b1 : i < s.size := by omega
    have b2 : i + 1 < s.size := by omega
    have hnb : byteAt s i * 256 + byteAt s (i + 1) < 65536 := by omega
    have hnum := pieceNum s i b1 b2
    generalize byteAt s i * 256 + byteAt s (i + 1) = n at hnb hnum ⊢
    have HN := Lib.hid hnum; clear hnum
    have b3 : (0 : Int) ≤ (i : Int) := by omega
    have b4 : (i : Int) < (s.size : Int) := by omega
    have b5 : (0 : Int) ≤ (i : Int) + 1 := by omega
    have b6 : (i : Int) + 1 < (s.size : Int) := by omega
    clear hm hl
    by_cases h2 : s.size < i + 2 + n
    · rw [if_pos h2]
      have g2 : (s.size : Int) < (i : Int) + 2 + n := by omega
      go_enter Tryd.func103, Tryd.ntmps103
      go_wp2
      go_region
      rw [HN.out]
      go_wp2
      refine bodyPost_ret (v := pieceV none) (by simp [results, Tryd.results103, go_sem, pieceV]; try rfl) rfl ⟨?_, ?_⟩
      · rfl
      · (repeat' (first | exact Below.refl _ _ | (with_reducible assumption) | (with_reducible refine Below.setCell ?_ (by first | (simp; done) | (simp; omega)) _) | refine below_then ?_ (by assumption) | (with_reducible refine below_new2 ?_ _) | (with_reducible refine Below.drew ?_) | (with_reducible refine bdrewN ?_ _)))
    · rw [if_neg h2]
      have g2 : ¬ (s.size : Int) < (i : Int) + 2 + n := by omega
      have g3 : (i : Int) + 2 + n ≤ s.size := by omega
      have g4 : (0 : Int) ≤ (i : Int) + 2 := by omega
      have g5 : (i : Int) + 2 ≤ (i : Int) + 2 + n := by omega
      go_enter Tryd.func103, Tryd.ntmps103
      go_wp2
      go_region
      rw [HN.out]
      go_wp2
      refine bodyPost_ret (v := .tuple #[.string (s.extract (i + 2) (i + 2 + n)), .int .i64 ((i : Int) + 2 + n), .bool true]) (by simp [results, Tryd.results103, go_sem, pieceV]; try rfl) rfl ⟨?_, ?_⟩
      · simp [pieceV]
      · (repeat' (first | exact Below.refl _ _ | (with_reducible assumption) | (with_reducible refine Below.setCell ?_ (by first | (simp; done) | (simp; omega)) _) | refine below_then ?_ (by assumption) | (with_reducible refine below_new2 ?_ _) | (with_reducible refine Below.drew ?_) | (with_reducible refine bdrewN ?_ _)))
theorem l2Piece0_any (s : ByteArray) (hs : s.size ≤ 4294967296) (w : World) :
    Calls Tryd.prog 103 #[.string s, .int .i64 0] w fun e w' => e = .returned (pieceV (pieceS s 0)) ∧ Below w.heap.size w w' := l2Piece_any s 0 hs (by omega) w
theorem pieceS_le {s k : ByteArray} {i n : Nat} (h : pieceS s i = some (k, n)) : n ≤ s.size ∧ i + 2 ≤ n := by
  unfold pieceS at h
  split at h
  · cases h
  · split at h
    · cases h
    · simp only [Option.some.injEq, Prod.mk.injEq] at h
      omega
def finS (s : ByteArray) (x : Int) (k v l r : ByteArray) : Option (ByteArray × ByteArray × ByteArray × ByteArray) := if encNode k v l r x = s then some (k, v, l, r) else none
def decS (s : ByteArray) (x : Int) : Option (ByteArray × ByteArray × ByteArray × ByteArray) :=
  match pieceS s 0 with
  | none => none
  | some (k, i) =>
    match pieceS s i with
    | none => none
    | some (v, n) =>
      if s.size ≤ n ∨ isW x = false then none else
      if byteAt s n % 2 = 1 then
        if ((s.size - (n + 1) : Nat) : Int) < x then none else finS s x k v ((s.extract (n + 1) s.size).extract 0 x.toNat) ((s.extract (n + 1) s.size).extract x.toNat (s.size - (n + 1)))
      else finS s x k v ⟨#[]⟩ (s.extract (n + 1) s.size)
set_option maxHeartbeats 4000000 in
theorem specDecodeNode_any (s : ByteArray) (x : Int) (hs : s.size ≤ 4294967296) (w : World) :
    Calls Tryd.prog 73 #[.string s, .int .i64 x] w fun e w' => e = .returned (nodeV (decS s x)) ∧ Below w.heap.size w w' := by
  unfold decS
  rcases h1 : pieceS s 0 with _ | ⟨k, i⟩
  · have H1 := Lib.hid h1; clear h1
    dsimp only
    go_enter Tryd.func73, Tryd.ntmps73
    go_wp2_with (first | (go_at_call_of 103 (Value.int .i64 0); refine (l2Piece0_any s hs _).mono ?_; rintro e wa ⟨rfl, hb_wa⟩; rw [H1.out]; obtain ⟨hc_wa, hf_wa⟩ := bcell hb_wa; have hz_wa := hb_wa.size; (try simp only [World.size_alloc] at hz_wa); (try simp only [World.size_alloc] at hc_wa); (try simp only [World.size_alloc] at hf_wa); have q0 : w.heap.size < wa.heap.size := (by omega); unfold pieceV))
    all_goals
      have t0 : wa.cell? ⟨w.heap.size, 0, none⟩ = some (.string ⟨#[]⟩) := by go_simp
      have t1 : wa.cell? ⟨w.heap.size, 1, none⟩ = some (.string ⟨#[]⟩) := by go_simp
      have t2 : wa.cell? ⟨w.heap.size, 2, none⟩ = some (.string ⟨#[]⟩) := by go_simp
      have t3 : wa.cell? ⟨w.heap.size, 3, none⟩ = some (.string ⟨#[]⟩) := by go_simp
      refine bodyPost_ret (v := .tuple #[.agg #[.string ⟨#[]⟩, .string ⟨#[]⟩, .string ⟨#[]⟩, .string ⟨#[]⟩], .bool false]) (by simp [results, Tryd.results73, go_sem, t0, t1, t2, t3]; try rfl) rfl ⟨?_, ?_⟩
      · rfl
      · (repeat' (first | exact Below.refl _ _ | (with_reducible assumption) | (with_reducible refine Below.setCell ?_ (by first | (simp; done) | (simp; omega)) _) | refine below_then ?_ (by assumption) | (with_reducible refine below_new2 ?_ _) | (with_reducible refine Below.drew ?_) | (with_reducible refine bdrewN ?_ _)))
  · have hi := (pieceS_le h1).1
    have H1 := Lib.hid h1; clear h1
    dsimp only
    rcases h2 : pieceS s i with _ | ⟨v, n⟩
    · have H2 := Lib.hid h2; clear h2
      dsimp only
      go_enter Tryd.func73, Tryd.ntmps73
      go_wp2_with (first | (go_at_call_of 103 (Value.int .i64 0); refine (l2Piece0_any s hs _).mono ?_; rintro e wa ⟨rfl, hb_wa⟩; rw [H1.out]; obtain ⟨hc_wa, hf_wa⟩ := bcell hb_wa; have hz_wa := hb_wa.size; (try simp only [World.size_alloc] at hz_wa); (try simp only [World.size_alloc] at hc_wa); (try simp only [World.size_alloc] at hf_wa); have q0 : w.heap.size < wa.heap.size := (by omega); unfold pieceV) | (go_at_call_of 103 (Value.int .i64 (i : Int)); refine (l2Piece_any s i hs (by omega) _).mono ?_; rintro e wb ⟨rfl, hb_wb⟩; rw [H2.out]; obtain ⟨hc_wb, hf_wb⟩ := bcell hb_wb; have hz_wb := hb_wb.size; (try simp only [World.size_alloc] at hz_wb); (try simp only [World.size_alloc] at hc_wb); (try simp only [World.size_alloc] at hf_wb); have q1 : w.heap.size < wb.heap.size := (by omega); unfold pieceV))
      all_goals
        have t0 : wb.cell? ⟨w.heap.size, 0, none⟩ = some (.string ⟨#[]⟩) := by go_simp
        have t1 : wb.cell? ⟨w.heap.size, 1, none⟩ = some (.string ⟨#[]⟩) := by go_simp
        have t2 : wb.cell? ⟨w.heap.size, 2, none⟩ = some (.string ⟨#[]⟩) := by go_simp
        have t3 : wb.cell? ⟨w.heap.size, 3, none⟩ = some (.string ⟨#[]⟩) := by go_simp
        refine bodyPost_ret (v := .tuple #[.agg #[.string ⟨#[]⟩, .string ⟨#[]⟩, .string ⟨#[]⟩, .string ⟨#[]⟩], .bool false]) (by simp [results, Tryd.results73, go_sem, t0, t1, t2, t3]; try rfl) rfl ⟨?_, ?_⟩
        · rfl
        · (repeat' (first | exact Below.refl _ _ | (with_reducible assumption) | (with_reducible refine Below.setCell ?_ (by first | (simp; done) | (simp; omega)) _) | refine below_then ?_ (by assumption) | (with_reducible refine below_new2 ?_ _) | (with_reducible refine Below.drew ?_) | (with_reducible refine bdrewN ?_ _)))
    · have hn := (pieceS_le h2).1
      have H2 := Lib.hid h2; clear h2
      dsimp only
      by_cases h3 : s.size ≤ n ∨ isW x = false
      · rw [if_pos h3]
        by_cases h4 : s.size ≤ n
        · clear h3
          have h5 : (s.size : Int) ≤ (n : Int) := by omega
          go_enter Tryd.func73, Tryd.ntmps73
          go_wp2_with (first | (go_at_call_of 103 (Value.int .i64 0); refine (l2Piece0_any s hs _).mono ?_; rintro e wa ⟨rfl, hb_wa⟩; rw [H1.out]; obtain ⟨hc_wa, hf_wa⟩ := bcell hb_wa; have hz_wa := hb_wa.size; (try simp only [World.size_alloc] at hz_wa); (try simp only [World.size_alloc] at hc_wa); (try simp only [World.size_alloc] at hf_wa); have q0 : w.heap.size < wa.heap.size := (by omega); unfold pieceV) | (go_at_call_of 103 (Value.int .i64 (i : Int)); refine (l2Piece_any s i hs (by omega) _).mono ?_; rintro e wb ⟨rfl, hb_wb⟩; rw [H2.out]; obtain ⟨hc_wb, hf_wb⟩ := bcell hb_wb; have hz_wb := hb_wb.size; (try simp only [World.size_alloc] at hz_wb); (try simp only [World.size_alloc] at hc_wb); (try simp only [World.size_alloc] at hf_wb); have q1 : w.heap.size < wb.heap.size := (by omega); unfold pieceV))
          all_goals
            have t0 : wb.cell? ⟨w.heap.size, 0, none⟩ = some (.string ⟨#[]⟩) := by go_simp
            have t1 : wb.cell? ⟨w.heap.size, 1, none⟩ = some (.string ⟨#[]⟩) := by go_simp
            have t2 : wb.cell? ⟨w.heap.size, 2, none⟩ = some (.string ⟨#[]⟩) := by go_simp
            have t3 : wb.cell? ⟨w.heap.size, 3, none⟩ = some (.string ⟨#[]⟩) := by go_simp
            refine bodyPost_ret (v := .tuple #[.agg #[.string ⟨#[]⟩, .string ⟨#[]⟩, .string ⟨#[]⟩, .string ⟨#[]⟩], .bool false]) (by simp [results, Tryd.results73, go_sem, t0, t1, t2, t3]; try rfl) rfl ⟨?_, ?_⟩
            · rfl
            · (repeat' (first | exact Below.refl _ _ | (with_reducible assumption) | (with_reducible refine Below.setCell ?_ (by first | (simp; done) | (simp; omega)) _) | refine below_then ?_ (by assumption) | (with_reducible refine below_new2 ?_ _) | (with_reducible refine Below.drew ?_) | (with_reducible refine bdrewN ?_ _)))
        · have h5 : ¬ (s.size : Int) ≤ (n : Int) := by omega
          have h6 : isW x = false := by rcases h3 with h | h <;> simp_all
          clear h3
          go_enter Tryd.func73, Tryd.ntmps73
          go_wp2_with (first | (go_at_call_of 103 (Value.int .i64 0); refine (l2Piece0_any s hs _).mono ?_; rintro e wa ⟨rfl, hb_wa⟩; rw [H1.out]; obtain ⟨hc_wa, hf_wa⟩ := bcell hb_wa; have hz_wa := hb_wa.size; (try simp only [World.size_alloc] at hz_wa); (try simp only [World.size_alloc] at hc_wa); (try simp only [World.size_alloc] at hf_wa); have q0 : w.heap.size < wa.heap.size := (by omega); unfold pieceV) | (go_at_call_of 103 (Value.int .i64 (i : Int)); refine (l2Piece_any s i hs (by omega) _).mono ?_; rintro e wb ⟨rfl, hb_wb⟩; rw [H2.out]; obtain ⟨hc_wb, hf_wb⟩ := bcell hb_wb; have hz_wb := hb_wb.size; (try simp only [World.size_alloc] at hz_wb); (try simp only [World.size_alloc] at hc_wb); (try simp only [World.size_alloc] at hf_wb); have q1 : w.heap.size < wb.heap.size := (by omega); unfold pieceV) | (go_at_call 43; refine (l1Width_any _ _).mono ?_; rintro e wq ⟨rfl, rfl⟩))
          all_goals
            have t0 : wb.cell? ⟨w.heap.size, 0, none⟩ = some (.string ⟨#[]⟩) := by go_simp
            have t1 : wb.cell? ⟨w.heap.size, 1, none⟩ = some (.string ⟨#[]⟩) := by go_simp
            have t2 : wb.cell? ⟨w.heap.size, 2, none⟩ = some (.string ⟨#[]⟩) := by go_simp
            have t3 : wb.cell? ⟨w.heap.size, 3, none⟩ = some (.string ⟨#[]⟩) := by go_simp
            refine bodyPost_ret (v := .tuple #[.agg #[.string ⟨#[]⟩, .string ⟨#[]⟩, .string ⟨#[]⟩, .string ⟨#[]⟩], .bool false]) (by simp [results, Tryd.results73, go_sem, t0, t1, t2, t3]; try rfl) rfl ⟨?_, ?_⟩
            · rfl
            · (repeat' (first | exact Below.refl _ _ | (with_reducible assumption) | (with_reducible refine Below.setCell ?_ (by first | (simp; done) | (simp; omega)) _) | refine below_then ?_ (by assumption) | (with_reducible refine below_new2 ?_ _) | (with_reducible refine Below.drew ?_) | (with_reducible refine bdrewN ?_ _)))
      · rw [if_neg h3]
        have h5 : ¬ (s.size : Int) ≤ (n : Int) := by omega
        have h6 : isW x = true := by cases h : isW x <;> simp_all
        clear h3
        have h7 : 1 ≤ x ∧ x ≤ 32 := by unfold isW at h6; simp at h6; omega
        obtain ⟨h8, h9⟩ := h7
        have g0 : (0 : Int) ≤ (n : Int) := by omega
        have g1 : (n : Int) < (s.size : Int) := by omega
        have g2 : (0 : Int) ≤ (n : Int) + 1 := by omega
        have g3 : (n : Int) + 1 ≤ (s.size : Int) := by omega
        have b1 : n < s.size := by omega
        have hby := byteAt_eq s n b1
        by_cases h10 : byteAt s n % 2 = 1
        · rw [if_pos h10]
          have g4 : (((s[n]'b1).toNat : Int) % 2 == 1) = true := by rw [hby] at h10; rw [beq_iff_eq]; omega
          clear hby h10
          by_cases h11 : ((s.size - (n + 1) : Nat) : Int) < x
          · rw [if_pos h11]
            go_enter Tryd.func73, Tryd.ntmps73
            go_wp2_with (first | (go_at_call_of 103 (Value.int .i64 0); refine (l2Piece0_any s hs _).mono ?_; rintro e wa ⟨rfl, hb_wa⟩; rw [H1.out]; obtain ⟨hc_wa, hf_wa⟩ := bcell hb_wa; have hz_wa := hb_wa.size; (try simp only [World.size_alloc] at hz_wa); (try simp only [World.size_alloc] at hc_wa); (try simp only [World.size_alloc] at hf_wa); have q0 : w.heap.size < wa.heap.size := (by omega); unfold pieceV) | (go_at_call_of 103 (Value.int .i64 (i : Int)); refine (l2Piece_any s i hs (by omega) _).mono ?_; rintro e wb ⟨rfl, hb_wb⟩; rw [H2.out]; obtain ⟨hc_wb, hf_wb⟩ := bcell hb_wb; have hz_wb := hb_wb.size; (try simp only [World.size_alloc] at hz_wb); (try simp only [World.size_alloc] at hc_wb); (try simp only [World.size_alloc] at hf_wb); have q1 : w.heap.size < wb.heap.size := (by omega); unfold pieceV) | (go_at_call 43; refine (l1Width_any _ _).mono ?_; rintro e wq ⟨rfl, rfl⟩) | (go_at_call 80; refine (specEncodeNode_any _ _ _ _ _ _).mono ?_; rintro e wc ⟨rfl, hb_wc⟩; obtain ⟨hc_wc, hf_wc⟩ := bcell hb_wc; have hz_wc := hb_wc.size; (try simp only [World.size_alloc, World.size_setCell, World.size_drew] at hz_wc); (try simp only [World.size_alloc, World.size_setCell, World.size_drew] at hc_wc); (try simp only [World.size_alloc, World.size_setCell, World.size_drew] at hf_wc); (try have q_w_0_wc : w.heap.size < wc.heap.size := by omega); (try have q_wb_0_wc : wb.heap.size < wc.heap.size := by omega)))
            all_goals
              have t0 : wb.cell? ⟨w.heap.size, 0, none⟩ = some (.string ⟨#[]⟩) := by go_simp
              have t1 : wb.cell? ⟨w.heap.size, 1, none⟩ = some (.string ⟨#[]⟩) := by go_simp
              have t2 : wb.cell? ⟨w.heap.size, 2, none⟩ = some (.string ⟨#[]⟩) := by go_simp
              have t3 : wb.cell? ⟨w.heap.size, 3, none⟩ = some (.string ⟨#[]⟩) := by go_simp
              refine bodyPost_ret (v := .tuple #[.agg #[.string ⟨#[]⟩, .string ⟨#[]⟩, .string ⟨#[]⟩, .string ⟨#[]⟩], .bool false]) (by simp [results, Tryd.results73, go_sem, t0, t1, t2, t3, q1]; try rfl) rfl ⟨?_, ?_⟩
              · rfl
              · (repeat' (first | exact Below.refl _ _ | (with_reducible assumption) | (with_reducible refine Below.setCell ?_ (by first | (simp; done) | (simp; omega)) _) | refine below_then ?_ (by assumption) | (with_reducible refine below_new2 ?_ _) | (with_reducible refine Below.drew ?_) | (with_reducible refine bdrewN ?_ _)))
          · rw [if_neg h11]
            have g5 : x ≤ ((s.size - (n + 1) : Nat) : Int) := by omega
            have g7 : (0 : Int) ≤ x := by omega
            unfold finS
            by_cases h12 : encNode k v ((s.extract (n + 1) s.size).extract 0 x.toNat) ((s.extract (n + 1) s.size).extract x.toNat (s.size - (n + 1))) x = s
            · rw [if_pos h12]
              have g6 : ((encNode k v ((s.extract (n + 1) s.size).extract 0 x.toNat) ((s.extract (n + 1) s.size).extract x.toNat (s.size - (n + 1))) x).toList == s.toList) = true := by rw [str_eq]; exact decide_eq_true h12
              clear h12
              go_enter Tryd.func73, Tryd.ntmps73
              go_wp2_with (first | (go_at_call_of 103 (Value.int .i64 0); refine (l2Piece0_any s hs _).mono ?_; rintro e wa ⟨rfl, hb_wa⟩; rw [H1.out]; obtain ⟨hc_wa, hf_wa⟩ := bcell hb_wa; have hz_wa := hb_wa.size; (try simp only [World.size_alloc] at hz_wa); (try simp only [World.size_alloc] at hc_wa); (try simp only [World.size_alloc] at hf_wa); have q0 : w.heap.size < wa.heap.size := (by omega); unfold pieceV) | (go_at_call_of 103 (Value.int .i64 (i : Int)); refine (l2Piece_any s i hs (by omega) _).mono ?_; rintro e wb ⟨rfl, hb_wb⟩; rw [H2.out]; obtain ⟨hc_wb, hf_wb⟩ := bcell hb_wb; have hz_wb := hb_wb.size; (try simp only [World.size_alloc] at hz_wb); (try simp only [World.size_alloc] at hc_wb); (try simp only [World.size_alloc] at hf_wb); have q1 : w.heap.size < wb.heap.size := (by omega); unfold pieceV) | (go_at_call 43; refine (l1Width_any _ _).mono ?_; rintro e wq ⟨rfl, rfl⟩) | (go_at_call 80; refine (specEncodeNode_any _ _ _ _ _ _).mono ?_; rintro e wc ⟨rfl, hb_wc⟩; obtain ⟨hc_wc, hf_wc⟩ := bcell hb_wc; have hz_wc := hb_wc.size; (try simp only [World.size_alloc, World.size_setCell, World.size_drew] at hz_wc); (try simp only [World.size_alloc, World.size_setCell, World.size_drew] at hc_wc); (try simp only [World.size_alloc, World.size_setCell, World.size_drew] at hf_wc); (try have q_w_0_wc : w.heap.size < wc.heap.size := by omega); (try have q_wb_0_wc : wb.heap.size < wc.heap.size := by omega)))
              all_goals
                have t0 : wc.cell? ⟨w.heap.size, 0, none⟩ = some (.string ⟨#[]⟩) := by go_simp
                have t1 : wc.cell? ⟨w.heap.size, 1, none⟩ = some (.string ⟨#[]⟩) := by go_simp
                have t2 : wc.cell? ⟨w.heap.size, 2, none⟩ = some (.string ⟨#[]⟩) := by go_simp
                have t3 : wc.cell? ⟨w.heap.size, 3, none⟩ = some (.string ⟨#[]⟩) := by go_simp
                refine bodyPost_ret (v := .tuple #[.agg #[.string k, .string v, .string ((s.extract (n + 1) s.size).extract 0 x.toNat), .string ((s.extract (n + 1) s.size).extract x.toNat (s.size - (n + 1)))], .bool true]) (by simp [results, Tryd.results73, go_sem, t0, t1, t2, t3, q1]; try rfl) rfl ⟨?_, ?_⟩
                · rfl
                · (repeat' (first | exact Below.refl _ _ | (with_reducible assumption) | (with_reducible refine Below.setCell ?_ (by first | (simp; done) | (simp; omega)) _) | refine below_then ?_ (by assumption) | (with_reducible refine below_new2 ?_ _) | (with_reducible refine Below.drew ?_) | (with_reducible refine bdrewN ?_ _)))
            · rw [if_neg h12]
              have g6 : ((encNode k v ((s.extract (n + 1) s.size).extract 0 x.toNat) ((s.extract (n + 1) s.size).extract x.toNat (s.size - (n + 1))) x).toList == s.toList) = false := by rw [str_eq]; exact decide_eq_false h12
              clear h12
              go_enter Tryd.func73, Tryd.ntmps73
              go_wp2_with (first | (go_at_call_of 103 (Value.int .i64 0); refine (l2Piece0_any s hs _).mono ?_; rintro e wa ⟨rfl, hb_wa⟩; rw [H1.out]; obtain ⟨hc_wa, hf_wa⟩ := bcell hb_wa; have hz_wa := hb_wa.size; (try simp only [World.size_alloc] at hz_wa); (try simp only [World.size_alloc] at hc_wa); (try simp only [World.size_alloc] at hf_wa); have q0 : w.heap.size < wa.heap.size := (by omega); unfold pieceV) | (go_at_call_of 103 (Value.int .i64 (i : Int)); refine (l2Piece_any s i hs (by omega) _).mono ?_; rintro e wb ⟨rfl, hb_wb⟩; rw [H2.out]; obtain ⟨hc_wb, hf_wb⟩ := bcell hb_wb; have hz_wb := hb_wb.size; (try simp only [World.size_alloc] at hz_wb); (try simp only [World.size_alloc] at hc_wb); (try simp only [World.size_alloc] at hf_wb); have q1 : w.heap.size < wb.heap.size := (by omega); unfold pieceV) | (go_at_call 43; refine (l1Width_any _ _).mono ?_; rintro e wq ⟨rfl, rfl⟩) | (go_at_call 80; refine (specEncodeNode_any _ _ _ _ _ _).mono ?_; rintro e wc ⟨rfl, hb_wc⟩; obtain ⟨hc_wc, hf_wc⟩ := bcell hb_wc; have hz_wc := hb_wc.size; (try simp only [World.size_alloc, World.size_setCell, World.size_drew] at hz_wc); (try simp only [World.size_alloc, World.size_setCell, World.size_drew] at hc_wc); (try simp only [World.size_alloc, World.size_setCell, World.size_drew] at hf_wc); (try have q_w_0_wc : w.heap.size < wc.heap.size := by omega); (try have q_wb_0_wc : wb.heap.size < wc.heap.size := by omega)))
              all_goals
                have t0 : wc.cell? ⟨w.heap.size, 0, none⟩ = some (.string ⟨#[]⟩) := by go_simp
                have t1 : wc.cell? ⟨w.heap.size, 1, none⟩ = some (.string ⟨#[]⟩) := by go_simp
                have t2 : wc.cell? ⟨w.heap.size, 2, none⟩ = some (.string ⟨#[]⟩) := by go_simp
                have t3 : wc.cell? ⟨w.heap.size, 3, none⟩ = some (.string ⟨#[]⟩) := by go_simp
                refine bodyPost_ret (v := .tuple #[.agg #[.string ⟨#[]⟩, .string ⟨#[]⟩, .string ⟨#[]⟩, .string ⟨#[]⟩], .bool false]) (by simp [results, Tryd.results73, go_sem, t0, t1, t2, t3, q1]; try rfl) rfl ⟨?_, ?_⟩
                · rfl
                · (repeat' (first | exact Below.refl _ _ | (with_reducible assumption) | (with_reducible refine Below.setCell ?_ (by first | (simp; done) | (simp; omega)) _) | refine below_then ?_ (by assumption) | (with_reducible refine below_new2 ?_ _) | (with_reducible refine Below.drew ?_) | (with_reducible refine bdrewN ?_ _)))
        · rw [if_neg h10]
          have g4 : (((s[n]'b1).toNat : Int) % 2 == 1) = false := by rw [hby] at h10; rw [beq_eq_false_iff_ne]; omega
          clear hby h10
          unfold finS
          by_cases h12 : encNode k v ⟨#[]⟩ (s.extract (n + 1) s.size) x = s
          · rw [if_pos h12]
            have g6 : ((encNode k v ⟨#[]⟩ (s.extract (n + 1) s.size) x).toList == s.toList) = true := by rw [str_eq]; exact decide_eq_true h12
            clear h12
            go_enter Tryd.func73, Tryd.ntmps73
            go_wp2_with (first | (go_at_call_of 103 (Value.int .i64 0); refine (l2Piece0_any s hs _).mono ?_; rintro e wa ⟨rfl, hb_wa⟩; rw [H1.out]; obtain ⟨hc_wa, hf_wa⟩ := bcell hb_wa; have hz_wa := hb_wa.size; (try simp only [World.size_alloc] at hz_wa); (try simp only [World.size_alloc] at hc_wa); (try simp only [World.size_alloc] at hf_wa); have q0 : w.heap.size < wa.heap.size := (by omega); unfold pieceV) | (go_at_call_of 103 (Value.int .i64 (i : Int)); refine (l2Piece_any s i hs (by omega) _).mono ?_; rintro e wb ⟨rfl, hb_wb⟩; rw [H2.out]; obtain ⟨hc_wb, hf_wb⟩ := bcell hb_wb; have hz_wb := hb_wb.size; (try simp only [World.size_alloc] at hz_wb); (try simp only [World.size_alloc] at hc_wb); (try simp only [World.size_alloc] at hf_wb); have q1 : w.heap.size < wb.heap.size := (by omega); unfold pieceV) | (go_at_call 43; refine (l1Width_any _ _).mono ?_; rintro e wq ⟨rfl, rfl⟩) | (go_at_call 80; refine (specEncodeNode_any _ _ _ _ _ _).mono ?_; rintro e wc ⟨rfl, hb_wc⟩; obtain ⟨hc_wc, hf_wc⟩ := bcell hb_wc; have hz_wc := hb_wc.size; (try simp only [World.size_alloc, World.size_setCell, World.size_drew] at hz_wc); (try simp only [World.size_alloc, World.size_setCell, World.size_drew] at hc_wc); (try simp only [World.size_alloc, World.size_setCell, World.size_drew] at hf_wc); (try have q_w_0_wc : w.heap.size < wc.heap.size := by omega); (try have q_wb_0_wc : wb.heap.size < wc.heap.size := by omega)))
            all_goals
              have t0 : wc.cell? ⟨w.heap.size, 0, none⟩ = some (.string ⟨#[]⟩) := by go_simp
              have t1 : wc.cell? ⟨w.heap.size, 1, none⟩ = some (.string ⟨#[]⟩) := by go_simp
              have t2 : wc.cell? ⟨w.heap.size, 2, none⟩ = some (.string ⟨#[]⟩) := by go_simp
              have t3 : wc.cell? ⟨w.heap.size, 3, none⟩ = some (.string ⟨#[]⟩) := by go_simp
              refine bodyPost_ret (v := .tuple #[.agg #[.string k, .string v, .string ⟨#[]⟩, .string (s.extract (n + 1) s.size)], .bool true]) (by simp [results, Tryd.results73, go_sem, t0, t1, t2, t3, q1]; try rfl) rfl ⟨?_, ?_⟩
              · rfl
              · (repeat' (first | exact Below.refl _ _ | (with_reducible assumption) | (with_reducible refine Below.setCell ?_ (by first | (simp; done) | (simp; omega)) _) | refine below_then ?_ (by assumption) | (with_reducible refine below_new2 ?_ _) | (with_reducible refine Below.drew ?_) | (with_reducible refine bdrewN ?_ _)))
          · rw [if_neg h12]
            have g6 : ((encNode k v ⟨#[]⟩ (s.extract (n + 1) s.size) x).toList == s.toList) = false := by rw [str_eq]; exact decide_eq_false h12
            clear h12
            go_enter Tryd.func73, Tryd.ntmps73
            go_wp2_with (first | (go_at_call_of 103 (Value.int .i64 0); refine (l2Piece0_any s hs _).mono ?_; rintro e wa ⟨rfl, hb_wa⟩; rw [H1.out]; obtain ⟨hc_wa, hf_wa⟩ := bcell hb_wa; have hz_wa := hb_wa.size; (try simp only [World.size_alloc] at hz_wa); (try simp only [World.size_alloc] at hc_wa); (try simp only [World.size_alloc] at hf_wa); have q0 : w.heap.size < wa.heap.size := (by omega); unfold pieceV) | (go_at_call_of 103 (Value.int .i64 (i : Int)); refine (l2Piece_any s i hs (by omega) _).mono ?_; rintro e wb ⟨rfl, hb_wb⟩; rw [H2.out]; obtain ⟨hc_wb, hf_wb⟩ := bcell hb_wb; have hz_wb := hb_wb.size; (try simp only [World.size_alloc] at hz_wb); (try simp only [World.size_alloc] at hc_wb); (try simp only [World.size_alloc] at hf_wb); have q1 : w.heap.size < wb.heap.size := (by omega); unfold pieceV) | (go_at_call 43; refine (l1Width_any _ _).mono ?_; rintro e wq ⟨rfl, rfl⟩) | (go_at_call 80; refine (specEncodeNode_any _ _ _ _ _ _).mono ?_; rintro e wc ⟨rfl, hb_wc⟩; obtain ⟨hc_wc, hf_wc⟩ := bcell hb_wc; have hz_wc := hb_wc.size; (try simp only [World.size_alloc, World.size_setCell, World.size_drew] at hz_wc); (try simp only [World.size_alloc, World.size_setCell, World.size_drew] at hc_wc); (try simp only [World.size_alloc, World.size_setCell, World.size_drew] at hf_wc); (try have q_w_0_wc : w.heap.size < wc.heap.size := by omega); (try have q_wb_0_wc : wb.heap.size < wc.heap.size := by omega)))
            all_goals
              have t0 : wc.cell? ⟨w.heap.size, 0, none⟩ = some (.string ⟨#[]⟩) := by go_simp
              have t1 : wc.cell? ⟨w.heap.size, 1, none⟩ = some (.string ⟨#[]⟩) := by go_simp
              have t2 : wc.cell? ⟨w.heap.size, 2, none⟩ = some (.string ⟨#[]⟩) := by go_simp
              have t3 : wc.cell? ⟨w.heap.size, 3, none⟩ = some (.string ⟨#[]⟩) := by go_simp
              refine bodyPost_ret (v := .tuple #[.agg #[.string ⟨#[]⟩, .string ⟨#[]⟩, .string ⟨#[]⟩, .string ⟨#[]⟩], .bool false]) (by simp [results, Tryd.results73, go_sem, t0, t1, t2, t3, q1]; try rfl) rfl ⟨?_, ?_⟩
              · rfl
              · (repeat' (first | exact Below.refl _ _ | (with_reducible assumption) | (with_reducible refine Below.setCell ?_ (by first | (simp; done) | (simp; omega)) _) | refine below_then ?_ (by assumption) | (with_reducible refine below_new2 ?_ _) | (with_reducible refine Below.drew ?_) | (with_reducible refine bdrewN ?_ _)))
end Go.Proofs.YtmfejehhfmaodabDoor
end
section
namespace Go.Proofs.YtmfejehhfmaodabDoor
open Go.RowKit
set_option linter.unusedVariables false
set_option linter.unusedSimpArgs false
theorem ext_ext (s : ByteArray) (a b c d : Nat) : (s.extract a b).extract c d = s.extract (a + c) (min (a + d) b) := by
  apply ByteArray.ext
  simp [ByteArray.data_extract, Array.extract_extract]
theorem ext_size (s : ByteArray) (a b : Nat) : (s.extract a b).size = min b s.size - a := by simp
theorem ext_list (s : ByteArray) (a b : Nat) : (s.extract a b).data.toList = (s.data.toList.drop a).take (b - a) := by
  simp [ByteArray.data_extract, Array.toList_extract, List.extract]
theorem text_ok (s : ByteArray) (i m : Nat) (h : i + m ≤ s.size) : textR (s.extract i s.size) false m = (s.extract i (i + m), s.extract (i + m) s.size, false) := by
  unfold textR
  have hz := ext_size s i s.size
  rw [if_neg (by simp; omega)]
  rw [ext_ext, ext_ext, hz]
  refine Prod.ext ?_ (Prod.ext ?_ rfl)
  · show s.extract (i + 0) (min (i + ((m : Nat) : Int).toNat) s.size) = _
    congr 1
    simp; omega
  · show s.extract (i + ((m : Nat) : Int).toNat) (min (i + (min s.size s.size - i)) s.size) = _
    congr 1
    simp; omega
theorem text_bad (s : ByteArray) (i : Nat) (m : Int) (h : (s.size : Int) < i + m) (hi : i ≤ s.size) : (textR (s.extract i s.size) false m).2.2 = true := by
  unfold textR
  have hz := ext_size s i s.size
  rw [if_pos (by right; right; rw [hz]; omega)]
theorem text_stays (r : ByteArray) (m : Int) : textR r true m = (⟨#[]⟩, r, true) := by
  unfold textR
  rw [if_pos (Or.inl rfl)]
theorem sized_stays (r : ByteArray) : (sizedR r true).2.2 = true := by
  unfold sizedR
  rw [text_stays, text_stays]
theorem two_bytes (s : ByteArray) (i : Nat) (h : i + 2 ≤ s.size) : numV (s.extract i (i + 2)).data.toList = byteAt s i * 256 + byteAt s (i + 1) := by
  rw [ext_list]
  have hl : s.data.toList.length = s.size := rfl
  unfold byteAt
  rw [List.drop_eq_getElem_cons (by omega : i < s.data.toList.length), List.drop_eq_getElem_cons (by omega : i + 1 < s.data.toList.length)]
  rw [show i + 2 - i = 2 by omega]
  simp [numV, List.getD_eq_getElem?_getD, List.getElem?_eq_getElem (by omega : i < s.data.toList.length), List.getElem?_eq_getElem (by omega : i + 1 < s.data.toList.length)]
theorem one_byte (s : ByteArray) (i : Nat) (h : i + 1 ≤ s.size) : numV (s.extract i (i + 1)).data.toList = byteAt s i := by
  rw [ext_list]
  have hl : s.data.toList.length = s.size := rfl
  unfold byteAt
  rw [List.drop_eq_getElem_cons (by omega : i < s.data.toList.length)]
  rw [show i + 1 - i = 1 by omega]
  simp [numV, List.getD_eq_getElem?_getD, List.getElem?_eq_getElem (by omega : i < s.data.toList.length)]
theorem sized_piece (s : ByteArray) (i : Nat) (hi : i ≤ s.size) : (∀ k n, pieceS s i = some (k, n) → sizedR (s.extract i s.size) false = (k, s.extract n s.size, false)) ∧ (pieceS s i = none → (sizedR (s.extract i s.size) false).2.2 = true) := by
  unfold pieceS sizedR
  by_cases h1 : s.size < i + 2
  · rw [if_pos h1]
    refine ⟨fun k n h => (by cases h), fun _ => ?_⟩
    have hb := text_bad s i 2 (by omega) hi
    rw [hb, text_stays]
  · rw [if_neg h1]
    have ht := text_ok s i 2 (by omega)
    rw [show ((2 : Nat) : Int) = 2 from rfl] at ht
    rw [ht]
    dsimp only
    rw [two_bytes s i (by omega)]
    generalize byteAt s i * 256 + byteAt s (i + 1) = m
    by_cases h2 : s.size < i + 2 + m
    · rw [if_pos h2]
      refine ⟨fun k n h => (by cases h), fun _ => text_bad s (i + 2) m (by omega) (by omega)⟩
    · rw [if_neg h2]
      refine ⟨fun k n h => ?_, fun h => (by cases h)⟩
      simp only [Option.some.injEq, Prod.mk.injEq] at h
      obtain ⟨rfl, rfl⟩ := h
      exact text_ok s (i + 2) m (by omega)
theorem ext_full (s : ByteArray) : s.extract 0 s.size = s := by
  apply ByteArray.ext
  simp [ByteArray.data_extract]
theorem size0 (q : ByteArray) (h : q.size = 0) : q = ⟨#[]⟩ := by
  apply ByteArray.ext
  have h2 : q.data.size = 0 := h
  exact Array.eq_empty_of_size_eq_zero h2
theorem ite_same {α : Type} {p q : Prop} [Decidable p] [Decidable q] (h : p ↔ q) (a b : α) : ite p a b = ite q a b := by
  by_cases hp : p
  · rw [if_pos hp, if_pos (h.1 hp)]
  · rw [if_neg hp, if_neg (fun hq => hp (h.2 hq))]
theorem flagsOf_cases (l r : ByteArray) : flagsOf l r = (if l.size = 0 then 0 else 1) + (if r.size = 0 then 0 else 2) := rfl
theorem nodeOk_right {k v l r : ByteArray} {x : Int} (h : nodeOk k v l r x = true) : r.size = 0 ∨ (r.size : Int) = x := by
  unfold nodeOk hOk at h
  simp only [Bool.and_eq_true, Bool.or_eq_true, decide_eq_true_eq] at h
  omega
theorem tail_same (k v l q : ByteArray) (x : Int) (f : Nat) (hx : isW x = true) (hl : (l.size = 0 ∧ f % 2 = 0) ∨ (l.size ≠ 0 ∧ f % 2 = 1)) :
    (if nodeOk k v l q x = true ∧ flagsOf l q = (f : Int) then some (k, v, l, q) else none) =
      (if isW x = true ∧ (optText (decide (f / 2 % 2 = 1)) (l, q, false) x).2.2 = false ∧ (optText (decide (f / 2 % 2 = 1)) (l, q, false) x).2.1.size = 0 ∧ f ≤ 3 ∧ nodeOk k v l (optText (decide (f / 2 % 2 = 1)) (l, q, false) x).1 x = true then some (k, v, l, (optText (decide (f / 2 % 2 = 1)) (l, q, false) x).1) else none) := by
  have hx2 : 1 ≤ x ∧ x ≤ 32 := by unfold isW at hx; simp at hx; omega
  rw [flagsOf_cases]
  by_cases hb : f / 2 % 2 = 1
  · have ho : optText (decide (f / 2 % 2 = 1)) (l, q, false) x = textR q false x := by unfold optText; rw [if_pos (by simpa using hb)]
    rw [ho]
    by_cases h1 : (q.size : Int) < x
    · have ht : textR q false x = (⟨#[]⟩, q, true) := by unfold textR; rw [if_pos (Or.inr (Or.inr h1))]
      rw [ht, if_neg, if_neg]
      · intro h; exact Bool.noConfusion h.2.1
      · rintro ⟨h2, h3⟩
        have h4 := nodeOk_right h2
        have h5 : q.size = 0 := by omega
        rw [if_pos h5] at h3
        split at h3 <;> omega
    · have ht : textR q false x = (q.extract 0 x.toNat, q.extract x.toNat q.size, false) := by
        unfold textR; rw [if_neg (by simp; omega)]
      rw [ht]
      by_cases h2 : (q.size : Int) = x
      · have e1 : q.extract 0 x.toNat = q := by rw [show x.toNat = q.size by omega]; exact ext_full q
        have e2 : (q.extract x.toNat q.size).size = 0 := by rw [ext_size]; omega
        have h0 : q.size ≠ 0 := by omega
        dsimp only
        rw [e1, e2, if_neg h0]
        refine ite_same ?_ _ _
        constructor
        · rintro ⟨h3, h4⟩
          refine ⟨hx, rfl, rfl, ?_, h3⟩
          split at h4 <;> omega
        · rintro ⟨_, _, _, h3, h4⟩
          refine ⟨h4, ?_⟩
          split <;> omega
      · rw [if_neg, if_neg]
        · rintro ⟨_, _, h3, _⟩
          dsimp only at h3
          rw [ext_size] at h3
          omega
        · rintro ⟨h3, h4⟩
          have h5 := nodeOk_right h3
          have h6 : q.size = 0 := by omega
          omega
  · have ho : optText (decide (f / 2 % 2 = 1)) (l, q, false) x = (⟨#[]⟩, q, false) := by unfold optText; rw [if_neg (by simpa using hb)]
    rw [ho]
    dsimp only
    by_cases h0 : q.size = 0
    · rw [if_pos h0, size0 q h0]
      refine ite_same ?_ _ _
      constructor
      · rintro ⟨h3, h4⟩
        refine ⟨hx, rfl, rfl, ?_, h3⟩
        split at h4 <;> omega
      · rintro ⟨_, _, _, h3, h4⟩
        refine ⟨h4, ?_⟩
        split <;> omega
    · rw [if_neg, if_neg]
      · rintro ⟨_, _, h3, _⟩; exact h0 h3
      · rintro ⟨h3, h4⟩
        rw [if_neg h0] at h4
        split at h4 <;> omega
theorem piece_parts {s k : ByteArray} {i n : Nat} (h : pieceS s i = some (k, n)) : s.extract i n = sizedS k := by
  unfold pieceS at h
  split at h
  · cases h
  · split at h
    · cases h
    · rename_i h1 h2
      simp only [Option.some.injEq, Prod.mk.injEq] at h
      obtain ⟨rfl, rfl⟩ := h
      have hm := byteAt_lt s i
      have hl := byteAt_lt s (i + 1)
      have hz : (s.extract (i + 2) (i + 2 + (byteAt s i * 256 + byteAt s (i + 1)))).size = byteAt s i * 256 + byteAt s (i + 1) := by rw [ext_size]; omega
      have hs : s.data.toList.length = s.size := rfl
      unfold sizedS
      rw [hz, show (((byteAt s i * 256 + byteAt s (i + 1) : Nat) : Int) / 256) = (byteAt s i : Int) by omega, show (((byteAt s i * 256 + byteAt s (i + 1) : Nat) : Int) % 256) = (byteAt s (i + 1) : Int) by omega]
      generalize byteAt s i * 256 + byteAt s (i + 1) = m at *
      rw [byteS_list, byteS_list]
      apply ByteArray.ext
      apply Array.toList_inj.mp
      rw [ByteArray.data_append, ByteArray.data_append, Array.toList_append, Array.toList_append, ext_list, ext_list]
      rw [List.drop_eq_getElem_cons (by omega : i < s.data.toList.length), List.drop_eq_getElem_cons (by omega : i + 1 < s.data.toList.length)]
      rw [show i + 2 + m - i = m + 2 by omega, show i + 2 + m - (i + 2) = m by omega]
      unfold byteAt
      simp [List.getD_eq_getElem?_getD, List.getElem?_eq_getElem (by omega : i < s.data.toList.length), List.getElem?_eq_getElem (by omega : i + 1 < s.data.toList.length)]
theorem ext_join (s : ByteArray) (a b c : Nat) (h1 : a ≤ b) (h2 : b ≤ c) : s.extract a b ++ s.extract b c = s.extract a c := by
  apply ByteArray.ext
  apply Array.toList_inj.mp
  rw [ByteArray.data_append, Array.toList_append, ext_list, ext_list, ext_list]
  rw [show c - a = (b - a) + (c - b) by omega, List.take_add, List.drop_drop, show a + (b - a) = b by omega]
theorem one_ext (s : ByteArray) (n : Nat) (h : n < s.size) : s.extract n (n + 1) = byteS (byteAt s n) := by
  have hs : s.data.toList.length = s.size := rfl
  rw [byteS_list]
  apply ByteArray.ext
  apply Array.toList_inj.mp
  rw [ext_list, List.drop_eq_getElem_cons (by omega : n < s.data.toList.length), show n + 1 - n = 1 by omega]
  unfold byteAt
  simp [List.getD_eq_getElem?_getD, List.getElem?_eq_getElem (by omega : n < s.data.toList.length)]
theorem text_parts {s k v : ByteArray} {i n : Nat} (h1 : pieceS s 0 = some (k, i)) (h2 : pieceS s i = some (v, n)) (hn : n < s.size) :
    s = sizedS k ++ sizedS v ++ byteS (byteAt s n) ++ s.extract (n + 1) s.size := by
  have a1 := pieceS_le h1
  have a2 := pieceS_le h2
  rw [← piece_parts h1, ← piece_parts h2, ← one_ext s n hn, ext_join s 0 i n (by omega) (by omega), ext_join s 0 n (n + 1) (by omega) (by omega), ext_join s 0 (n + 1) s.size (by omega) (by omega), ext_full]
theorem enc_iff (s k v l q rest : ByteArray) (f : Nat) (x : Int) (hf : f < 256) (hs : s = sizedS k ++ sizedS v ++ byteS f ++ rest) (hr : rest = l ++ q) :
    encNode k v l q x = s ↔ nodeOk k v l q x = true ∧ flagsOf l q = (f : Int) := by
  subst hr
  unfold encNode
  by_cases hok : nodeOk k v l q x = true
  · rw [if_pos hok]
    have hfl : flagsOf l q = 0 ∨ flagsOf l q = 1 ∨ flagsOf l q = 2 ∨ flagsOf l q = 3 := by
      rw [flagsOf_cases]
      split <;> split <;> simp
    obtain ⟨g, hg, hg2⟩ : ∃ g : Nat, flagsOf l q = (g : Int) ∧ g < 256 := by
      rcases hfl with h | h | h | h
      · exact ⟨0, h, by omega⟩
      · exact ⟨1, h, by omega⟩
      · exact ⟨2, h, by omega⟩
      · exact ⟨3, h, by omega⟩
    rw [hg]
    constructor
    · intro h
      refine ⟨hok, ?_⟩
      rw [hs] at h
      have h2 := congrArg (fun z : ByteArray => z.data.toList) h
      simp only [byteS_list, ByteArray.data_append, Array.toList_append, List.append_assoc, List.append_cancel_left_eq] at h2
      simp only [List.cons_append, List.nil_append, List.cons.injEq] at h2
      have h3 := congrArg UInt8.toNat h2.1
      rw [UInt8.toNat_ofNat', UInt8.toNat_ofNat'] at h3
      omega
    · rintro ⟨_, h⟩
      have hgf : g = f := by omega
      rw [hs, hgf]
      simp only [ByteArray.append_assoc]
  · rw [if_neg hok]
    constructor
    · intro h
      have h2 : (0 : Nat) = (sizedS k ++ sizedS v ++ byteS f ++ (l ++ q)).size := congrArg ByteArray.size (h.trans hs)
      simp only [ByteArray.size_append, byteS_size] at h2
      omega
    · rintro ⟨h, _⟩
      exact absurd h hok
theorem stays_text (r : ByteArray) (bad : Bool) (m : Int) (h : bad = true) : (textR r bad m).2.2 = true := by
  subst h; rw [text_stays]
theorem stays_opt (p : Bool) (t : ByteArray × ByteArray × Bool) (x : Int) (h : t.2.2 = true) : (optText p t x).2.2 = true := by
  unfold optText
  split
  · exact stays_text _ _ _ h
  · exact h
theorem tail_bad (k : ByteArray) (V : ByteArray × ByteArray × Bool) (x : Int) (h : V.2.2 = true) :
    (optText (decide (numV (textR V.2.1 V.2.2 1).1.data.toList / 2 % 2 = 1)) (optText (decide (numV (textR V.2.1 V.2.2 1).1.data.toList % 2 = 1)) (textR V.2.1 V.2.2 1) x) x).2.2 = true :=
  stays_opt _ _ x (stays_opt _ _ x (stays_text _ _ 1 h))
theorem dec_same (s : ByteArray) (x : Int) : decS s x = decI s x := by
  unfold decS decI
  dsimp only
  by_cases hx : isW x = true
  · rcases h1 : pieceS s 0 with _ | ⟨k, i⟩
    · have hb := (sized_piece s 0 (Nat.zero_le _)).2 h1
      rw [ext_full] at hb
      have hc : (sizedR (sizedR s false).2.1 (sizedR s false).2.2).2.2 = true := by rw [hb]; exact sized_stays _
      have hd := tail_bad s _ x hc
      rw [if_neg]
      rintro ⟨_, h, _⟩
      rw [hd] at h
      cases h
    · have hk := (sized_piece s 0 (Nat.zero_le _)).1 k i h1
      rw [ext_full] at hk
      have hi := pieceS_le h1
      rw [hk]
      dsimp only
      rcases h2 : pieceS s i with _ | ⟨v, n⟩
      · have hc := (sized_piece s i hi.1).2 h2
        have hd := tail_bad s _ x hc
        rw [if_neg]
        rintro ⟨_, h, _⟩
        rw [hd] at h
        cases h
      · have hv := (sized_piece s i hi.1).1 v n h2
        have hn := pieceS_le h2
        rw [hv]
        dsimp only
        by_cases h3 : s.size ≤ n
        · rw [if_pos (Or.inl h3)]
          have hc := text_bad s n 1 (by omega) hn.1
          have hd := stays_opt (decide (numV (textR (s.extract n s.size) false 1).1.data.toList / 2 % 2 = 1)) _ x (stays_opt (decide (numV (textR (s.extract n s.size) false 1).1.data.toList % 2 = 1)) _ x hc)
          rw [if_neg]
          rintro ⟨_, h, _⟩
          rw [hd] at h
          cases h
        · rw [if_neg (by rw [hx]; simp; omega)]
          have hf := text_ok s n 1 (by omega)
          rw [show ((1 : Nat) : Int) = 1 from rfl] at hf
          rw [hf]
          dsimp only
          rw [one_byte s n (by omega)]
          have hp := text_parts h1 h2 (by omega)
          have hlt := byteAt_lt s n
          generalize byteAt s n = f at hp hlt ⊢
          have hrz : (s.extract (n + 1) s.size).size = s.size - (n + 1) := by rw [ext_size]; omega
          generalize s.extract (n + 1) s.size = rest at hp hrz ⊢
          generalize s.extract n (n + 1) = ft
          by_cases hodd : f % 2 = 1
          · rw [if_pos hodd, ← hrz]
            have ho : optText (decide (f % 2 = 1)) (ft, rest, false) x = textR rest false x := by unfold optText; rw [if_pos (by simpa using hodd)]
            rw [ho]
            have hx2 : 1 ≤ x ∧ x ≤ 32 := by unfold isW at hx; simp at hx; omega
            by_cases h4 : ((rest.size : Nat) : Int) < x
            · rw [if_pos h4, if_neg]
              rintro ⟨_, h, _⟩
              have hc : (textR rest false x).2.2 = true := by unfold textR; rw [if_pos (Or.inr (Or.inr h4))]
              have hd := stays_opt (decide (f / 2 % 2 = 1)) _ x hc
              rw [hd] at h
              cases h
            · rw [if_neg h4]
              have ht : textR rest false x = (rest.extract 0 x.toNat, rest.extract x.toNat rest.size, false) := by
                unfold textR; rw [if_neg (by simp; omega)]
              rw [ht]
              have hj : rest = rest.extract 0 x.toNat ++ rest.extract x.toNat rest.size := by rw [ext_join rest 0 x.toNat rest.size (by omega) (by omega), ext_full]
              have hls : (rest.extract 0 x.toNat).size = x.toNat := by rw [ext_size]; omega
              unfold finS
              rw [ite_same (enc_iff s k v _ _ rest f x hlt hp hj)]
              exact tail_same k v _ _ x f hx (Or.inr ⟨by omega, hodd⟩)
          · rw [if_neg hodd]
            have ho : optText (decide (f % 2 = 1)) (ft, rest, false) x = (⟨#[]⟩, rest, false) := by unfold optText; rw [if_neg (by simpa using hodd)]
            rw [ho]
            have hj : rest = (⟨#[]⟩ : ByteArray) ++ rest := by apply ByteArray.ext; simp [ByteArray.data_append]
            unfold finS
            rw [ite_same (enc_iff s k v _ _ rest f x hlt hp hj)]
            exact tail_same k v _ _ x f hx (Or.inl ⟨rfl, by omega⟩)
  · have hx' : isW x = false := by simpa using hx
    rw [if_neg (fun h => hx h.1)]
    rcases h1 : pieceS s 0 with _ | ⟨k, i⟩
    · rfl
    · dsimp only
      rcases h2 : pieceS s i with _ | ⟨v, n⟩
      · rfl
      · dsimp only
        rw [if_pos (Or.inr hx')]
end Go.Proofs.YtmfejehhfmaodabDoor
end
section
namespace Go.Proofs.YtmfejehhfmaodabDoor.Z
open Go.RowKit Go.Proofs.YtmfejehhfmaodabDoor
set_option linter.unusedVariables false
set_option linter.unusedSimpArgs false
def decT : Option (ByteArray × ByteArray × ByteArray × ByteArray) → ByteArray × ByteArray × ByteArray × ByteArray × Bool
  | none => (⟨#[]⟩, ⟨#[]⟩, ⟨#[]⟩, ⟨#[]⟩, false)
  | some (a, b, c, d) => (a, b, c, d, true)
def spec_DecodeNode.f (a0 : ByteArray) (a1 : Int) : Option (ByteArray × ByteArray × ByteArray × ByteArray × Bool) := if a0.size ≤ 4294967296 then some (decT (decI a0 a1)) else none
theorem spec_DecodeNode.calls (a0 : ByteArray) (a1 : Int) (r1 r2 r3 r4 : ByteArray) (r5 : Bool) (w : World) (h : spec_DecodeNode.f a0 a1 = some (r1, r2, r3, r4, r5)) :
    Calls Tryd.prog 73 #[.string a0, .int .i64 a1] w fun e w' => e = .returned (.tuple #[.agg #[.string r1, .string r2, .string r3, .string r4], .bool r5]) ∧ Below w.heap.size w w' := by
  unfold spec_DecodeNode.f at h
  split at h
  · rename_i hs
    have h := Option.some.inj h
    refine (specDecodeNode_any a0 a1 hs w).mono ?_
    rintro e w' ⟨rfl, hb⟩
    rw [dec_same]
    refine ⟨?_, hb⟩
    rcases hz : decI a0 a1 with _ | ⟨a, b, c, d⟩
    all_goals
      rw [hz] at h
      simp only [decT, Prod.mk.injEq] at h
      obtain ⟨rfl, rfl, rfl, rfl, rfl⟩ := h
      rfl
  · cases h
def impl_DecodeNode.f (a0 : ByteArray) (a1 : Int) : Option (ByteArray × ByteArray × ByteArray × ByteArray × Bool) := some (decT (decI a0 a1))
theorem impl_DecodeNode.calls (a0 : ByteArray) (a1 : Int) (r1 r2 r3 r4 : ByteArray) (r5 : Bool) (w : World) (h : impl_DecodeNode.f a0 a1 = some (r1, r2, r3, r4, r5)) :
    Calls Tryd.prog 77 #[.string a0, .int .i64 a1] w fun e w' => e = .returned (.tuple #[.agg #[.string r1, .string r2, .string r3, .string r4], .bool r5]) ∧ Below w.heap.size w w' := by
  have h := Option.some.inj h
  refine (decodeNode_any a0 a1 w).mono ?_
  rintro e w' ⟨rfl, hb⟩
  refine ⟨?_, hb⟩
  rcases hz : decI a0 a1 with _ | ⟨a, b, c, d⟩
  all_goals
    rw [hz] at h
    simp only [decT, Prod.mk.injEq] at h
    obtain ⟨rfl, rfl, rfl, rfl, rfl⟩ := h
    rfl
end Go.Proofs.YtmfejehhfmaodabDoor.Z
end
section
namespace Go.Proofs.YtmfejehhfmaodabDoor.Z
open Go.RowKit Go.Proofs.YtmfejehhfmaodabDoorW.PrintWords Go.Proofs.YtmfejehhfmaodabDoorW.PrintLast Go.Proofs.YtmfejehhfmaodabDoorW.PrintMore
attribute [local go_sem] max2_int min2_int max_two min_two max_three min_three max_four min_four   -- for this text's walks alone
set_option linter.unusedVariables false
set_option linter.unusedSimpArgs false
def impl_isWidth.f (a0 : Int) : Option (Bool) := if a0 ≥ 1 then (some (decide (a0 ≤ 32))) else (some false)
set_option maxHeartbeats 8000000 in
set_option maxRecDepth 100000 in
theorem impl_isWidth.calls (a0 : Int) (r : Bool) (w : World) (h : impl_isWidth.f a0 = some r) :
    Calls Tryd.prog 47 #[.int .i64 a0] w fun e w' => e = .returned (.bool r) ∧ Drawn0 w w' := by
  have H : (if a0 ≥ 1 then (some (decide (a0 ≤ 32))) else (some false)) = some r := h
  clear h
  by_cases c2 : a0 ≥ 1
  · rw [if_pos c2] at H
    have c2b0 : decide (1 ≤ a0) = true := decide_eq_true c2
    clear c2
    obtain rfl := Option.some.inj H
    go_enter Tryd.func47, Tryd.ntmps47
    go_wp2
    go_ret
    exact ⟨by first | rfl | (simp; done) | (simp [*]; done), by repeat (first | exact Drawn0.refl _ | apply Drawn0.step)⟩
  · rw [if_neg c2] at H
    have c2b0 : decide (1 ≤ a0) = false := decide_eq_false c2
    clear c2
    obtain rfl := Option.some.inj H
    go_enter Tryd.func47, Tryd.ntmps47
    go_wp2
    go_ret
    exact ⟨by first | rfl | (simp; done) | (simp [*]; done), by repeat (first | exact Drawn0.refl _ | apply Drawn0.step)⟩
end Go.Proofs.YtmfejehhfmaodabDoor.Z
end
section
namespace Go.Proofs.YtmfejehhfmaodabDoor.Z
open Go.RowKit Go.Proofs.YtmfejehhfmaodabDoorW.PrintWords Go.Proofs.YtmfejehhfmaodabDoorW.PrintLast Go.Proofs.YtmfejehhfmaodabDoorW.PrintMore
attribute [local go_sem] max2_int min2_int max_two min_two max_three min_three max_four min_four   -- for this text's walks alone
set_option linter.unusedVariables false
set_option linter.unusedSimpArgs false
def impl_Pool_valid.f (a0_0 : Int) (l0_1 : List ByteArray) : Option (Bool) := (impl_isWidth.f a0_0).bind fun t370002 => (if t370002 = true then (some (decide ((l0_1.length : Int) ≤ 20000))) else (some false))
set_option maxHeartbeats 8000000 in
set_option maxRecDepth 100000 in
theorem impl_Pool_valid.calls (a0_0 : Int) (A0_1 : Option Addr) (c0_1 : Nat) (l0_1 : List ByteArray) (r : Bool) (w : World) (hr0_1 : Kd.C Kd.string w A0_1 l0_1.length l0_1) (hc0_1 : l0_1.length ≤ c0_1) (h : impl_Pool_valid.f a0_0 l0_1 = some r) :
    Calls Tryd.prog 37 #[.agg #[.int .i64 a0_0, .slice A0_1 l0_1.length c0_1]] w fun e w' => e = .returned (.bool r) ∧ Below w.heap.size w w' := by
  have hu30 := Tryd.underlying30
  have HR0_1 := Aside0.mk hr0_1
  have HC0_1 := Aside0.mk hc0_1
  clear hr0_1 hc0_1
  have HB := Aside0.mk (Below.refl w.heap.size w)
  have H : ((impl_isWidth.f a0_0).bind fun t370002 => (if t370002 = true then (some (decide ((l0_1.length : Int) ≤ 20000))) else (some false))) = some r := h
  clear h
  replace H := Option.bind_eq_some_iff.mp H
  obtain ⟨t370002, A20, H⟩ := H
  replace H : (if t370002 = true then (some (decide ((l0_1.length : Int) ≤ 20000))) else (some false)) = some r := H
  have A2 := Aside0.mk A20
  clear A20
  by_cases c3 : t370002 = true
  · subst c3
    have H1 : (some (decide ((l0_1.length : Int) ≤ 20000))) = some r := by rw [if_pos rfl] at H; exact H
    clear H
    have H := H1
    clear H1
    obtain rfl := Option.some.inj H
    go_enter Tryd.func37, Tryd.ntmps37
    go_wp2_with (first | ((with_reducible refine gate_dst (N := 1) rfl ?_); (try (refine gate_guard (by rfl) ?_; dsimp only)); refine box_event ?hg (N := 1) ?hd (cs := #[.int .i64 a0_0, .slice A0_1 l0_1.length c0_1]) (t := 30) ?hr ?_; (case hd => rfl); (case hg => rfl); (case hr => first | (go_simp; done) | (go_simp; rfl)); intro gb370001 hg w4 hbox hb; have n0_ := Aside0.mk (below_step (by repeat (first | (with_reducible first | exact HB.out | apply below_alloc | apply pw_below_drewN | apply below_drew1) | exact HB.out)) hb); have n1_ := Aside0.mk (hbox); have n2_ := Aside0.mk ((by rw [hg]; exact (below_size (by repeat (first | (with_reducible first | exact HB.out | apply below_alloc | apply pw_below_drewN | apply below_drew1) | exact HB.out))) : w.heap.size ≤ gb370001)); have n3_ := Aside0.mk ((by rw [hg]; exact (below_size (by repeat (first | (with_reducible first | exact HB.out | apply below_alloc | apply pw_below_drewN | apply below_drew1) | exact HB.out))) : w.heap.size ≤ gb370001)); clear HB; have HB := n0_; have BK370001 := n1_; have GW370001 := n2_; have GE370001 := n3_; clear n0_ n1_ n2_ n3_; clear hb hbox hg; have hcz5_0 : w4.cell? ⟨gb370001, 0, none⟩ = some (.int .i64 a0_0) := (blk_cell BK370001.out 0).trans rfl; have hcz5_1 : w4.cell? ⟨gb370001, 1, none⟩ = some (.slice A0_1 l0_1.length c0_1) := (blk_cell BK370001.out 1).trans rfl; have hfz5_0 := blk_frozen BK370001.out 0; have hfz5_1 := blk_frozen BK370001.out 1) | ((with_reducible refine gate_callee (f := 47) rfl ?_); refine goesL_ (some 5) rfl rfl Tryd.func47 (by kernel_rfl) rfl #[.int .i64 a0_0] rfl (by (try simp only [List.map_toArray, List.map_cons, List.map_nil]); first | done | rfl | (simp only [List.length_drop, List.length_take]; rfl)) ?_; (with_reducible refine (impl_isWidth.calls a0_0 true _ A2.out).mono ?_); rintro e w' ⟨rfl, ⟨nd, rfl⟩⟩; refine ⟨_, rfl, ?_⟩))
    go_ret
    exact ⟨by first | rfl | (simp [errW_none, errW_some] <;> rfl) | (simp [*, errW_none, errW_some] <;> rfl), by repeat (first | (with_reducible first | exact HB.out | apply below_alloc | apply pw_below_drewN | apply below_drew1 | refine below_set ?_ GE370001.out) | exact HB.out)⟩
  · replace c3 := Bool.eq_false_iff.mpr c3
    subst c3
    have H1 : (some false) = some r := by rw [if_neg (show ¬ (false = true) by decide)] at H; exact H
    clear H
    have H := H1
    clear H1
    obtain rfl := Option.some.inj H
    go_enter Tryd.func37, Tryd.ntmps37
    go_wp2_with (first | ((with_reducible refine gate_dst (N := 1) rfl ?_); (try (refine gate_guard (by rfl) ?_; dsimp only)); refine box_event ?hg (N := 1) ?hd (cs := #[.int .i64 a0_0, .slice A0_1 l0_1.length c0_1]) (t := 30) ?hr ?_; (case hd => rfl); (case hg => rfl); (case hr => first | (go_simp; done) | (go_simp; rfl)); intro gb370001 hg w6 hbox hb; have n0_ := Aside0.mk (below_step (by repeat (first | (with_reducible first | exact HB.out | apply below_alloc | apply pw_below_drewN | apply below_drew1) | exact HB.out)) hb); have n1_ := Aside0.mk (hbox); have n2_ := Aside0.mk ((by rw [hg]; exact (below_size (by repeat (first | (with_reducible first | exact HB.out | apply below_alloc | apply pw_below_drewN | apply below_drew1) | exact HB.out))) : w.heap.size ≤ gb370001)); have n3_ := Aside0.mk ((by rw [hg]; exact (below_size (by repeat (first | (with_reducible first | exact HB.out | apply below_alloc | apply pw_below_drewN | apply below_drew1) | exact HB.out))) : w.heap.size ≤ gb370001)); clear HB; have HB := n0_; have BK370001 := n1_; have GW370001 := n2_; have GE370001 := n3_; clear n0_ n1_ n2_ n3_; clear hb hbox hg; have hcz7_0 : w6.cell? ⟨gb370001, 0, none⟩ = some (.int .i64 a0_0) := (blk_cell BK370001.out 0).trans rfl; have hcz7_1 : w6.cell? ⟨gb370001, 1, none⟩ = some (.slice A0_1 l0_1.length c0_1) := (blk_cell BK370001.out 1).trans rfl; have hfz7_0 := blk_frozen BK370001.out 0; have hfz7_1 := blk_frozen BK370001.out 1) | ((with_reducible refine gate_callee (f := 47) rfl ?_); refine goesL_ (some 5) rfl rfl Tryd.func47 (by kernel_rfl) rfl #[.int .i64 a0_0] rfl (by (try simp only [List.map_toArray, List.map_cons, List.map_nil]); first | done | rfl | (simp only [List.length_drop, List.length_take]; rfl)) ?_; (with_reducible refine (impl_isWidth.calls a0_0 false _ A2.out).mono ?_); rintro e w' ⟨rfl, ⟨nd, rfl⟩⟩; refine ⟨_, rfl, ?_⟩))
    go_ret
    exact ⟨by first | rfl | (simp [errW_none, errW_some] <;> rfl) | (simp [*, errW_none, errW_some] <;> rfl), by repeat (first | (with_reducible first | exact HB.out | apply below_alloc | apply pw_below_drewN | apply below_drew1 | refine below_set ?_ GE370001.out) | exact HB.out)⟩
end Go.Proofs.YtmfejehhfmaodabDoor.Z
end
