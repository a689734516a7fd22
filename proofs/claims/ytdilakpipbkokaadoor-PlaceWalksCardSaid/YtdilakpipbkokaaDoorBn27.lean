import Derived.BigQuiet
import Derived.Deep.QuietTactic
import Derived.Test.YtdilakpipbkokaaDoorBn9
import Derived.Test.YtdilakpipbkokaaDoorBn3
set_option linter.unusedVariables false
set_option linter.unusedSimpArgs false
namespace Go.Proofs.YtdilakpipbkokaaDoor
open Go.RowKit

/-! OfDone: the package's end of a walk as the reference has it -/
theorem cc_get : ∀ (ts : List CC) (k : Nat) (h : k < ts.length) (i : Nat), i < 2 → (ts.flatMap CC.cells)[k * 2 + i]? = (ts[k].cells)[i]? := by
  intro ts
  induction ts with
  | nil => intro k h; cases h
  | cons t ts ih =>
    intro k h i hi
    rw [List.flatMap_cons]
    cases k with
    | zero => rw [Nat.zero_mul, Nat.zero_add, List.getElem?_append_left (by simp [CC.cells]; omega)]; rfl
    | succ k =>
      rw [List.getElem?_append_right (by simp [CC.cells]; omega), show (k + 1) * 2 + i - t.cells.length = k * 2 + i by simp [CC.cells]; omega]
      exact ih k (by simpa using h) i hi
theorem cc_cells {w : World} {A : Option Addr} {ts : List CC} (h : Row w A (ts.flatMap CC.cells)) {k : Nat} (hk : k < ts.length) : ∃ b off, A = some ⟨b, off, none⟩ ∧ w.cell? ⟨b, off + k * 2, none⟩ = some (.string (mkB ts[k].p.1)) ∧ w.cell? ⟨b, off + k * 2 + 1, none⟩ = some (.slice ts[k].X ts[k].p.2.length ts[k].c) := by
  obtain ⟨b, off, e, c0⟩ := h (k * 2 + 0) _ (cc_get ts k hk 0 (by omega))
  refine ⟨b, off, e, c0, ?_⟩
  obtain ⟨b', off', e', c1⟩ := h (k * 2 + 1) _ (cc_get ts k hk 1 (by omega))
  rw [e] at e'; injection e' with e'; injection e' with e1 e2 _
  subst e1; subst e2
  rw [Nat.add_assoc]; exact c1
theorem cc_len (ts : List CC) : (ts.flatMap CC.cells).length = ts.length * 2 := by
  induction ts with
  | nil => rfl
  | cons t ts ih => rw [List.flatMap_cons, List.length_append, ih]; simp [CC.cells]; omega
theorem cc_step (ts : List CC) {k : Nat} (hk : k < ts.length) : (ts.take (k + 1)).flatMap CC.cells = (ts.take k).flatMap CC.cells ++ ts[k].cells := by
  rw [List.take_succ_eq_append_getElem hk, List.flatMap_append, List.flatMap_singleton]
theorem grown_keep {w w9 : World} {o ob : Obj} {r : Option Nat} {k : Nat} (hg : (w.alloc o).grownBy w9 r) (hk : w.heap[k]? = some ob) (hn : r ≠ some k) : w9.heap[k]? = some ob := by
  have hl := (Array.getElem?_eq_some_iff.1 hk).1
  rw [hg.block k (by simp; omega) (fun e => hn e.symm)]
  exact (old_block _ _ hl).trans hk
/-- The load of the calls, under a name: go_region_held3 then takes it in its turn. -/
def ldOf : Op := Op.load 40 (Operand.tmp 21)
@[go_sem] theorem ldOf_eq : ldOf = Op.load 40 (Operand.tmp 21) := rfl
theorem cell_othA {w : World} {b c i j : Nat} {u z : Value} (h : w.cell? ⟨b, i, none⟩ = some u) (hn : b ≠ c) : (w.setCell ⟨c, j, none⟩ z).cell? ⟨b, i, none⟩ = some u :=
  (World.cell?_of_block (show (w.setCell ⟨c, j, none⟩ z).heap[b]? = w.heap[b]? from Below.heap_setCell _ _ _ _ hn)).trans h
theorem grown_cell {w w9 : World} {o : Obj} {r : Option Nat} {b i : Nat} {u : Value} (hg : (w.alloc o).grownBy w9 r) (hk : w.cell? ⟨b, i, none⟩ = some u) (hn : r ≠ some b) : w9.cell? ⟨b, i, none⟩ = some u := by
  have hl := World.block_lt_of_cell? w _ hk
  simp only at hl
  refine (World.cell?_of_block (show w9.heap[b]? = w.heap[b]? from ?_)).trans hk
  rw [hg.block b (by simp; omega) (fun e => hn e.symm)]
  exact old_block _ _ hl
def OfPost (D : DTup) (AO : Option Addr) (cO : Nat) (ts : List CC) (w : World) : Ending → World → Prop := fun e w' => ∃ AC cC, e = .returned (doneV D AO cO AC cC) ∧ DnAt w' D AO AC ts ∧ Below w.heap.size w w'
set_option maxHeartbeats 8000000 in
set_option maxRecDepth 100000 in
theorem OfDone_any (D : DTup) (AO : Option Addr) (cO : Nat) (AC : Option Addr) (cC : Nat) (ts : List CC) (hs : DSm D) (w : World) (hd : DnAt w D AO AC ts) :
    Calls Tryd.prog 13 #[adV D AO cO AC cC] w (OfPost D AO cO ts w) := by
  obtain ⟨how, val, tk, out, calls⟩ := D
  have hlen : ts.length = calls.length := by rw [← show ts.map (·.p) = calls from hd.map, List.length_map]
  have hl1000 : calls.length ≤ 1000 := hs.calls
  obtain ⟨q, hq⟩ : ∃ q, w.heap.size = q := ⟨_, rfl⟩
  obtain ⟨mb, hmb⟩ : ∃ mb, q + 2 = mb := ⟨_, rfl⟩
  obtain ⟨rb, hrb⟩ : ∃ rb, q + 1 = rb := ⟨_, rfl⟩
  obtain ⟨w2, hw2⟩ : ∃ w2, (w.alloc (.cells #[.string (mkB how), .int .i64 val, .int .i64 tk, .slice AO out.length cO, .slice AC calls.length cC] 48)).alloc (.cells #[.string ⟨#[]⟩, .int .i64 0, .slice none 0 0, .int .i64 0, .slice none 0 0] 42) = w2 := ⟨_, rfl⟩
  obtain ⟨wA, hwA⟩ : ∃ wA, w2.alloc (.cells #[.string (mkB how), .int .i64 val, .slice AO out.length cO, .int .i64 tk, .slice none 0 0] 42) = wA := ⟨_, rfl⟩
  have hz2 : w2.heap.size = mb := by rw [← hw2, ← hmb, ← hq]; simp
  have hb2 : Below w.heap.size w w2 := by rw [← hw2]; exact grow_alloc (grow_alloc (grow_refl _) _) _
  have hbA : Below w.heap.size w wA := by rw [← hwA]; exact grow_alloc hb2 _
  have hq2 : w2.heap[q]? = some (.cells #[.string (mkB how), .int .i64 val, .int .i64 tk, .slice AO out.length cO, .slice AC calls.length cC] 48 (0, 0)) := by rw [← hw2, ← hq]; exact (old_block _ _ (by simp)).trans (heap_alloc_new w _)
  have hqA : wA.heap[q]? = some (.cells #[.string (mkB how), .int .i64 val, .int .i64 tk, .slice AO out.length cO, .slice AC calls.length cC] 48 (0, 0)) := by rw [← hwA]; exact (old_block _ _ (by omega)).trans hq2
  have hrA : wA.heap[rb]? = some (.cells #[.string ⟨#[]⟩, .int .i64 0, .slice none 0 0, .int .i64 0, .slice none 0 0] 42 (0, 0)) := by rw [← hwA]; exact (old_block _ _ (by omega)).trans (by rw [← hw2, ← hrb, ← hq]; exact new_block _ _ (by simp))
  have hmA : wA.heap[mb]? = some (.cells #[.string (mkB how), .int .i64 val, .slice AO out.length cO, .int .i64 tk, .slice none 0 0] 42 (0, 0)) := by rw [← hwA]; exact new_block _ _ hz2.symm
  have HDN : Hid (∀ w', Below w.heap.size w w' → Row w' AO (intVs out) ∧ Row w' AC (ts.flatMap CC.cells) ∧ ∀ t ∈ ts, Row w' t.X (intVs t.p.2)) := fun w' hb => have k := Keeps.of_below hb; ⟨hd.out.keep k, hd.calls.keep k, fun t ht => (hd.rows t ht).keep k⟩
  have HMAP : Hid (ts.map (·.p) = calls) := hd.map
  have HLEN := Lib.hid hlen
  have HW2 := Lib.hid hw2
  have HWA := Lib.hid hwA
  have HQ := Lib.hid (And.intro hq (And.intro hmb (And.intro hrb hz2)))
  have HST : Hid (Below w.heap.size w wA ∧ wA.heap[q]? = _ ∧ wA.heap[rb]? = _ ∧ wA.heap[mb]? = _) := ⟨hbA, hqA, hrA, hmA⟩
  have hlt1 : q < mb ∧ rb < mb ∧ q ≤ rb ∧ ¬ q = rb := by omega
  have HL1 := Lib.hid hlt1
  obtain ⟨g0, g1, g2, g3, g4⟩ := row5A hq2
  unfold adV
  simp only
  clear hd hs hlen hw2 hwA hq hmb hrb hz2 hb2 hbA hq2 hqA hrA hmA hlt1
  go_enter Tryd.func13, Tryd.ntmps13
  go_upto_region 1 with fail
  change Code.wp _ _ _ _ ((w.alloc (.cells #[.string (mkB how), .int .i64 val, .int .i64 tk, .slice AO out.length cO, .slice AC calls.length cC] 48)).alloc (.cells #[.string ⟨#[]⟩, .int .i64 0, .slice none 0 0, .int .i64 0, .slice none 0 0] 42))
  rw [HW2.out, HQ.out.1, HQ.out.2.2.1]
  go_upto_region 2 with fail
  rw [HWA.out, HQ.out.2.2.2]
  clear g0 g1 g2 g3 g4
  go_wp2_with fail
  go_loopw [4] (fun i wr => ∃ (k : Nat) (v : Value), k ≤ calls.length ∧ i = .int .i64 k ∧ wr.ownsRow wA.heap.size 79 2 v k ((ts.take k).flatMap CC.cells) ∧ wr.heap[mb]? = some (.cells #[.string (mkB how), .int .i64 val, .slice AO out.length cO, .int .i64 tk, v] 42 (0, 0)) ∧ Below mb wA wr) (fun i _ => calls.length - (intOf i).toNat)
  case atStart => exact ⟨0, _, Nat.zero_le _, rfl, World.ownsRow_nil _ _ _ _, HST.out.2.2.2, Below.refl _ _⟩
  case round =>
    obtain ⟨k, v, hk, rfl, hown, hblk, hbel⟩ := hrel
    obtain ⟨A1, c1, rfl⟩ := own_slice hown
    have hq := (hbel.block q HL1.out.1).trans HST.out.2.1
    have hr := (hbel.block rb HL1.out.2.1).trans HST.out.2.2.1
    obtain ⟨g0, g1, g2, g3, g4⟩ := row5A hq
    obtain ⟨m0, m1, m2, m3, m4⟩ := row5A hblk
    by_cases hlt : k < calls.length
    · have hlt' : (k : Int) < (calls.length : Int) := by omega
      have hk0 : (0 : Int) ≤ k := by omega
      have hkt : k < ts.length := by have := HLEN.out; omega
      have hbw : Below w.heap.size w wr := HST.out.1.trans (hbel.mono (by have := HQ.out.1; have := HL1.out.1; omega))
      obtain ⟨b5, off5, rfl, t0, t1⟩ := cc_cells (HDN.out wr hbw).2.1 hkt
      obtain ⟨t, ht⟩ : ∃ t, ts[k] = t := ⟨_, rfl⟩
      rw [ht] at t0 t1
      obtain ⟨⟨nm, l⟩, X, cX⟩ := t
      simp only at t0 t1
      have HT : Hid (ts[k]? = some ⟨(nm, l), X, cX⟩) := show _ = _ by rw [List.getElem?_eq_getElem hkt, ht]
      obtain ⟨i0, hi, hz0, hz1, hz2⟩ := info_parts toldInfo
      have q1 : (wr.alloc (.cells #[.string (mkB nm), .slice X l.length cX] 79)).cell? ⟨mb, 4, none⟩ = some (.slice A1 k c1) := Keeps.alloc _ _ _ _ m4
      have HO := Lib.hid hown
      have HBLK := Lib.hid hblk
      have HBEL := Lib.hid hbel
      have HLT := Lib.hid (And.intro hlt hkt)
      have hmlt : mb < wr.heap.size := (Array.getElem?_eq_some_iff.1 hblk).1
      have hAlt : wA.heap.size ≤ wr.heap.size := hbel.size
      have hk1000 : k + 1 ≤ 1000 := by omega
      clear ht hown hblk hbel hq hr hbw hlt hkt
      have hbn5 : (Value.slice A1 k c1).ownBlock ≠ some b5 := fun e => by
        have h1 := (own_lt HO.out e).1
        have h2 := World.block_lt_of_cell? w _ (show w.cell? ⟨b5, off5 + k * 2, none⟩ = _ from by
          obtain ⟨b6, off6, e6, c6, -⟩ := cc_cells (HDN.out w (grow_refl _)).2.1 HLT.out.2
          injection e6 with e6
          injection e6 with e7 e8 _
          subst e7; subst e8
          exact c6)
        have h3 := HST.out.1.size
        simp only at h2
        omega
      have hbnq : (Value.slice A1 k c1).ownBlock ≠ some q := fun e => by
        have h1 := (own_lt HO.out e).1
        have h2 := (Array.getElem?_eq_some_iff.1 HST.out.2.1).1
        omega
      have hb5m : b5 ≠ mb := fun e => by
        have h2 := World.block_lt_of_cell? w _ (show w.cell? ⟨b5, off5 + k * 2, none⟩ = _ from by
          obtain ⟨b6, off6, e6, c6, -⟩ := cc_cells (HDN.out w (grow_refl _)).2.1 HLT.out.2
          injection e6 with e6
          injection e6 with e7 e8 _
          subst e7; subst e8
          exact c6)
        have h3 := HQ.out.1
        have h4 := HL1.out
        simp only at h2
        omega
      have hqm : q ≠ mb := by have := HL1.out; omega
      have hmle : mb ≤ wr.heap.size := Nat.le_of_lt hmlt
      have hmA : mb ≤ wA.heap.size := Nat.le_of_lt (Array.getElem?_eq_some_iff.1 HST.out.2.2.2).1
      have HMM := Lib.hid (And.intro hmle hmA)
      clear hmle hmA
      go_upto_region 5 with fail
      rw [show Op.load 40 (Operand.tmp 21) = ldOf from rfl]
      go_region_held3 (fun w' => w'.cell? ⟨q, 4, none⟩ = some (.slice (some ⟨b5, off5, none⟩) calls.length cC) ∧ w'.cell? ⟨b5, off5 + k * 2, none⟩ = some (.string (mkB nm)) ∧ w'.cell? ⟨b5, off5 + k * 2 + 1, none⟩ = some (.slice X l.length cX))
        (first
          | exact ⟨g4, t0, t1⟩
          | exact HJ.out
          | (go_split_ands
             refine ⟨?_, ?_, ?_⟩
             all_goals (first | assumption | exact Keeps.alloc _ _ _ _ (by assumption) | exact cell_othA (by assumption) hqm | exact cell_othA (by assumption) hb5m)))
        (first
          | (refine step_append_lies _ rfl _ _ 40 rfl wA.heap.size 79 i0 _ 2 40 Tryd.underlying40 hi hz0 hz1 hz2 rfl (by decide) _ k ((ts.take k).flatMap CC.cells) rfl (by first | exact (World.ownsRow.alloc HO.out _).drewN 1 | exact (HO.out.drewN 1).alloc _ | exact World.ownsRow.alloc HO.out _) ⟨wr.heap.size, 0, none⟩ 1 1 [.string (mkB nm), .slice X l.length cX] rfl rfl (by first | exact World.news_of_block (heap_alloc_new wr _) | exact World.news_of_block (heap_alloc_new wr.drew _) | exact World.news_of_block (w := (wr.alloc (.cells #[.string (mkB nm), .slice X l.length cX] 79)).drew) (heap_alloc_new wr _)) (fun u hu => by simp at hu; rcases hu with rfl | rfl <;> rfl) (by decide) (by unfold maxLen; omega) (by omega) (by first | (show wA.heap.size ≤ (wr.alloc _).heap.size; simp; omega) | (simp; omega)) _ rfl ?_; intro g cap w9 hown9 hgrow hat hlt9; have H9 := Lib.hid (And.intro hown9 (And.intro (World.grownBy.mk hgrow.os hgrow.tape hgrow.output hgrow.size hgrow.block : (wr.alloc (.cells #[.string (mkB nm), .slice X l.length cX] 79)).grownBy w9 (Value.slice A1 k c1).ownBlock) hat)); have hb9 := grown_keep H9.out.2.1 HBLK.out (own_else HO.out HBLK.out (fun cs e => by injection e with _ e _; exact absurd e (by decide))); have o1 := (row5A hb9).2.2.2.2; have z1 := row_frozen hb9 4; have HB9 := Lib.hid hb9; have HJ := Lib.hid (And.intro (grown_cell H9.out.2.1 g4 hbnq) (And.intro (grown_cell H9.out.2.1 t0 hbn5) (grown_cell H9.out.2.1 t1 hbn5))); clear hown9 hgrow hat hb9))
      all_goals
        go_wp2_with fail
        go_roundw
        case rel =>
          have hk9 := HLT.out
          have hts : ts[k]'hk9.2 = ⟨(nm, l), X, cX⟩ := by have h := HT.out; rw [List.getElem?_eq_getElem hk9.2] at h; exact Option.some.inj h
          have hgm : (Value.slice (some ⟨g, 0, none⟩) (k + 1) cap).ownBlock ≠ some mb := own_else H9.out.1 HB9.out (fun cs e => by injection e with _ e _; exact absurd e (by decide))
          refine ⟨k + 1, .slice (some ⟨g, 0, none⟩) (k + 1) cap, by omega, by go_num, ?_, row_set (j := 4) _ HB9.out (by simp), HBEL.out.trans ((Below.grown ((Below.refl mb wr).alloc HMM.out.1 _) H9.out.2.1 (by have := HMM.out.1; simp; omega) (fun z hz => by have h1 := (own_lt HO.out hz).1; have := HMM.out.2; omega)).setCell (p := ⟨mb, 4, none⟩) (Nat.le_refl _) _)⟩
          rw [cc_step ts hk9.2, hts]
          exact own_same H9.out.1 fun j hj => Below.heap_setCell _ _ _ _ (fun e => hgm (by rw [hj, e]))
        case measure => have hk9 := HLT.out; simp [intOf]; omega
    · have hk' : k = calls.length := by omega
      subst hk'
      have hkt : ts.length ≤ calls.length := by have := HLEN.out; omega
      rw [List.take_of_length_le hkt] at hown
      obtain ⟨z0, z1, z2, z3, z4⟩ := row5A hr
      have y0 := row_frozen hr 0
      have y1 := row_frozen hr 1
      have y2 := row_frozen hr 2
      have y3 := row_frozen hr 3
      have y4 := row_frozen hr 4
      have hne1 : ¬ rb = mb := by have := HL1.out; omega
      have hne2 : ¬ mb = rb := by omega
      have HO := Lib.hid hown
      have HR := Lib.hid hr
      have hbw : Below w.heap.size w wr := HST.out.1.trans (hbel.mono (by have := HQ.out.1; have := HL1.out.1; omega))
      have HB := Lib.hid hbw
      clear hown hblk hbel hq hr hbw hlt hkt
      go_wp2_with fail
      obtain ⟨u0, u1, u2, u3, u4⟩ := row5A (set5A (v0 := .string (mkB how)) (v1 := .int .i64 val) (v2 := .slice AO out.length cO) (v3 := .int .i64 tk) (v4 := .slice A1 calls.length c1) HR.out)
      refine bodyPost_ret (v := .agg #[.string (mkB how), .int .i64 val, .slice AO out.length cO, .int .i64 tk, .slice A1 calls.length c1]) (by simp [results, Tryd.results13, go_sem, u0, u1, u2, u3, u4]; try rfl) rfl ?_
      have hbF : Below w.heap.size w (((((wr.setCell ⟨rb, 0, none⟩ (.string (mkB how))).setCell ⟨rb, 1, none⟩ (.int .i64 val)).setCell ⟨rb, 2, none⟩ (.slice AO out.length cO)).setCell ⟨rb, 3, none⟩ (.int .i64 tk)).setCell ⟨rb, 4, none⟩ (.slice A1 calls.length c1)) := below5A HB.out (by have := HQ.out.1; have := HL1.out; omega)
      have hrow := owns_rowG (own_same (w' := (((((wr.setCell ⟨rb, 0, none⟩ (.string (mkB how))).setCell ⟨rb, 1, none⟩ (.int .i64 val)).setCell ⟨rb, 2, none⟩ (.slice AO out.length cO)).setCell ⟨rb, 3, none⟩ (.int .i64 tk)).setCell ⟨rb, 4, none⟩ (.slice A1 calls.length c1))) HO.out (fun j hj => far5A j (fun e => by have h1 := (own_lt HO.out hj).1; have h2 := (Array.getElem?_eq_some_iff.1 HST.out.2.2.1).1; omega)))
      obtain ⟨A9, c9, e9, -, hr9⟩ := hrow
      injection e9 with e9 _ e10
      subst e9; subst e10
      exact ⟨A1, c1, rfl, ⟨(HDN.out _ hbF).1, hr9, HMAP.out, (HDN.out _ hbF).2.2⟩, hbF⟩
end Go.Proofs.YtdilakpipbkokaaDoor

namespace Go.Proofs.YtdilakpipbkokaaDoor
open Go.RowKit

theorem ints_get {xs : List Int} {k : Nat} (h : k < xs.length) : (xs.map (Value.int .i64))[k]? = some (.int .i64 xs[k]) := by simp [h]
def sameI (xs ys : List Int) : Bool := xs == ys
theorem sameI_len {xs ys : List Int} (h : xs.length ≠ ys.length) : sameI xs ys = false := by
  unfold sameI; rw [beq_eq_false_iff_ne]; intro e; exact h (by rw [e])
theorem sameI_step {xs ys : List Int} {k : Nat} (h : k < xs.length) (h' : k < ys.length) : sameI (xs.drop k) (ys.drop k) = (xs[k] == ys[k] && sameI (xs.drop (k + 1)) (ys.drop (k + 1))) := by
  unfold sameI; rw [List.drop_eq_getElem_cons h, List.drop_eq_getElem_cons h']; rfl
theorem SameInts_any (A B : Option Addr) (xs ys : List Int) (c d : Nat) (w : World) (hr : Row w A (xs.map (.int .i64))) (hs : Row w B (ys.map (.int .i64))) (hn : xs.length ≤ 1000000) :
    Calls Tryd.prog 25 #[.slice A xs.length c, .slice B ys.length d] w (Quiet (.bool (sameI xs ys)) w) := by
  by_cases hl : xs.length = ys.length
  · have hl' : ((xs.length : Int) != (ys.length : Int)) = false := by simp [hl]
    have HL := Lib.hid hl
    clear hl
    go_enter Tryd.func25, Tryd.ntmps25
    go_wp2_with fail
    go_loopw [5] (fun i wr => ∃ k m : Nat, k ≤ xs.length ∧ i = .int .i64 k ∧ wr = w.drewN m ∧ sameI xs ys = sameI (xs.drop k) (ys.drop k)) (fun i _ => xs.length - (intOf i).toNat)
    case atStart => exact ⟨0, 0, Nat.zero_le _, rfl, rfl, by simp⟩
    case round =>
      obtain ⟨k, m, hk, rfl, rfl, hI⟩ := hrel
      have HI := Lib.hid hI
      clear hI
      by_cases hlt : k < xs.length
      · have hlt' : k < ys.length := by have := HL.out; omega
        obtain ⟨b, off, rfl, hc⟩ := hr k _ (ints_get hlt)
        obtain ⟨b', off', rfl, hc'⟩ := hs k _ (ints_get hlt')
        have HD := Lib.hid (sameI_step hlt hlt')
        cases he : (xs[k] == ys[k])
        · have he' : (xs[k] != ys[k]) = true := by rw [bne, he]; rfl
          have HE := Lib.hid he
          go_wp2_with fail
          go_quiet (fail)
          go_wp2_with fail
          go_ret
          rw [World.drewN_drewN]
          exact Quiet.drew_of _ (by rw [HI.out, HD.out, HE.out]; rfl)
        · have he' : (xs[k] != ys[k]) = false := by rw [bne, he]; rfl
          have HE := Lib.hid he
          go_wp2_with fail
          go_quiet (fail)
          go_wp2_with fail
          go_roundw
          case rel => exact ⟨k + 1, _, by omega, by go_num, rfl, by rw [HI.out, HD.out, HE.out]; rfl⟩
          case measure => simp [intOf]; omega
      · have hk' : k = xs.length := by omega
        subst hk'
        go_wp2_with fail
        go_ret
        exact Quiet.drew_of _ (by rw [HI.out]; have := HL.out; simp [sameI, this])
  · have hl' : ((xs.length : Int) != (ys.length : Int)) = true := by simp; omega
    have HS := Lib.hid (sameI_len hl)
    clear hl
    go_enter Tryd.func25, Tryd.ntmps25
    go_wp2_with fail
    go_ret
    exact Quiet.same_of (by rw [HS.out]; rfl)
end Go.Proofs.YtdilakpipbkokaaDoor

namespace Go.Proofs.YtdilakpipbkokaaDoor
open Go.RowKit

/-! SameDone: of two ends that are one -/
theorem cc_at {ts : List CC} {calls : List (List UInt8 × List Int)} (h : ts.map (·.p) = calls) {k : Nat} (hk : k < calls.length) : ∃ hk' : k < ts.length, ts[k].p = calls[k] := by
  subst h
  exact ⟨by simpa using hk, by simp⟩
set_option maxHeartbeats 8000000 in
set_option maxRecDepth 100000 in
theorem SameDone_eq (D : DTup) (AO : Option Addr) (cO : Nat) (AC : Option Addr) (cC : Nat) (ts : List CC) (AO' : Option Addr) (cO' : Nat) (AC' : Option Addr) (cC' : Nat) (ts' : List CC) (hs : DSm D) (w : World) (hd : DnAt w D AO AC ts) (hd' : DnAt w D AO' AC' ts') :
    Calls Tryd.prog 12 #[doneV D AO cO AC cC, doneV D AO' cO' AC' cC'] w (Ret (.bool true) w) := by
  obtain ⟨how, val, tk, out, calls⟩ := D
  have hl1000 : calls.length ≤ 1000 := hs.calls
  obtain ⟨wA, hwA⟩ : ∃ wA, (w.alloc (.cells #[.string (mkB how), .int .i64 val, .slice AO out.length cO, .int .i64 tk, .slice AC calls.length cC] 42)).alloc (.cells #[.string (mkB how), .int .i64 val, .slice AO' out.length cO', .int .i64 tk, .slice AC' calls.length cC'] 42) = wA := ⟨_, rfl⟩
  obtain ⟨q, hq⟩ : ∃ q, w.heap.size = q := ⟨_, rfl⟩
  have hbA : Below w.heap.size w wA := by rw [← hwA]; exact grow_alloc (grow_alloc (grow_refl _) _) _
  have hq1 : wA.heap[q]? = some (.cells #[.string (mkB how), .int .i64 val, .slice AO out.length cO, .int .i64 tk, .slice AC calls.length cC] 42 (0, 0)) := by rw [← hwA, ← hq]; exact (old_block _ _ (by simp)).trans (heap_alloc_new w _)
  have hq2 : wA.heap[q + 1]? = some (.cells #[.string (mkB how), .int .i64 val, .slice AO' out.length cO', .int .i64 tk, .slice AC' calls.length cC'] 42 (0, 0)) := by rw [← hwA, ← hq]; exact new_block _ _ (by simp)
  have k := Keeps.of_below hbA
  have HDN : Hid (DnAt wA (how, val, tk, out, calls) AO AC ts ∧ DnAt wA (how, val, tk, out, calls) AO' AC' ts') := ⟨hd.keep k, hd'.keep k⟩
  have HSI : Hid (∀ n, Calls Tryd.prog 25 #[.slice AO out.length cO, .slice AO' out.length cO'] (wA.drewN n) (Quiet (.bool true) (wA.drewN n))) := fun n => by
    have := SameInts_any AO AO' out out cO cO' (wA.drewN n) (hd.out.keep (Keeps.of_below (below_drewN hbA n))) (hd'.out.keep (Keeps.of_below (below_drewN hbA n))) (by have : out.length ≤ 1000 := hs.out; omega)
    rwa [show sameI out out = true from beq_self_eq_true _] at this
  have HBA := Lib.hid hbA
  have HSM := Lib.hid hs
  have HWA := Lib.hid hwA
  have HQ := Lib.hid hq
  have h0 : ((mkB how).toList == (mkB how).toList) = true := by simp
  have h0' : ((mkB how).toList != (mkB how).toList) = false := by simp
  obtain ⟨a0, a1, a2, a3, a4⟩ := row5A hq1
  obtain ⟨b0, b1, b2, b3, b4⟩ := row5A hq2
  unfold doneV
  simp only
  clear hd hd' hs hwA hbA hq1 hq2 k hq
  go_enter Tryd.func12, Tryd.ntmps12
  go_upto_region 1 with fail
  change Code.wp _ _ _ _ ((w.alloc (.cells #[.string (mkB how), .int .i64 val, .slice AO out.length cO, .int .i64 tk, .slice AC calls.length cC] 42)).alloc (.cells #[.string (mkB how), .int .i64 val, .slice AO' out.length cO', .int .i64 tk, .slice AC' calls.length cC'] 42))
  rw [HWA.out, HQ.out]
  go_wp2_with fail
  go_loopw [5] (fun i wr => ∃ k m : Nat, k ≤ calls.length ∧ i = .int .i64 k ∧ wr = wA.drewN m) (fun i _ => calls.length - (intOf i).toNat)
  case atStart => exact ⟨0, 0, Nat.zero_le _, rfl, rfl⟩
  case round =>
    obtain ⟨k, m, hk, rfl, rfl⟩ := hrel
    by_cases hlt : k < calls.length
    · have hlt' : (k : Int) < (calls.length : Int) := by omega
      have hk0 : (0 : Int) ≤ k := by omega
      obtain ⟨hkt, e1⟩ := cc_at HDN.out.1.map hlt
      obtain ⟨hkt', e2⟩ := cc_at HDN.out.2.map hlt
      obtain ⟨b5, off5, rfl, t0, t1⟩ := cc_cells HDN.out.1.calls hkt
      obtain ⟨b6, off6, rfl, s0, s1⟩ := cc_cells HDN.out.2.calls hkt'
      have hr1 := HDN.out.1.rows _ (List.getElem_mem hkt)
      have hr2 := HDN.out.2.rows _ (List.getElem_mem hkt')
      simp only at e1 e2
      rw [e1] at t0 t1 hr1
      rw [e2] at s0 s1 hr2
      obtain ⟨X1, hX1⟩ : ∃ X, ts[k].X = X := ⟨_, rfl⟩
      obtain ⟨X2, hX2⟩ : ∃ X, ts'[k].X = X := ⟨_, rfl⟩
      obtain ⟨cc1, hc1⟩ : ∃ X, ts[k].c = X := ⟨_, rfl⟩
      obtain ⟨cc2, hc2⟩ : ∃ X, ts'[k].c = X := ⟨_, rfl⟩
      rw [hX1, hc1] at t1
      rw [hX2, hc2] at s1
      rw [hX1] at hr1
      rw [hX2] at hr2
      have h4 : calls[k].2.length ≤ 8 := HSM.out.args _ (List.getElem_mem hlt)
      obtain ⟨p, hp⟩ : ∃ p, calls[k] = p := ⟨_, rfl⟩
      rw [hp] at t0 t1 s0 s1 hr1 hr2 h4
      have HSK : Hid (∀ n, Calls Tryd.prog 25 #[.slice X1 p.2.length cc1, .slice X2 p.2.length cc2] (wA.drewN n) (Quiet (.bool true) (wA.drewN n))) := fun n => by
        have := SameInts_any X1 X2 p.2 p.2 cc1 cc2 (wA.drewN n) (hr1.keep (Keeps.of_below (below_drewN (Below.refl _ _) n))) (hr2.keep (Keeps.of_below (below_drewN (Below.refl _ _) n))) (by omega)
        rwa [show sameI p.2 p.2 = true from beq_self_eq_true _] at this
      have g0 : ((mkB p.1).toList == (mkB p.1).toList) = true := by simp
      have g0' : ((mkB p.1).toList != (mkB p.1).toList) = false := by simp
      clear e1 e2 hX1 hX2 hc1 hc2 hr1 hr2 h4 hp hkt hkt'
      go_wp2_with fail
      go_quiet ((go_at_call 25; exact quiet_add (HSK.out _)))
      go_wp2_with fail
      go_roundw
      case rel => exact ⟨k + 1, _, by omega, by go_num, rfl⟩
      case measure => simp [intOf]; omega
    · have hk' : k = calls.length := by omega
      subst hk'
      clear hlt
      go_wp2_with (go_at_call 25; (with_reducible refine (HSI.out _).mono ?_); rintro y w1 ⟨rfl, n1, rfl⟩)
      go_ret
      exact ⟨rfl, below_drewN HBA.out _⟩
end Go.Proofs.YtdilakpipbkokaaDoor
