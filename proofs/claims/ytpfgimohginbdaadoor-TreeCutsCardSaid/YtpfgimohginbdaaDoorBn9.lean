import Derived.Deep.CutRange
import Derived.Deep.RegionHeld3
import Derived.Deep.RegionLaw
import Derived.Test.YtpfgimohginbdaaDoorBn5
import Derived.Test.YtpfgimohginbdaaDoorBn7
import Derived.Test.YtpfgimohginbdaaDoorBn8
import Derived.Test.YtpfgimohginbdaaDoorBn3
set_option linter.unusedVariables false
set_option linter.unusedSimpArgs false
namespace Go.Proofs.YtpfgimohginbdaaDoor
open Go.RowKit

/-! the package's parser in memory -/
/-- w' is w with new blocks, and block q turned. -/
structure But (q : Nat) (w w' : World) : Prop where
  os : w'.os = w.os
  tape : w'.tape = w.tape
  output : w'.output = w.output
  size : w.heap.size ≤ w'.heap.size
  block : ∀ k, k < w.heap.size → k ≠ q → w'.heap[k]? = w.heap[k]?
theorem But.refl (q : Nat) (w : World) : But q w w := ⟨rfl, rfl, rfl, Nat.le_refl _, fun _ _ _ => rfl⟩
theorem But.trans {q : Nat} {a b c : World} (h : But q a b) (k : But q b c) : But q a c :=
  ⟨k.os.trans h.os, k.tape.trans h.tape, k.output.trans h.output, Nat.le_trans h.size k.size, fun i hi hq => (k.block i (Nat.lt_of_lt_of_le hi h.size) hq).trans (h.block i hi hq)⟩
theorem But.of_below {q : Nat} {w w' : World} (h : Below w.heap.size w w') : But q w w' := ⟨h.os, h.tape, h.output, h.size, fun k hk _ => h.block k hk⟩
theorem But.alloc {q : Nat} {w w' : World} (h : But q w w') (o : Obj) : But q w (w'.alloc o) := h.trans (But.of_below ((Below.refl _ _).alloc (Nat.le_refl _) o))
theorem But.drewN {q : Nat} {w w' : World} (h : But q w w') (n : Nat) : But q w (w'.drewN n) := h.trans (But.of_below (below_drewN (Below.refl _ _) n))
theorem But.set {q : Nat} {w w' : World} (h : But q w w') (j : Nat) (u : Value) : But q w (w'.setCell ⟨q, j, none⟩ u) :=
  h.trans ⟨rfl, rfl, rfl, by simp, fun k _ hk => Below.heap_setCell _ _ _ _ hk⟩
theorem But.below {q base : Nat} {w w' : World} (h : But q w w') (h1 : base ≤ w.heap.size) (h2 : base ≤ q) : Below base w w' :=
  ⟨h.os, h.tape, h.output, h.size, fun k hk => h.block k (by omega) (by omega)⟩
/-- What the parser's error is, in memory. -/
def ErV (E : Nat → Addr) (w : World) (v : Value) : Option (Nat × Nat) → Prop
  | none => v = .nilIface
  | some p => 1 ≤ p.1 ∧ p.1 ≤ 10 ∧ ∃ fb, v = ftV ⟨fb, 0, none⟩ ∧ w.heap[fb]? = some (.cells #[.int .i64 (p.2 : Nat), esV (E (p.1 - 1))] 51 (0, 0))
section
variable (E : Nat → Addr) (l : List Tok) (pb : Nat) (A : Option Addr) (c : Nat) (w0 : World)
structure PaAt (s : PSt) (w : World) : Prop where
  bel : Below w0.heap.size w0 w
  lo : w0.heap.size ≤ pb
  blk : ∃ v, w.heap[pb]? = some (.cells #[.slice A l.length c, .int .i64 (s.pos : Nat), .int .i64 s.deep, v] 54 (0, 0)) ∧ ErV E w v s.err
/-- What stands from the start on: the errors, the tokens. -/
structure PaIn : Prop where
  laid : Laid E w0
  toks : Row w0 A (l.flatMap tokCells)
  len : l.length ≤ 100000
end
section
variable {E : Nat → Addr} {l : List Tok} {pb : Nat} {A : Option Addr} {c : Nat} {w0 : World} {s s' : PSt} {w w' : World}
theorem PaAt.lt (h : PaAt E l pb A c w0 s w) : pb < w.heap.size := by
  obtain ⟨v, hb, -⟩ := h.blk
  exact (Array.getElem?_eq_some_iff.1 hb).1
theorem PaAt.under (h : PaAt E l pb A c w0 s w) : w0.heap.size ≤ w.heap.size := h.bel.size
theorem ErV.keep {v : Value} {er : Option (Nat × Nat)} (h : ErV E w v er) (hb : ∀ k, k < w.heap.size → k ≠ pb → w'.heap[k]? = w.heap[k]?) (hp : ∃ cs, w.heap[pb]? = some (.cells cs 54 (0, 0))) : ErV E w' v er := by
  cases er with
  | none => exact h
  | some p =>
    obtain ⟨h1, h2, fb, h3, h4⟩ := h
    obtain ⟨cs, hp⟩ := hp
    refine ⟨h1, h2, fb, h3, (hb fb (Array.getElem?_eq_some_iff.1 h4).1 (fun e => ?_)).trans h4⟩
    subst e
    rw [hp] at h4
    injection h4 with h4
    injection h4 with _ h4 _
    exact absurd h4 (by decide)
/-- The state is as it was where the parser's block is. -/
theorem PaAt.keep (h : PaAt E l pb A c w0 s w) (hb : Below w.heap.size w w') : PaAt E l pb A c w0 s w' := by
  obtain ⟨v, h1, h2⟩ := h.blk
  exact ⟨h.bel.trans (hb.mono h.under), h.lo, v, (hb.block _ h.lt).trans h1, h2.keep (fun k hk _ => hb.block k hk) ⟨_, h1⟩⟩
theorem PaAt.drewN (h : PaAt E l pb A c w0 s w) (n : Nat) : PaAt E l pb A c w0 s (w.drewN n) := h.keep (below_drewN (Below.refl _ _) n)
theorem PaAt.cells (h : PaAt E l pb A c w0 s w) : ∃ v, w.cell? ⟨pb, 0, none⟩ = some (.slice A l.length c) ∧ w.cell? ⟨pb, 1, none⟩ = some (.int .i64 (s.pos : Nat)) ∧ w.cell? ⟨pb, 2, none⟩ = some (.int .i64 s.deep) ∧ w.cell? ⟨pb, 3, none⟩ = some v ∧ ErV E w v s.err := by
  obtain ⟨v, h1, h2⟩ := h.blk
  exact ⟨v, cell_of_row _ _ 0 _ _ _ h1, cell_of_row _ _ 1 _ _ _ h1, cell_of_row _ _ 2 _ _ _ h1, cell_of_row _ _ 3 _ _ _ h1, h2⟩
theorem PaAt.frozen (h : PaAt E l pb A c w0 s w) (j : Nat) : w.frozen? ⟨pb, j, none⟩ = false := by
  obtain ⟨v, h1, h2⟩ := h.blk
  exact row_frozen h1 j
/-- The place is turned. -/
theorem PaAt.setPos (h : PaAt E l pb A c w0 s w) (n : Nat) : PaAt E l pb A c w0 { s with pos := n } (w.setCell ⟨pb, 1, none⟩ (.int .i64 (n : Nat))) := by
  obtain ⟨v, h1, h2⟩ := h.blk
  exact ⟨h.bel.setCell h.lo _, h.lo, v, row_set (j := 1) _ h1 (by simp), h2.keep (fun k _ hk => Below.heap_setCell _ _ _ _ hk) ⟨_, h1⟩⟩
theorem PaAt.setDeep (h : PaAt E l pb A c w0 s w) (n : Int) : PaAt E l pb A c w0 { s with deep := n } (w.setCell ⟨pb, 2, none⟩ (.int .i64 n)) := by
  obtain ⟨v, h1, h2⟩ := h.blk
  exact ⟨h.bel.setCell h.lo _, h.lo, v, row_set (j := 2) _ h1 (by simp), h2.keep (fun k _ hk => Below.heap_setCell _ _ _ _ hk) ⟨_, h1⟩⟩
/-- The error is laid. -/
theorem PaAt.setErr (h : PaAt E l pb A c w0 s w) {z fb : Nat} (h1 : 1 ≤ z) (h10 : z ≤ 10) (hf : w.heap[fb]? = some (.cells #[.int .i64 (s.pos : Nat), esV (E (z - 1))] 51 (0, 0))) :
    PaAt E l pb A c w0 { s with err := some (z, s.pos) } (w.setCell ⟨pb, 3, none⟩ (ftV ⟨fb, 0, none⟩)) := by
  obtain ⟨v, h1', h2⟩ := h.blk
  have hne : fb ≠ pb := fun e => by
    rw [e, h1'] at hf
    injection hf with hf
    injection hf with _ hf _
    exact absurd hf (by decide)
  exact ⟨h.bel.setCell h.lo _, h.lo, _, row_set (j := 3) _ h1' (by simp), h1, h10, fb, rfl, (Below.heap_setCell _ _ _ _ hne).trans hf⟩
/-- Token k in memory. -/
theorem PaIn.tok (h : PaIn E l A w0) (hb : Below w0.heap.size w0 w) {k : Nat} (hk : k < l.length) : ∃ b off, A = some ⟨b, off, none⟩ ∧ w.cell? ⟨b, off + k * 3, none⟩ = some (.string (mkB l[k].kind)) ∧ w.cell? ⟨b, off + k * 3 + 1, none⟩ = some (.string (mkB l[k].text)) := by
  have hg : ∀ j u, (tokCells l[k])[j]? = some u → (l.flatMap tokCells)[k * 3 + j]? = some u := fun j u hj => flat_cells (n := 3) (F := tokCells) (fun x _ => rfl) hk hj
  have hr := h.toks.keep (Keeps.of_below hb)
  obtain ⟨b, off, e, h0⟩ := hr (k * 3 + 0) _ (hg 0 _ rfl)
  obtain ⟨b', off', e', h1⟩ := hr (k * 3 + 1) _ (hg 1 _ rfl)
  rw [e] at e'; injection e' with e'; injection e' with e1 e2 _
  subst e1; subst e2
  exact ⟨b, off, e, h0, by rw [Nat.add_assoc]; exact h1⟩
theorem PaIn.err (h : PaIn E l A w0) (hb : Below w0.heap.size w0 w) : Laid E w := h.laid.keep hb
end
/-- The call returns v; the parser's state is turned. -/
def PaRet (E : Nat → Addr) (l : List Tok) (pb : Nat) (A : Option Addr) (c : Nat) (w0 : World) (v : Value) (s : PSt) (w : World) : Ending → World → Prop := fun e w' => e = .returned v ∧ PaAt E l pb A c w0 s w' ∧ But pb w w'
end Go.Proofs.YtpfgimohginbdaaDoor

namespace Go.Proofs.YtpfgimohginbdaaDoor
open Go.RowKit

/-! the parser: fail, is, take, of, nest -/
section
variable {E : Nat → Addr} {l : List Tok} {pb : Nat} {A : Option Addr} {c : Nat} {w0 : World} {s : PSt} {w : World}
set_option maxHeartbeats 4000000 in
set_option maxRecDepth 100000 in
theorem fail_any (I : PaIn E l A w0) (h : PaAt E l pb A c w0 s w) (hp : s.pos ≤ l.length) {z : Nat} (h1 : 1 ≤ z) (h10 : z ≤ 10) :
    Calls Tryd.prog 43 #[.pointer (some ⟨pb, 0, none⟩), esV (E (z - 1))] w (PaRet E l pb A c w0 (.tuple #[]) (failP s z) w) := by
  have hlen := I.len
  have hq : (s.pos : Int) ≤ 100000 := by omega
  obtain ⟨v, c0, c1, c2, c3, hv⟩ := h.cells
  cases he : s.err with
  | none =>
    rw [he] at hv
    have hv' : v = .nilIface := hv
    subst hv'
    have hb : Below w.heap.size w (w.alloc (.cells #[.int .i64 (s.pos : Nat), esV (E (z - 1))] 51)) := grow_alloc (grow_refl _) _
    have h2 := h.keep hb
    have HF : Hid (PaAt E l pb A c w0 (failP s z) ((w.alloc (.cells #[.int .i64 (s.pos : Nat), esV (E (z - 1))] 51)).setCell ⟨pb, 3, none⟩ (ftV ⟨w.heap.size, 0, none⟩))) := by
      rw [failP_none he]
      exact h2.setErr h1 h10 (heap_alloc_new w _)
    have HB : Hid (But pb w ((w.alloc (.cells #[.int .i64 (s.pos : Nat), esV (E (z - 1))] 51)).setCell ⟨pb, 3, none⟩ (ftV ⟨w.heap.size, 0, none⟩))) := ((But.refl pb w).alloc _).set 3 _
    have e3 : (w.alloc (.cells #[.int .i64 (s.pos : Nat), esV (E (z - 1))] 51)).cell? ⟨pb, 3, none⟩ = some .nilIface := Keeps.alloc _ _ _ _ c3
    have z3 := h2.frozen 3
    unfold esV at e3 z3 HF HB ⊢
    clear h2 hb hv he h I hp
    go_enter Tryd.func43, Tryd.ntmps43
    go_wp2_with fail
    go_end0
    exact ⟨rfl, HF.out, HB.out⟩
  | some p =>
    rw [he] at hv
    obtain ⟨-, -, fb, rfl, -⟩ := hv
    have HF : Hid (PaAt E l pb A c w0 (failP s z) w) := by rw [failP_old (by rw [he]; simp)]; exact h
    unfold ftV at c3
    unfold esV
    clear he h I hp
    go_enter Tryd.func43, Tryd.ntmps43
    go_wp2_with fail
    go_end0
    exact ⟨rfl, HF.out, But.refl _ _⟩
theorem isP_none {x : List UInt8} (h : l[s.pos]? = none) : isP l s x = false := by unfold isP; rw [h]; simp
theorem isP_at {x : List UInt8} {t : Tok} (he : s.err = none) (h : l[s.pos]? = some t) : isP l s x = ((t.text == x) && ((t.kind == kSign) || (t.kind == kWord))) := by unfold isP; rw [h, he]; rfl
theorem ofB_none {x : List UInt8} (h : l[s.pos]? = none) : ofB l x s = false := by unfold ofB; rw [h]; simp
theorem ofB_at {x : List UInt8} {t : Tok} (he : s.err = none) (h : l[s.pos]? = some t) : ofB l x s = (t.kind == x) := by unfold ofB; rw [h, he]; rfl
set_option maxHeartbeats 8000000 in
set_option maxRecDepth 100000 in
theorem is_any (I : PaIn E l A w0) (h : PaAt E l pb A c w0 s w) (xb : ByteArray) :
    Calls Tryd.prog 42 #[.pointer (some ⟨pb, 0, none⟩), .string xb] w (fun e w' => e = .returned (.bool (isP l s xb.toList)) ∧ ∃ n, w' = w.drewN n) := by
  have hlen := I.len
  obtain ⟨v, c0, c1, c2, c3, hv⟩ := h.cells
  cases he : s.err with
  | some p =>
    rw [he] at hv
    obtain ⟨-, -, fb, rfl, -⟩ := hv
    unfold ftV at c3
    have HF : Hid (isP l s xb.toList = false) := show _ = _ by unfold isP; rw [he]; rfl
    clear he h I
    go_enter Tryd.func42, Tryd.ntmps42
    go_wp2_with fail
    go_quiet (fail)
    go_wp2_with fail
    go_ret
    exact ⟨by rw [HF.out]; rfl, _, rfl⟩
  | none =>
    rw [he] at hv
    have hv' : v = .nilIface := hv
    subst hv'
    by_cases hlt : s.pos < l.length
    · obtain ⟨b, off, rfl, k0, k1⟩ := I.tok h.bel hlt
      have HI := Lib.hid (isP_at (x := xb.toList) he (List.getElem?_eq_getElem hlt))
      have q1 : (s.pos : Int) < (l.length : Int) := by omega
      have q0 : (0 : Int) ≤ (s.pos : Int) := by omega
      obtain ⟨t, ht⟩ : ∃ t, l[s.pos] = t := ⟨_, rfl⟩
      rw [ht] at k0 k1 HI
      have hx : ((mkB t.text).toList == xb.toList) = (t.text == xb.toList) := by rw [mkB_toList]
      have hs : ((mkB t.kind).toList == [115, 105, 103, 110]) = (t.kind == kSign) := by rw [mkB_toList]; rfl
      have hw : ((mkB t.kind).toList == [119, 111, 114, 100]) = (t.kind == kWord) := by rw [mkB_toList]; rfl
      clear he h I ht hlt hv
      cases bx : (t.text == xb.toList)
      · rw [bx] at hx HI
        have HF : Hid (isP l s xb.toList = false) := show _ = _ by rw [HI.out]; rfl
        clear bx HI hs hw
        go_enter Tryd.func42, Tryd.ntmps42
        go_wp2_with fail
        go_quiet (fail)
        go_wp2_with fail
        go_ret
        exact ⟨by rw [HF.out]; rfl, _, rfl⟩
      · rw [bx] at hx HI
        cases bs : (t.kind == kSign)
        · rw [bs] at hs HI
          cases bw : (t.kind == kWord)
          · rw [bw] at hw HI
            have HF : Hid (isP l s xb.toList = false) := show _ = _ by rw [HI.out]; rfl
            clear bx bs bw HI
            go_enter Tryd.func42, Tryd.ntmps42
            go_wp2_with fail
            go_quiet (fail)
            go_wp2_with fail
            go_ret
            exact ⟨by rw [HF.out]; rfl, _, rfl⟩
          · rw [bw] at hw HI
            have HF : Hid (isP l s xb.toList = true) := show _ = _ by rw [HI.out]; rfl
            clear bx bs bw HI
            go_enter Tryd.func42, Tryd.ntmps42
            go_wp2_with fail
            go_quiet (fail)
            go_wp2_with fail
            go_ret
            exact ⟨by rw [HF.out]; rfl, _, rfl⟩
        · rw [bs] at hs HI
          have HF : Hid (isP l s xb.toList = true) := show _ = _ by rw [HI.out]; rfl
          clear bx bs HI hw
          go_enter Tryd.func42, Tryd.ntmps42
          go_wp2_with fail
          go_quiet (fail)
          go_wp2_with fail
          go_ret
          exact ⟨by rw [HF.out]; rfl, _, rfl⟩
    · have HF : Hid (isP l s xb.toList = false) := isP_none (List.getElem?_eq_none (by omega))
      have q1 : decide (s.pos < l.length) = false := by simpa using hlt
      have q2 : decide ((s.pos : Int) < (l.length : Int)) = false := by simp; omega
      clear he h I hlt hv
      go_enter Tryd.func42, Tryd.ntmps42
      go_wp2_with fail
      go_quiet (fail)
      go_wp2_with fail
      go_ret
      exact ⟨by rw [HF.out]; rfl, _, rfl⟩
set_option maxHeartbeats 4000000 in
set_option maxRecDepth 100000 in
theorem take_any (I : PaIn E l A w0) (h : PaAt E l pb A c w0 s w) (hp : s.pos ≤ l.length) (xb : ByteArray) :
    Calls Tryd.prog 24 #[.pointer (some ⟨pb, 0, none⟩), .string xb] w (PaRet E l pb A c w0 (.tuple #[]) (takeP l xb.toList s) w) := by
  have hlen := I.len
  have hq : (s.pos : Int) ≤ 100000 := by omega
  have HIS := Lib.hid (is_any I h xb)
  have HK := Lib.hid h
  cases bi : isP l s xb.toList
  · rw [bi] at HIS
    have HT : Hid (takeP l xb.toList s = failP s 1) := show _ = _ by unfold takeP; rw [bi]; rfl
    have HFA : Hid (∀ n, Calls Tryd.prog 43 #[.pointer (some ⟨pb, 0, none⟩), .iface 135 (.pointer (some (E 0)))] (w.drewN n) (PaRet E l pb A c w0 (.tuple #[]) (failP s 1) (w.drewN n))) := fun n => fail_any I (HK.out.drewN n) hp (z := 1) (by decide) (by decide)
    have hg0 : w.cell? ⟨1, 0, none⟩ = some (.iface 135 (.pointer (some (E 0)))) := (I.err h.bel).c0
    clear bi h I hp
    go_enter Tryd.func24, Tryd.ntmps24
    go_wp2_with (first
      | (go_at_call 42; (with_reducible refine HIS.out.mono ?_); rintro y w1 ⟨rfl, n1, rfl⟩)
      | (go_at_call 43; (with_reducible refine (HFA.out _).mono ?_); rintro y w2 ⟨rfl, h2, hb2⟩; have H2 := Lib.hid (And.intro h2 hb2); clear h2 hb2))
    go_returns
    exact ⟨rfl, by rw [HT.out]; exact H2.out.1, ((But.refl pb w).drewN n1).trans H2.out.2⟩
  · rw [bi] at HIS
    have HT : Hid (takeP l xb.toList s = s.step) := show _ = _ by unfold takeP; rw [bi]; rfl
    obtain ⟨v, c0, c1, c2, c3, hv⟩ := h.cells
    have z1 := h.frozen 1
    clear bi h I hp hv
    go_enter Tryd.func24, Tryd.ntmps24
    go_wp2_with (go_at_call 42; (with_reducible refine HIS.out.mono ?_); rintro y w1 ⟨rfl, n1, rfl⟩)
    go_end0
    refine ⟨rfl, by rw [HT.out]; exact (HK.out.drewN n1).setPos (s.pos + 1), ((But.refl pb w).drewN n1).set 1 _⟩
end
end Go.Proofs.YtpfgimohginbdaaDoor

namespace Go.Proofs.YtpfgimohginbdaaDoor
open Go.RowKit

/-! the parser: of, nest -/
section
variable {E : Nat → Addr} {l : List Tok} {pb : Nat} {A : Option Addr} {c : Nat} {w0 : World} {s : PSt} {w : World}
theorem ofP_no {x : List UInt8} (h : ofB l x s = false) : ofP l x s = ([], failP s 1) := by unfold ofP; rw [h]; rfl
theorem ofP_yes {x : List UInt8} (h : ofB l x s = true) : ofP l x s = (txtP l s, s.step) := by unfold ofP; rw [h]; rfl
set_option maxHeartbeats 8000000 in
set_option maxRecDepth 100000 in
theorem of_any (I : PaIn E l A w0) (h : PaAt E l pb A c w0 s w) (hp : s.pos ≤ l.length) (kb : ByteArray) :
    Calls Tryd.prog 25 #[.pointer (some ⟨pb, 0, none⟩), .string kb] w (PaRet E l pb A c w0 (.string (mkB (ofP l kb.toList s).1)) (ofP l kb.toList s).2 w) := by
  have hlen := I.len
  obtain ⟨v, c0, c1, c2, c3, hv⟩ := h.cells
  have HK := Lib.hid h
  have HFA : Hid (∀ n, Calls Tryd.prog 43 #[.pointer (some ⟨pb, 0, none⟩), .iface 135 (.pointer (some (E 0)))] (w.drewN n) (PaRet E l pb A c w0 (.tuple #[]) (failP s 1) (w.drewN n))) := fun n => fail_any I (HK.out.drewN n) hp (z := 1) (by decide) (by decide)
  have hg0 : w.cell? ⟨1, 0, none⟩ = some (.iface 135 (.pointer (some (E 0)))) := (I.err h.bel).c0
  cases he : s.err with
  | some p =>
    rw [he] at hv
    obtain ⟨-, -, fb, rfl, -⟩ := hv
    unfold ftV at c3
    have HF : Hid (ofP l kb.toList s = ([], failP s 1)) := ofP_no (by unfold ofB; rw [he]; rfl)
    clear he h I hp
    go_enter Tryd.func25, Tryd.ntmps25
    go_wp2_with fail
    go_quiet (fail)
    go_wp2_with (go_at_call 43; (with_reducible refine (HFA.out _).mono ?_); rintro y w2 ⟨rfl, h2, hb2⟩; have H2 := Lib.hid (And.intro h2 hb2); clear h2 hb2)
    go_ret
    rw [HF.out]
    exact ⟨rfl, H2.out.1, ((But.refl pb w).drewN _).trans H2.out.2⟩
  | none =>
    rw [he] at hv
    have hv' : v = .nilIface := hv
    subst hv'
    by_cases hlt : s.pos < l.length
    · obtain ⟨b, off, rfl, j0, j1⟩ := I.tok (Below.refl _ _) hlt
      have k0 := Keeps.of_below h.bel _ _ j0
      have k1 := Keeps.of_below h.bel _ _ j1
      have hne : b ≠ pb := fun e => by
        have h1 := World.block_lt_of_cell? w0 _ j1
        have h2 := h.lo
        simp only at h1
        omega
      clear j0 j1
      have HI := Lib.hid (ofB_at (x := kb.toList) he (List.getElem?_eq_getElem hlt))
      have q1 : (s.pos : Int) < (l.length : Int) := by omega
      have q3 : decide (l.length ≤ s.pos) = false := by simpa using hlt
      have q0 : (0 : Int) ≤ (s.pos : Int) := by omega
      have HT : Hid (txtP l s = l[s.pos].text) := show _ = _ by unfold txtP; rw [List.getElem?_eq_getElem hlt]; rfl
      obtain ⟨t, ht⟩ : ∃ t, l[s.pos] = t := ⟨_, rfl⟩
      rw [ht] at k0 k1 HI HT
      have hx : ((mkB t.kind).toList == kb.toList) = (t.kind == kb.toList) := by rw [mkB_toList]
      clear he I ht hv
      cases bx : (t.kind == kb.toList)
      · rw [bx] at hx HI
        have HF : Hid (ofP l kb.toList s = ([], failP s 1)) := ofP_no HI.out
        clear bx HI h hp hlt
        go_enter Tryd.func25, Tryd.ntmps25
        go_wp2_with fail
        go_quiet (fail)
        go_wp2_with (go_at_call 43; (with_reducible refine (HFA.out _).mono ?_); rintro y w2 ⟨rfl, h2, hb2⟩; have H2 := Lib.hid (And.intro h2 hb2); clear h2 hb2)
        go_ret
        rw [HF.out]
        exact ⟨rfl, H2.out.1, ((But.refl pb w).drewN _).trans H2.out.2⟩
      · rw [bx] at hx HI
        have HF : Hid (ofP l kb.toList s = (t.text, s.step)) := show _ = _ by rw [ofP_yes HI.out, HT.out]
        have hq : (s.pos : Int) ≤ 100000 := by omega
        have z1 := h.frozen 1
        have HS := Lib.hid (fun n : Nat => (h.drewN n).setPos (s.pos + 1))
        clear bx HI h hp hlt
        go_enter Tryd.func25, Tryd.ntmps25
        go_wp2_with fail
        go_quiet (fail)
        go_wp2_with fail
        go_quiet (fail)
        go_wp2_with fail
        go_ret
        rw [HF.out]
        exact ⟨rfl, (HS.out _).drewN _, (((But.refl pb w).drewN _).set 1 _).drewN _⟩
    · have HF : Hid (ofP l kb.toList s = ([], failP s 1)) := ofP_no (ofB_none (List.getElem?_eq_none (by omega)))
      have q1 : decide (l.length ≤ s.pos) = true := by simp; omega
      clear he h I hlt hv hp
      go_enter Tryd.func25, Tryd.ntmps25
      go_wp2_with fail
      go_quiet (fail)
      go_wp2_with (go_at_call 43; (with_reducible refine (HFA.out _).mono ?_); rintro y w2 ⟨rfl, h2, hb2⟩; have H2 := Lib.hid (And.intro h2 hb2); clear h2 hb2)
      go_ret
      rw [HF.out]
      exact ⟨rfl, H2.out.1, ((But.refl pb w).drewN _).trans H2.out.2⟩
set_option maxHeartbeats 8000000 in
set_option maxRecDepth 100000 in
theorem nest_any (I : PaIn E l A w0) (h : PaAt E l pb A c w0 s w) (hp : s.pos ≤ l.length) (hd : 0 ≤ s.deep ∧ s.deep ≤ 100) :
    Calls Tryd.prog 44 #[.pointer (some ⟨pb, 0, none⟩)] w (PaRet E l pb A c w0 (.bool (nestP s).err.isNone) (nestP s) w) := by
  obtain ⟨v, c0, c1, c2, c3, hv⟩ := h.cells
  have z2 := h.frozen 2
  have hs := h.setDeep (s.deep + 1)
  have HB1 : Hid (But pb w (w.setCell ⟨pb, 2, none⟩ (.int .i64 (s.deep + 1)))) := (But.refl pb w).set 2 _
  have hw : IntKind.i64.wrap (s.deep + 1) = s.deep + 1 := IntWalk.i64_in _ (by omega)
  obtain ⟨d0, d1⟩ := hd
  by_cases h12 : 12 < s.deep + 1
  · have HN : Hid (nestP s = failP { s with deep := s.deep + 1 } 10) := show _ = _ by unfold nestP; rw [if_pos h12]
    have HFA : Hid (Calls Tryd.prog 43 #[.pointer (some ⟨pb, 0, none⟩), .iface 135 (.pointer (some (E 9)))] (w.setCell ⟨pb, 2, none⟩ (.int .i64 (s.deep + 1))) (PaRet E l pb A c w0 (.tuple #[]) (failP { s with deep := s.deep + 1 } 10) (w.setCell ⟨pb, 2, none⟩ (.int .i64 (s.deep + 1))))) := fail_any I hs hp (z := 10) (by decide) (by decide)
    have hg0 : (w.setCell ⟨pb, 2, none⟩ (.int .i64 (s.deep + 1))).cell? ⟨3, 0, none⟩ = some (.iface 135 (.pointer (some (E 9)))) := (I.err hs.bel).c9
    have hgb : 3 ≠ pb := fun e => by
      have h1 := World.block_lt_of_cell? w0 _ I.laid.c9
      have h2 := h.lo
      simp only at h1
      omega
    have hg1 : w.cell? ⟨3, 0, none⟩ = some (.iface 135 (.pointer (some (E 9)))) := (I.err h.bel).c9
    clear h hs I hp hv
    go_enter Tryd.func44, Tryd.ntmps44
    go_upto_region 4 with (go_at_call 43; (with_reducible refine HFA.out.mono ?_); rintro y w2 ⟨rfl, h2, hb2⟩; have H2 := Lib.hid (And.intro h2 hb2); clear h2 hb2)
    obtain ⟨v2, -, -, -, k3, hv2⟩ := H2.out.1.cells
    cases he : (failP { s with deep := s.deep + 1 } 10).err with
    | none => exact absurd he failP_err
    | some p =>
      rw [he] at hv2
      obtain ⟨-, -, fb, rfl, -⟩ := hv2
      unfold ftV at k3
      have HE : Hid ((nestP s).err.isNone = false) := show _ = _ by rw [HN.out, he]; rfl
      clear he
      go_wp2_with fail
      go_ret
      rw [HE.out, HN.out]
      exact ⟨rfl, H2.out.1, HB1.out.trans H2.out.2⟩
  · have HN : Hid (nestP s = { s with deep := s.deep + 1 }) := show _ = _ by unfold nestP; rw [if_neg h12]
    have HS := Lib.hid hs
    cases he : s.err with
    | none =>
      rw [he] at hv
      have hv' : v = .nilIface := hv
      subst hv'
      have HE : Hid ((nestP s).err.isNone = true) := show _ = _ by rw [HN.out]; show s.err.isNone = true; rw [he]; rfl
      clear h hs I hp hv he
      go_enter Tryd.func44, Tryd.ntmps44
      go_wp2_with fail
      go_ret
      rw [HE.out, HN.out]
      exact ⟨rfl, HS.out, HB1.out⟩
    | some p =>
      rw [he] at hv
      obtain ⟨-, -, fb, rfl, -⟩ := hv
      unfold ftV at c3
      have HE : Hid ((nestP s).err.isNone = false) := show _ = _ by rw [HN.out]; show s.err.isNone = false; rw [he]; rfl
      clear h hs I hp he
      go_enter Tryd.func44, Tryd.ntmps44
      go_wp2_with fail
      go_ret
      rw [HE.out, HN.out]
      exact ⟨rfl, HS.out, HB1.out⟩
end
end Go.Proofs.YtpfgimohginbdaaDoor
