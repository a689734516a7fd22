import Derived.Test.YtpfgimohginbdaaDoorBn23
import Derived.Test.YtpfgimohginbdaaDoorBn10
set_option linter.unusedVariables false
set_option linter.unusedSimpArgs false
namespace Go.Proofs.YtpfgimohginbdaaDoor
open Go.RowKit

/-! the parser: fail, is, take, of, nest -/
section
variable {E : Nat → Addr} {l : List Tok} {pb : Nat} {A : Option Addr} {c : Nat} {w0 : World} {s : PSt} {w : World}
set_option maxHeartbeats 4000000 in
set_option maxRecDepth 100000 in
theorem fail_any (I : PaIn E l A w0) (h : PaAt E l pb A c w0 s w) (hp : s.pos ≤ l.length) {z : Nat} (h1 : 1 ≤ z) (h10 : z ≤ 10) :
    Calls Tryd.prog 43 #[.pointer (some ⟨pb, 0, none⟩), esV (E (z - 1))] w (PaRet E l pb A c w0 (.tuple #[]) (failP s z) w) := by
  have hlen := I.len
  have hq : (s.pos : Int) ≤ 100000 := by omega
  obtain ⟨v, c0, c1, c2, c3, hv⟩ := h.cells
  cases he : s.err with
  | none =>
    rw [he] at hv
    have hv' : v = .nilIface := hv
    subst hv'
    have hb : Below w.heap.size w (w.alloc (.cells #[.int .i64 (s.pos : Nat), esV (E (z - 1))] 51)) := grow_alloc (grow_refl _) _
    have h2 := h.keep hb
    have HF : Hid (PaAt E l pb A c w0 (failP s z) ((w.alloc (.cells #[.int .i64 (s.pos : Nat), esV (E (z - 1))] 51)).setCell ⟨pb, 3, none⟩ (ftV ⟨w.heap.size, 0, none⟩))) := by
      rw [failP_none he]
      exact h2.setErr h1 h10 (heap_alloc_new w _)
    have HB : Hid (But pb w ((w.alloc (.cells #[.int .i64 (s.pos : Nat), esV (E (z - 1))] 51)).setCell ⟨pb, 3, none⟩ (ftV ⟨w.heap.size, 0, none⟩))) := ((But.refl pb w).alloc _).set 3 _
    have e3 : (w.alloc (.cells #[.int .i64 (s.pos : Nat), esV (E (z - 1))] 51)).cell? ⟨pb, 3, none⟩ = some .nilIface := Keeps.alloc _ _ _ _ c3
    have z3 := h2.frozen 3
    unfold esV at e3 z3 HF HB ⊢
    clear h2 hb hv he h I hp
    go_enter Tryd.func43, Tryd.ntmps43
    go_wp2_with fail
    go_end0
    exact ⟨rfl, HF.out, HB.out⟩
  | some p =>
    rw [he] at hv
    obtain ⟨-, -, fb, rfl, -⟩ := hv
    have HF : Hid (PaAt E l pb A c w0 (failP s z) w) := by rw [failP_old (by rw [he]; simp)]; exact h
    unfold ftV at c3
    unfold esV
    clear he h I hp
    go_enter Tryd.func43, Tryd.ntmps43
    go_wp2_with fail
    go_end0
    exact ⟨rfl, HF.out, But.refl _ _⟩
theorem isP_none {x : List UInt8} (h : l[s.pos]? = none) : isP l s x = false := by unfold isP; rw [h]; simp
theorem isP_at {x : List UInt8} {t : Tok} (he : s.err = none) (h : l[s.pos]? = some t) : isP l s x = ((t.text == x) && ((t.kind == kSign) || (t.kind == kWord))) := by unfold isP; rw [h, he]; rfl
theorem ofB_none {x : List UInt8} (h : l[s.pos]? = none) : ofB l x s = false := by unfold ofB; rw [h]; simp
theorem ofB_at {x : List UInt8} {t : Tok} (he : s.err = none) (h : l[s.pos]? = some t) : ofB l x s = (t.kind == x) := by unfold ofB; rw [h, he]; rfl
set_option maxHeartbeats 8000000 in
set_option maxRecDepth 100000 in
theorem is_any (I : PaIn E l A w0) (h : PaAt E l pb A c w0 s w) (xb : ByteArray) :
    Calls Tryd.prog 42 #[.pointer (some ⟨pb, 0, none⟩), .string xb] w (fun e w' => e = .returned (.bool (isP l s xb.toList)) ∧ ∃ n, w' = w.drewN n) := by
  have hlen := I.len
  obtain ⟨v, c0, c1, c2, c3, hv⟩ := h.cells
  cases he : s.err with
  | some p =>
    rw [he] at hv
    obtain ⟨-, -, fb, rfl, -⟩ := hv
    unfold ftV at c3
    have HF : Hid (isP l s xb.toList = false) := show _ = _ by unfold isP; rw [he]; rfl
    clear he h I
    go_enter Tryd.func42, Tryd.ntmps42
    go_wp2_with fail
    go_quiet (fail)
    go_wp2_with fail
    go_ret
    exact ⟨by rw [HF.out]; rfl, _, rfl⟩
  | none =>
    rw [he] at hv
    have hv' : v = .nilIface := hv
    subst hv'
    by_cases hlt : s.pos < l.length
    · obtain ⟨b, off, rfl, k0, k1⟩ := I.tok h.bel hlt
      have HI := Lib.hid (isP_at (x := xb.toList) he (List.getElem?_eq_getElem hlt))
      have q1 : (s.pos : Int) < (l.length : Int) := by omega
      have q0 : (0 : Int) ≤ (s.pos : Int) := by omega
      obtain ⟨t, ht⟩ : ∃ t, l[s.pos] = t := ⟨_, rfl⟩
      rw [ht] at k0 k1 HI
      have hx : ((mkB t.text).toList == xb.toList) = (t.text == xb.toList) := by rw [mkB_toList]
      have hs : ((mkB t.kind).toList == [115, 105, 103, 110]) = (t.kind == kSign) := by rw [mkB_toList]; rfl
      have hw : ((mkB t.kind).toList == [119, 111, 114, 100]) = (t.kind == kWord) := by rw [mkB_toList]; rfl
      clear he h I ht hlt hv
      cases bx : (t.text == xb.toList)
      · rw [bx] at hx HI
        have HF : Hid (isP l s xb.toList = false) := show _ = _ by rw [HI.out]; rfl
        clear bx HI hs hw
        go_enter Tryd.func42, Tryd.ntmps42
        go_wp2_with fail
        go_quiet (fail)
        go_wp2_with fail
        go_ret
        exact ⟨by rw [HF.out]; rfl, _, rfl⟩
      · rw [bx] at hx HI
        cases bs : (t.kind == kSign)
        · rw [bs] at hs HI
          cases bw : (t.kind == kWord)
          · rw [bw] at hw HI
            have HF : Hid (isP l s xb.toList = false) := show _ = _ by rw [HI.out]; rfl
            clear bx bs bw HI
            go_enter Tryd.func42, Tryd.ntmps42
            go_wp2_with fail
            go_quiet (fail)
            go_wp2_with fail
            go_ret
            exact ⟨by rw [HF.out]; rfl, _, rfl⟩
          · rw [bw] at hw HI
            have HF : Hid (isP l s xb.toList = true) := show _ = _ by rw [HI.out]; rfl
            clear bx bs bw HI
            go_enter Tryd.func42, Tryd.ntmps42
            go_wp2_with fail
            go_quiet (fail)
            go_wp2_with fail
            go_ret
            exact ⟨by rw [HF.out]; rfl, _, rfl⟩
        · rw [bs] at hs HI
          have HF : Hid (isP l s xb.toList = true) := show _ = _ by rw [HI.out]; rfl
          clear bx bs HI hw
          go_enter Tryd.func42, Tryd.ntmps42
          go_wp2_with fail
          go_quiet (fail)
          go_wp2_with fail
          go_ret
          exact ⟨by rw [HF.out]; rfl, _, rfl⟩
    · have HF : Hid (isP l s xb.toList = false) := isP_none (List.getElem?_eq_none (by omega))
      have q1 : decide (s.pos < l.length) = false := by simpa using hlt
      have q2 : decide ((s.pos : Int) < (l.length : Int)) = false := by simp; omega
      clear he h I hlt hv
      go_enter Tryd.func42, Tryd.ntmps42
      go_wp2_with fail
      go_quiet (fail)
      go_wp2_with fail
      go_ret
      exact ⟨by rw [HF.out]; rfl, _, rfl⟩
set_option maxHeartbeats 4000000 in
set_option maxRecDepth 100000 in
theorem take_any (I : PaIn E l A w0) (h : PaAt E l pb A c w0 s w) (hp : s.pos ≤ l.length) (xb : ByteArray) :
    Calls Tryd.prog 24 #[.pointer (some ⟨pb, 0, none⟩), .string xb] w (PaRet E l pb A c w0 (.tuple #[]) (takeP l xb.toList s) w) := by
  have hlen := I.len
  have hq : (s.pos : Int) ≤ 100000 := by omega
  have HIS := Lib.hid (is_any I h xb)
  have HK := Lib.hid h
  cases bi : isP l s xb.toList
  · rw [bi] at HIS
    have HT : Hid (takeP l xb.toList s = failP s 1) := show _ = _ by unfold takeP; rw [bi]; rfl
    have HFA : Hid (∀ n, Calls Tryd.prog 43 #[.pointer (some ⟨pb, 0, none⟩), .iface 135 (.pointer (some (E 0)))] (w.drewN n) (PaRet E l pb A c w0 (.tuple #[]) (failP s 1) (w.drewN n))) := fun n => fail_any I (HK.out.drewN n) hp (z := 1) (by decide) (by decide)
    have hg0 : w.cell? ⟨1, 0, none⟩ = some (.iface 135 (.pointer (some (E 0)))) := (I.err h.bel).c0
    clear bi h I hp
    go_enter Tryd.func24, Tryd.ntmps24
    go_wp2_with (first
      | (go_at_call 42; (with_reducible refine HIS.out.mono ?_); rintro y w1 ⟨rfl, n1, rfl⟩)
      | (go_at_call 43; (with_reducible refine (HFA.out _).mono ?_); rintro y w2 ⟨rfl, h2, hb2⟩; have H2 := Lib.hid (And.intro h2 hb2); clear h2 hb2))
    go_returns
    exact ⟨rfl, by rw [HT.out]; exact H2.out.1, ((But.refl pb w).drewN n1).trans H2.out.2⟩
  · rw [bi] at HIS
    have HT : Hid (takeP l xb.toList s = s.step) := show _ = _ by unfold takeP; rw [bi]; rfl
    obtain ⟨v, c0, c1, c2, c3, hv⟩ := h.cells
    have z1 := h.frozen 1
    clear bi h I hp hv
    go_enter Tryd.func24, Tryd.ntmps24
    go_wp2_with (go_at_call 42; (with_reducible refine HIS.out.mono ?_); rintro y w1 ⟨rfl, n1, rfl⟩)
    go_end0
    refine ⟨rfl, by rw [HT.out]; exact (HK.out.drewN n1).setPos (s.pos + 1), ((But.refl pb w).drewN n1).set 1 _⟩
end
end Go.Proofs.YtpfgimohginbdaaDoor

namespace Go.Proofs.YtpfgimohginbdaaDoor
open Go.RowKit

/-! the parser: of, nest -/
section
variable {E : Nat → Addr} {l : List Tok} {pb : Nat} {A : Option Addr} {c : Nat} {w0 : World} {s : PSt} {w : World}
theorem ofP_no {x : List UInt8} (h : ofB l x s = false) : ofP l x s = ([], failP s 1) := by unfold ofP; rw [h]; rfl
theorem ofP_yes {x : List UInt8} (h : ofB l x s = true) : ofP l x s = (txtP l s, s.step) := by unfold ofP; rw [h]; rfl
set_option maxHeartbeats 8000000 in
set_option maxRecDepth 100000 in
theorem of_any (I : PaIn E l A w0) (h : PaAt E l pb A c w0 s w) (hp : s.pos ≤ l.length) (kb : ByteArray) :
    Calls Tryd.prog 25 #[.pointer (some ⟨pb, 0, none⟩), .string kb] w (PaRet E l pb A c w0 (.string (mkB (ofP l kb.toList s).1)) (ofP l kb.toList s).2 w) := by
  have hlen := I.len
  obtain ⟨v, c0, c1, c2, c3, hv⟩ := h.cells
  have HK := Lib.hid h
  have HFA : Hid (∀ n, Calls Tryd.prog 43 #[.pointer (some ⟨pb, 0, none⟩), .iface 135 (.pointer (some (E 0)))] (w.drewN n) (PaRet E l pb A c w0 (.tuple #[]) (failP s 1) (w.drewN n))) := fun n => fail_any I (HK.out.drewN n) hp (z := 1) (by decide) (by decide)
  have hg0 : w.cell? ⟨1, 0, none⟩ = some (.iface 135 (.pointer (some (E 0)))) := (I.err h.bel).c0
  cases he : s.err with
  | some p =>
    rw [he] at hv
    obtain ⟨-, -, fb, rfl, -⟩ := hv
    unfold ftV at c3
    have HF : Hid (ofP l kb.toList s = ([], failP s 1)) := ofP_no (by unfold ofB; rw [he]; rfl)
    clear he h I hp
    go_enter Tryd.func25, Tryd.ntmps25
    go_wp2_with fail
    go_quiet (fail)
    go_wp2_with (go_at_call 43; (with_reducible refine (HFA.out _).mono ?_); rintro y w2 ⟨rfl, h2, hb2⟩; have H2 := Lib.hid (And.intro h2 hb2); clear h2 hb2)
    go_ret
    rw [HF.out]
    exact ⟨rfl, H2.out.1, ((But.refl pb w).drewN _).trans H2.out.2⟩
  | none =>
    rw [he] at hv
    have hv' : v = .nilIface := hv
    subst hv'
    by_cases hlt : s.pos < l.length
    · obtain ⟨b, off, rfl, j0, j1⟩ := I.tok (Below.refl _ _) hlt
      have k0 := Keeps.of_below h.bel _ _ j0
      have k1 := Keeps.of_below h.bel _ _ j1
      have hne : b ≠ pb := fun e => by
        have h1 := World.block_lt_of_cell? w0 _ j1
        have h2 := h.lo
        simp only at h1
        omega
      clear j0 j1
      have HI := Lib.hid (ofB_at (x := kb.toList) he (List.getElem?_eq_getElem hlt))
      have q1 : (s.pos : Int) < (l.length : Int) := by omega
      have q3 : decide (l.length ≤ s.pos) = false := by simpa using hlt
      have q0 : (0 : Int) ≤ (s.pos : Int) := by omega
      have HT : Hid (txtP l s = l[s.pos].text) := show _ = _ by unfold txtP; rw [List.getElem?_eq_getElem hlt]; rfl
      obtain ⟨t, ht⟩ : ∃ t, l[s.pos] = t := ⟨_, rfl⟩
      rw [ht] at k0 k1 HI HT
      have hx : ((mkB t.kind).toList == kb.toList) = (t.kind == kb.toList) := by rw [mkB_toList]
      clear he I ht hv
      cases bx : (t.kind == kb.toList)
      · rw [bx] at hx HI
        have HF : Hid (ofP l kb.toList s = ([], failP s 1)) := ofP_no HI.out
        clear bx HI h hp hlt
        go_enter Tryd.func25, Tryd.ntmps25
        go_wp2_with fail
        go_quiet (fail)
        go_wp2_with (go_at_call 43; (with_reducible refine (HFA.out _).mono ?_); rintro y w2 ⟨rfl, h2, hb2⟩; have H2 := Lib.hid (And.intro h2 hb2); clear h2 hb2)
        go_ret
        rw [HF.out]
        exact ⟨rfl, H2.out.1, ((But.refl pb w).drewN _).trans H2.out.2⟩
      · rw [bx] at hx HI
        have HF : Hid (ofP l kb.toList s = (t.text, s.step)) := show _ = _ by rw [ofP_yes HI.out, HT.out]
        have hq : (s.pos : Int) ≤ 100000 := by omega
        have z1 := h.frozen 1
        have HS := Lib.hid (fun n : Nat => (h.drewN n).setPos (s.pos + 1))
        clear bx HI h hp hlt
        go_enter Tryd.func25, Tryd.ntmps25
        go_wp2_with fail
        go_quiet (fail)
        go_wp2_with fail
        go_quiet (fail)
        go_wp2_with fail
        go_ret
        rw [HF.out]
        exact ⟨rfl, (HS.out _).drewN _, (((But.refl pb w).drewN _).set 1 _).drewN _⟩
    · have HF : Hid (ofP l kb.toList s = ([], failP s 1)) := ofP_no (ofB_none (List.getElem?_eq_none (by omega)))
      have q1 : decide (l.length ≤ s.pos) = true := by simp; omega
      clear he h I hlt hv hp
      go_enter Tryd.func25, Tryd.ntmps25
      go_wp2_with fail
      go_quiet (fail)
      go_wp2_with (go_at_call 43; (with_reducible refine (HFA.out _).mono ?_); rintro y w2 ⟨rfl, h2, hb2⟩; have H2 := Lib.hid (And.intro h2 hb2); clear h2 hb2)
      go_ret
      rw [HF.out]
      exact ⟨rfl, H2.out.1, ((But.refl pb w).drewN _).trans H2.out.2⟩
set_option maxHeartbeats 8000000 in
set_option maxRecDepth 100000 in
theorem nest_any (I : PaIn E l A w0) (h : PaAt E l pb A c w0 s w) (hp : s.pos ≤ l.length) (hd : 0 ≤ s.deep ∧ s.deep ≤ 100) :
    Calls Tryd.prog 44 #[.pointer (some ⟨pb, 0, none⟩)] w (PaRet E l pb A c w0 (.bool (nestP s).err.isNone) (nestP s) w) := by
  obtain ⟨v, c0, c1, c2, c3, hv⟩ := h.cells
  have z2 := h.frozen 2
  have hs := h.setDeep (s.deep + 1)
  have HB1 : Hid (But pb w (w.setCell ⟨pb, 2, none⟩ (.int .i64 (s.deep + 1)))) := (But.refl pb w).set 2 _
  have hw : IntKind.i64.wrap (s.deep + 1) = s.deep + 1 := IntWalk.i64_in _ (by omega)
  obtain ⟨d0, d1⟩ := hd
  by_cases h12 : 12 < s.deep + 1
  · have HN : Hid (nestP s = failP { s with deep := s.deep + 1 } 10) := show _ = _ by unfold nestP; rw [if_pos h12]
    have HFA : Hid (Calls Tryd.prog 43 #[.pointer (some ⟨pb, 0, none⟩), .iface 135 (.pointer (some (E 9)))] (w.setCell ⟨pb, 2, none⟩ (.int .i64 (s.deep + 1))) (PaRet E l pb A c w0 (.tuple #[]) (failP { s with deep := s.deep + 1 } 10) (w.setCell ⟨pb, 2, none⟩ (.int .i64 (s.deep + 1))))) := fail_any I hs hp (z := 10) (by decide) (by decide)
    have hg0 : (w.setCell ⟨pb, 2, none⟩ (.int .i64 (s.deep + 1))).cell? ⟨3, 0, none⟩ = some (.iface 135 (.pointer (some (E 9)))) := (I.err hs.bel).c9
    have hgb : 3 ≠ pb := fun e => by
      have h1 := World.block_lt_of_cell? w0 _ I.laid.c9
      have h2 := h.lo
      simp only at h1
      omega
    have hg1 : w.cell? ⟨3, 0, none⟩ = some (.iface 135 (.pointer (some (E 9)))) := (I.err h.bel).c9
    clear h hs I hp hv
    go_enter Tryd.func44, Tryd.ntmps44
    go_upto_region 4 with (go_at_call 43; (with_reducible refine HFA.out.mono ?_); rintro y w2 ⟨rfl, h2, hb2⟩; have H2 := Lib.hid (And.intro h2 hb2); clear h2 hb2)
    obtain ⟨v2, -, -, -, k3, hv2⟩ := H2.out.1.cells
    cases he : (failP { s with deep := s.deep + 1 } 10).err with
    | none => exact absurd he failP_err
    | some p =>
      rw [he] at hv2
      obtain ⟨-, -, fb, rfl, -⟩ := hv2
      unfold ftV at k3
      have HE : Hid ((nestP s).err.isNone = false) := show _ = _ by rw [HN.out, he]; rfl
      clear he
      go_wp2_with fail
      go_ret
      rw [HE.out, HN.out]
      exact ⟨rfl, H2.out.1, HB1.out.trans H2.out.2⟩
  · have HN : Hid (nestP s = { s with deep := s.deep + 1 }) := show _ = _ by unfold nestP; rw [if_neg h12]
    have HS := Lib.hid hs
    cases he : s.err with
    | none =>
      rw [he] at hv
      have hv' : v = .nilIface := hv
      subst hv'
      have HE : Hid ((nestP s).err.isNone = true) := show _ = _ by rw [HN.out]; show s.err.isNone = true; rw [he]; rfl
      clear h hs I hp hv he
      go_enter Tryd.func44, Tryd.ntmps44
      go_wp2_with fail
      go_ret
      rw [HE.out, HN.out]
      exact ⟨rfl, HS.out, HB1.out⟩
    | some p =>
      rw [he] at hv
      obtain ⟨-, -, fb, rfl, -⟩ := hv
      unfold ftV at c3
      have HE : Hid ((nestP s).err.isNone = false) := show _ = _ by rw [HN.out]; show s.err.isNone = false; rw [he]; rfl
      clear h hs I hp he
      go_enter Tryd.func44, Tryd.ntmps44
      go_wp2_with fail
      go_ret
      rw [HE.out, HN.out]
      exact ⟨rfl, HS.out, HB1.out⟩
end
end Go.Proofs.YtpfgimohginbdaaDoor

namespace Go.Proofs.YtpfgimohginbdaaDoor
open Go.RowKit

/-! the parser's expressions: what is told of them -/
def exV (e : PExpr) (A : Option Addr) (c : Nat) : Value := .agg #[.string (mkB e.kind), .int .i64 e.num, .string (mkB e.name), .slice A e.kids.length c]
def newA (w : World) (n : Nat) : Prop := w.heap.size ≤ n
def ExPost (E : Nat → Addr) (l : List Tok) (pb : Nat) (A : Option Addr) (c : Nat) (w0 : World) (e : PExpr) (s' : PSt) (w : World) : Ending → World → Prop := fun y w' =>
  ∃ B d, y = .returned (exV e B d) ∧ RdE w' (newA w) e.kids B ∧ okN e.num ∧ PaAt E l pb A c w0 s' w' ∧ But pb w w'
/-- Number tokens are digits, not too many. -/
def NumOk (l : List Tok) : Prop := ∀ t ∈ l, t.kind = kNumber → 0 < t.text.length ∧ t.text.length ≤ 18 ∧ ∀ x ∈ t.text, 48 ≤ x.toNat ∧ x.toNat ≤ 57
structure ExI (E : Nat → Addr) (l : List Tok) (pb : Nat) (A : Option Addr) (c : Nat) (w0 : World) (n : Nat) : Prop where
  expr : ∀ lv s e s' w, lv ≤ 8 → PStOk l s → exprF l n lv s = some (e, s') → PaAt E l pb A c w0 s w → Calls Tryd.prog 57 #[.pointer (some ⟨pb, 0, none⟩), .int .i64 (lv : Nat)] w (ExPost E l pb A c w0 e s' w)
  one : ∀ s e s' w, PStOk l s → oneF l n s = some (e, s') → PaAt E l pb A c w0 s w → Calls Tryd.prog 66 #[.pointer (some ⟨pb, 0, none⟩)] w (ExPost E l pb A c w0 e s' w)
  atom : ∀ s e s' w, PStOk l s → atomF l n s = some (e, s') → PaAt E l pb A c w0 s w → Calls Tryd.prog 68 #[.pointer (some ⟨pb, 0, none⟩)] w (ExPost E l pb A c w0 e s' w)
  inner : ∀ s e s' w, PStOk l s → s.pos < l.length → s.err = none → innerF l n s = some (e, s') → PaAt E l pb A c w0 s w → Calls Tryd.prog 73 #[.pointer (some ⟨pb, 0, none⟩)] w (ExPost E l pb A c w0 e s' w)
section
variable {E : Nat → Addr} {l : List Tok} {pb : Nat} {A : Option Addr} {c : Nat} {w0 : World} {s s' : PSt} {w w' w1 : World}
theorem But.keepsIn {S : Nat → Prop} (h : But pb w w') (hS : ∀ n, S n → n ≠ pb) : KeepsIn S w w' := fun a v hs hv => by
  have hlt := World.block_lt_of_cell? w _ hv
  exact (World.cell?_of_block (h.block _ hlt (hS _ hs))).trans hv
theorem But.row (h : But pb w w') {k : Nat} {o : Obj} (hk : w.heap[k]? = some o) (hne : k ≠ pb) : w'.heap[k]? = some o := (h.block k (Array.getElem?_eq_some_iff.1 hk).1 hne).trans hk
theorem take_lit (I : PaIn E l A w0) (h : PaAt E l pb A c w0 s w) (hp : s.pos ≤ l.length) (x : List UInt8) : Calls Tryd.prog 24 #[.pointer (some ⟨pb, 0, none⟩), .string (mkB x)] w (PaRet E l pb A c w0 (.tuple #[]) (takeP l x s) w) := by
  have := take_any I h hp (mkB x)
  rwa [mkB_toList] at this
theorem of_lit (I : PaIn E l A w0) (h : PaAt E l pb A c w0 s w) (hp : s.pos ≤ l.length) (x : List UInt8) : Calls Tryd.prog 25 #[.pointer (some ⟨pb, 0, none⟩), .string (mkB x)] w (PaRet E l pb A c w0 (.string (mkB (ofP l x s).1)) (ofP l x s).2 w) := by
  have := of_any I h hp (mkB x)
  rwa [mkB_toList] at this
theorem is_lit (I : PaIn E l A w0) (h : PaAt E l pb A c w0 s w) (x : List UInt8) : Calls Tryd.prog 42 #[.pointer (some ⟨pb, 0, none⟩), .string (mkB x)] w (fun e w' => e = .returned (.bool (isP l s x)) ∧ ∃ n, w' = w.drewN n) := by
  have := is_any I h (mkB x)
  rwa [mkB_toList] at this
theorem PaAt.drew (h : PaAt E l pb A c w0 s w) : PaAt E l pb A c w0 s w.drew := h.keep (Below.refl _ _).drew
theorem But.drew (h : But pb w w') : But pb w w'.drew := h.trans (But.of_below (Below.refl _ _).drew)
/-- A store into a new block. -/
theorem But.setHi (h : But pb w w') {r : Nat} (hr : w.heap.size ≤ r) (j : Nat) (u : Value) : But pb w (w'.setCell ⟨r, j, none⟩ u) :=
  ⟨h.os, h.tape, h.output, by have := h.size; simpa using this, fun k hk hq => (Below.heap_setCell _ _ _ _ (by show k ≠ r; omega)).trans (h.block k hk hq)⟩
/-- Stores into a block of another type leave the parser as it is. -/
theorem PaAt.other (h : PaAt E l pb A c w0 s w) {r j : Nat} {u : Value} {cs : Array Value} {T : TypeId} {fz : Nat × Nat} (hr : w.heap[r]? = some (.cells cs T fz)) (h1 : T ≠ 54) (h2 : T ≠ 51) (hlo : w0.heap.size ≤ r) : PaAt E l pb A c w0 s (w.setCell ⟨r, j, none⟩ u) := by
  obtain ⟨v, hb, hv⟩ := h.blk
  have hne : pb ≠ r := fun e => by
    rw [← e, hb] at hr
    injection hr with hr
    injection hr with _ hr _
    exact h1 hr.symm
  refine ⟨h.bel.setCell hlo _, h.lo, v, (Below.heap_setCell _ _ _ _ hne).trans hb, ?_⟩
  cases he : s.err with
  | none => rw [he] at hv; exact hv
  | some p =>
    rw [he] at hv
    obtain ⟨q1, q2, fb, q3, q4⟩ := hv
    refine ⟨q1, q2, fb, q3, (Below.heap_setCell _ _ _ _ (fun e => ?_)).trans q4⟩
    subst e
    rw [hr] at q4
    injection q4 with q4
    injection q4 with _ q4 _
    exact h2 q4
/-- Four stores into a block of an expression. -/
theorem set4T {q : Nat} {a0 a1 a2 a3 v0 v1 v2 v3 : Value} {T : TypeId} {fz : Nat × Nat} (h : w.heap[q]? = some (.cells #[a0, a1, a2, a3] T fz)) :
    ((((w.setCell ⟨q, 0, none⟩ v0).setCell ⟨q, 1, none⟩ v1).setCell ⟨q, 2, none⟩ v2).setCell ⟨q, 3, none⟩ v3).heap[q]? = some (.cells #[v0, v1, v2, v3] T fz) :=
  row_set (j := 3) v3 (row_set (j := 2) v2 (row_set (j := 1) v1 (row_set (j := 0) v0 h rfl) rfl) rfl) (by simp)
theorem far4T {q : Nat} {v0 v1 v2 v3 : Value} {k : Nat} (h : k ≠ q) :
    ((((w.setCell ⟨q, 0, none⟩ v0).setCell ⟨q, 1, none⟩ v1).setCell ⟨q, 2, none⟩ v2).setCell ⟨q, 3, none⟩ v3).heap[k]? = w.heap[k]? :=
  (Below.heap_setCell _ _ _ _ h).trans ((Below.heap_setCell _ _ _ _ h).trans ((Below.heap_setCell _ _ _ _ h).trans (Below.heap_setCell _ _ _ _ h)))
theorem PaAt.set4 (h : PaAt E l pb A c w0 s w) {q : Nat} {a0 a1 a2 a3 v0 v1 v2 v3 : Value} (hr : w.heap[q]? = some (.cells #[a0, a1, a2, a3] 42 (0, 0))) (hlo : w0.heap.size ≤ q) :
    PaAt E l pb A c w0 s ((((w.setCell ⟨q, 0, none⟩ v0).setCell ⟨q, 1, none⟩ v1).setCell ⟨q, 2, none⟩ v2).setCell ⟨q, 3, none⟩ v3) :=
  (((h.other hr (by decide) (by decide) hlo).other (row_set (j := 0) v0 hr rfl) (by decide) (by decide) hlo).other (row_set (j := 1) v1 (row_set (j := 0) v0 hr rfl) rfl) (by decide) (by decide) hlo).other (row_set (j := 2) v2 (row_set (j := 1) v1 (row_set (j := 0) v0 hr rfl) rfl) rfl) (by decide) (by decide) hlo
theorem But.set4 (h : But pb w w') {q : Nat} {v0 v1 v2 v3 : Value} (hq : w.heap.size ≤ q) :
    But pb w ((((w'.setCell ⟨q, 0, none⟩ v0).setCell ⟨q, 1, none⟩ v1).setCell ⟨q, 2, none⟩ v2).setCell ⟨q, 3, none⟩ v3) :=
  (((h.setHi hq 0 _).setHi hq 1 _).setHi hq 2 _).setHi hq 3 _
theorem row4T {q : Nat} {v0 v1 v2 v3 : Value} {T : TypeId} {fz : Nat × Nat} (h : w.heap[q]? = some (.cells #[v0, v1, v2, v3] T fz)) :
    w.cell? ⟨q, 0, none⟩ = some v0 ∧ w.cell? ⟨q, 1, none⟩ = some v1 ∧ w.cell? ⟨q, 2, none⟩ = some v2 ∧ w.cell? ⟨q, 3, none⟩ = some v3 :=
  ⟨cell_of_row _ _ 0 _ _ _ h, cell_of_row _ _ 1 _ _ _ h, cell_of_row _ _ 2 _ _ _ h, cell_of_row _ _ 3 _ _ _ h⟩
/-- A tree whose blocks are new stands behind stores into one block. -/
theorem RdE.set4 {S S' : Nat → Prop} {ks : List PExpr} {B : Option Addr} (h : RdE w S ks B) {q : Nat} {v0 v1 v2 v3 : Value} (hq : ∀ n, S n → n ≠ q ∧ S' n) :
    RdE ((((w.setCell ⟨q, 0, none⟩ v0).setCell ⟨q, 1, none⟩ v1).setCell ⟨q, 2, none⟩ v2).setCell ⟨q, 3, none⟩ v3) S' ks B :=
  h.keep (fun a v hs hv => (World.cell?_of_block (far4T (hq _ hs).1)).trans hv) fun n hn => (hq n hn).2
end
end Go.Proofs.YtpfgimohginbdaaDoor

namespace Go.Proofs.YtpfgimohginbdaaDoor
open Go.RowKit

/-! the parser: atom, where there is nothing -/
section
variable {E : Nat → Addr} {l : List Tok} {pb : Nat} {A : Option Addr} {c : Nat} {w0 : World} {s s' : PSt} {w w' w1 : World}
theorem okN0 : okN 0 := ⟨by decide, by decide⟩
/-- One expression alone in a block. -/
theorem RdE.one {S : Nat → Prop} {e : PExpr} {B : Option Addr} {d kb : Nat} {T : TypeId} {fz : Nat × Nat} (h : w.heap[kb]? = some (.cells #[.string (mkB e.kind), .int .i64 e.num, .string (mkB e.name), .slice B e.kids.length d] T fz)) (hB : RdE w S e.kids B) (hN : okN e.num) (hS : S kb) : RdE w S [e] (some ⟨kb, 0, none⟩) :=
  ⟨[e], _, kb, 0, fun _ => B, fun _ => d, fun _ => ⟨rfl, hS⟩, fun i hi => by
    obtain rfl : i = 0 := by simpa using hi
    intro j u hj
    rw [cell_of_row _ _ _ _ _ _ h, ← hj]
    simp [exprL], fun i hi => by
    obtain rfl : i = 0 := by simpa using hi
    exact hN, fun i hi => by
    obtain rfl : i = 0 := by simpa using hi
    exact hB⟩
theorem RdE.two {S : Nat → Prop} {e f : PExpr} {B D : Option Addr} {b d kb : Nat} {T : TypeId} {fz : Nat × Nat} (h : w.heap[kb]? = some (.cells #[.string (mkB e.kind), .int .i64 e.num, .string (mkB e.name), .slice B e.kids.length b, .string (mkB f.kind), .int .i64 f.num, .string (mkB f.name), .slice D f.kids.length d] T fz)) (hB : RdE w S e.kids B) (hD : RdE w S f.kids D) (hN : okN e.num) (hM : okN f.num) (hS : S kb) : RdE w S [e, f] (some ⟨kb, 0, none⟩) :=
  ⟨[e, f], _, kb, 0, fun i => if i = 0 then B else D, fun i => if i = 0 then b else d, fun _ => ⟨rfl, hS⟩, fun i hi => by
    have hi2 : i = 0 ∨ i = 1 := by simp at hi; omega
    rcases hi2 with rfl | rfl
    · intro j u hj
      rw [cell_of_row _ _ _ _ _ _ h]
      have hj4 : j < 4 := (List.getElem?_eq_some_iff.1 hj).1
      match j, hj4, hj with
      | 0, _, hj => exact hj
      | 1, _, hj => exact hj
      | 2, _, hj => exact hj
      | 3, _, hj => exact hj
    · intro j u hj
      rw [cell_of_row _ _ _ _ _ _ h]
      have hj4 : j < 4 := (List.getElem?_eq_some_iff.1 hj).1
      match j, hj4, hj with
      | 0, _, hj => exact hj
      | 1, _, hj => exact hj
      | 2, _, hj => exact hj
      | 3, _, hj => exact hj, fun i hi => by
    have hi2 : i = 0 ∨ i = 1 := by simp at hi; omega
    rcases hi2 with rfl | rfl
    · exact hN
    · exact hM, fun i hi => by
    have hi2 : i = 0 ∨ i = 1 := by simp at hi; omega
    rcases hi2 with rfl | rfl
    · exact hB
    · exact hD⟩
/-- The state of affairs behind the first region of atom. -/
theorem atom_bad (I : PaIn E l A w0) (hs : PStOk l s) (hno : ¬ (s.err = none ∧ s.pos < l.length)) (h : PaAt E l pb A c w0 s w) :
    Calls Tryd.prog 68 #[.pointer (some ⟨pb, 0, none⟩)] w (ExPost E l pb A c w0 zeroE (failP s 1) w) := by
  obtain ⟨rb, hrb⟩ : ∃ rb, w.heap.size = rb := ⟨_, rfl⟩
  obtain ⟨wP, hwP⟩ : ∃ wP, w.alloc (.cells #[.pointer (some ⟨pb, 0, none⟩)] 52) = wP := ⟨_, rfl⟩
  obtain ⟨wA, hwA⟩ : ∃ wA, wP.alloc (.cells #[.string ⟨#[]⟩, .int .i64 0, .string ⟨#[]⟩, .slice none 0 0] 42) = wA := ⟨_, rfl⟩
  have hzP : wP.heap.size = rb + 1 := by rw [← hwP, ← hrb]; simp
  have hbP : Below w.heap.size w wP := by rw [← hwP]; exact grow_alloc (grow_refl _) _
  have hbA1 : Below wP.heap.size wP wA := by rw [← hwA]; exact grow_alloc (grow_refl _) _
  have hbA : Below w.heap.size w wA := grow_trans hbP hbA1
  have hmP : wA.heap[rb]? = some (.cells #[.pointer (some ⟨pb, 0, none⟩)] 52 (0, 0)) := (hbA1.block _ (by omega)).trans (by rw [← hwP, ← hrb]; exact heap_alloc_new w _)
  have hmA : wA.heap[rb + 1]? = some (.cells #[.string ⟨#[]⟩, .int .i64 0, .string ⟨#[]⟩, .slice none 0 0] 42 (0, 0)) := by rw [← hwA, ← hzP]; exact heap_alloc_new wP _
  have hA := h.keep hbA
  have hpr : pb < rb := by have := h.lt; omega
  have hlo : w0.heap.size ≤ rb + 1 := by have := h.under; omega
  have HBA : Hid (But pb w wA) := But.of_below hbA
  have HR : Hid (∀ w', But pb wA w' → w'.heap[rb]? = some (.cells #[.pointer (some ⟨pb, 0, none⟩)] 52 (0, 0)) ∧ w'.heap[rb + 1]? = some (.cells #[.string ⟨#[]⟩, .int .i64 0, .string ⟨#[]⟩, .slice none 0 0] 42 (0, 0))) := fun w' hb => ⟨hb.row hmP (by omega), hb.row hmA (by omega)⟩
  have HFA : Hid (∀ n, Calls Tryd.prog 43 #[.pointer (some ⟨pb, 0, none⟩), .iface 135 (.pointer (some (E 0)))] (wA.drewN n) (PaRet E l pb A c w0 (.tuple #[]) (failP s 1) (wA.drewN n))) := fun n => fail_any I (hA.drewN n) hs.hi (z := 1) (by decide) (by decide)
  have hg0 : wA.cell? ⟨1, 0, none⟩ = some (.iface 135 (.pointer (some (E 0)))) := (I.err hA.bel).c0
  obtain ⟨v, c0, c1, c2, c3, hv⟩ := hA.cells
  have p0 := cell_of_row _ _ 0 _ _ _ hmP
  have HWA := Lib.hid (And.intro hwP (And.intro hwA hrb))
  have HPL := Lib.hid (And.intro hpr hlo)
  obtain ⟨Q, hQ⟩ : ∃ Q, ExPost E l pb A c w0 zeroE (failP s 1) w = Q := ⟨_, rfl⟩
  have HQ := Lib.hid hQ
  rw [hQ]
  have hx : (∃ t, v = .iface 49 t) ∨ (v = .nilIface ∧ decide (l.length ≤ s.pos) = true) := by
    cases he : s.err with
    | some p =>
      rw [he] at hv
      obtain ⟨-, -, fb, rfl, -⟩ := hv
      exact .inl ⟨_, rfl⟩
    | none =>
      rw [he] at hv
      have hq : ¬ s.pos < l.length := fun q => hno ⟨he, q⟩
      exact .inr ⟨hv, by simp; omega⟩
  clear hs hno h hA hbA hbA1 hbP hmA hmP hwA hwP hrb hzP I hv hQ
  rcases hx with ⟨t, rfl⟩ | ⟨rfl, hge⟩
  all_goals
    go_enter Tryd.func68, Tryd.ntmps68
    go_upto_region 1 with fail
    rw [HWA.out.1, HWA.out.2.1]
    try rw [HWA.out.2.2]
    go_quiet (fail)
    go_wp2_with (go_at_call 43; (with_reducible refine (HFA.out _).mono ?_); rintro y w2 ⟨rfl, h2, hb2⟩; have hr2 := (HR.out _ ((((But.refl pb _).drewN _)).trans hb2)); obtain ⟨r0, r1, r2, r3⟩ := row4T hr2.2; have y0 := row_frozen hr2.2 0; have y1 := row_frozen hr2.2 1; have y2 := row_frozen hr2.2 2; have y3 := row_frozen hr2.2 3; have H2 := Lib.hid (And.intro h2 (And.intro ((((But.refl pb _).drewN _)).trans hb2) hr2)); clear h2 hb2 hr2)
    obtain ⟨u0, u1, u2, u3⟩ := row4T (set4T (v0 := .string ⟨#[]⟩) (v1 := .int .i64 0) (v2 := .string ⟨#[]⟩) (v3 := .slice none 0 0) H2.out.2.2.2)
    refine bodyPost_ret (v := exV zeroE none 0) (by simp [results, Tryd.results68, go_sem, u0, u1, u2, u3]; try rfl) rfl ?_
    rw [← HQ.out]
    exact ⟨none, 0, rfl, RdE.nil _ _ _, ⟨by decide, by decide⟩, H2.out.1.set4 H2.out.2.2.2 HPL.out.2, (HBA.out.trans H2.out.2.1).set4 (by rw [HWA.out.2.2]; omega)⟩
end
end Go.Proofs.YtpfgimohginbdaaDoor
