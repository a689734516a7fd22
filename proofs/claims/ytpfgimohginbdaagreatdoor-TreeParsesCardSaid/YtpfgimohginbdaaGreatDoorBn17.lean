import Derived.BigQuiet
import Derived.Test.YtpfgimohginbdaaGreatDoorBn15
import Derived.Test.YtpfgimohginbdaaGreatDoorBn16
set_option linter.unusedVariables false
set_option linter.unusedSimpArgs false
namespace Go.Proofs.YtpfgimohginbdaaGreatDoor
open Go.RowKit

/-! the reference's parser in memory; fail, next -/
def cdR : Option (Nat × Nat) → Nat
  | none => 0
  | some p => p.1
def atR : Option (Nat × Nat) → Int
  | none => -1
  | some p => (p.2 : Nat)
section
variable (l : List Tok) (pb : Nat) (A : Option Addr) (c : Nat) (w0 : World)
structure RaAt (s : PSt) (w : World) : Prop where
  bel : Below w0.heap.size w0 w
  lo : w0.heap.size ≤ pb
  ok : ∀ p, s.err = some p → 1 ≤ p.1 ∧ p.1 ≤ 10
  blk : w.heap[pb]? = some (.cells #[.slice A l.length c, .int .i64 (s.pos : Nat), .int .i64 s.deep, .int .i64 (cdR s.err : Nat), .int .i64 (atR s.err)] 65 (0, 0))
/-- What stands from the start on: the tokens. -/
structure RaIn : Prop where
  toks : Row w0 A (l.flatMap tokCells)
  len : l.length ≤ 100000
end
section
variable {l : List Tok} {pb : Nat} {A : Option Addr} {c : Nat} {w0 : World} {s s' : PSt} {w w' : World}
theorem RaAt.lt (h : RaAt l pb A c w0 s w) : pb < w.heap.size := (Array.getElem?_eq_some_iff.1 h.blk).1
theorem RaAt.under (h : RaAt l pb A c w0 s w) : w0.heap.size ≤ w.heap.size := h.bel.size
theorem RaAt.keep (h : RaAt l pb A c w0 s w) (hb : Below w.heap.size w w') : RaAt l pb A c w0 s w' :=
  ⟨h.bel.trans (hb.mono h.under), h.lo, h.ok, (hb.block _ h.lt).trans h.blk⟩
theorem RaAt.drewN (h : RaAt l pb A c w0 s w) (n : Nat) : RaAt l pb A c w0 s (w.drewN n) := h.keep (below_drewN (Below.refl _ _) n)
theorem RaAt.cells (h : RaAt l pb A c w0 s w) : w.cell? ⟨pb, 0, none⟩ = some (.slice A l.length c) ∧ w.cell? ⟨pb, 1, none⟩ = some (.int .i64 (s.pos : Nat)) ∧ w.cell? ⟨pb, 2, none⟩ = some (.int .i64 s.deep) ∧ w.cell? ⟨pb, 3, none⟩ = some (.int .i64 (cdR s.err : Nat)) ∧ w.cell? ⟨pb, 4, none⟩ = some (.int .i64 (atR s.err)) :=
  ⟨cell_of_row _ _ 0 _ _ _ h.blk, cell_of_row _ _ 1 _ _ _ h.blk, cell_of_row _ _ 2 _ _ _ h.blk, cell_of_row _ _ 3 _ _ _ h.blk, cell_of_row _ _ 4 _ _ _ h.blk⟩
theorem RaAt.frozen (h : RaAt l pb A c w0 s w) (j : Nat) : w.frozen? ⟨pb, j, none⟩ = false := row_frozen h.blk j
theorem RaAt.code0 (h : RaAt l pb A c w0 s w) (he : s.err = none) : w.cell? ⟨pb, 3, none⟩ = some (.int .i64 0) := by
  have := h.cells.2.2.2.1
  rw [he] at this
  exact this
theorem RaAt.code1 (h : RaAt l pb A c w0 s w) (he : s.err ≠ none) : ∃ z : Nat, 1 ≤ z ∧ w.cell? ⟨pb, 3, none⟩ = some (.int .i64 (z : Nat)) := by
  cases hz : s.err with
  | none => exact absurd hz he
  | some p =>
    have := h.cells.2.2.2.1
    rw [hz] at this
    exact ⟨p.1, (h.ok p hz).1, this⟩
theorem RaAt.setPos (h : RaAt l pb A c w0 s w) (n : Nat) : RaAt l pb A c w0 { s with pos := n } (w.setCell ⟨pb, 1, none⟩ (.int .i64 (n : Nat))) :=
  ⟨h.bel.setCell h.lo _, h.lo, h.ok, row_set (j := 1) _ h.blk (by simp)⟩
theorem RaAt.setDeep (h : RaAt l pb A c w0 s w) (n : Int) : RaAt l pb A c w0 { s with deep := n } (w.setCell ⟨pb, 2, none⟩ (.int .i64 n)) :=
  ⟨h.bel.setCell h.lo _, h.lo, h.ok, row_set (j := 2) _ h.blk (by simp)⟩
theorem RaAt.setErr (h : RaAt l pb A c w0 s w) {z : Nat} (h1 : 1 ≤ z) (h10 : z ≤ 10) : RaAt l pb A c w0 { s with err := some (z, s.pos) } ((w.setCell ⟨pb, 3, none⟩ (.int .i64 (z : Nat))).setCell ⟨pb, 4, none⟩ (.int .i64 (s.pos : Nat))) :=
  ⟨(h.bel.setCell h.lo _).setCell h.lo _, h.lo, fun p hp => by cases hp; exact ⟨h1, h10⟩, row_set (j := 4) _ (row_set (j := 3) _ h.blk rfl) (by simp [cdR, atR])⟩
theorem RaIn.tok (h : RaIn l A w0) (hb : Below w0.heap.size w0 w) {k : Nat} (hk : k < l.length) : ∃ b off, A = some ⟨b, off, none⟩ ∧ w.cell? ⟨b, off + k * 3, none⟩ = some (.string (mkB l[k].kind)) ∧ w.cell? ⟨b, off + k * 3 + 1, none⟩ = some (.string (mkB l[k].text)) := by
  have hg : ∀ j u, (tokCells l[k])[j]? = some u → (l.flatMap tokCells)[k * 3 + j]? = some u := fun j u hj => flat_cells (n := 3) (F := tokCells) (fun x _ => rfl) hk hj
  have hr := h.toks.keep (Keeps.of_below hb)
  obtain ⟨b, off, e, h0⟩ := hr (k * 3 + 0) _ (hg 0 _ rfl)
  obtain ⟨b', off', e', h1⟩ := hr (k * 3 + 1) _ (hg 1 _ rfl)
  rw [e] at e'; injection e' with e'; injection e' with e1 e2 _
  subst e1; subst e2
  exact ⟨b, off, e, h0, by rw [Nat.add_assoc]; exact h1⟩
/-- The call returns v; the parser's state is turned. -/
def RaRet (l : List Tok) (pb : Nat) (A : Option Addr) (c : Nat) (w0 : World) (v : Value) (s : PSt) (w : World) : Ending → World → Prop := fun e w' => e = .returned v ∧ RaAt l pb A c w0 s w' ∧ But pb w w'
set_option maxHeartbeats 4000000 in
set_option maxRecDepth 100000 in
theorem rfail_any (h : RaAt l pb A c w0 s w) {z : Nat} (h1 : 1 ≤ z) (h10 : z ≤ 10) :
    Calls Tryz.prog 34 #[.pointer (some ⟨pb, 0, none⟩), .int .i64 (z : Nat)] w (RaRet l pb A c w0 (.tuple #[]) (failP s z) w) := by
  obtain ⟨c0, c1, c2, c3, c4⟩ := h.cells
  have z3 := h.frozen 3
  have z4 := h.frozen 4
  have HK := Lib.hid h
  cases he : s.err with
  | none =>
    have k3 := h.code0 he
    have HF : Hid (RaAt l pb A c w0 (failP s z) ((w.setCell ⟨pb, 3, none⟩ (.int .i64 (z : Nat))).setCell ⟨pb, 4, none⟩ (.int .i64 (s.pos : Nat)))) := by
      rw [failP_none he]
      exact h.setErr h1 h10
    clear c3 he h
    go_enter Tryz.func34, Tryz.ntmps34
    go_wp2_with fail
    go_end0
    exact ⟨rfl, HF.out, ((But.refl pb w).set 3 _).set 4 _⟩
  | some p =>
    obtain ⟨q, hq, k3⟩ := h.code1 (by rw [he]; simp)
    have HF : Hid (RaAt l pb A c w0 (failP s z) w) := by rw [failP_old (by rw [he]; simp)]; exact h
    have hq' : (1 : Int) ≤ (q : Int) := by omega
    clear c3 he h
    go_enter Tryz.func34, Tryz.ntmps34
    go_wp2_with fail
    go_end0
    exact ⟨rfl, HF.out, But.refl _ _⟩
/-- The text of the next token, if it is of that kind. -/
def nxtP (l : List Tok) (s : PSt) (k : List UInt8) : List UInt8 := if ofB l k s = true then txtP l s else []
theorem ofB_at2 {x : List UInt8} {t : Tok} (he : s.err = none) (h : l[s.pos]? = some t) : ofB l x s = (t.kind == x) := by unfold ofB; rw [h, he]; rfl
set_option maxHeartbeats 4000000 in
set_option maxRecDepth 100000 in
theorem rnext_any (I : RaIn l A w0) (h : RaAt l pb A c w0 s w) (kb : ByteArray) :
    Calls Tryz.prog 35 #[.pointer (some ⟨pb, 0, none⟩), .string kb] w (fun e w' => e = .returned (.string (mkB (nxtP l s kb.toList))) ∧ ∃ n, w' = w.drewN n) := by
  have hlen := I.len
  obtain ⟨c0, c1, c2, c3, c4⟩ := h.cells
  by_cases he : s.err = none
  · have k3 := h.code0 he
    clear c3
    by_cases hlt : s.pos < l.length
    · obtain ⟨b, off, rfl, k0, k1⟩ := I.tok h.bel hlt
      have HI := Lib.hid (ofB_at2 (x := kb.toList) he (List.getElem?_eq_getElem hlt))
      have HT : Hid (txtP l s = l[s.pos].text) := show _ = _ by unfold txtP; rw [List.getElem?_eq_getElem hlt]; rfl
      have q1 : (s.pos : Int) < (l.length : Int) := by omega
      have q3 : decide (l.length ≤ s.pos) = false := by simpa using hlt
      have q0 : (0 : Int) ≤ (s.pos : Int) := by omega
      obtain ⟨t, ht⟩ : ∃ t, l[s.pos] = t := ⟨_, rfl⟩
      rw [ht] at k0 k1 HI HT
      have hx : ((mkB t.kind).toList == kb.toList) = (t.kind == kb.toList) := by rw [mkB_toList]
      cases bx : (t.kind == kb.toList)
      · rw [bx] at hx HI
        have HF : Hid (nxtP l s kb.toList = []) := show _ = _ by unfold nxtP; rw [HI.out]; rfl
        clear bx HI he h I ht hlt HT
        go_enter Tryz.func35, Tryz.ntmps35
        go_wp2_with fail
        go_quiet (fail)
        go_wp2_with fail
        go_quiet (fail)
        go_wp2_with fail
        go_ret
        refine ⟨by rw [HF.out]; rfl, ?_⟩; (try simp only [World.drewN_drewN]); exact ⟨_, rfl⟩
      · rw [bx] at hx HI
        have HF : Hid (nxtP l s kb.toList = t.text) := show _ = _ by unfold nxtP; rw [HI.out, HT.out]; rfl
        clear bx HI he h I ht hlt HT
        go_enter Tryz.func35, Tryz.ntmps35
        go_wp2_with fail
        go_quiet (fail)
        go_wp2_with fail
        go_quiet (fail)
        go_wp2_with fail
        go_quiet (fail)
        go_wp2_with fail
        go_ret
        refine ⟨by rw [HF.out]; rfl, ?_⟩; (try simp only [World.drewN_drewN]); exact ⟨_, rfl⟩
    · have HF : Hid (nxtP l s kb.toList = []) := show _ = _ by unfold nxtP ofB; rw [List.getElem?_eq_none (by omega)]; simp
      have q3 : decide (l.length ≤ s.pos) = true := by simp; omega
      clear he h I hlt
      go_enter Tryz.func35, Tryz.ntmps35
      go_wp2_with fail
      go_quiet (fail)
      go_wp2_with fail
      go_ret
      refine ⟨by rw [HF.out]; rfl, ?_⟩; (try simp only [World.drewN_drewN]); exact ⟨_, rfl⟩
  · obtain ⟨q, hq, k3⟩ := h.code1 he
    have hq' : (1 : Int) ≤ (q : Int) := by omega
    have hq2 : decide (0 < q) = true := by simp; omega
    have HF : Hid (nxtP l s kb.toList = []) := show _ = _ by
      unfold nxtP ofB
      cases hz : s.err with
      | none => exact absurd hz he
      | some p => rfl
    clear c3 he h I
    go_enter Tryz.func35, Tryz.ntmps35
    go_wp2_with fail
    go_quiet (fail)
    go_wp2_with fail
    go_ret
    refine ⟨by rw [HF.out]; rfl, ?_⟩; (try simp only [World.drewN_drewN]); exact ⟨_, rfl⟩
end
end Go.Proofs.YtpfgimohginbdaaGreatDoor

namespace Go.Proofs.YtpfgimohginbdaaGreatDoor
open Go.RowKit

/-! the reference's parser: eat, must, name, down, LevelOf -/
section
variable {l : List Tok} {pb : Nat} {A : Option Addr} {c : Nat} {w0 : World} {s s' : PSt} {w w' : World}
theorem nxt_lit (I : RaIn l A w0) (h : RaAt l pb A c w0 s w) (k : List UInt8) : Calls Tryz.prog 35 #[.pointer (some ⟨pb, 0, none⟩), .string (mkB k)] w (fun e w' => e = .returned (.string (mkB (nxtP l s k))) ∧ ∃ n, w' = w.drewN n) := by
  have := rnext_any I h (mkB k)
  rwa [mkB_toList] at this
theorem isP_nxt {x : List UInt8} (hx : x ≠ []) : isP l s x = ((nxtP l s kSign == x) || (nxtP l s kWord == x)) := by
  unfold isP nxtP ofB txtP
  cases he : s.err with
  | some p =>
    have hxe : ([] == x) = false := by rw [beq_eq_false_iff_ne]; exact Ne.symm hx
    simp [hxe]
  | none =>
    cases hl : l[s.pos]? with
    | none =>
      have hxe : ([] == x) = false := by rw [beq_eq_false_iff_ne]; exact Ne.symm hx
      simp [hxe]
    | some t =>
      simp only [Option.isNone_none, Bool.true_and, Option.map_some, Option.getD_some]
      have hxe : ([] == x) = false := by rw [beq_eq_false_iff_ne]; exact Ne.symm hx
      cases b1 : (t.kind == kSign) <;> cases b2 : (t.kind == kWord) <;> simp [hxe]
theorem mkB_inj2 {a b : List UInt8} : ((mkB a).toList == (mkB b).toList) = (a == b) := by rw [mkB_toList, mkB_toList]
set_option maxHeartbeats 4000000 in
set_option maxRecDepth 100000 in
theorem reat_any (I : RaIn l A w0) (h : RaAt l pb A c w0 s w) (hp : s.pos ≤ l.length) {x : List UInt8} (hx : x ≠ []) :
    Calls Tryz.prog 21 #[.pointer (some ⟨pb, 0, none⟩), .string (mkB x)] w (RaRet l pb A c w0 (.bool (isP l s x)) (if isP l s x = true then s.step else s) w) := by
  have hlen := I.len
  have HS := Lib.hid (fun n => nxt_lit I (h.drewN n) kSign)
  have HW := Lib.hid (fun n => nxt_lit I (h.drewN n) kWord)
  have HS0 := Lib.hid (nxt_lit I h kSign)
  have hxx := isP_nxt (l := l) (s := s) hx
  have hi0 := mkB_inj2 (a := nxtP l s kSign) (b := x)
  have hi1 := mkB_inj2 (a := nxtP l s kWord) (b := x)
  have HK := Lib.hid h
  obtain ⟨xs, hxs⟩ : ∃ y, mkB (nxtP l s kSign) = y := ⟨_, rfl⟩
  obtain ⟨xw, hxw⟩ : ∃ y, mkB (nxtP l s kWord) = y := ⟨_, rfl⟩
  obtain ⟨xb, hxb⟩ : ∃ y, mkB x = y := ⟨_, rfl⟩
  rw [hxs] at HS HS0 hi0
  rw [hxw] at HW hi1
  rw [hxb] at hi0 hi1 ⊢
  rw [show mkB kSign = ⟨#[115, 105, 103, 110]⟩ from rfl] at HS HS0
  rw [show mkB kWord = ⟨#[119, 111, 114, 100]⟩ from rfl] at HW
  have hq : (s.pos : Int) ≤ 100000 := by omega
  obtain ⟨-, c1, -, -, -⟩ := h.cells
  have z1 := h.frozen 1
  clear hxs hxw hxb h I hp
  cases b1 : (nxtP l s kSign == x)
  · rw [b1] at hi0 hxx
    cases b2 : (nxtP l s kWord == x)
    · rw [b2] at hi1 hxx
      have hF : isP l s x = false := hxx
      rw [hF, if_neg (by decide)]
      clear b1 b2 hxx c1 z1 hF
      go_enter Tryz.func21, Tryz.ntmps21
      go_wp2_with (first
        | (go_at_call 35; (with_reducible refine HS0.out.mono ?_); rintro y w1 ⟨rfl, n1, rfl⟩)
        | (go_at_call 35; (with_reducible refine (HW.out _).mono ?_); rintro y w2 ⟨rfl, n2, rfl⟩))
      go_ret
      exact ⟨rfl, HK.out.drewN _, (But.refl pb w).drewN _⟩
    · rw [b2] at hi1 hxx
      have hF : isP l s x = true := hxx
      rw [hF, if_pos rfl]
      clear b1 b2 hxx hF
      go_enter Tryz.func21, Tryz.ntmps21
      go_wp2_with (first
        | (go_at_call 35; (with_reducible refine HS0.out.mono ?_); rintro y w1 ⟨rfl, n1, rfl⟩)
        | (go_at_call 35; (with_reducible refine (HW.out _).mono ?_); rintro y w2 ⟨rfl, n2, rfl⟩))
      go_ret
      exact ⟨rfl, (HK.out.drewN _).setPos (s.pos + 1), ((But.refl pb w).drewN _).set 1 _⟩
  · rw [b1] at hi0 hxx
    have hF : isP l s x = true := by rw [hxx, Bool.true_or]
    rw [hF, if_pos rfl]
    clear b1 hxx hi1 hF
    go_enter Tryz.func21, Tryz.ntmps21
    go_wp2_with (go_at_call 35; (with_reducible refine HS0.out.mono ?_); rintro y w1 ⟨rfl, n1, rfl⟩)
    go_ret
    exact ⟨rfl, (HK.out.drewN _).setPos (s.pos + 1), ((But.refl pb w).drewN _).set 1 _⟩
set_option maxHeartbeats 4000000 in
set_option maxRecDepth 100000 in
theorem rmust_any (I : RaIn l A w0) (h : RaAt l pb A c w0 s w) (hp : s.pos ≤ l.length) {x : List UInt8} (hx : x ≠ []) :
    Calls Tryz.prog 19 #[.pointer (some ⟨pb, 0, none⟩), .string (mkB x)] w (RaRet l pb A c w0 (.tuple #[]) (takeP l x s) w) := by
  have HK := Lib.hid h
  by_cases he : s.err = none
  · have k3 := h.code0 he
    have HE := Lib.hid (reat_any I h hp hx)
    unfold takeP
    cases b : isP l s x
    · rw [b, if_neg (by decide)] at HE
      rw [if_neg (by decide)]
      have HFA : Hid (∀ w', RaAt l pb A c w0 s w' → Calls Tryz.prog 34 #[.pointer (some ⟨pb, 0, none⟩), .int .i64 1] w' (RaRet l pb A c w0 (.tuple #[]) (failP s 1) w')) := fun w' hw => rfail_any hw (z := 1) (by omega) (by omega)
      clear b h he I hp
      go_enter Tryz.func19, Tryz.ntmps19
      go_wp2_with (first
        | (go_at_call 21; (with_reducible refine HE.out.mono ?_); rintro y w1 ⟨rfl, h1, hb1⟩; have H1 := Lib.hid (And.intro h1 hb1); clear h1 hb1)
        | (go_at_call 34; (with_reducible refine (HFA.out _ H1.out.1).mono ?_); rintro y w2 ⟨rfl, h2, hb2⟩; have H2 := Lib.hid (And.intro h2 hb2); clear h2 hb2))
      go_end0
      exact ⟨rfl, H2.out.1, H1.out.2.trans H2.out.2⟩
    · rw [b, if_pos rfl] at HE
      rw [if_pos rfl]
      clear b h he I hp
      go_enter Tryz.func19, Tryz.ntmps19
      go_wp2_with (go_at_call 21; (with_reducible refine HE.out.mono ?_); rintro y w1 ⟨rfl, h1, hb1⟩; have H1 := Lib.hid (And.intro h1 hb1); clear h1 hb1)
      go_end0
      exact ⟨rfl, H1.out.1, H1.out.2⟩
  · obtain ⟨q, hq, k3⟩ := h.code1 he
    have hq' : (1 : Int) ≤ (q : Int) := by omega
    have hT : takeP l x s = s := by
      unfold takeP isP
      cases hz : s.err with
      | none => exact absurd hz he
      | some p => exact failP_old he
    rw [hT]
    clear h he I hp hT
    go_enter Tryz.func19, Tryz.ntmps19
    go_wp2_with fail
    first | go_end0 | refine bodyPost_ret (v := .tuple #[]) (by simp [results, Tryz.results19, go_sem]; try rfl) rfl ?_
    exact ⟨rfl, HK.out, But.refl _ _⟩
/-- Names are not empty. -/
def NamOk (l : List Tok) : Prop := ∀ t ∈ l, t.kind = kName → t.text ≠ []
set_option maxHeartbeats 4000000 in
set_option maxRecDepth 100000 in
theorem rname_any (I : RaIn l A w0) (hN : NamOk l) (h : RaAt l pb A c w0 s w) (hp : s.pos ≤ l.length) :
    Calls Tryz.prog 20 #[.pointer (some ⟨pb, 0, none⟩)] w (RaRet l pb A c w0 (.string (mkB (ofP l kName s).1)) (ofP l kName s).2 w) := by
  have hlen := I.len
  have HK := Lib.hid h
  have HNX := Lib.hid (nxt_lit I h kName)
  rw [show mkB kName = ⟨#[110, 97, 109, 101]⟩ from rfl] at HNX
  unfold nxtP at HNX
  unfold ofP
  cases b : ofB l kName s
  · rw [b, if_neg (by decide)] at HNX
    rw [if_neg (by decide)]
    rw [show mkB [] = ⟨#[]⟩ from rfl] at HNX
    have HFA : Hid (∀ w', RaAt l pb A c w0 s w' → Calls Tryz.prog 34 #[.pointer (some ⟨pb, 0, none⟩), .int .i64 1] w' (RaRet l pb A c w0 (.tuple #[]) (failP s 1) w')) := fun w' hw => rfail_any hw (z := 1) (by omega) (by omega)
    clear b h I hp
    go_enter Tryz.func20, Tryz.ntmps20
    go_wp2_with (first
      | (go_at_call 35; (with_reducible refine HNX.out.mono ?_); rintro y w1 ⟨rfl, n1, rfl⟩)
      | (go_at_call 34; (with_reducible refine (HFA.out _ (HK.out.drewN n1)).mono ?_); rintro y w2 ⟨rfl, h2, hb2⟩; have H2 := Lib.hid (And.intro h2 hb2); clear h2 hb2))
    go_ret
    exact ⟨rfl, H2.out.1, ((But.refl pb w).drewN _).trans H2.out.2⟩
  · rw [b, if_pos rfl] at HNX
    rw [if_pos rfl]
    obtain ⟨he, t, htk, hk, hlt⟩ := ofB_some b
    have hmem : t ∈ l := List.mem_of_getElem? htk
    have htx : txtP l s = t.text := by unfold txtP; rw [htk]; rfl
    have hne : ((mkB (txtP l s)).toList == []) = false := by rw [mkB_toList, beq_eq_false_iff_ne, htx]; exact hN t hmem hk
    have hq : (s.pos : Int) ≤ 100000 := by omega
    obtain ⟨-, c1, -, -, -⟩ := h.cells
    have z1 := h.frozen 1
    clear b h I hp he htk hk hlt hmem htx
    go_enter Tryz.func20, Tryz.ntmps20
    go_wp2_with (go_at_call 35; (with_reducible refine HNX.out.mono ?_); rintro y w1 ⟨rfl, n1, rfl⟩)
    go_ret
    exact ⟨rfl, (HK.out.drewN n1).setPos (s.pos + 1), ((But.refl pb w).drewN n1).set 1 _⟩
set_option maxHeartbeats 4000000 in
set_option maxRecDepth 100000 in
theorem rdown_any (h : RaAt l pb A c w0 s w) (hd : 0 ≤ s.deep ∧ s.deep ≤ 100) :
    Calls Tryz.prog 36 #[.pointer (some ⟨pb, 0, none⟩)] w (RaRet l pb A c w0 (.bool (nestP s).err.isNone) (nestP s) w) := by
  obtain ⟨c0, c1, c2, c3, c4⟩ := h.cells
  have z2 := h.frozen 2
  have hs := h.setDeep (s.deep + 1)
  have HB1 : Hid (But pb w (w.setCell ⟨pb, 2, none⟩ (.int .i64 (s.deep + 1)))) := (But.refl pb w).set 2 _
  have hw : IntKind.i64.wrap (s.deep + 1) = s.deep + 1 := IntWalk.i64_in _ (by omega)
  have hd1 := hd.1
  have hd2 := hd.2
  by_cases h12 : 12 < s.deep + 1
  · have HF : Hid (nestP s = failP { s with deep := s.deep + 1 } 10) := show _ = _ by unfold nestP; rw [if_pos h12]
    rw [HF.out]
    have HFA : Hid (∀ w', RaAt l pb A c w0 { s with deep := s.deep + 1 } w' → Calls Tryz.prog 34 #[.pointer (some ⟨pb, 0, none⟩), .int .i64 10] w' (RaRet l pb A c w0 (.tuple #[]) (failP { s with deep := s.deep + 1 } 10) w')) := fun w' hw => rfail_any hw (z := 10) (by omega) (by omega)
    obtain ⟨w1, hw1⟩ : ∃ w1, w.setCell ⟨pb, 2, none⟩ (.int .i64 (s.deep + 1)) = w1 := ⟨_, rfl⟩
    have H1 : Hid (RaAt l pb A c w0 { s with deep := s.deep + 1 } w1 ∧ But pb w w1) := by rw [← hw1]; exact And.intro hs HB1.out
    have HW1 := Lib.hid hw1
    have HE : Hid ((failP { s with deep := s.deep + 1 } 10).err.isNone = false) := show _ = _ by
      have := failP_err (s := { s with deep := s.deep + 1 }) (z := 10)
      cases hz : (failP { s with deep := s.deep + 1 } 10).err with
      | none => exact absurd hz this
      | some p => rfl
    rw [HE.out]
    clear HF hs HB1 h hw1
    go_enter Tryz.func36, Tryz.ntmps36
    go_upto_region 2 with fail
    rw [HW1.out]
    obtain ⟨-, -, d2, -, -⟩ := H1.out.1.cells
    go_wp2_with (go_at_call 34; (with_reducible refine (HFA.out _ H1.out.1).mono ?_); rintro y w2 ⟨rfl, h2, hb2⟩; obtain ⟨zz, hz, k3⟩ := h2.code1 failP_err; have hz' : (1 : Int) ≤ (zz : Int) := (by omega); have H2 := Lib.hid (And.intro h2 (H1.out.2.trans hb2)); clear h2 hb2)
    go_ret
    exact ⟨by first | rfl | simp; omega, H2.out.1, H2.out.2⟩
  · have hF : nestP s = { s with deep := s.deep + 1 } := by unfold nestP; rw [if_neg h12]
    rw [hF]
    have HS := Lib.hid hs
    by_cases he : s.err = none
    · have k3 := h.code0 he
      rw [he]
      rw [he] at HS
      clear c3 hs h hF
      go_enter Tryz.func36, Tryz.ntmps36
      go_wp2_with fail
      go_ret
      exact ⟨rfl, HS.out, HB1.out⟩
    · obtain ⟨q, hq, k3⟩ := h.code1 he
      have hq' : (1 : Int) ≤ (q : Int) := by omega
      have hE : s.err.isNone = false := by
        cases hz : s.err with
        | none => exact absurd hz he
        | some p => rfl
      rw [show ({ s with deep := s.deep + 1 } : PSt).err.isNone = false from hE]
      clear c3 hs h hF hE he
      go_enter Tryz.func36, Tryz.ntmps36
      go_wp2_with fail
      go_ret
      exact ⟨by first | rfl | simp; omega, HS.out, HB1.out⟩
end
end Go.Proofs.YtpfgimohginbdaaGreatDoor

namespace Go.Proofs.YtpfgimohginbdaaGreatDoor
open Go.RowKit

/-! LevelOf -/
def opsB : List (List UInt8) := [[61, 61], [33, 61], [60], [60, 61], [124], [94], [38], [60, 60], [62, 62], [43], [45], [42], [47], [37]]
def levI (x : List UInt8) : Int := match levN x with
  | none => -1
  | some k => (k : Nat)
theorem levN_none {x : List UInt8} (h : ∀ y ∈ opsB, y ≠ x) : levN x = none := by
  unfold levN
  rw [List.findIdx?_eq_none_iff]
  intro z hz
  rw [List.contains_eq_mem, decide_eq_false_iff_not]
  intro hm
  refine h x ?_ rfl
  simp only [levelsB, List.mem_cons, List.not_mem_nil, or_false] at hz
  rcases hz with rfl | rfl | rfl | rfl | rfl | rfl | rfl | rfl <;> simp only [List.mem_cons, List.not_mem_nil, or_false] at hm <;> (try rcases hm with rfl | rfl | rfl) <;> (try rcases hm with rfl | rfl) <;> (try subst hm) <;> decide
set_option maxHeartbeats 8000000 in
set_option maxRecDepth 100000 in
theorem levelof_any (x : List UInt8) (w : World) : Calls Tryz.prog 65 #[.string (mkB x)] w (fun e w' => e = .returned (.int .i64 (levI x)) ∧ w' = w) := by
  by_cases hm : x ∈ opsB
  · simp only [opsB, List.mem_cons, List.not_mem_nil, or_false] at hm
    rcases hm with rfl | rfl | rfl | rfl | rfl | rfl | rfl | rfl | rfl | rfl | rfl | rfl | rfl | rfl
    · rw [show mkB [61, 61] = ⟨#[61, 61]⟩ from rfl, show levI [61, 61] = 0 from by decide]
      go_enter Tryz.func65, Tryz.ntmps65
      go_wp2_with fail
      go_ret
      exact ⟨rfl, rfl⟩
    · rw [show mkB [33, 61] = ⟨#[33, 61]⟩ from rfl, show levI [33, 61] = 0 from by decide]
      go_enter Tryz.func65, Tryz.ntmps65
      go_wp2_with fail
      go_ret
      exact ⟨rfl, rfl⟩
    · rw [show mkB [60] = ⟨#[60]⟩ from rfl, show levI [60] = 1 from by decide]
      go_enter Tryz.func65, Tryz.ntmps65
      go_wp2_with fail
      go_ret
      exact ⟨rfl, rfl⟩
    · rw [show mkB [60, 61] = ⟨#[60, 61]⟩ from rfl, show levI [60, 61] = 1 from by decide]
      go_enter Tryz.func65, Tryz.ntmps65
      go_wp2_with fail
      go_ret
      exact ⟨rfl, rfl⟩
    · rw [show mkB [124] = ⟨#[124]⟩ from rfl, show levI [124] = 2 from by decide]
      go_enter Tryz.func65, Tryz.ntmps65
      go_wp2_with fail
      go_ret
      exact ⟨rfl, rfl⟩
    · rw [show mkB [94] = ⟨#[94]⟩ from rfl, show levI [94] = 3 from by decide]
      go_enter Tryz.func65, Tryz.ntmps65
      go_wp2_with fail
      go_ret
      exact ⟨rfl, rfl⟩
    · rw [show mkB [38] = ⟨#[38]⟩ from rfl, show levI [38] = 4 from by decide]
      go_enter Tryz.func65, Tryz.ntmps65
      go_wp2_with fail
      go_ret
      exact ⟨rfl, rfl⟩
    · rw [show mkB [60, 60] = ⟨#[60, 60]⟩ from rfl, show levI [60, 60] = 5 from by decide]
      go_enter Tryz.func65, Tryz.ntmps65
      go_wp2_with fail
      go_ret
      exact ⟨rfl, rfl⟩
    · rw [show mkB [62, 62] = ⟨#[62, 62]⟩ from rfl, show levI [62, 62] = 5 from by decide]
      go_enter Tryz.func65, Tryz.ntmps65
      go_wp2_with fail
      go_ret
      exact ⟨rfl, rfl⟩
    · rw [show mkB [43] = ⟨#[43]⟩ from rfl, show levI [43] = 6 from by decide]
      go_enter Tryz.func65, Tryz.ntmps65
      go_wp2_with fail
      go_ret
      exact ⟨rfl, rfl⟩
    · rw [show mkB [45] = ⟨#[45]⟩ from rfl, show levI [45] = 6 from by decide]
      go_enter Tryz.func65, Tryz.ntmps65
      go_wp2_with fail
      go_ret
      exact ⟨rfl, rfl⟩
    · rw [show mkB [42] = ⟨#[42]⟩ from rfl, show levI [42] = 7 from by decide]
      go_enter Tryz.func65, Tryz.ntmps65
      go_wp2_with fail
      go_ret
      exact ⟨rfl, rfl⟩
    · rw [show mkB [47] = ⟨#[47]⟩ from rfl, show levI [47] = 7 from by decide]
      go_enter Tryz.func65, Tryz.ntmps65
      go_wp2_with fail
      go_ret
      exact ⟨rfl, rfl⟩
    · rw [show mkB [37] = ⟨#[37]⟩ from rfl, show levI [37] = 7 from by decide]
      go_enter Tryz.func65, Tryz.ntmps65
      go_wp2_with fail
      go_ret
      exact ⟨rfl, rfl⟩
  · have hl : levI x = -1 := by unfold levI; rw [levN_none (x := x) fun y hy e => hm (by rw [← e]; exact hy)]
    rw [hl]
    have ne : ∀ y ∈ opsB, ((mkB x).toList == y) = false := fun y hy => by rw [mkB_toList, beq_eq_false_iff_ne]; exact fun e => hm (by rw [e]; exact hy)
    have n0 := ne [61, 61] (by decide)
    have n1 := ne [33, 61] (by decide)
    have n2 := ne [60] (by decide)
    have n3 := ne [60, 61] (by decide)
    have n4 := ne [124] (by decide)
    have n5 := ne [94] (by decide)
    have n6 := ne [38] (by decide)
    have n7 := ne [60, 60] (by decide)
    have n8 := ne [62, 62] (by decide)
    have n9 := ne [43] (by decide)
    have n10 := ne [45] (by decide)
    have n11 := ne [42] (by decide)
    have n12 := ne [47] (by decide)
    have n13 := ne [37] (by decide)
    clear ne hm hl
    go_enter Tryz.func65, Tryz.ntmps65
    go_wp2_with fail
    go_ret
    exact ⟨rfl, rfl⟩
end Go.Proofs.YtpfgimohginbdaaGreatDoor
