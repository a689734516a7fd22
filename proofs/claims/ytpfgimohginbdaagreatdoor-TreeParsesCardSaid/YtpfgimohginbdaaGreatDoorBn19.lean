import Derived.Test.YtpfgimohginbdaaGreatDoorBn15
import Derived.Test.YtpfgimohginbdaaGreatDoorBn17
import Derived.Test.YtpfgimohginbdaaGreatDoorBn18
import Derived.Test.YtpfgimohginbdaaGreatDoorBn7
set_option linter.unusedVariables false
set_option linter.unusedSimpArgs false
namespace Go.Proofs.YtpfgimohginbdaaGreatDoor
open Go.RowKit

/-! the parser: atom, where there is nothing -/
section
variable {E : Nat → Addr} {l : List Tok} {pb : Nat} {A : Option Addr} {c : Nat} {w0 : World} {s s' : PSt} {w w' w1 : World}
theorem okN0 : okN 0 := ⟨by decide, by decide⟩
/-- One expression alone in a block. -/
theorem RdE.one {S : Nat → Prop} {e : PExpr} {B : Option Addr} {d kb : Nat} {T : TypeId} {fz : Nat × Nat} (h : w.heap[kb]? = some (.cells #[.string (mkB e.kind), .int .i64 e.num, .string (mkB e.name), .slice B e.kids.length d] T fz)) (hB : RdE w S e.kids B) (hN : okN e.num) (hS : S kb) : RdE w S [e] (some ⟨kb, 0, none⟩) :=
  ⟨[e], _, kb, 0, fun _ => B, fun _ => d, fun _ => ⟨rfl, hS⟩, fun i hi => by
    obtain rfl : i = 0 := by simpa using hi
    intro j u hj
    rw [cell_of_row _ _ _ _ _ _ h, ← hj]
    simp [exprL], fun i hi => by
    obtain rfl : i = 0 := by simpa using hi
    exact hN, fun i hi => by
    obtain rfl : i = 0 := by simpa using hi
    exact hB⟩
theorem RdE.two {S : Nat → Prop} {e f : PExpr} {B D : Option Addr} {b d kb : Nat} {T : TypeId} {fz : Nat × Nat} (h : w.heap[kb]? = some (.cells #[.string (mkB e.kind), .int .i64 e.num, .string (mkB e.name), .slice B e.kids.length b, .string (mkB f.kind), .int .i64 f.num, .string (mkB f.name), .slice D f.kids.length d] T fz)) (hB : RdE w S e.kids B) (hD : RdE w S f.kids D) (hN : okN e.num) (hM : okN f.num) (hS : S kb) : RdE w S [e, f] (some ⟨kb, 0, none⟩) :=
  ⟨[e, f], _, kb, 0, fun i => if i = 0 then B else D, fun i => if i = 0 then b else d, fun _ => ⟨rfl, hS⟩, fun i hi => by
    have hi2 : i = 0 ∨ i = 1 := by simp at hi; omega
    rcases hi2 with rfl | rfl
    · intro j u hj
      rw [cell_of_row _ _ _ _ _ _ h]
      have hj4 : j < 4 := (List.getElem?_eq_some_iff.1 hj).1
      match j, hj4, hj with
      | 0, _, hj => exact hj
      | 1, _, hj => exact hj
      | 2, _, hj => exact hj
      | 3, _, hj => exact hj
    · intro j u hj
      rw [cell_of_row _ _ _ _ _ _ h]
      have hj4 : j < 4 := (List.getElem?_eq_some_iff.1 hj).1
      match j, hj4, hj with
      | 0, _, hj => exact hj
      | 1, _, hj => exact hj
      | 2, _, hj => exact hj
      | 3, _, hj => exact hj, fun i hi => by
    have hi2 : i = 0 ∨ i = 1 := by simp at hi; omega
    rcases hi2 with rfl | rfl
    · exact hN
    · exact hM, fun i hi => by
    have hi2 : i = 0 ∨ i = 1 := by simp at hi; omega
    rcases hi2 with rfl | rfl
    · exact hB
    · exact hD⟩
/-- The state of affairs behind the first region of atom. -/
theorem atom_bad (I : PaIn E l A w0) (hs : PStOk l s) (hno : ¬ (s.err = none ∧ s.pos < l.length)) (h : PaAt E l pb A c w0 s w) :
    Calls Tryz.prog 76 #[.pointer (some ⟨pb, 0, none⟩)] w (ExPost E l pb A c w0 zeroE (failP s 1) w) := by
  obtain ⟨rb, hrb⟩ : ∃ rb, w.heap.size = rb := ⟨_, rfl⟩
  obtain ⟨wP, hwP⟩ : ∃ wP, w.alloc (.cells #[.pointer (some ⟨pb, 0, none⟩)] 58) = wP := ⟨_, rfl⟩
  obtain ⟨wA, hwA⟩ : ∃ wA, wP.alloc (.cells #[.string ⟨#[]⟩, .int .i64 0, .string ⟨#[]⟩, .slice none 0 0] 49) = wA := ⟨_, rfl⟩
  have hzP : wP.heap.size = rb + 1 := by rw [← hwP, ← hrb]; simp
  have hbP : Below w.heap.size w wP := by rw [← hwP]; exact grow_alloc (grow_refl _) _
  have hbA1 : Below wP.heap.size wP wA := by rw [← hwA]; exact grow_alloc (grow_refl _) _
  have hbA : Below w.heap.size w wA := grow_trans hbP hbA1
  have hmP : wA.heap[rb]? = some (.cells #[.pointer (some ⟨pb, 0, none⟩)] 58 (0, 0)) := (hbA1.block _ (by omega)).trans (by rw [← hwP, ← hrb]; exact heap_alloc_new w _)
  have hmA : wA.heap[rb + 1]? = some (.cells #[.string ⟨#[]⟩, .int .i64 0, .string ⟨#[]⟩, .slice none 0 0] 49 (0, 0)) := by rw [← hwA, ← hzP]; exact heap_alloc_new wP _
  have hA := h.keep hbA
  have hpr : pb < rb := by have := h.lt; omega
  have hlo : w0.heap.size ≤ rb + 1 := by have := h.under; omega
  have HBA : Hid (But pb w wA) := But.of_below hbA
  have HR : Hid (∀ w', But pb wA w' → w'.heap[rb]? = some (.cells #[.pointer (some ⟨pb, 0, none⟩)] 58 (0, 0)) ∧ w'.heap[rb + 1]? = some (.cells #[.string ⟨#[]⟩, .int .i64 0, .string ⟨#[]⟩, .slice none 0 0] 49 (0, 0))) := fun w' hb => ⟨hb.row hmP (by omega), hb.row hmA (by omega)⟩
  have HFA : Hid (∀ n, Calls Tryz.prog 47 #[.pointer (some ⟨pb, 0, none⟩), .iface 161 (.pointer (some (E 0)))] (wA.drewN n) (PaRet E l pb A c w0 (.tuple #[]) (failP s 1) (wA.drewN n))) := fun n => fail_any I (hA.drewN n) hs.hi (z := 1) (by decide) (by decide)
  have hg0 : wA.cell? ⟨1, 0, none⟩ = some (.iface 161 (.pointer (some (E 0)))) := (I.err hA.bel).c0
  obtain ⟨v, c0, c1, c2, c3, hv⟩ := hA.cells
  have p0 := cell_of_row _ _ 0 _ _ _ hmP
  have HWA := Lib.hid (And.intro hwP (And.intro hwA hrb))
  have HPL := Lib.hid (And.intro hpr hlo)
  obtain ⟨Q, hQ⟩ : ∃ Q, ExPost E l pb A c w0 zeroE (failP s 1) w = Q := ⟨_, rfl⟩
  have HQ := Lib.hid hQ
  rw [hQ]
  have hx : (∃ t, v = .iface 79 t) ∨ (v = .nilIface ∧ decide (l.length ≤ s.pos) = true) := by
    cases he : s.err with
    | some p =>
      rw [he] at hv
      obtain ⟨-, -, fb, rfl, -⟩ := hv
      exact .inl ⟨_, rfl⟩
    | none =>
      rw [he] at hv
      have hq : ¬ s.pos < l.length := fun q => hno ⟨he, q⟩
      exact .inr ⟨hv, by simp; omega⟩
  clear hs hno h hA hbA hbA1 hbP hmA hmP hwA hwP hrb hzP I hv hQ
  rcases hx with ⟨t, rfl⟩ | ⟨rfl, hge⟩
  all_goals
    go_enter Tryz.func76, Tryz.ntmps76
    go_upto_region 1 with fail
    rw [HWA.out.1, HWA.out.2.1]
    try rw [HWA.out.2.2]
    go_quiet (fail)
    go_wp2_with (go_at_call 47; (with_reducible refine (HFA.out _).mono ?_); rintro y w2 ⟨rfl, h2, hb2⟩; have hr2 := (HR.out _ ((((But.refl pb _).drewN _)).trans hb2)); obtain ⟨r0, r1, r2, r3⟩ := row4T hr2.2; have y0 := row_frozen hr2.2 0; have y1 := row_frozen hr2.2 1; have y2 := row_frozen hr2.2 2; have y3 := row_frozen hr2.2 3; have H2 := Lib.hid (And.intro h2 (And.intro ((((But.refl pb _).drewN _)).trans hb2) hr2)); clear h2 hb2 hr2)
    obtain ⟨u0, u1, u2, u3⟩ := row4T (set4T (v0 := .string ⟨#[]⟩) (v1 := .int .i64 0) (v2 := .string ⟨#[]⟩) (v3 := .slice none 0 0) H2.out.2.2.2)
    refine bodyPost_ret (v := exV zeroE none 0) (by simp [results, Tryz.results76, go_sem, u0, u1, u2, u3]; try rfl) rfl ?_
    rw [← HQ.out]
    exact ⟨none, 0, rfl, RdE.nil _ _ _, ⟨by decide, by decide⟩, H2.out.1.set4 H2.out.2.2.2 HPL.out.2, (HBA.out.trans H2.out.2.1).set4 (by rw [HWA.out.2.2]; omega)⟩
end
end Go.Proofs.YtpfgimohginbdaaGreatDoor

namespace Go.Proofs.YtpfgimohginbdaaGreatDoor
open Go.RowKit

/-! the reference's parser: expressions, what is told of them -/
/-- Tokens as they come out of a text. -/
structure TkOk (l : List Tok) : Prop where
  num : NumOk l
  nam : NamOk l
  sgn : ∀ t ∈ l, t.kind = kSign → t.text ∉ wordsB
  wrd : ∀ t ∈ l, t.kind = kWord → t.text ∈ wordsB
section
variable {l : List Tok} {s : PSt}
theorem nxt_mem {k : List UInt8} (hb : ofB l k s = true) : ∃ t ∈ l, t.kind = k ∧ nxtP l s k = t.text := by
  obtain ⟨-, t, htk, hk, -⟩ := ofB_some hb
  refine ⟨t, List.mem_of_getElem? htk, hk, ?_⟩
  unfold nxtP txtP
  rw [hb, if_pos rfl, htk]; rfl
theorem sign_is (T : TkOk l) {x : List UInt8} (hx : x ∉ wordsB) (hne : x ≠ []) : (nxtP l s kSign == x) = isP l s x := by
  rw [isP_nxt hne]
  have : (nxtP l s kWord == x) = false := by
    rw [beq_eq_false_iff_ne]
    intro e
    cases hb : ofB l kWord s
    · have : nxtP l s kWord = [] := by unfold nxtP; rw [hb, if_neg (by decide)]
      exact hne (e.symm.trans this)
    · obtain ⟨t, ht, hk, h1⟩ := nxt_mem hb
      exact hx (by rw [← e, h1]; exact T.wrd t ht hk)
  rw [this, Bool.or_false]
theorem word_is (T : TkOk l) {x : List UInt8} (hx : x ∈ wordsB) (hne : x ≠ []) : (nxtP l s kWord == x) = isP l s x := by
  rw [isP_nxt hne]
  have : (nxtP l s kSign == x) = false := by
    rw [beq_eq_false_iff_ne]
    intro e
    cases hb : ofB l kSign s
    · have : nxtP l s kSign = [] := by unfold nxtP; rw [hb, if_neg (by decide)]
      exact hne (e.symm.trans this)
    · obtain ⟨t, ht, hk, h1⟩ := nxt_mem hb
      exact T.sgn t ht hk (by rw [← h1, e]; exact hx)
  rw [this, Bool.false_or]
theorem lev_nxt : levI (nxtP l s kSign) = match levR l s with
    | none => -1
    | some k => (k : Nat) := by
  have h0 : levI [] = -1 := by decide
  unfold levR
  cases hb : ofB l kSign s
  · have : nxtP l s kSign = [] := by unfold nxtP; rw [hb, if_neg (by decide)]
    rw [this, h0]
    unfold ofB at hb
    cases he : s.err with
    | some p => simp
    | none =>
      rw [he] at hb
      cases hl : l[s.pos]? with
      | none => simp
      | some t =>
        rw [hl] at hb
        have hk : (t.kind == kSign) = false := hb
        simp [hk]
  · obtain ⟨he, t, htk, hk, -⟩ := ofB_some hb
    have : nxtP l s kSign = t.text := by unfold nxtP txtP; rw [hb, if_pos rfl, htk]; rfl
    rw [this, he, htk]
    have hkk : (t.kind == kSign) = true := by rw [hk]; exact beq_self_eq_true _
    simp only [Option.isNone_none, if_true, hkk]
    rfl
end
def posR (pb : Nat) (w : World) : Nat := match w.cell? ⟨pb, 1, none⟩ with
  | some (.int _ n) => n.toNat
  | _ => 0
def errR (pb : Nat) (w : World) : Nat := match w.cell? ⟨pb, 3, none⟩ with
  | some (.int _ n) => if n = 0 then 1 else 0
  | _ => 0
def RxPost (l : List Tok) (pb : Nat) (A : Option Addr) (c : Nat) (w0 : World) (e : PExpr) (s' : PSt) (w : World) : Ending → World → Prop := fun y w' =>
  ∃ B d, y = .returned (exV e B d) ∧ RdE w' (newA w) e.kids B ∧ okN e.num ∧ RaAt l pb A c w0 s' w' ∧ But pb w w'
def RgPost (l : List Tok) (pb : Nat) (A : Option Addr) (c : Nat) (w0 : World) (ks : List PExpr) (s' : PSt) (w : World) : Ending → World → Prop := fun y w' =>
  ∃ B d, y = .returned (.slice B ks.length d) ∧ RdE w' (newA w) ks B ∧ RaAt l pb A c w0 s' w' ∧ But pb w w'
structure RxI (l : List Tok) (pb : Nat) (A : Option Addr) (c : Nat) (w0 : World) (n : Nat) : Prop where
  expr : ∀ lv s e s' w, lv ≤ 8 → PStOk l s → exprR l n lv s = some (e, s') → RaAt l pb A c w0 s w → Calls Tryz.prog 50 #[.pointer (some ⟨pb, 0, none⟩), .int .i64 (lv : Nat)] w (RxPost l pb A c w0 e s' w)
  ahead : ∀ s e s' w, PStOk l s → aheadR l n s = some (e, s') → RaAt l pb A c w0 s w → Calls Tryz.prog 64 #[.pointer (some ⟨pb, 0, none⟩)] w (RxPost l pb A c w0 e s' w)
  args : ∀ s ks s' w, PStOk l s → argsR l n s = some (ks, s') → RaAt l pb A c w0 s w → Calls Tryz.prog 73 #[.pointer (some ⟨pb, 0, none⟩)] w (RgPost l pb A c w0 ks s' w)
section
variable {l : List Tok} {pb : Nat} {A : Option Addr} {c : Nat} {w0 : World} {s s' : PSt} {w w' w1 : World}
theorem RaAt.drew (h : RaAt l pb A c w0 s w) : RaAt l pb A c w0 s w.drew := h.keep (Below.refl _ _).drew
theorem RaAt.other (h : RaAt l pb A c w0 s w) {r j : Nat} {u : Value} {cs : Array Value} {T : TypeId} {fz : Nat × Nat} (hr : w.heap[r]? = some (.cells cs T fz)) (h1 : T ≠ 65) (hlo : w0.heap.size ≤ r) : RaAt l pb A c w0 s (w.setCell ⟨r, j, none⟩ u) := by
  have hne : pb ≠ r := fun e => by
    rw [← e, h.blk] at hr
    injection hr with hr
    injection hr with _ hr _
    exact h1 hr.symm
  exact ⟨h.bel.setCell hlo _, h.lo, h.ok, (Below.heap_setCell _ _ _ _ hne).trans h.blk⟩
theorem RaAt.set4 (h : RaAt l pb A c w0 s w) {q : Nat} {a0 a1 a2 a3 v0 v1 v2 v3 : Value} (hr : w.heap[q]? = some (.cells #[a0, a1, a2, a3] 88 (0, 0))) (hlo : w0.heap.size ≤ q) :
    RaAt l pb A c w0 s ((((w.setCell ⟨q, 0, none⟩ v0).setCell ⟨q, 1, none⟩ v1).setCell ⟨q, 2, none⟩ v2).setCell ⟨q, 3, none⟩ v3) :=
  (((h.other hr (by decide) hlo).other (row_set (j := 0) v0 hr rfl) (by decide) hlo).other (row_set (j := 1) v1 (row_set (j := 0) v0 hr rfl) rfl) (by decide) hlo).other (row_set (j := 2) v2 (row_set (j := 1) v1 (row_set (j := 0) v0 hr rfl) rfl) rfl) (by decide) hlo
theorem RaAt.move (h : RaAt l pb A c w0 s w) (hs : w'.os = w.os ∧ w'.tape = w.tape ∧ w'.output = w.output ∧ w.heap.size ≤ w'.heap.size) (hpb : w'.heap[pb]? = w.heap[pb]?) (hlow : ∀ k, k < w0.heap.size → w'.heap[k]? = w.heap[k]?) : RaAt l pb A c w0 s w' :=
  ⟨⟨hs.1.trans h.bel.os, hs.2.1.trans h.bel.tape, hs.2.2.1.trans h.bel.output, Nat.le_trans h.bel.size hs.2.2.2, fun k hk => (hlow k hk).trans (h.bel.block k hk)⟩, h.lo, h.ok, hpb.trans h.blk⟩
theorem RaAt.pos (h : RaAt l pb A c w0 s w) : posR pb w = s.pos := by
  obtain ⟨-, c1, -, -, -⟩ := h.cells
  unfold posR
  rw [c1]
  exact Int.toNat_natCast _
theorem RaAt.errN (h : RaAt l pb A c w0 s w) (he : s.err = none) : errR pb w = 1 := by
  unfold errR
  rw [h.code0 he]
  rfl
theorem RaAt.errS (h : RaAt l pb A c w0 s w) (he : s.err ≠ none) : errR pb w = 0 := by
  obtain ⟨z, hz, k3⟩ := h.code1 he
  unfold errR
  rw [k3]
  simp only
  rw [if_neg]
  omega
/-- The end of a call that has an expression for its result. -/
theorem rx_end {rb : Nat} {wA w9 : World} {e : PExpr} {B : Option Addr} {d : Nat} (hBA : But pb w wA) (hrb : w.heap.size = rb) (h9 : But pb wA w9) (hr9 : w9.heap[rb]? = some (.cells #[.string ⟨#[]⟩, .int .i64 0, .string ⟨#[]⟩, .slice none 0 0] 88 (0, 0))) (hlo : w0.heap.size ≤ rb) {S : Nat → Prop} (hB : RdE w9 S e.kids B) (hS : ∀ n, S n → rb < n) (hN : okN e.num) (hpa : RaAt l pb A c w0 s' w9) :
    RxPost l pb A c w0 e s' w (.returned (exV e B d)) ((((w9.setCell ⟨rb, 0, none⟩ (.string (mkB e.kind))).setCell ⟨rb, 1, none⟩ (.int .i64 e.num)).setCell ⟨rb, 2, none⟩ (.string (mkB e.name))).setCell ⟨rb, 3, none⟩ (.slice B e.kids.length d)) :=
  ⟨B, d, rfl, hB.set4 fun k hk => by
    have h1 := hS k hk
    refine ⟨by omega, ?_⟩
    show w.heap.size ≤ k
    omega, hN, hpa.set4 hr9 hlo, (hBA.trans h9).set4 (by omega)⟩
end
end Go.Proofs.YtpfgimohginbdaaGreatDoor

namespace Go.Proofs.YtpfgimohginbdaaGreatDoor
open Go.RowKit

/-! tokens of a text are as the parsers want them -/
theorem spanL_all {p : UInt8 → Bool} : ∀ l : List UInt8, ∀ x ∈ l.take (spanL p l), p x = true := by
  intro l
  induction l with
  | nil => intro x hx; simp [spanL] at hx
  | cons c l ih =>
    intro x hx
    unfold spanL at hx
    split at hx
    · rename_i hc
      rw [List.take_succ_cons] at hx
      rcases List.mem_cons.1 hx with rfl | h
      · exact hc
      · exact ih x h
    · simp at hx
structure TkO (t : Tok) : Prop where
  num : t.kind = kNumber → 0 < t.text.length ∧ t.text.length ≤ 18 ∧ ∀ x ∈ t.text, 48 ≤ x.toNat ∧ x.toNat ≤ 57
  nam : t.kind = kName → t.text ≠ []
  sgn : t.kind = kSign → t.text ∉ wordsB
  wrd : t.kind = kWord → t.text ∈ wordsB
theorem any_mem {x : List UInt8} {l : List (List UInt8)} (h : l.any (fun y => y == x) = true) : x ∈ l := by
  rw [List.any_eq_true] at h
  obtain ⟨y, hy, he⟩ := h
  rw [beq_iff_eq] at he
  subst he
  exact hy
theorem twos_words : ∀ x ∈ twosB, x ∉ wordsB := by decide
theorem words_len : ∀ x ∈ wordsB, 2 ≤ x.length := by decide
theorem tokAt_ok (c : UInt8) (r : List UInt8) (k : Nat) (ht : (tokAt (c :: r)).2.2 = true) : TkO ⟨(tokAt (c :: r)).1, (c :: r).take (tokAt (c :: r)).2.1, k⟩ := by
  cases h : isLetter c
  · cases hd : isDigit c
    · rw [tokAt_sign c r h hd] at ht ⊢
      refine ⟨fun e => absurd (show kSign = kNumber from e) (by decide), fun e => absurd (show kSign = kName from e) (by decide), fun _ => ?_, fun e => absurd (show kSign = kWord from e) (by decide)⟩
      show (c :: r).take (if _ then 2 else 1) ∉ wordsB
      cases hb : twosB.any (fun x => x == (c :: r).take 2)
      · rw [if_neg (by decide)]
        intro hm
        have := words_len _ hm
        simp at this
      · rw [if_pos rfl]
        exact twos_words _ (any_mem hb)
    · rw [tokAt_digit c r h hd] at ht ⊢
      refine ⟨fun _ => ?_, fun e => absurd (show kNumber = kName from e) (by decide), fun e => absurd (show kNumber = kSign from e) (by decide), fun e => absurd (show kNumber = kWord from e) (by decide)⟩
      have h1 : 0 < spanL isDigit (c :: r) := spanL_pos hd
      have h2 := spanL_le isDigit (c :: r)
      have h3 : spanL isDigit (c :: r) ≤ 18 := by
        have ht' : numL c (c :: r) (spanL isDigit (c :: r)) = true := ht
        unfold numL at ht'
        simp only [Bool.and_eq_true, decide_eq_true_eq] at ht'
        exact ht'.1.1
      refine ⟨?_, ?_, fun x hx => ?_⟩
      · show 0 < ((c :: r).take (spanL isDigit (c :: r))).length
        rw [List.length_take]; omega
      · show ((c :: r).take (spanL isDigit (c :: r))).length ≤ 18
        rw [List.length_take]; omega
      · have := spanL_all (c :: r) x hx
        unfold isDigit at this
        simp only [Bool.and_eq_true, decide_eq_true_eq] at this
        omega
  · rw [tokAt_letter c r h] at ht ⊢
    have h1 : 0 < spanL alnum (c :: r) := spanL_pos (by unfold alnum; rw [h]; rfl)
    have h2 := spanL_le alnum (c :: r)
    have hne : (c :: r).take (spanL alnum (c :: r)) ≠ [] := by
      intro e
      have := congrArg List.length e
      rw [List.length_take] at this
      simp only [List.length_nil] at this
      omega
    cases hb : wordsB.any (fun x => x == (c :: r).take (spanL alnum (c :: r)))
    · refine ⟨fun e => ?_, fun _ => hne, fun e => ?_, fun e => ?_⟩
      · simp at e; exact absurd e (by decide)
      · simp at e; exact absurd e (by decide)
      · simp at e; exact absurd e (by decide)
    · refine ⟨fun e => ?_, fun _ => hne, fun e => ?_, fun _ => any_mem hb⟩
      · simp at e; exact absurd e (by decide)
      · simp at e; exact absurd e (by decide)
theorem lexA_ok : ∀ (n : Nat) (l : List UInt8) (k : Nat), l.length ≤ n → ∀ t ∈ (lexA l k).1, TkO t := by
  intro n
  induction n with
  | zero =>
    intro l k h t ht
    have : l = [] := List.length_eq_zero_iff.1 (by omega)
    subst this
    rw [lexA_nil [] k rfl] at ht
    exact absurd ht List.not_mem_nil
  | succ n ih =>
    intro l k h t ht
    cases hr : l.drop (spanL isBlank l) with
    | nil => rw [lexA_nil l k hr] at ht; exact absurd ht List.not_mem_nil
    | cons c r =>
      cases hq : (tokAt (c :: r)).2.2
      · rw [lexA_bad l k c r hr hq] at ht; exact absurd ht List.not_mem_nil
      · have hb := tokAt_bounds c r
        have hl : (c :: r).length ≤ l.length := by rw [← hr, List.length_drop]; omega
        rw [lexA_tok l k c r hr hq] at ht
        rcases List.mem_cons.1 ht with rfl | h1
        · exact tokAt_ok c r _ hq
        · exact ih _ _ (by rw [List.length_drop]; omega) t h1
theorem tkOk_lex (l : List UInt8) (k : Nat) : TkOk (lexA l k).1 :=
  ⟨fun t ht hk => (lexA_ok _ l k (Nat.le_refl _) t ht).num hk, fun t ht hk => (lexA_ok _ l k (Nat.le_refl _) t ht).nam hk, fun t ht hk => (lexA_ok _ l k (Nat.le_refl _) t ht).sgn hk, fun t ht hk => (lexA_ok _ l k (Nat.le_refl _) t ht).wrd hk⟩
end Go.Proofs.YtpfgimohginbdaaGreatDoor
