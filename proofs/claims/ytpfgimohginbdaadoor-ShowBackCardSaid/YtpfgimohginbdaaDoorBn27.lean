import Derived.Outline
import Derived.Test.YtpfgimohginbdaaDoorBn24
import Derived.Test.YtpfgimohginbdaaDoorBn15
set_option linter.unusedVariables false
set_option linter.unusedSimpArgs false
namespace Go.Proofs.YtpfgimohginbdaaDoor
open Go.RowKit

/-! the parser: expressions of a level -/
def posOf (pb : Nat) (w : World) : Nat := match w.cell? ⟨pb, 1, none⟩ with
  | some (.int _ n) => n.toNat
  | _ => 0
/-- The rows of ops in new memory. -/
def LevNew (base : Nat) (w : World) (A : Option Addr) : Prop := ∀ k, k < 8 → ∃ b off q c, A = some ⟨b, off, none⟩ ∧ base ≤ b ∧ base ≤ q ∧ w.cell? ⟨b, off + k, none⟩ = some (.slice (some ⟨q, 0, none⟩) (opsRows.getD k []).length c) ∧ Row w (some ⟨q, 0, none⟩) ((opsRows.getD k []).map strV)
theorem LevNew.keep {base : Nat} {w w' : World} {A : Option Addr} (h : LevNew base w A) (k : KeepsIn (fun n => base ≤ n) w w') : LevNew base w' A := fun i hi => by
  obtain ⟨b, off, q, c, e, h1, h2, h3, h4⟩ := h i hi
  refine ⟨b, off, q, c, e, h1, h2, k _ _ h1 h3, fun j u hj => ?_⟩
  obtain ⟨b', off', e', hc⟩ := h4 j u hj
  injection e' with e'
  injection e' with e1 e2 _
  subst e1; subst e2
  exact ⟨q, 0, rfl, k _ _ h2 hc⟩
set_option maxHeartbeats 4000000 in
set_option maxRecDepth 100000 in
theorem Levels_new (w : World) : Calls Tryd.prog 32 #[] w fun e w' => ∃ A, e = .returned (.slice A 8 8) ∧ LevNew w.heap.size w' A ∧ Below w.heap.size w w' := by
  go_enter Tryd.func32, Tryd.ntmps32
  go_wp2_with fail
  go_ret
  refine ⟨_, rfl, ?_, ?_⟩
  · intro k hk
    have e : ∀ (W : World) (o : Obj), (W.alloc o).heap.size = W.heap.size + 1 := fun W o => by simp
    rcases (by omega : k = 0 ∨ k = 1 ∨ k = 2 ∨ k = 3 ∨ k = 4 ∨ k = 5 ∨ k = 6 ∨ k = 7) with rfl | rfl | rfl | rfl | rfl | rfl | rfl | rfl
    · refine ⟨_, 0, w.heap.size, 2, rfl, by omega, by first | exact Nat.le_refl _ | omega, cell_of_row _ _ 0 _ _ _ (new_blockS _ _ (by simp)), Row.of_eq (Row.block (t := 9) (fz := (0, 0)) ?_) rfl⟩
      repeat (first | exact new_blockS _ _ (by simp) | refine old_blockS _ _ _ (by simp only [e]; omega) ?_)
    · refine ⟨_, 0, w.heap.size + 1, 2, rfl, by omega, by first | exact Nat.le_refl _ | omega, cell_of_row _ _ 1 _ _ _ (new_blockS _ _ (by simp)), Row.of_eq (Row.block (t := 9) (fz := (0, 0)) ?_) rfl⟩
      repeat (first | exact new_blockS _ _ (by simp) | refine old_blockS _ _ _ (by simp only [e]; omega) ?_)
    · refine ⟨_, 0, w.heap.size + 1 + 1, 1, rfl, by omega, by first | exact Nat.le_refl _ | omega, cell_of_row _ _ 2 _ _ _ (new_blockS _ _ (by simp)), Row.of_eq (Row.block (t := 9) (fz := (0, 0)) ?_) rfl⟩
      repeat (first | exact new_blockS _ _ (by simp) | refine old_blockS _ _ _ (by simp only [e]; omega) ?_)
    · refine ⟨_, 0, w.heap.size + 1 + 1 + 1, 1, rfl, by omega, by first | exact Nat.le_refl _ | omega, cell_of_row _ _ 3 _ _ _ (new_blockS _ _ (by simp)), Row.of_eq (Row.block (t := 9) (fz := (0, 0)) ?_) rfl⟩
      repeat (first | exact new_blockS _ _ (by simp) | refine old_blockS _ _ _ (by simp only [e]; omega) ?_)
    · refine ⟨_, 0, w.heap.size + 1 + 1 + 1 + 1, 1, rfl, by omega, by first | exact Nat.le_refl _ | omega, cell_of_row _ _ 4 _ _ _ (new_blockS _ _ (by simp)), Row.of_eq (Row.block (t := 9) (fz := (0, 0)) ?_) rfl⟩
      repeat (first | exact new_blockS _ _ (by simp) | refine old_blockS _ _ _ (by simp only [e]; omega) ?_)
    · refine ⟨_, 0, w.heap.size + 1 + 1 + 1 + 1 + 1, 2, rfl, by omega, by first | exact Nat.le_refl _ | omega, cell_of_row _ _ 5 _ _ _ (new_blockS _ _ (by simp)), Row.of_eq (Row.block (t := 9) (fz := (0, 0)) ?_) rfl⟩
      repeat (first | exact new_blockS _ _ (by simp) | refine old_blockS _ _ _ (by simp only [e]; omega) ?_)
    · refine ⟨_, 0, w.heap.size + 1 + 1 + 1 + 1 + 1 + 1, 2, rfl, by omega, by first | exact Nat.le_refl _ | omega, cell_of_row _ _ 6 _ _ _ (new_blockS _ _ (by simp)), Row.of_eq (Row.block (t := 9) (fz := (0, 0)) ?_) rfl⟩
      repeat (first | exact new_blockS _ _ (by simp) | refine old_blockS _ _ _ (by simp only [e]; omega) ?_)
    · refine ⟨_, 0, w.heap.size + 1 + 1 + 1 + 1 + 1 + 1 + 1, 3, rfl, by omega, by first | exact Nat.le_refl _ | omega, cell_of_row _ _ 7 _ _ _ (new_blockS _ _ (by simp)), Row.of_eq (Row.block (t := 9) (fz := (0, 0)) ?_) rfl⟩
      repeat (first | exact new_blockS _ _ (by simp) | refine old_blockS _ _ _ (by simp only [e]; omega) ?_)
  · exact grow_alloc (grow_alloc (grow_alloc (grow_alloc (grow_alloc (grow_alloc (grow_alloc (grow_alloc (grow_alloc (grow_refl w) _) _) _) _) _) _) _) _) _
theorem opsRows_lev : opsRows = levelsB := rfl
theorem lev_small : ∀ k, k < 8 → (opsRows.getD k []).length ≤ 1000000 := by decide
section
variable {E : Nat → Addr} {l : List Tok} {pb : Nat} {A : Option Addr} {c : Nat} {w0 : World} {s s' : PSt} {w w' w1 : World}
theorem PaAt.pos (h : PaAt E l pb A c w0 s w) : posOf pb w = s.pos := by
  obtain ⟨v, -, c1, -⟩ := h.cells
  unfold posOf
  rw [c1]
  exact Int.toNat_natCast _
theorem opP_none {lv : Nat} (h : l[s.pos]? = none) : opP l lv s = false := by unfold opP; rw [h]; simp
theorem opP_at {lv : Nat} {t : Tok} (he : s.err = none) (h : l[s.pos]? = some t) : opP l lv s = ((t.kind == kSign) && (levelsB.getD lv []).contains t.text) := by unfold opP; rw [h, he]; rfl
/-- The state at the head of the loop over the ops of a level. -/
structure LvAt (E : Nat → Addr) (l : List Tok) (pb : Nat) (A : Option Addr) (c : Nat) (w0 w2 : World) (vb lv n : Nat) (e : PExpr) (s' : PSt) (k : Nat) (e1 : PExpr) (st : PSt) (B : Option Addr) (d : Nat) (w : World) : Prop where
  le : k ≤ n
  ops : opsF l k lv e1 st = some (e, s')
  ok : PStOk l st
  pa : PaAt E l pb A c w0 st w
  but : But pb w2 w
  row : w.heap[vb]? = some (.cells #[.string (mkB e1.kind), .int .i64 e1.num, .string (mkB e1.name), .slice B e1.kids.length d] 42 (0, 0))
  kids : RdE w (fun n => newA w2 n ∧ n ≠ vb) e1.kids B
  num : okN e1.num
theorem LvAt.drewN {w2 : World} {vb lv n k : Nat} {e e1 : PExpr} {st : PSt} {B : Option Addr} {d : Nat} (h : LvAt E l pb A c w0 w2 vb lv n e s' k e1 st B d w) (m : Nat) : LvAt E l pb A c w0 w2 vb lv n e s' k e1 st B d (w.drewN m) :=
  ⟨h.le, h.ops, h.ok, h.pa.drewN m, h.but.drewN m, h.row, h.kids.keep ((Keeps.drewN w m).in _) fun _ h => h, h.num⟩
theorem LvAt.next {w2 wq w3 w4 : World} {vb lv n k k' : Nat} {e e1 r : PExpr} {st s1 : PSt} {B D : Option Addr} {d g : Nat} {x : List UInt8} (h : LvAt E l pb A c w0 w2 vb lv n e s' k' e1 st B d wq) (hne : vb ≠ pb) (h2v : w2.heap.size ≤ vb) (hp2 : pb < w2.heap.size) (hlo : w0.heap.size ≤ vb) (hb3 : But pb wq w3)
    (hD : RdE w4 (newA w3) r.kids D) (hM : okN r.num) (h4 : PaAt E l pb A c w0 s1 w4) (hb4 : But pb w3 w4) (hle : k ≤ n) (hops : opsF l k lv ⟨yTwo, 0, x, [e1, r]⟩ s1 = some (e, s')) (hok : PStOk l s1) :
    LvAt E l pb A c w0 w2 vb lv n e s' k ⟨yTwo, 0, x, [e1, r]⟩ s1 (some ⟨w4.heap.size, 0, none⟩) 2 (((((w4.alloc (.cells #[.string (mkB e1.kind), .int .i64 e1.num, .string (mkB e1.name), .slice B e1.kids.length d, .string (mkB r.kind), .int .i64 r.num, .string (mkB r.name), .slice D r.kids.length g] 42)).setCell ⟨vb, 0, none⟩ (.string ⟨#[116, 119, 111]⟩)).setCell ⟨vb, 1, none⟩ (.int .i64 0)).setCell ⟨vb, 2, none⟩ (.string (mkB x))).setCell ⟨vb, 3, none⟩ (.slice (some ⟨w4.heap.size, 0, none⟩) 2 2)) := by
  have hq4 : But pb wq w4 := hb3.trans hb4
  have hv4 := hq4.row h.row hne
  have hvl := (Array.getElem?_eq_some_iff.1 hv4).1
  have hvq := (Array.getElem?_eq_some_iff.1 h.row).1
  have hbA : Below w4.heap.size w4 (w4.alloc (.cells #[.string (mkB e1.kind), .int .i64 e1.num, .string (mkB e1.name), .slice B e1.kids.length d, .string (mkB r.kind), .int .i64 r.num, .string (mkB r.name), .slice D r.kids.length g] 42)) := grow_alloc (grow_refl _) _
  have hn4 := heap_alloc_new w4 (.cells #[.string (mkB e1.kind), .int .i64 e1.num, .string (mkB e1.name), .slice B e1.kids.length d, .string (mkB r.kind), .int .i64 r.num, .string (mkB r.name), .slice D r.kids.length g] 42)
  have hv5 := (hbA.block _ hvl).trans hv4
  have h2q := h.but.size
  have h23 := hb3.size
  have h34 := hb4.size
  refine ⟨hle, hops, hok, (h4.keep hbA).set4 hv5 hlo, ((h.but.trans hq4).trans (But.of_below hbA)).set4 h2v, set4T hv5, RdE.two ((far4T (by omega)).trans hn4) ?_ ?_ h.num hM ⟨show w2.heap.size ≤ _ by omega, by omega⟩, okN0⟩
  · refine RdE.set4 (S := fun n => newA w2 n ∧ n ≠ vb) (h.kids.keep ((hq4.trans (But.of_below hbA)).keepsIn fun k hk => ?_) fun k hk => hk) fun k hk => ⟨hk.2, hk⟩
    have h1 : w2.heap.size ≤ k := hk.1
    omega
  · refine RdE.set4 (S := newA w3) (hD.keep ((Keeps.of_below hbA).in _) fun k hk => hk) fun k hk => ?_
    have h1 : w3.heap.size ≤ k := hk
    refine ⟨by omega, ?_, by omega⟩
    show w2.heap.size ≤ k
    omega
set_option maxHeartbeats 16000000 in
set_option maxRecDepth 100000 in
theorem expr_step (I : PaIn E l A w0) {n : Nat} (IH : ∀ m, m ≤ n → ExI E l pb A c w0 m) {lv : Nat} (hlv : lv ≤ 8) {e : PExpr} (hs : PStOk l s) (hf : exprF l (n + 1) lv s = some (e, s')) (h : PaAt E l pb A c w0 s w) :
    Calls Tryd.prog 57 #[.pointer (some ⟨pb, 0, none⟩), .int .i64 (lv : Nat)] w (ExPost E l pb A c w0 e s' w) := by
  have hlen := I.len
  obtain ⟨rb, hrb⟩ : ∃ rb, w.heap.size = rb := ⟨_, rfl⟩
  obtain ⟨wA, hwA⟩ : ∃ wA, w.alloc (.cells #[.string ⟨#[]⟩, .int .i64 0, .string ⟨#[]⟩, .slice none 0 0] 42) = wA := ⟨_, rfl⟩
  have hbA : Below w.heap.size w wA := by rw [← hwA]; exact grow_alloc (grow_refl _) _
  have hmA : wA.heap[rb]? = some (.cells #[.string ⟨#[]⟩, .int .i64 0, .string ⟨#[]⟩, .slice none 0 0] 42 (0, 0)) := by rw [← hwA, ← hrb]; exact heap_alloc_new w _
  have hA := h.keep hbA
  have hpr : pb < rb := by have := h.lt; omega
  have hlo : w0.heap.size ≤ rb := by have := h.under; omega
  have hra : rb < wA.heap.size := (Array.getElem?_eq_some_iff.1 hmA).1
  have HBA : Hid (But pb w wA) := But.of_below hbA
  have HR : Hid (∀ w', But pb wA w' → w'.heap[rb]? = some (.cells #[.string ⟨#[]⟩, .int .i64 0, .string ⟨#[]⟩, .slice none 0 0] 42 (0, 0))) := fun w' hb => hb.row hmA (by omega)
  have HWA := Lib.hid (And.intro hwA hrb)
  have HPL := Lib.hid (And.intro hpr (And.intro hlo hra))
  have HA := Lib.hid hA
  have HS := Lib.hid hs
  have HI := Lib.hid I
  have HIH := Lib.hid IH
  have HF := Lib.hid hf
  have HLN := Lib.hid hlen
  obtain ⟨Q, hQ⟩ : ∃ Q, ExPost E l pb A c w0 e s' w = Q := ⟨_, rfl⟩
  have HQ := Lib.hid hQ
  rw [hQ]
  clear hs h hA hbA hmA hwA hrb I IH hf hQ hpr hlo hra hlen
  have HLE : Hid (lv ≤ 8) := hlv
  by_cases h8 : lv = 8
  · subst h8
    have HONE : Hid (∀ w', PaAt E l pb A c w0 s w' → Calls Tryd.prog 66 #[.pointer (some ⟨pb, 0, none⟩)] w' (ExPost E l pb A c w0 e s' w')) := fun w' hw => by
      have hf := HF.out
      rw [exprF, if_pos rfl] at hf
      exact (HIH.out n (Nat.le_refl _)).one s e s' w' HS.out hf hw
    go_enter Tryd.func57, Tryd.ntmps57
    go_upto_region 1 with fail
    rw [HWA.out.1, HWA.out.2]
    go_wp2_with (first
      | (go_at_call 32; (with_reducible refine (Levels_new wA).mono ?_); rintro y w2 ⟨A8, rfl, -, hb2⟩; have HB2 := Lib.hid hb2; clear hb2)
      | (go_at_call 66; (with_reducible refine (HONE.out _ (HA.out.keep HB2.out)).mono ?_); rintro y w4 ⟨B, d, rfl, hB, hN, h4, hb4⟩; rw [show exV e B d = .agg #[.string (mkB e.kind), .int .i64 e.num, .string (mkB e.name), .slice B e.kids.length d] from rfl]; have hr4 := HR.out w4 ((But.of_below HB2.out).trans hb4); obtain ⟨r0, r1, r2, r3⟩ := row4T hr4; have y0 := row_frozen hr4 0; have y1 := row_frozen hr4 1; have y2 := row_frozen hr4 2; have y3 := row_frozen hr4 3; have H4 := Lib.hid (And.intro hB (And.intro hN (And.intro h4 (And.intro hb4 hr4)))); clear hB hN h4 hb4 hr4))
    obtain ⟨hB, hN, h4, hb4, hr4⟩ := H4.out
    obtain ⟨u0, u1, u2, u3⟩ := row4T (set4T (v0 := .string (mkB e.kind)) (v1 := .int .i64 e.num) (v2 := .string (mkB e.name)) (v3 := .slice B e.kids.length d) hr4)
    refine bodyPost_ret (v := exV e B d) (by simp [results, Tryd.results57, go_sem, u0, u1, u2, u3]; try rfl) rfl ?_
    rw [← HQ.out]
    have h9 := HB2.out.size
    have h8 := HPL.out.2.2
    refine ⟨B, d, rfl, hB.set4 fun k hk => ?_, hN, h4.set4 hr4 HPL.out.2.1, ((HBA.out.trans (But.of_below HB2.out)).trans hb4).set4 (by rw [HWA.out.2]; omega)⟩
    have h1 : w2.heap.size ≤ k := hk
    refine ⟨by omega, ?_⟩
    show w.heap.size ≤ k
    rw [HWA.out.2]
    omega
  · have hl8 : lv < 8 := by omega
    have h8' : ((lv : Nat) == 8) = false := by simpa using h8
    have h8i : ((lv : Int) == 8) = false := by simp; omega
    have hwl : IntKind.i64.wrap ((lv : Int) + 1) = (lv : Int) + 1 := IntWalk.i64_in _ (by omega)
    have hf := HF.out
    rw [exprF, if_neg h8] at hf
    cases hx : exprF l n (lv + 1) s with
    | none => rw [hx] at hf; cases hf
    | some p =>
      obtain ⟨e1, s1⟩ := p
      rw [hx] at hf
      have hops : opsF l n lv e1 s1 = some (e, s') := hf
      have hs1 := HS.out.went ((went_expr l n).expr _ _ e1 s1 HS.out.hi hx)
      have HEX : Hid (∀ w', PaAt E l pb A c w0 s w' → Calls Tryd.prog 57 #[.pointer (some ⟨pb, 0, none⟩), .int .i64 ((lv : Int) + 1)] w' (ExPost E l pb A c w0 e1 s1 w')) := fun w' hw => (HIH.out n (Nat.le_refl _)).expr (lv + 1) s e1 s1 w' (by omega) HS.out hx hw
      have HOPS := Lib.hid (And.intro hops hs1)
      clear hf hx hops hs1 h8
      go_enter Tryd.func57, Tryd.ntmps57
      go_upto_region 1 with fail
      rw [HWA.out.1, HWA.out.2]
      go_upto_region 5 with (first
        | (go_at_call 32; (with_reducible refine (Levels_new wA).mono ?_); rintro y w2 ⟨A8, rfl, hlr, hb2⟩; have HB2 := Lib.hid (And.intro hb2 hlr); clear hb2 hlr)
        | (go_at_call 57; (with_reducible refine (HEX.out _ (HA.out.keep HB2.out.1)).mono ?_); rintro y w4 ⟨B, d, rfl, hB, hN, h4, hb4⟩; rw [show exV e1 B d = .agg #[.string (mkB e1.kind), .int .i64 e1.num, .string (mkB e1.name), .slice B e1.kids.length d] from rfl]; have H4 := Lib.hid (And.intro hB (And.intro hN (And.intro h4 hb4))); clear hB hN h4 hb4))
      obtain ⟨vb, hvb⟩ : ∃ vb, w4.heap.size = vb := ⟨_, rfl⟩
      obtain ⟨w5, hw5⟩ : ∃ w5, w4.alloc (.cells #[.string (mkB e1.kind), .int .i64 e1.num, .string (mkB e1.name), .slice B e1.kids.length d] 42) = w5 := ⟨_, rfl⟩
      have hb5 : Below w4.heap.size w4 w5 := by rw [← hw5]; exact grow_alloc (grow_refl _) _
      have hm5 : w5.heap[vb]? = some (.cells #[.string (mkB e1.kind), .int .i64 e1.num, .string (mkB e1.name), .slice B e1.kids.length d] 42 (0, 0)) := by rw [← hw5, ← hvb]; exact heap_alloc_new w4 _
      have hpv : pb < vb := by have := H4.out.2.2.1.lt; omega
      have h2v : w2.heap.size ≤ vb := by have := H4.out.2.2.2.size; omega
      have hLv : LvAt E l pb A c w0 w2 vb lv n e s' n e1 s1 B d w5 :=
        ⟨Nat.le_refl _, HOPS.out.1, HOPS.out.2, H4.out.2.2.1.keep hb5, H4.out.2.2.2.trans (But.of_below hb5), hm5, H4.out.1.lt.keep ((Keeps.of_below hb5).in _) (fun k hk => ⟨hk.1, by have := hk.2; omega⟩), H4.out.2.1⟩
      have HLV := Lib.hid hLv
      have HVB := Lib.hid (And.intro hpv h2v)
      have hne : vb ≠ pb := by omega
      rw [hvb, hw5]
      clear hw5 hvb hb5 hm5 hLv hpv h2v
      go_loopw [7] (fun _ wr => ∃ k e1 st B d, LvAt E l pb A c w0 w2 vb lv n e s' k e1 st B d wr) (fun _ wr => l.length - posOf pb wr)
      case atStart => exact ⟨_, _, _, _, _, HLV.out⟩
      case round =>
        clear HOPS H4 HLV HEX
        obtain ⟨k, e1, st, B, d, hLv⟩ := hrel
        have HLV := Lib.hid hLv
        have hpos := hLv.pa.pos
        have HPOS := Lib.hid hpos
        clear hpos
        go_upto_region 5 with fail
        go_cut [67] from 19 to 67 (fun v wx => v = .bool (opP l lv st) ∧ ∃ m, wx = wr.drewN m)
        case first =>
          obtain ⟨v, c0, c1, c2, c3, hv⟩ := hLv.pa.cells
          cases he : st.err with
          | some p =>
            rw [he] at hv
            obtain ⟨-, -, fb, rfl, -⟩ := hv
            unfold ftV at c3
            have HO : Hid (opP l lv st = false) := show _ = _ by unfold opP; rw [he]; rfl
            clear he hLv
            go_quiet (fail)
            go_wp2_with fail
            go_meet
            exact ⟨by rw [HO.out], _, rfl⟩
          | none =>
            rw [he] at hv
            have hv' : v = .nilIface := hv
            subst hv'
            by_cases hlt : st.pos < l.length
            · obtain ⟨b, off, rfl, k0, k1⟩ := HI.out.tok hLv.pa.bel hlt
              have HO := Lib.hid (opP_at (lv := lv) he (List.getElem?_eq_getElem hlt))
              have q1 : (st.pos : Int) < (l.length : Int) := by omega
              have q0 : (0 : Int) ≤ (st.pos : Int) := by omega
              obtain ⟨t, ht⟩ : ∃ t, l[st.pos] = t := ⟨_, rfl⟩
              rw [ht] at k0 k1 HO
              have hk : ((mkB t.kind).toList == [115, 105, 103, 110]) = (t.kind == kSign) := by rw [mkB_toList]; rfl
              obtain ⟨b8, o8, q8, c8, rfl, -, -, l0, l1⟩ := (HB2.out.2.keep (hLv.but.keepsIn fun k hk => by have := HPL.out.1; have := HPL.out.2.2; omega)) lv hl8
              have HC : Hid (∀ w', Keeps wr w' → Calls Tryd.prog 49 #[.slice (some ⟨q8, 0, none⟩) (opsRows.getD lv []).length c8, .string (mkB t.text)] w' fun e w2 => e = .returned (.bool ((levelsB.getD lv []).contains t.text)) ∧ w2 = w') := fun w' hw => by
                have := Contains_any (mkB t.text) (some ⟨q8, 0, none⟩) ((opsRows.getD lv []).map mkB) c8 w' (by rw [List.map_map]; exact l1.keep hw) (by simpa using lev_small lv hl8)
                rw [List.length_map, isIn_strV] at this
                exact this
              obtain ⟨rn, hrn⟩ : ∃ rn, (opsRows.getD lv []).length = rn := ⟨_, rfl⟩
              rw [hrn] at HC l0
              have hl8i : (lv : Int) < 8 := by omega
              have hl0i : (0 : Int) ≤ (lv : Int) := by omega
              clear he hLv ht hlt hv l1 hrn
              cases bk : (t.kind == kSign)
              · rw [bk] at hk HO
                have HO2 : Hid (opP l lv st = false) := show _ = _ by rw [HO.out]; rfl
                clear bk HO HC
                go_quiet (fail)
                go_wp2_with fail
                go_meet
                exact ⟨by rw [HO2.out], _, rfl⟩
              · rw [bk] at hk HO
                obtain ⟨bc, hbc⟩ : ∃ bc, (levelsB.getD lv []).contains t.text = bc := ⟨_, rfl⟩
                rw [hbc] at HC HO
                have HO2 : Hid (opP l lv st = bc) := show _ = _ by rw [HO.out]; rfl
                clear bk HO hbc
                go_quiet ((go_at_call 49; exact Calls.quiet_of_same (HC.out _ (by first | exact Keeps.refl _ | exact Keeps.drewN _ _))))
                go_wp2_with fail
                all_goals go_meet
                all_goals exact ⟨by rw [HO2.out], _, rfl⟩
            · have HO : Hid (opP l lv st = false) := opP_none (List.getElem?_eq_none (by omega))
              have q1 : decide (st.pos < l.length) = false := by simpa using hlt
              clear he hLv hlt
              go_quiet (fail)
              go_wp2_with fail
              go_meet
              exact ⟨by rw [HO.out], _, rfl⟩
        case rest =>
          obtain ⟨rfl, m, rfl⟩ := hcut
          have hLv := HLV.out.drewN m
          have HPW : Hid (posOf pb (wr.drewN m) = posOf pb wr) := rfl
          obtain ⟨wq, hwq⟩ : ∃ wq, wr.drewN m = wq := ⟨_, rfl⟩
          rw [hwq] at hLv HPW
          rw [hwq]
          have HL2 := Lib.hid hLv
          clear hwq
          cases ho : opP l lv st
          · have hf := hLv.ops
            cases k with
            | zero => rw [opsF] at hf; cases hf
            | succ k =>
              rw [opsF, ho, if_neg (by decide)] at hf
              have hxs : e = e1 ∧ s' = st := by cases hf; exact ⟨rfl, rfl⟩
              obtain ⟨rfl, rfl⟩ := hxs
              obtain ⟨e0, e1', e2, e3⟩ := row4T hLv.row
              have hb2 : But pb wA wq := (But.of_below HB2.out.1).trans hLv.but
              have hr7 := HR.out _ hb2
              obtain ⟨r0, r1, r2, r3⟩ := row4T hr7
              have y0 := row_frozen hr7 0
              have y1 := row_frozen hr7 1
              have y2 := row_frozen hr7 2
              have y3 := row_frozen hr7 3
              have HR7 := Lib.hid (And.intro hr7 hb2)
              clear hr7 hb2 hf ho hLv
              go_wp2_with fail
              obtain ⟨u0, u1, u2, u3⟩ := row4T (set4T (v0 := .string (mkB e.kind)) (v1 := .int .i64 e.num) (v2 := .string (mkB e.name)) (v3 := .slice B e.kids.length d) HR7.out.1)
              refine bodyPost_ret (v := exV e B d) (by simp [results, Tryd.results57, go_sem, u0, u1, u2, u3]; try rfl) rfl ?_
              rw [← HQ.out]
              have h9 := HB2.out.1.size
              have h8 := HPL.out.2.2
              refine ⟨B, d, rfl, HL2.out.kids.set4 fun k hk => ?_, HL2.out.num, HL2.out.pa.set4 HR7.out.1 HPL.out.2.1, (HBA.out.trans HR7.out.2).set4 (by rw [HWA.out.2]; omega)⟩
              have h1 : w2.heap.size ≤ k := hk.1
              refine ⟨by omega, ?_⟩
              show w.heap.size ≤ k
              rw [HWA.out.2]
              omega
          · have hf := hLv.ops
            cases k with
            | zero => rw [opsF] at hf; cases hf
            | succ k =>
              rw [opsF, ho, if_pos rfl] at hf
              obtain ⟨hse, t, htk, -, -, hpl⟩ := opP_some ho
              have HT : Hid (txtP l st = t.text) := show _ = _ by unfold txtP; rw [htk]; rfl
              cases hx : exprF l k (lv + 1) st.step with
              | none => rw [hx] at hf; cases hf
              | some p =>
                obtain ⟨r, s1⟩ := p
                rw [hx] at hf
                have hstk : PStOk l st.step := HLV.out.ok.went (went_step hpl hse)
                have hs1 := hstk.went ((went_expr l k).expr _ _ r s1 hstk.hi hx)
                have hkn : k ≤ n := by have := HLV.out.le; omega
                have HEX : Hid (∀ w', PaAt E l pb A c w0 st.step w' → Calls Tryd.prog 57 #[.pointer (some ⟨pb, 0, none⟩), .int .i64 ((lv : Int) + 1)] w' (ExPost E l pb A c w0 r s1 w')) := fun w' hw => (HIH.out k hkn).expr (lv + 1) st.step r s1 w' (by omega) hstk hx hw
                have HF2 : Hid (opsF l k lv ⟨yTwo, 0, t.text, [e1, r]⟩ s1 = some (e, s') ∧ PStOk l s1 ∧ k ≤ n ∧ st.pos < s1.pos) := And.intro (by rw [← HT.out]; exact hf) (And.intro hs1 (And.intro hkn (by have := ((went_expr l k).expr _ _ r s1 hstk.hi hx).lo; exact this)))
                obtain ⟨b, off, rfl, k0, k1⟩ := HI.out.tok hLv.pa.bel hpl
                rw [show l[st.pos] = t from by have := List.getElem?_eq_getElem hpl; rw [htk] at this; exact (Option.some.inj this).symm] at k1
                have q1 : (st.pos : Int) < (l.length : Int) := by omega
                have q0 : (0 : Int) ≤ (st.pos : Int) := by omega
                have hlen := HLN.out
                have hwp : IntKind.i64.wrap ((st.pos : Int) + 1) = (st.pos : Int) + 1 := IntWalk.i64_in _ (by omega)
                obtain ⟨v, c0, c1, -, -, -⟩ := hLv.pa.cells
                have z1 := hLv.pa.frozen 1
                clear hf ho hx hstk hs1 hse htk hpl k0 hLv hkn
                go_upto_region 6 with fail
                go_quiet (fail)
                go_upto_region 7 with fail
                go_upto_region 8 with fail
                obtain ⟨w3, hw3⟩ : ∃ w3, (wq.drewN nq).setCell ⟨pb, 1, none⟩ (.int .i64 ((st.pos : Int) + 1)) = w3 := ⟨_, rfl⟩
                have h3 : PaAt E l pb (some ⟨b, off, none⟩) c w0 st.step w3 := by rw [← hw3]; exact (HL2.out.pa.drewN nq).setPos (st.pos + 1)
                have hb3 : But pb wq w3 := by rw [← hw3]; exact ((But.refl pb wq).drewN nq).set 1 _
                have hv3 := hb3.row HL2.out.row hne
                obtain ⟨x0, x1, x2, x3⟩ := row4T hv3
                have H3 := Lib.hid (And.intro h3 (And.intro hb3 hv3))
                rw [hw3]
                clear hw3 h3 hb3 hv3 c0 c1 z1 k1
                go_region_law (go_simp; go_at_call 57; (with_reducible refine (HEX.out _ H3.out.1.drew).mono ?_); rintro y w4 ⟨D, g, rfl, hD, hM, h4, hb4⟩; rw [show exV r D g = .agg #[.string (mkB r.kind), .int .i64 r.num, .string (mkB r.name), .slice D r.kids.length g] from rfl]; have hv4 := hb4.row H3.out.2.2 hne; obtain ⟨g0, g1, g2, g3⟩ := row4T hv4; have hv5 : (w4.alloc (.cells #[.string (mkB e1.kind), .int .i64 e1.num, .string (mkB e1.name), .slice B e1.kids.length d, .string (mkB r.kind), .int .i64 r.num, .string (mkB r.name), .slice D r.kids.length g] 42)).heap[vb]? = some (.cells #[.string (mkB e1.kind), .int .i64 e1.num, .string (mkB e1.name), .slice B e1.kids.length d] 42 (0, 0)) := (old_block _ _ (Array.getElem?_eq_some_iff.1 hv4).1).trans hv4; obtain ⟨f0, f1, f2, f3⟩ := row4T hv5; have y0 := row_frozen hv5 0; have y1 := row_frozen hv5 1; have y2 := row_frozen hv5 2; have y3 := row_frozen hv5 3; have H4 := Lib.hid (And.intro hD (And.intro hM (And.intro h4 (And.intro ((But.refl pb w3).drew.trans hb4) (And.intro hv4 hv5))))); clear hD hM h4 hb4 hv4 hv5)
                all_goals go_wp2_with fail
                all_goals
                  have HNX := Lib.hid (LvAt.next (x := t.text) (w3 := w3) (g := g) HL2.out hne HVB.out.2 (by have := HB2.out.1.size; have := HPL.out.1; have := HPL.out.2.2; omega) (by have := HPL.out.2.1; have := HPL.out.2.2; have := HB2.out.1.size; have := HVB.out.2; omega) H3.out.2.1 H4.out.1 H4.out.2.1 H4.out.2.2.1 H4.out.2.2.2.1 HF2.out.2.2.1 HF2.out.1 HF2.out.2.1)
                  go_roundw
                  case rel => exact ⟨_, _, _, _, _, HNX.out⟩
                  case measure =>
                    have h1 := HNX.out.pa.pos
                    have h2 := HF2.out.2.2.2
                    rw [h1, HPOS.out]
                    omega
end
end Go.Proofs.YtpfgimohginbdaaDoor
