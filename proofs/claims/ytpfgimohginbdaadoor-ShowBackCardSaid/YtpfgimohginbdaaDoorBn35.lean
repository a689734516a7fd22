import Derived.Test.YtpfgimohginbdaaDoorBn34
set_option linter.unusedVariables false
set_option linter.unusedSimpArgs false
namespace Go.Proofs.YtpfgimohginbdaaDoor
open Go.RowKit

/-! the parser: a function -/
def fnV (f : PFun) (P : Option Addr) (p : Nat) (B : Option Addr) (c : Nat) : Value := .agg #[.string (mkB f.name), .slice P f.params.length p, .slice B f.body.length c]
def FnPost (E : Nat → Addr) (l : List Tok) (pb : Nat) (A : Option Addr) (c : Nat) (w0 : World) (f : PFun) (s' : PSt) (w : World) : Ending → World → Prop := fun y w' =>
  ∃ P cp B d, y = .returned (fnV f P cp B d) ∧ (FC.mk f P cp B d).Ok w' (newA w) ∧ PaAt E l pb A c w0 s' w' ∧ But pb w w'
theorem set3T {w : World} {p : Nat} {v0 v1 v2 : Value} {T : TypeId} {z0 z1 z2 : Value} (h : w.heap[p]? = some (.cells #[z0, z1, z2] T (0, 0))) :
    (((w.setCell ⟨p, 0, none⟩ v0).setCell ⟨p, 1, none⟩ v1).setCell ⟨p, 2, none⟩ v2).heap[p]? = some (.cells #[v0, v1, v2] T (0, 0)) :=
  row_set (j := 2) (cs := #[v0, v1, z2]) _ (row_set (j := 1) (cs := #[v0, z1, z2]) _ (row_set (j := 0) _ h (by simp)) (by simp)) (by simp)
theorem keep3T {w : World} {p : Nat} (v0 v1 v2 : Value) {S : Nat → Prop} (hS : ∀ n, S n → n ≠ p) :
    KeepsIn S w (((w.setCell ⟨p, 0, none⟩ v0).setCell ⟨p, 1, none⟩ v1).setCell ⟨p, 2, none⟩ v2) := fun a v hs hc =>
  keeps_store _ hS _ _ hs (keeps_store _ hS _ _ hs (keeps_store _ hS _ _ hs hc))
theorem row3T {w : World} {p : Nat} {v0 v1 v2 : Value} {T : TypeId} {fz : Nat × Nat} (h : w.heap[p]? = some (.cells #[v0, v1, v2] T fz)) :
    w.cell? ⟨p, 0, none⟩ = some v0 ∧ w.cell? ⟨p, 1, none⟩ = some v1 ∧ w.cell? ⟨p, 2, none⟩ = some v2 :=
  ⟨cell_of_row _ _ 0 _ _ _ h, cell_of_row _ _ 1 _ _ _ h, cell_of_row _ _ 2 _ _ _ h⟩
theorem texts_row {w : World} {base : Nat} {e : TypeId} {v : Value} {ps : List (List UInt8)} (h : w.ownsRow base e 1 v ps.length (ps.map tmV)) : ∃ A c, v = .slice A ps.length c ∧ RdT w (fun n => base ≤ n) ps A ∧ ps.length ≤ c := by
  obtain ⟨A, c, rfl, hA⟩ := owns_at h
  have hc0 : ps.length ≤ c := by
    rcases h.2 with ⟨q, h0⟩ | ⟨g, cap, cur, q, _, _, hc, _⟩
    · injection q with q1 q2 q3; omega
    · injection q with q1 q2 q3; omega
  refine ⟨A, c, rfl, fun i hi => ?_, hc0⟩
  obtain ⟨g, rfl, hb, -, hc⟩ := hA (by omega)
  exact ⟨g, 0, rfl, hb, by rw [Nat.zero_add]; exact hc i _ (by rw [List.getElem?_map, List.getElem?_eq_getElem hi]; rfl)⟩
section
variable {E : Nat → Addr} {l : List Tok} {pb : Nat} {A : Option Addr} {c : Nat} {w0 : World} {s s' : PSt} {w w' w1 : World}
theorem PaAt.setF (h : PaAt E l pb A c w0 s w) {q j : Nat} {u : Value} {cs : Array Value} {fz : Nat × Nat} (hr : w.heap[q]? = some (.cells cs 39 fz)) (hlo : w0.heap.size ≤ q) :
    PaAt E l pb A c w0 s (w.setCell ⟨q, j, none⟩ u) ∧ (w.setCell ⟨q, j, none⟩ u).heap[q]? = some (.cells (cs.setIfInBounds j u) 39 fz) :=
  ⟨h.other hr (by decide) (by decide) hlo, row_set (j := j) u hr rfl⟩
theorem fn_end {rb : Nat} {wA w9 : World} {f : PFun} {P : Option Addr} {cp : Nat} {B : Option Addr} {d : Nat} {S : Nat → Prop} (hBA : But pb w wA) (hrb : w.heap.size = rb) (h9 : But pb wA w9) {cs : Array Value} (hr9 : w9.heap[rb + 1]? = some (.cells cs 39 (0, 0))) (hlo : w0.heap.size ≤ rb + 1) (hok : (FC.mk f P cp B d).Ok w9 S) (hS : ∀ n, S n → rb + 1 < n) (hpa : PaAt E l pb A c w0 s' w9) :
    FnPost E l pb A c w0 f s' w (.returned (fnV f P cp B d)) (((w9.setCell ⟨rb + 1, 0, none⟩ (.string (mkB f.name))).setCell ⟨rb + 1, 1, none⟩ (.slice P f.params.length cp)).setCell ⟨rb + 1, 2, none⟩ (.slice B f.body.length d)) := by
  have h0 := hpa.setF (j := 0) (u := .string (mkB f.name)) hr9 hlo
  have h1 := h0.1.setF (j := 1) (u := .slice P f.params.length cp) h0.2 hlo
  have h2 := h1.1.setF (j := 2) (u := .slice B f.body.length d) h1.2 hlo
  exact ⟨P, cp, B, d, rfl, hok.keep (keep3T _ _ _ fun n hn => by have := hS n hn; omega) (fun n hn => by have := hS n hn; show w.heap.size ≤ n; omega), h2.1, (((hBA.trans h9).setHi (by omega) 0 _).setHi (by omega) 1 _).setHi (by omega) 2 _⟩
/-- Behind the body. -/
theorem fun_fin {rb fb : Nat} {wA w4 w6 : World} {nm : List UInt8} {ps : List (List UInt8)} {bd : List PStmt} {B : Option Addr} {d : Nat} {vP : Value} {x : Obj} {cs : Array Value} (hBA : But pb w wA) (hrb : w.heap.size = rb) (hb4 : But pb wA w4) (hr4 : ∀ w', But pb wA w' → w'.heap[rb + 1]? = some (.cells cs 39 (0, 0))) (hfb : rb + 1 < fb) (hra : rb + 1 < wA.heap.size) (hq : w4.heap[rb]? = some x)
    (h6 : TmAt E l pb A c w0 w4 fb nm ps s' w6) (hrow6 : w6.heap[fb]? = some (.cells #[.string (mkB nm), vP, .slice none 0 0] 39 (0, 0))) (hown : w6.ownsRow w4.heap.size 9 1 vP ps.length (ps.map tmV)) (hB : RdS w6 (fun n => w4.heap.size ≤ n) bd B) (hpe : pb < w4.heap.size) (hfa : wA.heap.size ≤ fb) (hlt : fb < w4.heap.size) (hw0 : w0.heap.size ≤ fb) (hne : pb < rb) :
    ∃ P cp, (w6.setCell ⟨fb, 2, none⟩ (.slice B bd.length d)).heap[fb]? = some (.cells #[.string (mkB nm), .slice P ps.length cp, .slice B bd.length d] 39 (0, 0)) ∧ (w6.setCell ⟨fb, 2, none⟩ (.slice B bd.length d)).heap[rb + 1]? = some (.cells cs 39 (0, 0)) ∧ (FC.mk ⟨nm, ps, bd⟩ P cp B d).Ok (w6.setCell ⟨fb, 2, none⟩ (.slice B bd.length d)) (fun n => w4.heap.size ≤ n) ∧ PaAt E l pb A c w0 s' (w6.setCell ⟨fb, 2, none⟩ (.slice B bd.length d)) ∧ But pb wA (w6.setCell ⟨fb, 2, none⟩ (.slice B bd.length d)) := by
  obtain ⟨P, cp, rfl, hT, hcp⟩ := texts_row hown
  have hst := h6.pa.setF (j := 2) (u := .slice B bd.length d) hrow6 hw0
  have hb6 : But pb wA w6 := ⟨h6.but.os.trans hb4.os, h6.but.tape.trans hb4.tape, h6.but.output.trans hb4.output, Nat.le_trans hb4.size h6.but.size, fun k hk h1 => (h6.but.block k (Nat.lt_of_lt_of_le hk hb4.size) h1 (by omega)).trans (hb4.block k hk h1)⟩
  refine ⟨P, cp, hst.2, (Below.heap_setCell _ _ _ _ (by show rb + 1 ≠ fb; omega)).trans (hr4 w6 hb6), ⟨fun i hi => ?_, hcp, hB.keep (keeps_store _ fun k hk => by have hk' : w4.heap.size ≤ k := hk; omega) fun k hk => hk⟩, hst.1, hb6.setHi hfa 2 _⟩
  obtain ⟨b, off, e, h1, h2⟩ := hT i hi
  exact ⟨b, off, e, h1, (World.cell?_of_block (Below.heap_setCell _ _ _ _ (by show b ≠ fb; omega))).trans h2⟩
set_option maxHeartbeats 8000000 in
set_option maxRecDepth 100000 in
theorem fun_any (I : PaIn E l A w0) (hN : NumOk l) {n : Nat} {f : PFun} (hs : PStOk l s) (hf : funF l n s = some (f, s')) (h : PaAt E l pb A c w0 s w) :
    Calls Tryd.prog 13 #[.pointer (some ⟨pb, 0, none⟩)] w (FnPost E l pb A c w0 f s' w) := by
  obtain ⟨rb, hrb⟩ : ∃ rb, w.heap.size = rb := ⟨_, rfl⟩
  obtain ⟨wP, hwP⟩ : ∃ wP, w.alloc (.cells #[.pointer (some ⟨pb, 0, none⟩)] 52) = wP := ⟨_, rfl⟩
  obtain ⟨wA, hwA⟩ : ∃ wA, wP.alloc (.cells #[.string ⟨#[]⟩, .slice none 0 0, .slice none 0 0] 39) = wA := ⟨_, rfl⟩
  have hzP : wP.heap.size = rb + 1 := by rw [← hwP, ← hrb]; simp
  have hbP : Below w.heap.size w wP := by rw [← hwP]; exact grow_alloc (grow_refl _) _
  have hbA1 : Below wP.heap.size wP wA := by rw [← hwA]; exact grow_alloc (grow_refl _) _
  have hbA : Below w.heap.size w wA := grow_trans hbP hbA1
  have hmP : wA.heap[rb]? = some (.cells #[.pointer (some ⟨pb, 0, none⟩)] 52 (0, 0)) := (hbA1.block _ (by omega)).trans (by rw [← hwP, ← hrb]; exact heap_alloc_new w _)
  have hmA : wA.heap[rb + 1]? = some (.cells #[.string ⟨#[]⟩, .slice none 0 0, .slice none 0 0] 39 (0, 0)) := by rw [← hwA, ← hzP]; exact heap_alloc_new wP _
  have hA := h.keep hbA
  have hpr : pb < rb := by have := h.lt; omega
  have hlo : w0.heap.size ≤ rb := by have := h.under; omega
  have hra : rb + 1 < wA.heap.size := (Array.getElem?_eq_some_iff.1 hmA).1
  have HBA : Hid (But pb w wA) := But.of_below hbA
  have HR : Hid (∀ w', But pb wA w' → w'.heap[rb]? = some (.cells #[.pointer (some ⟨pb, 0, none⟩)] 52 (0, 0)) ∧ w'.heap[rb + 1]? = some (.cells #[.string ⟨#[]⟩, .slice none 0 0, .slice none 0 0] 39 (0, 0))) := fun w' hb => ⟨hb.row hmP (by omega), hb.row hmA (by omega)⟩
  have p0 := cell_of_row _ _ 0 _ _ _ hmP
  have HWB := Lib.hid (And.intro hwP hwA)
  have HWA : Hid (True ∧ w.heap.size = rb) := And.intro trivial hrb
  have HPL := Lib.hid (And.intro hpr (And.intro hlo hra))
  have HA := Lib.hid hA
  have HI := Lib.hid (And.intro I hN)
  have HT1 : Hid (Calls Tryd.prog 24 #[.pointer (some ⟨pb, 0, none⟩), .string ⟨#[102, 110]⟩] wA (PaRet E l pb A c w0 (.tuple #[]) (takeP l zFn s) wA)) := take_lit I hA hs.hi zFn
  unfold funF at hf
  unfold headP at hf
  have hs1 := hs.went (takeP_went (x := zFn) hs.hi)
  obtain ⟨s1, hs1e⟩ : ∃ s1, takeP l zFn s = s1 := ⟨_, rfl⟩
  rw [hs1e] at hf HT1 hs1
  obtain ⟨nm, s2, hof⟩ : ∃ nm s2, ofP l kName s1 = (nm, s2) := ⟨_, _, rfl⟩
  have hs2 : PStOk l s2 := hs1.went (by have := ofP_went (x := kName) hs1.hi; rw [hof] at this; exact this)
  have HOF : Hid (∀ w', PaAt E l pb A c w0 s1 w' → Calls Tryd.prog 25 #[.pointer (some ⟨pb, 0, none⟩), .string ⟨#[110, 97, 109, 101]⟩] w' (PaRet E l pb A c w0 (.string (mkB nm)) s2 w')) := fun w' hw => by
    have := of_lit I hw hs1.hi kName
    rw [hof] at this
    exact this
  rw [hof] at hf
  dsimp only at hf
  have HT2 : Hid (∀ w', PaAt E l pb A c w0 s2 w' → Calls Tryd.prog 24 #[.pointer (some ⟨pb, 0, none⟩), .string ⟨#[40]⟩] w' (PaRet E l pb A c w0 (.tuple #[]) (takeP l [40] s2) w')) := fun w' hw => take_lit I hw hs2.hi [40]
  have hs3 := hs2.went (takeP_went (x := [40]) hs2.hi)
  obtain ⟨s3, hs3e⟩ : ∃ s3, takeP l [40] s2 = s3 := ⟨_, rfl⟩
  rw [hs3e] at hf HT2 hs3
  have HS3 := Lib.hid hs3
  have HF := Lib.hid hf
  obtain ⟨Q, hQ⟩ : ∃ Q, FnPost E l pb A c w0 f s' w = Q := ⟨_, rfl⟩
  have HQ := Lib.hid hQ
  rw [hQ]
  clear hf hs hs1 hs2 hs3 hof hs1e hs3e h hA hbA hbA1 hbP hmA hmP hwA hwP hrb hzP hQ hpr hlo hra I hN
  go_enter Tryd.func13, Tryd.ntmps13
  go_upto_region 1 with fail
  rw [HWB.out.1, HWB.out.2]
  try rw [HWA.out.2]
  go_upto_region 3 with (first
    | (go_at_call 24; (with_reducible refine HT1.out.mono ?_); rintro y w1 ⟨rfl, h1, hb1⟩; have t1 := cell_of_row _ _ 0 _ _ _ (HR.out w1 hb1).1; have H1 := Lib.hid (And.intro h1 hb1); clear h1 hb1)
    | (go_at_call 25; (with_reducible refine (HOF.out _ H1.out.1).mono ?_); rintro y w2 ⟨rfl, h2, hb2⟩; have t2 := cell_of_row _ _ 0 _ _ _ (HR.out w2 (H1.out.2.trans hb2)).1; have H2 := Lib.hid (And.intro h2 (H1.out.2.trans hb2)); clear h2 hb2))
  obtain ⟨fb, hfb⟩ : ∃ fb, w2.heap.size = fb := ⟨_, rfl⟩
  obtain ⟨w3, hw3⟩ : ∃ w3, w2.alloc (.cells #[.string (mkB nm), .slice none 0 0, .slice none 0 0] 39) = w3 := ⟨_, rfl⟩
  have hm3 : w3.heap[fb]? = some (.cells #[.string (mkB nm), .slice none 0 0, .slice none 0 0] 39 (0, 0)) := by rw [← hw3, ← hfb]; exact heap_alloc_new w2 _
  have hb3 : Below w2.heap.size w2 w3 := by rw [← hw3]; exact grow_alloc (grow_refl _) _
  have h3 := H2.out.1.keep hb3
  have hbA3 := H2.out.2.trans (But.of_below hb3)
  have hfa : wA.heap.size ≤ fb := by have := H2.out.2.size; omega
  have t3 := cell_of_row _ _ 0 _ _ _ (HR.out w3 hbA3).1
  have H3 := Lib.hid (And.intro h3 (And.intro hbA3 (And.intro hm3 hfa)))
  rw [hfb, hw3]
  clear hw3 hfb hm3 hb3 h3 hbA3 hfa
  go_upto_region 4 with (go_at_call 24; (with_reducible refine (HT2.out _ H3.out.1).mono ?_); rintro y w4 ⟨rfl, h4, hb4⟩; have hg4 := (HR.out w4 (H3.out.2.1.trans hb4)).1; have t4 := cell_of_row _ _ 0 _ _ _ hg4; have H4 := Lib.hid (And.intro h4 (And.intro (H3.out.2.1.trans hb4) (And.intro (hb4.row H3.out.2.2.1 (by have := HPL.out; have := H3.out.2.2.2; omega)) hg4))); clear h4 hb4 hg4)
  have hlt4 := (Array.getElem?_eq_some_iff.1 H4.out.2.2.1).1
  have HSB : Hid (rb + 1 < fb ∧ pb < fb ∧ pb < w4.heap.size ∧ fb < w4.heap.size ∧ (∀ w', But pb wA w' → w'.heap[rb + 1]? = some (.cells #[.string ⟨#[]⟩, .slice none 0 0, .slice none 0 0] 39 (0, 0)))) := ⟨by have := H3.out.2.2.2; have := HPL.out; omega, by have := H3.out.2.2.2; have := HPL.out; omega, H4.out.1.lt, hlt4, fun w' hb => (HR.out w' hb).2⟩
  clear hlt4
  obtain ⟨v4, -, -, -, c4, hv⟩ := H4.out.1.cells
  have hT0 : TmAt E l pb A c w0 w4 fb nm [] s3 w4 := ⟨But2.refl _ _ _, H4.out.1, _, H4.out.2.2.1, World.ownsRow_nil _ _ _ _⟩
  have HT0 := Lib.hid hT0
  have hf := HF.out
  clear hT0
  cases he : s3.err with
  | none =>
    rw [he] at hv
    have hv' : v4 = .nilIface := hv
    subst hv'
    rw [he, if_pos (by rfl)] at hf
    cases hp : paramsF l n s3 with
    | none => rw [hp] at hf; cases hf
    | some p =>
      obtain ⟨ps, s4⟩ := p
      rw [hp] at hf
      dsimp only at hf
      have HLI := Lib.hid (names_any HI.out.1 HS3.out hp HT0.out H4.out.2.2.2 HSB.out.2.2.1 HSB.out.2.2.2.1 (by have := HSB.out.2.1; omega) (by have := HSB.out.1; omega) (by have := HPL.out.1; omega) (by have := HPL.out; have := HSB.out.1; omega))
      have hs4 : PStOk l s4 := HS3.out.went (params_went HS3.out.hi hp)
      cases hx : blockF l n s4 with
      | none => rw [hx] at hf; cases hf
      | some p =>
        obtain ⟨bd, s5⟩ := p
        rw [hx] at hf
        have HES : Hid (f = ⟨nm, ps, bd⟩ ∧ s' = s5) := show _ ∧ _ by cases hf; exact ⟨rfl, rfl⟩
        have HBL : Hid (∀ w', PaAt E l pb A c w0 s4 w' → Calls Tryd.prog 28 #[.pointer (some ⟨pb, 0, none⟩)] w' (BlPost E l pb A c w0 bd s5 w')) := fun w' hw => block_any HI.out.1 HI.out.2 hs4 hx hw
        clear hf hp hx hs4 he hv
        go_upto_region 7 with (first
          | (go_at_call 26; (with_reducible refine (HLI.out).mono ?_); rintro y w5 ⟨rfl, h5⟩; have q5 := h5.but.row H4.out.2.2.2 (by have := HPL.out.1; omega) (by have := HSB.out.1; omega); have t5 := cell_of_row _ _ 0 _ _ _ q5; have H5 := Lib.hid h5; clear h5 q5)
          | (go_at_call 28; (with_reducible refine (HBL.out _ H5.out.pa).mono ?_); rintro y w6 ⟨B, d, rfl, hB, h6, hb6⟩; have hS6 := H5.out.then h6 hb6 HSB.out.2.2.1 (Nat.ne_of_gt HSB.out.2.1); obtain ⟨vP, hrow6, hown6⟩ := hS6.row; have z2 := row_frozen hrow6 2; obtain ⟨e0, e1, e2⟩ := row3T hrow6; have H6 := Lib.hid (And.intro hB (And.intro hS6 (And.intro hrow6 hown6))); have t6 := cell_of_row _ _ 0 _ _ _ (hS6.but.row H4.out.2.2.2 (by have := HPL.out.1; omega) (by have := HSB.out.1; omega)); clear hB h6 hb6 hS6 hrow6 hown6))
        obtain ⟨w7, hw7⟩ : ∃ w7, w6.setCell ⟨fb, 2, none⟩ (.slice B bd.length d) = w7 := ⟨_, rfl⟩
        have hF := fun_fin (nm := nm) (ps := ps) (bd := bd) (B := B) (d := d) HBA.out HWA.out.2 H4.out.2.1 HSB.out.2.2.2.2 HSB.out.1 HPL.out.2.2 H4.out.2.2.2 H6.out.2.1 H6.out.2.2.1 H6.out.2.2.2 (H6.out.1.keep (Keeps.in (Keeps.refl _) _) (fun k hk => by have hk' : w5.heap.size ≤ k := hk; have := H5.out.but.size; show w4.heap.size ≤ k; omega)) HSB.out.2.2.1 H3.out.2.2.2 HSB.out.2.2.2.1 (by have := HPL.out; have := HSB.out.1; omega) HPL.out.1
        rw [hw7] at hF ⊢
        have HFN := Lib.hid hF
        clear hw7 hF z2 e0 e1 e2
        obtain ⟨P, cp, hrow7, hhr7, hokF, hpaF, hbF⟩ := HFN.out
        obtain ⟨a0, a1, a2⟩ := row3T hrow7
        have y0 := row_frozen hhr7 0
        have y1 := row_frozen hhr7 1
        have y2 := row_frozen hhr7 2
        obtain ⟨r0, r1, r2⟩ := row3T hhr7
        have HF7 := Lib.hid (And.intro hhr7 (And.intro hokF (And.intro hpaF hbF)))
        clear hrow7 hhr7 hokF hpaF hbF
        go_wp2_with fail
        obtain ⟨u0, u1, u2⟩ := row3T (set3T (v0 := .string (mkB nm)) (v1 := .slice P ps.length cp) (v2 := .slice B bd.length d) HF7.out.1)
        refine bodyPost_ret (v := fnV ⟨nm, ps, bd⟩ P cp B d) (by simp [results, Tryd.results13, go_sem, u0, u1, u2]; try rfl) rfl ?_
        rw [← HQ.out, HES.out.1, HES.out.2]
        exact fn_end HBA.out HWA.out.2 HF7.out.2.2.2 HF7.out.1 (by have := HPL.out.2.1; omega) HF7.out.2.1 (fun k hk => by have hk' : w4.heap.size ≤ k := hk; have := HSB.out.1; have := HSB.out.2.2.2.1; omega) HF7.out.2.2.1
  | some z =>
    rw [he] at hv
    obtain ⟨-, -, gb, rfl, -⟩ := hv
    unfold ftV at c4
    rw [he, if_neg (by simp)] at hf
    dsimp only at hf
    cases hx : blockF l n s3 with
    | none => rw [hx] at hf; cases hf
    | some p =>
      obtain ⟨bd, s5⟩ := p
      rw [hx] at hf
      have HES : Hid (f = ⟨nm, [], bd⟩ ∧ s' = s5) := show _ ∧ _ by cases hf; exact ⟨rfl, rfl⟩
      have HBL : Hid (∀ w', PaAt E l pb A c w0 s3 w' → Calls Tryd.prog 28 #[.pointer (some ⟨pb, 0, none⟩)] w' (BlPost E l pb A c w0 bd s5 w')) := fun w' hw => block_any HI.out.1 HI.out.2 HS3.out hx hw
      clear hf hx he
      go_upto_region 7 with ((go_at_call 28; (with_reducible refine (HBL.out _ HT0.out.pa).mono ?_); rintro y w6 ⟨B, d, rfl, hB, h6, hb6⟩; have hS6 := HT0.out.then h6 hb6 HSB.out.2.2.1 (Nat.ne_of_gt HSB.out.2.1); obtain ⟨vP, hrow6, hown6⟩ := hS6.row; have z2 := row_frozen hrow6 2; obtain ⟨e0, e1, e2⟩ := row3T hrow6; have H6 := Lib.hid (And.intro hB (And.intro hS6 (And.intro hrow6 hown6))); have t6 := cell_of_row _ _ 0 _ _ _ (hS6.but.row H4.out.2.2.2 (by have := HPL.out.1; omega) (by have := HSB.out.1; omega)); clear hB h6 hb6 hS6 hrow6 hown6))
      obtain ⟨w7, hw7⟩ : ∃ w7, w6.setCell ⟨fb, 2, none⟩ (.slice B bd.length d) = w7 := ⟨_, rfl⟩
      have hF := fun_fin (nm := nm) (ps := []) (bd := bd) (B := B) (d := d) HBA.out HWA.out.2 H4.out.2.1 HSB.out.2.2.2.2 HSB.out.1 HPL.out.2.2 H4.out.2.2.2 H6.out.2.1 H6.out.2.2.1 H6.out.2.2.2 (H6.out.1.keep (Keeps.in (Keeps.refl _) _) (fun k hk => by have hk' : w4.heap.size ≤ k := hk; have := HT0.out.but.size; show w4.heap.size ≤ k; omega)) HSB.out.2.2.1 H3.out.2.2.2 HSB.out.2.2.2.1 (by have := HPL.out; have := HSB.out.1; omega) HPL.out.1
      rw [hw7] at hF ⊢
      have HFN := Lib.hid hF
      clear hw7 hF z2 e0 e1 e2
      obtain ⟨P, cp, hrow7, hhr7, hokF, hpaF, hbF⟩ := HFN.out
      obtain ⟨a0, a1, a2⟩ := row3T hrow7
      have y0 := row_frozen hhr7 0
      have y1 := row_frozen hhr7 1
      have y2 := row_frozen hhr7 2
      obtain ⟨r0, r1, r2⟩ := row3T hhr7
      have HF7 := Lib.hid (And.intro hhr7 (And.intro hokF (And.intro hpaF hbF)))
      clear hrow7 hhr7 hokF hpaF hbF
      go_wp2_with fail
      obtain ⟨u0, u1, u2⟩ := row3T (set3T (v0 := .string (mkB nm)) (v1 := .slice P 0 cp) (v2 := .slice B bd.length d) HF7.out.1)
      refine bodyPost_ret (v := fnV ⟨nm, [], bd⟩ P cp B d) (by simp [results, Tryd.results13, go_sem, u0, u1, u2]; try rfl) rfl ?_
      rw [← HQ.out, HES.out.1, HES.out.2]
      exact fn_end HBA.out HWA.out.2 HF7.out.2.2.2 HF7.out.1 (by have := HPL.out.2.1; omega) HF7.out.2.1 (fun k hk => by have hk' : w4.heap.size ≤ k := hk; have := HSB.out.1; have := HSB.out.2.2.2.1; omega) HF7.out.2.2.1
end
end Go.Proofs.YtpfgimohginbdaaDoor

namespace Go.Proofs.YtpfgimohginbdaaDoor
open Go.RowKit

/-! tree.Parse -/
theorem funInfoT : (Tryd.prog.info? 39).map (fun i => (i.zero, i.size, i.bytes)) = some (some (.agg #[.string ⟨#[]⟩, .slice none 0 0, .slice none 0 0]), 3, 64) := by kernel_rfl
/-- What the parser's answer is. -/
def ParsePost (E : Nat → Addr) (l : List Tok) (w : World) : Ending → World → Prop := fun y w' =>
  Below w.heap.size w w' ∧ ((∃ B d, (parseP l).2.err = none ∧ y = .returned (.tuple #[.slice B (parseP l).1.length d, .nilIface]) ∧ RdF w' (newA w) (parseP l).1 B) ∨
    (∃ z p fb, (parseP l).2.err = some (z, p) ∧ 1 ≤ z ∧ z ≤ 10 ∧ y = .returned (.tuple #[.slice none 0 0, ftV ⟨fb, 0, none⟩]) ∧ w'.heap[fb]? = some (.cells #[.int .i64 (p : Nat), esV (E (z - 1))] 51 (0, 0))))
/-- What stands at the head of the loop over functions. -/
structure PrAt (E : Nat → Addr) (l : List Tok) (pb : Nat) (A : Option Addr) (c : Nat) (w0 wS : World) (es : List PFun) (s' : PSt) (k : Nat) (fs : List PFun) (st : PSt) (v : Value) (w : World) : Prop where
  run : parseF l k fs st = some (es, s')
  ok : PStOk l st
  pa : PaAt E l pb A c w0 st w
  but : But pb wS w
  row : ∃ ts : List FC, w.ownsRow wS.heap.size 39 3 v fs.length (ts.flatMap FC.cells) ∧ ts.map (·.f) = fs ∧ ∀ t ∈ ts, t.Ok w (Apart wS.heap.size v)
  cnt : fs.length ≤ st.pos + 1
  cnt0 : st.err = none → fs.length ≤ st.pos
section
variable {E : Nat → Addr} {l : List Tok} {pb : Nat} {A : Option Addr} {c : Nat} {w0 : World} {s s' : PSt} {w w' w1 : World}
/-- One function more. -/
theorem PrAt.next {wS wr wq w4 w5 : World} {k : Nat} {es ks : List PFun} {s1 s3 : PSt} {st : PSt} {v v' : Value} {ts : List FC} {x : PFun} {P : Option Addr} {cp : Nat} {B : Option Addr} {d : Nat} {o : Obj} (hK : PrAt E l pb A c w0 wS es s1 (k + 1) ks st v wr)
    (hown : wr.ownsRow wS.heap.size 39 3 v ks.length (ts.flatMap FC.cells)) (hmap : ts.map (·.f) = ks) (hets : ∀ t ∈ ts, t.Ok wr (Apart wS.heap.size v)) (hse : st.err = none) (hru : parseF l k (ks ++ [x]) s3 = some (es, s1)) (hav : Adv l st s3) (hs3 : PStOk l s3)
    (hok : (FC.mk x P cp B d).Ok w4 (newA wq)) (h4 : PaAt E l pb A c w0 s3 w4) (hb4 : But pb wr w4) (hbq : But pb wr wq) (hp : pb < wS.heap.size)
    (hown' : w5.ownsRow wS.heap.size 39 3 v' (ks.length + 1) (ts.flatMap FC.cells ++ funL x P cp B d)) (hgrow : (w4.alloc o).grownBy w5 v.ownBlock) (hat : v'.ownBlock = v.ownBlock ∨ v'.ownBlock = some (w4.heap.size + 1)) :
    PrAt E l pb A c w0 wS es s1 k (ks ++ [x]) s3 v' w5 := by
  have hlow : ∀ i, v.ownBlock = some i → wS.heap.size ≤ i ∧ i < wr.heap.size := fun i hi => ownS_lt hown hi
  have hsr := hK.but.size
  have hs4 := hb4.size
  have hz : (w4.alloc o).heap.size = w4.heap.size + 1 := by simp
  have hgs := hgrow.size
  have hfar : ∀ i, i < w4.heap.size → v.ownBlock ≠ some i → w5.heap[i]? = w4.heap[i]? := fun i hi hn => (hgrow.block i (by omega) (fun e => hn e.symm)).trans (old_block _ _ hi)
  have hown4 : w4.ownsRow wS.heap.size 39 3 v ks.length (ts.flatMap FC.cells) := hb4.owns hown hp
  have hlo := h4.lo
  have hw0 := hK.pa.under
  have hkeep : KeepsIn (fun n => Apart wS.heap.size v n ∧ n < w4.heap.size) w4 w5 := fun a u hs hc => (World.cell?_of_block (hfar _ hs.2 (fun e => hs.1.2 e.symm))).trans hc
  refine ⟨hru, hs3, ?_, ?_, ⟨ts ++ [⟨x, P, cp, B, d⟩], ?_, by rw [List.map_append, hmap]; rfl, fun t ht => ?_⟩, ?_, fun he => ?_⟩
  · refine h4.move ⟨hgrow.os, hgrow.tape, hgrow.output, by omega⟩ (hfar pb h4.lt fun e => by have := (hlow _ e).1; omega) (fun i hi => ?_) (fun fb cs hf => ?_)
    · exact hfar i (by have := h4.under; omega) (fun e => by have := (hlow _ e).1; omega)
    · exact hfar fb (Array.getElem?_eq_some_iff.1 hf).1 (ownS_else hown4 hf fun cs' e => by injection e with _ e _; exact absurd e (by decide))
  · have hbS := hK.but.trans hb4
    exact ⟨hgrow.os.trans hbS.os, hgrow.tape.trans hbS.tape, hgrow.output.trans hbS.output, by omega, fun i hi hq => (hfar i (by omega) (fun e => by have := (hlow _ e).1; omega)).trans (hbS.block i hi hq)⟩
  · rw [List.length_append, List.length_singleton, List.flatMap_append, List.flatMap_singleton]
    exact hown'
  · rcases List.mem_append.1 ht with h | h
    · exact (((hets t h).keep (hb4.keepsIn fun i hi => by have := hi.1; omega) (fun _ h => h)).lt).keep hkeep (apart_own (w1 := w4) hat (by omega))
    · simp only [List.mem_singleton] at h
      subst h
      have hap : ∀ n, newA wq n → Apart wS.heap.size v n := fun n hn => by
        have h1 : wq.heap.size ≤ n := hn
        have h2 := hbq.size
        exact ⟨by omega, fun q => by have := (hlow _ q.symm).2; omega⟩
      exact FC.Ok.keep hkeep (apart_own (w1 := w4) hat (by omega)) (FC.Ok.lt (S := Apart wS.heap.size v) (hok.keep (Keeps.in (Keeps.refl _) _) hap))
  · have h1 := hK.cnt0 hse
    have h2 := hav.w.lo
    rw [List.length_append, List.length_singleton]
    omega
  · have h1 := hK.cnt0 hse
    have h2 := hav.adv he
    rw [List.length_append, List.length_singleton]
    omega
set_option maxHeartbeats 16000000 in
set_option maxRecDepth 100000 in
theorem Parse_any (I : PaIn E l A w) (hN : NumOk l) :
    Calls Tryd.prog 7 #[.slice A l.length c] w (ParsePost E l w) := by
  have hlen := I.len
  obtain ⟨ti, hi, hz0, hz1, hz2⟩ := info_parts funInfoT
  obtain ⟨pb, hpb⟩ : ∃ pb, w.heap.size = pb := ⟨_, rfl⟩
  obtain ⟨wS, hwS⟩ : ∃ wS, w.alloc (.cells #[.slice A l.length c, .int .i64 0, .int .i64 0, .nilIface] 54) = wS := ⟨_, rfl⟩
  have hmS : wS.heap[pb]? = some (.cells #[.slice A l.length c, .int .i64 0, .int .i64 0, .nilIface] 54 (0, 0)) := by rw [← hwS, ← hpb]; exact heap_alloc_new w _
  have hbS : Below w.heap.size w wS := by rw [← hwS]; exact grow_alloc (grow_refl _) _
  have hS : PaAt E l pb A c w s0P wS := ⟨hbS, by omega, _, hmS, rfl⟩
  have HWS := Lib.hid (And.intro hS (And.intro hbS (Array.getElem?_eq_some_iff.1 hmS).1))
  have HWB := Lib.hid (And.intro hwS hpb)
  have HI := Lib.hid (And.intro I hN)
  obtain ⟨es, s1, hps⟩ : ∃ es s1, parseP l = (es, s1) := ⟨_, _, rfl⟩
  have hru0 := parseP_eq l
  rw [hps] at hru0
  have h0 : PStOk l s0P := ⟨Nat.zero_le _, Int.le_refl _, by decide, fun _ => by decide⟩
  have HRUN := Lib.hid (And.intro hru0 h0)
  obtain ⟨Q, hQ⟩ : ∃ Q, ParsePost E l w = Q := ⟨_, rfl⟩
  have HQ := Lib.hid (And.intro hQ hps)
  rw [hQ]
  clear I hN hwS hmS hbS hS hru0 h0 hps hQ
  go_enter Tryd.func7, Tryd.ntmps7
  go_upto_region 3 with fail
  rw [HWB.out.1]
  try rw [HWB.out.2]
  clear hpb
  go_loopw [5] (fun v wr => ∃ k ks st, PrAt E l pb A c w wS es s1 k ks st v wr) (fun _ wr => (l.length - posOf pb wr) + errOf pb wr)
  case atStart => exact ⟨_, [], _, HRUN.out.1, HRUN.out.2, HWS.out.1, But.refl _ _, ⟨[], World.ownsRow_nil _ _ _ _, rfl, fun t ht => absurd ht List.not_mem_nil⟩, by simp, fun _ => by simp⟩
  case round =>
    clear HRUN
    obtain ⟨k, ks, st, hK⟩ := hrel
    have HK := Lib.hid hK
    have HPOS := Lib.hid hK.pa.pos
    obtain ⟨v3, c0, c1, -, c3, hv⟩ := hK.pa.cells
    have hru := hK.run
    cases k with
    | zero => rw [parseF] at hru; cases hru
    | succ k =>
      rw [parseF] at hru
      by_cases hg : (st.err.isNone && decide (st.pos < l.length)) = true
      · rw [if_pos hg] at hru
        simp only [Bool.and_eq_true, Option.isNone_iff_eq_none, decide_eq_true_eq] at hg
        obtain ⟨hse, hni⟩ := hg
        rw [hse] at hv
        have hv' : v3 = .nilIface := hv
        subst hv'
        cases hx : funF l k st with
        | none => rw [hx] at hru; cases hru
        | some p =>
          obtain ⟨x, s3⟩ := p
          rw [hx] at hru
          have hav := fun_adv hK.ok.hi hx
          have hs3 := hK.ok.went hav.w
          have HST : Hid (∀ w', PaAt E l pb A c w st w' → Calls Tryd.prog 13 #[.pointer (some ⟨pb, 0, none⟩)] w' (FnPost E l pb A c w x s3 w')) := fun w' hw => fun_any HI.out.1 HI.out.2 hK.ok hx hw
          obtain ⟨ts, hown, hmap, hets⟩ := hK.row
          have hkl : ks.length ≤ 100000 := by have := hK.cnt0 hse; have := hK.ok.hi; omega
          have HRW := Lib.hid (And.intro hown (And.intro hmap hets))
          have HNX := Lib.hid (And.intro hru (And.intro hav hs3))
          have HER := Lib.hid (hK.pa.errN hse)
          have HSE := Lib.hid hse
          obtain ⟨AK, cK, hvK⟩ := owns_slice hown
          subst hvK
          clear hru hx hav hs3 hown hmap hets hK hv hse
          have q1 : (st.pos : Int) < (l.length : Int) := by omega
          have HQ2 : Hid (PaAt E l pb A c w st wr ∧ But pb wr wr) := ⟨HK.out.pa, But.refl _ _⟩
          go_wp2_with (first
            | (go_at_call 13; (with_reducible refine (HST.out _ HQ2.out.1).mono ?_); rintro y w4 ⟨P, cp, B, d, rfl, hok, h4, hb4⟩; rw [show fnV x P cp B d = .agg #[.string (mkB x.name), .slice P x.params.length cp, .slice B x.body.length d] from rfl]; have hO4 := (HQ2.out.2.trans hb4).owns HRW.out.1 HWS.out.2.2; have H4 := Lib.hid (And.intro hok (And.intro h4 (HQ2.out.2.trans hb4))); have HO4 := Lib.hid hO4; clear hok h4 hb4 hO4)
            | (at_builtin; refine wpList_append_own_at _ rfl _ _ 28 rfl wS.heap.size 39 ti _ 3 64 Tryd.underlying28 hi hz0 hz1 hz2 rfl (by decide) _ _ _ rfl (HO4.out.alloc _) ⟨w4.heap.size, 0, none⟩ 1 1 (funL x P cp B d) rfl rfl ?c1 ?c2 ?c3 ?c4 ?c5 ?_))
          case c1 =>
            intro i u hu
            match i, hu with
            | 0, hu => simp [funL] at hu; subst hu; simp [Addr.add]
            | 1, hu => simp [funL] at hu; subst hu; simp [Addr.add]
            | 2, hu => simp [funL] at hu; subst hu; simp [Addr.add]
          case c2 => intro u hu; simp [funL] at hu; rcases hu with rfl | rfl | rfl <;> rfl
          case c3 => unfold maxLen; omega
          case c4 => omega
          case c5 => have := HK.out.but.size; have := H4.out.2.2.size; simp; omega
          · intro v' w5 hown' hgrow _ hat
            have HNW := Lib.hid (PrAt.next HK.out HRW.out.1 HRW.out.2.1 HRW.out.2.2 HSE.out HNX.out.1 HNX.out.2.1 HNX.out.2.2 H4.out.1 H4.out.2.1 H4.out.2.2 HQ2.out.2 HWS.out.2.2 hown' hgrow hat)
            clear hown' hgrow hat
            go_wp2_with fail
            go_roundw
            case rel => exact ⟨k, _, _, HNW.out⟩
            case measure =>
              have h1 := HNW.out.pa.pos
              have h2 := HNX.out.2.1
              have h3 := h2.w.hi
              rw [h1, HPOS.out, HER.out]
              cases he : s3.err with
              | none =>
                have h4 := h2.adv he
                rw [HNW.out.pa.errN he]
                omega
              | some z =>
                have h4 := h2.w.lo
                rw [HNW.out.pa.errS (by rw [he]; simp)]
                omega
      · rw [if_neg hg] at hru
        have hxs : es = ks ∧ s1 = st := by cases hru; exact ⟨rfl, rfl⟩
        obtain ⟨rfl, rfl⟩ := hxs
        obtain ⟨ts, hown, hmap, hets⟩ := hK.row
        subst hmap
        rw [List.length_map] at hown
        obtain ⟨B, d, hvv, hrd⟩ := FC.row hown hets
        subst hvv
        have HRD := Lib.hid hrd
        have HPA := Lib.hid hK.pa
        have HBT := Lib.hid hK.but
        have hwS := HWS.out.2.1.size
        cases he : s1.err with
        | some p =>
          rw [he] at hv
          obtain ⟨hz1', hz2', fb, rfl, hfb⟩ := hv
          unfold ftV at c3
          have HFB := Lib.hid (And.intro hz1' (And.intro hz2' (And.intro hfb he)))
          clear hru hg hown hets hrd hK he hz1' hz2' hfb
          go_upto_region 6 with fail
          go_quiet (fail)
          go_wp2_with fail
          rw [← HQ.out.1]
          refine ⟨below_drewN HPA.out.bel _, .inr ⟨p.1, p.2, fb, ?_, HFB.out.1, HFB.out.2.1, rfl, HFB.out.2.2.1⟩⟩
          rw [HQ.out.2]
          exact HFB.out.2.2.2
        | none =>
          rw [he] at hv
          have hv' : v3 = .nilIface := hv
          subst hv'
          have q1 : ¬ (s1.pos : Int) < (l.length : Int) := by
            rw [he] at hg
            simp at hg
            omega
          have HE := Lib.hid he
          clear hru hg hown hets hrd hK he hv
          go_wp2_with fail
          rw [← HQ.out.1]
          refine ⟨HPA.out.bel, .inl ⟨B, d, ?_, ?_, ?_⟩⟩
          · rw [HQ.out.2]; exact HE.out
          · rw [HQ.out.2, List.length_map]
          · rw [HQ.out.2]
            have h0 : RdF wr (fun n => wS.heap.size ≤ n) (ts.map (·.f)) B := HRD.out
            exact h0.keep (Keeps.in (Keeps.refl _) _) fun k hk => by have hk' : wS.heap.size ≤ k := hk; show w.heap.size ≤ k; omega
end
end Go.Proofs.YtpfgimohginbdaaDoor
