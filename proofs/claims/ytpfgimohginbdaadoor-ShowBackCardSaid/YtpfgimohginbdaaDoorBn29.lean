import Derived.Test.YtpfgimohginbdaaDoorShelf
import Derived.Lib.SmallJoins
import Derived.BigQuiet
import Derived.Lib.AtoiBound
import Derived.Test.YtpfgimohginbdaaDoorBn28
set_option linter.unusedVariables false
set_option linter.unusedSimpArgs false
namespace Go.Proofs.YtpfgimohginbdaaDoor
open Go.RowKit

/-! the parser: atom -/
theorem digits_dec : ∀ (d : List UInt8) (a : Nat), (∀ x ∈ d, 48 ≤ x.toNat ∧ x.toNat ≤ 57) → ∃ n : Nat, Lib.decFrom a d = some n ∧ d.foldl (fun (n : Int) (c : UInt8) => 10 * n + ((c.toNat : Int) - 48)) (a : Int) = (n : Int)
  | [], a, _ => ⟨a, rfl, rfl⟩
  | x :: d, a, h => by
    have hx := h x (List.mem_cons_self ..)
    obtain ⟨n, h1, h2⟩ := digits_dec d (a * 10 + (x.toNat - 48)) (fun y hy => h y (List.mem_cons_of_mem _ hy))
    refine ⟨n, ?_, ?_⟩
    · simp only [Lib.decFrom, Lib.digitVal]
      rw [if_pos hx]
      exact h1
    · rw [List.foldl_cons, ← h2]
      congr 1
      omega
theorem digits_atoi {d : List UInt8} (h0 : 0 < d.length) (h : ∀ x ∈ d, 48 ≤ x.toNat ∧ x.toNat ≤ 57) : Lib.atoi d = some (digV d) := by
  obtain ⟨n, h1, h2⟩ := digits_dec d 0 h
  cases d with
  | nil => simp at h0
  | cons x d =>
    have hx := h x (List.mem_cons_self ..)
    have a1 : (x == 45) = false := by
      rw [beq_eq_false_iff_ne]
      rintro rfl
      exact absurd hx.1 (by decide)
    have a2 : (x == 43) = false := by
      rw [beq_eq_false_iff_ne]
      rintro rfl
      exact absurd hx.1 (by decide)
    simp only [Lib.atoi, a1, a2, Lib.decNat]
    rw [if_neg (by decide), if_neg (by decide), if_neg (by simp), h1]
    unfold digV
    exact congrArg some h2.symm
theorem digits_ok {d : List UInt8} (h0 : 0 < d.length) (h18 : d.length ≤ 18) (h : ∀ x ∈ d, 48 ≤ x.toNat ∧ x.toNat ≤ 57) : okN (digV d) := by
  have := Lib.atoi_bound (digits_atoi h0 h) h18
  constructor <;> omega
theorem atoi_any {d : List UInt8} (h0 : 0 < d.length) (h18 : d.length ≤ 18) (h : ∀ x ∈ d, 48 ≤ x.toNat ∧ x.toNat ≤ 57) (w : World) : Calls Tryd.prog 74 #[.string (mkB d)] w (fun e w' => e = .returned (.tuple #[.int .i64 (digV d), .nilIface]) ∧ Below w.heap.size w w') := by
  refine (Tryd.strconv_Atoi (mkB d) (digV d) (by rw [mkB_size]; exact h18) (by rw [show (mkB d).data.toList = d from rfl]; exact digits_atoi h0 h) w).mono ?_
  rintro e w' ⟨rfl, t, rfl⟩
  exact ⟨rfl, Joins.below_bytesWorld _ _ _ _ (Nat.le_refl _)⟩
section
variable {E : Nat → Addr} {l : List Tok} {pb : Nat} {A : Option Addr} {c : Nat} {w0 : World} {s s' : PSt} {w w' w1 : World} {e : PExpr}
/-- A result in the block of the result. -/
theorem atom_end {rb : Nat} {wA w9 wI : World} {e : PExpr} {B : Option Addr} {d : Nat} (hBA : But pb w wA) (hrb : w.heap.size = rb) (h9 : But pb wA w9) (hr9 : w9.heap[rb + 1]? = some (.cells #[.string ⟨#[]⟩, .int .i64 0, .string ⟨#[]⟩, .slice none 0 0] 42 (0, 0))) (hlo : w0.heap.size ≤ rb) (hra : rb + 1 < wI.heap.size) (hB : RdE w9 (newA wI) e.kids B) (hN : okN e.num) (hpa : PaAt E l pb A c w0 s' w9) :
    ExPost E l pb A c w0 e s' w (.returned (exV e B d)) ((((w9.setCell ⟨rb + 1, 0, none⟩ (.string (mkB e.kind))).setCell ⟨rb + 1, 1, none⟩ (.int .i64 e.num)).setCell ⟨rb + 1, 2, none⟩ (.string (mkB e.name))).setCell ⟨rb + 1, 3, none⟩ (.slice B e.kids.length d)) :=
  ⟨B, d, rfl, hB.set4 fun k hk => by
    have h1 : wI.heap.size ≤ k := hk
    refine ⟨by omega, ?_⟩
    show w.heap.size ≤ k
    omega, hN, hpa.set4 hr9 (by omega), (hBA.trans h9).set4 (by omega)⟩
/-- The same, with a block of the call's own that was stored into. -/
theorem But2.but {p q : Nat} {w w2 w' : World} (h : But2 p q w2 w') (h2 : But p w w2) (hq : w.heap.size ≤ q) : But p w w' :=
  ⟨h.os.trans h2.os, h.tape.trans h2.tape, h.output.trans h2.output, Nat.le_trans h2.size h.size, fun k hk h1 => (h.block k (Nat.lt_of_lt_of_le hk h2.size) h1 (by omega)).trans (h2.block k hk h1)⟩
theorem atom_fin {rb eb : Nat} {wA wE w9 : World} {e : PExpr} {B : Option Addr} {d : Nat} (hBA : But pb w wA) (hrb : w.heap.size = rb) (hE : But pb wA wE) (h9 : But2 pb eb wE w9) (heb : rb + 1 < eb) (hr9 : w9.heap[rb + 1]? = some (.cells #[.string ⟨#[]⟩, .int .i64 0, .string ⟨#[]⟩, .slice none 0 0] 42 (0, 0))) (hlo : w0.heap.size ≤ rb) (hra : rb + 1 < wA.heap.size) (hB : RdE w9 (newA wE) e.kids B) (hN : okN e.num) (hpa : PaAt E l pb A c w0 s' w9) :
    ExPost E l pb A c w0 e s' w (.returned (exV e B d)) ((((w9.setCell ⟨rb + 1, 0, none⟩ (.string (mkB e.kind))).setCell ⟨rb + 1, 1, none⟩ (.int .i64 e.num)).setCell ⟨rb + 1, 2, none⟩ (.string (mkB e.name))).setCell ⟨rb + 1, 3, none⟩ (.slice B e.kids.length d)) :=
  ⟨B, d, rfl, hB.set4 fun k hk => by
    have h1 : wE.heap.size ≤ k := hk
    have := hE.size
    refine ⟨by omega, ?_⟩
    show w.heap.size ≤ k
    omega, hN, hpa.set4 hr9 (by omega), (h9.but (hBA.trans hE) (by omega)).set4 (by omega)⟩
set_option maxHeartbeats 8000000 in
set_option maxRecDepth 100000 in
theorem atom_in (I : PaIn E l A w0) {n : Nat} (IH : ExI E l pb A c w0 n) (hb : isP l s [40] = true) (hf : innerF l n s = some (e, s')) (hs : PStOk l s) (hlt : s.pos < l.length) (he : s.err = none) (h : PaAt E l pb A c w0 s w) :
    Calls Tryd.prog 68 #[.pointer (some ⟨pb, 0, none⟩)] w (ExPost E l pb A c w0 e s' w) := by
  obtain ⟨rb, hrb⟩ : ∃ rb, w.heap.size = rb := ⟨_, rfl⟩
  obtain ⟨wP, hwP⟩ : ∃ wP, w.alloc (.cells #[.pointer (some ⟨pb, 0, none⟩)] 52) = wP := ⟨_, rfl⟩
  obtain ⟨wA, hwA⟩ : ∃ wA, wP.alloc (.cells #[.string ⟨#[]⟩, .int .i64 0, .string ⟨#[]⟩, .slice none 0 0] 42) = wA := ⟨_, rfl⟩
  have hzP : wP.heap.size = rb + 1 := by rw [← hwP, ← hrb]; simp
  have hbP : Below w.heap.size w wP := by rw [← hwP]; exact grow_alloc (grow_refl _) _
  have hbA1 : Below wP.heap.size wP wA := by rw [← hwA]; exact grow_alloc (grow_refl _) _
  have hbA : Below w.heap.size w wA := grow_trans hbP hbA1
  have hmP : wA.heap[rb]? = some (.cells #[.pointer (some ⟨pb, 0, none⟩)] 52 (0, 0)) := (hbA1.block _ (by omega)).trans (by rw [← hwP, ← hrb]; exact heap_alloc_new w _)
  have hmA : wA.heap[rb + 1]? = some (.cells #[.string ⟨#[]⟩, .int .i64 0, .string ⟨#[]⟩, .slice none 0 0] 42 (0, 0)) := by rw [← hwA, ← hzP]; exact heap_alloc_new wP _
  have hA := h.keep hbA
  have hpr : pb < rb := by have := h.lt; omega
  have hlo : w0.heap.size ≤ rb := by have := h.under; omega
  have hra : rb + 1 < wA.heap.size := (Array.getElem?_eq_some_iff.1 hmA).1
  have HBA : Hid (But pb w wA) := But.of_below hbA
  have HR : Hid (∀ w', But pb wA w' → w'.heap[rb]? = some (.cells #[.pointer (some ⟨pb, 0, none⟩)] 52 (0, 0)) ∧ w'.heap[rb + 1]? = some (.cells #[.string ⟨#[]⟩, .int .i64 0, .string ⟨#[]⟩, .slice none 0 0] 42 (0, 0))) := fun w' hb => ⟨hb.row hmP (by omega), hb.row hmA (by omega)⟩
  obtain ⟨v, c0, c1, c2, c3, hv⟩ := hA.cells
  rw [he] at hv
  have hv' : v = .nilIface := hv
  subst hv'
  have p0 := cell_of_row _ _ 0 _ _ _ hmP
  have q1 : (s.pos : Int) < (l.length : Int) := by omega
  have q3 : decide (l.length ≤ s.pos) = false := by simpa using hlt
  have q0 : (0 : Int) ≤ (s.pos : Int) := by omega
  have HWA := Lib.hid (And.intro hwP (And.intro hwA hrb))
  have HPL := Lib.hid (And.intro hpr (And.intro hlo hra))
  have HIS : Hid (∀ n, Calls Tryd.prog 42 #[.pointer (some ⟨pb, 0, none⟩), .string ⟨#[40]⟩] (wA.drewN n) (fun e w2 => e = .returned (.bool (isP l s [40])) ∧ ∃ m, w2 = (wA.drewN n).drewN m)) := fun n => is_lit I (hA.drewN n) [40]
  rw [hb] at HIS
  have HIN : Hid (∀ n, Calls Tryd.prog 73 #[.pointer (some ⟨pb, 0, none⟩)] (wA.drewN n) (ExPost E l pb A c w0 e s' (wA.drewN n))) := fun n => IH.inner s e s' _ hs hlt he hf (hA.drewN n)
  obtain ⟨Q, hQ⟩ : ∃ Q, ExPost E l pb A c w0 e s' w = Q := ⟨_, rfl⟩
  have HQ := Lib.hid hQ
  rw [hQ]
  clear hf IH hb hs he
  clear h hA hbA hbA1 hbP hmA hmP hwA hwP hrb hzP hv hQ hpr hlo hra
  clear I
  go_enter Tryd.func68, Tryd.ntmps68
  go_upto_region 1 with fail
  rw [HWA.out.1, HWA.out.2.1]
  try rw [HWA.out.2.2]
  go_quiet (fail)
  go_wp2_with (first
    | (go_at_call 42; (with_reducible refine (HIS.out _).mono ?_); rintro y w2 ⟨rfl, n2, rfl⟩)
    | (go_at_call 73; (with_reducible refine (HIN.out _).mono ?_); rintro y w4 ⟨B, d, rfl, hB, hN, h4, hb4⟩; rw [show exV e B d = .agg #[.string (mkB e.kind), .int .i64 e.num, .string (mkB e.name), .slice B e.kids.length d] from rfl]; have hb9 := ((But.refl pb wA).drewN _).trans hb4; have hr9 := (HR.out w4 hb9).2; obtain ⟨r0, r1, r2, r3⟩ := row4T hr9; have y0 := row_frozen hr9 0; have y1 := row_frozen hr9 1; have y2 := row_frozen hr9 2; have y3 := row_frozen hr9 3; have HR9 := Lib.hid hr9; have H4 := Lib.hid (And.intro hB (And.intro hN (And.intro h4 hb9))); clear hB hN h4 hb4 hb9 hr9))
  obtain ⟨u0, u1, u2, u3⟩ := row4T (set4T (v0 := .string (mkB e.kind)) (v1 := .int .i64 e.num) (v2 := .string (mkB e.name)) (v3 := .slice B e.kids.length d) HR9.out)
  refine bodyPost_ret (v := exV e B d) (by simp [results, Tryd.results68, go_sem, u0, u1, u2, u3]; try rfl) rfl ?_
  rw [← HQ.out]
  exact atom_end (wI := wA.drewN _) HBA.out HWA.out.2.2 H4.out.2.2.2 HR9.out HPL.out.2.1 HPL.out.2.2 H4.out.1 H4.out.2.1 H4.out.2.2.1
set_option maxHeartbeats 8000000 in
set_option maxRecDepth 100000 in
theorem atom_num (I : PaIn E l A w0) (hN : NumOk l) (hb : isP l s [40] = false) (hn : ofB l kNumber s = true) (hf : (⟨yNum, digV (txtP l s), [], []⟩, s.step) = (e, s')) (hs : PStOk l s) (hlt : s.pos < l.length) (he : s.err = none) (h : PaAt E l pb A c w0 s w) :
    Calls Tryd.prog 68 #[.pointer (some ⟨pb, 0, none⟩)] w (ExPost E l pb A c w0 e s' w) := by
  obtain ⟨rb, hrb⟩ : ∃ rb, w.heap.size = rb := ⟨_, rfl⟩
  obtain ⟨wP, hwP⟩ : ∃ wP, w.alloc (.cells #[.pointer (some ⟨pb, 0, none⟩)] 52) = wP := ⟨_, rfl⟩
  obtain ⟨wA, hwA⟩ : ∃ wA, wP.alloc (.cells #[.string ⟨#[]⟩, .int .i64 0, .string ⟨#[]⟩, .slice none 0 0] 42) = wA := ⟨_, rfl⟩
  have hzP : wP.heap.size = rb + 1 := by rw [← hwP, ← hrb]; simp
  have hbP : Below w.heap.size w wP := by rw [← hwP]; exact grow_alloc (grow_refl _) _
  have hbA1 : Below wP.heap.size wP wA := by rw [← hwA]; exact grow_alloc (grow_refl _) _
  have hbA : Below w.heap.size w wA := grow_trans hbP hbA1
  have hmP : wA.heap[rb]? = some (.cells #[.pointer (some ⟨pb, 0, none⟩)] 52 (0, 0)) := (hbA1.block _ (by omega)).trans (by rw [← hwP, ← hrb]; exact heap_alloc_new w _)
  have hmA : wA.heap[rb + 1]? = some (.cells #[.string ⟨#[]⟩, .int .i64 0, .string ⟨#[]⟩, .slice none 0 0] 42 (0, 0)) := by rw [← hwA, ← hzP]; exact heap_alloc_new wP _
  have hA := h.keep hbA
  have hpr : pb < rb := by have := h.lt; omega
  have hlo : w0.heap.size ≤ rb := by have := h.under; omega
  have hra : rb + 1 < wA.heap.size := (Array.getElem?_eq_some_iff.1 hmA).1
  have HBA : Hid (But pb w wA) := But.of_below hbA
  have HR : Hid (∀ w', But pb wA w' → w'.heap[rb]? = some (.cells #[.pointer (some ⟨pb, 0, none⟩)] 52 (0, 0)) ∧ w'.heap[rb + 1]? = some (.cells #[.string ⟨#[]⟩, .int .i64 0, .string ⟨#[]⟩, .slice none 0 0] 42 (0, 0))) := fun w' hb => ⟨hb.row hmP (by omega), hb.row hmA (by omega)⟩
  obtain ⟨v, c0, c1, c2, c3, hv⟩ := hA.cells
  rw [he] at hv
  have hv' : v = .nilIface := hv
  subst hv'
  have p0 := cell_of_row _ _ 0 _ _ _ hmP
  have q1 : (s.pos : Int) < (l.length : Int) := by omega
  have q3 : decide (l.length ≤ s.pos) = false := by simpa using hlt
  have q0 : (0 : Int) ≤ (s.pos : Int) := by omega
  have HWA := Lib.hid (And.intro hwP (And.intro hwA hrb))
  have HPL := Lib.hid (And.intro hpr (And.intro hlo hra))
  have HIS : Hid (∀ n, Calls Tryd.prog 42 #[.pointer (some ⟨pb, 0, none⟩), .string ⟨#[40]⟩] (wA.drewN n) (fun e w2 => e = .returned (.bool (isP l s [40])) ∧ ∃ m, w2 = (wA.drewN n).drewN m)) := fun n => is_lit I (hA.drewN n) [40]
  obtain ⟨b, off, hAe, j0, j1⟩ := I.tok hA.bel hlt
  rw [hAe] at c0
  have HT : Hid (txtP l s = l[s.pos].text) := show _ = _ by unfold txtP; rw [List.getElem?_eq_getElem hlt]; rfl
  have HO : Hid (ofB l kNumber s = (l[s.pos].kind == kNumber)) := ofB_at he (List.getElem?_eq_getElem hlt)
  have hmem : l[s.pos] ∈ l := List.getElem_mem hlt
  have hlen := I.len
  obtain ⟨tk, ht⟩ : ∃ t, l[s.pos] = t := ⟨_, rfl⟩
  rw [ht] at j0 j1 HO HT hmem
  have hx : ((mkB tk.kind).toList == [110, 117, 109, 98, 101, 114]) = (tk.kind == kNumber) := by rw [mkB_toList]; rfl
  rw [hb] at HIS
  have hk : (tk.kind == kNumber) = true := HO.out.symm.trans hn
  rw [hk] at hx
  obtain ⟨hd0, hd1, hd2⟩ := hN tk hmem (eq_of_beq hk)
  have HAT := Lib.hid (fun w => atoi_any hd0 hd1 hd2 w)
  have HND : Hid (okN (digV tk.text)) := digits_ok hd0 hd1 hd2
  have HES : Hid (e = ⟨yNum, digV tk.text, [], []⟩ ∧ s' = s.step) := show _ ∧ _ by rw [← HT.out]; cases hf; exact ⟨rfl, rfl⟩
  have hwp : IntKind.i64.wrap ((s.pos : Int) + 1) = (s.pos : Int) + 1 := IntWalk.i64_in _ (by omega)
  have hpi : (s.pos : Int) ≤ 100000 := by omega
  have HK := Lib.hid hA
  obtain ⟨Q, hQ⟩ : ∃ Q, ExPost E l pb A c w0 e s' w = Q := ⟨_, rfl⟩
  have HQ := Lib.hid hQ
  rw [hQ]
  clear hf hb hn hd0 hd1 hd2 hk hmem ht hs he hN HO HT
  clear h hA hbA hbA1 hbP hmA hmP hwA hwP hrb hzP hv hQ hpr hlo hra
  clear I
  go_enter Tryd.func68, Tryd.ntmps68
  go_upto_region 1 with fail
  rw [HWA.out.1, HWA.out.2.1]
  try rw [HWA.out.2.2]
  go_quiet (fail)
  go_upto_region 6 with (go_at_call 42; (with_reducible refine (HIS.out _).mono ?_); rintro y w2 ⟨rfl, n2, rfl⟩)
  go_quiet (fail)
  go_upto_region 7 with fail
  go_cut [3, 4] from 47 to 61 (fun v3 v4 wx => v3 = .int .i64 (digV tk.text) ∧ v4 = .nilIface ∧ Below wA.heap.size wA wx)
  case first =>
    go_region_law (go_simp; go_at_call 74; (with_reducible refine (HAT.out _).mono ?_); rintro y w5 ⟨rfl, hb5⟩; have H5 := Lib.hid hb5; clear hb5)
    all_goals go_wp2_with fail
    all_goals go_meet
    all_goals exact ⟨rfl, rfl, (below_drewN (Below.refl _ _) _).trans H5.out⟩
  case rest =>
    obtain ⟨rfl, rfl, hb5⟩ := hcut
    rename_i wc
    have hpa := HK.out.keep (w' := wc) hb5
    have hbt : But pb wA wc := But.of_below hb5
    obtain ⟨v5, -, k1, -, -, -⟩ := hpa.cells
    have z1 := hpa.frozen 1
    have g6 := (HR.out _ hbt).1
    have t0 := cell_of_row _ _ 0 _ _ _ g6
    have HC := Lib.hid (And.intro hpa hbt)
    clear hpa hbt g6 hb5
    go_upto_region 11 with fail
    obtain ⟨w7, hw7⟩ : ∃ w7, wc.setCell ⟨pb, 1, none⟩ (.int .i64 ((s.pos : Int) + 1)) = w7 := ⟨_, rfl⟩
    have h7 : PaAt E l pb A c w0 s.step w7 := by rw [← hw7]; exact HC.out.1.setPos (s.pos + 1)
    have hb7 : But pb wA w7 := by rw [← hw7]; exact HC.out.2.set 1 _
    rw [hw7]
    have hr9 := (HR.out w7 hb7).2
    obtain ⟨r0, r1, r2, r3⟩ := row4T hr9
    have y0 := row_frozen hr9 0
    have y1 := row_frozen hr9 1
    have y2 := row_frozen hr9 2
    have y3 := row_frozen hr9 3
    have HR9 := Lib.hid hr9
    have H7 := Lib.hid (And.intro h7 hb7)
    clear hw7 h7 hb7 hr9 k1 z1
    go_wp2_with fail
    obtain ⟨u0, u1, u2, u3⟩ := row4T (set4T (v0 := .string ⟨#[110, 117, 109]⟩) (v1 := .int .i64 (digV tk.text)) (v2 := .string ⟨#[]⟩) (v3 := .slice none 0 0) HR9.out)
    refine bodyPost_ret (v := exV ⟨yNum, digV tk.text, [], []⟩ none 0) (by simp [results, Tryd.results68, go_sem, u0, u1, u2, u3]; try rfl) rfl ?_
    rw [← HQ.out]
    rw [HES.out.1, HES.out.2]
    exact atom_end (e := ⟨yNum, digV tk.text, [], []⟩) (B := none) (d := 0) (wI := w7) HBA.out HWA.out.2.2 H7.out.2 HR9.out HPL.out.2.1 (by have := H7.out.2.size; have := HPL.out.2.2; omega) (RdE.nil _ _ _) HND.out H7.out.1
set_option maxHeartbeats 8000000 in
set_option maxRecDepth 100000 in
theorem atom_name (I : PaIn E l A w0) {nm : List UInt8} {s2 : PSt} (hb : isP l s [40] = false) (hn : ofB l kNumber s = false) (hof : ofP l kName s = (nm, s2)) (hp : isP l s2 [40] = false) (hf : (⟨yName, 0, nm, []⟩, s2) = (e, s')) (hs : PStOk l s) (hlt : s.pos < l.length) (he : s.err = none) (h : PaAt E l pb A c w0 s w) :
    Calls Tryd.prog 68 #[.pointer (some ⟨pb, 0, none⟩)] w (ExPost E l pb A c w0 e s' w) := by
  obtain ⟨rb, hrb⟩ : ∃ rb, w.heap.size = rb := ⟨_, rfl⟩
  obtain ⟨wP, hwP⟩ : ∃ wP, w.alloc (.cells #[.pointer (some ⟨pb, 0, none⟩)] 52) = wP := ⟨_, rfl⟩
  obtain ⟨wA, hwA⟩ : ∃ wA, wP.alloc (.cells #[.string ⟨#[]⟩, .int .i64 0, .string ⟨#[]⟩, .slice none 0 0] 42) = wA := ⟨_, rfl⟩
  have hzP : wP.heap.size = rb + 1 := by rw [← hwP, ← hrb]; simp
  have hbP : Below w.heap.size w wP := by rw [← hwP]; exact grow_alloc (grow_refl _) _
  have hbA1 : Below wP.heap.size wP wA := by rw [← hwA]; exact grow_alloc (grow_refl _) _
  have hbA : Below w.heap.size w wA := grow_trans hbP hbA1
  have hmP : wA.heap[rb]? = some (.cells #[.pointer (some ⟨pb, 0, none⟩)] 52 (0, 0)) := (hbA1.block _ (by omega)).trans (by rw [← hwP, ← hrb]; exact heap_alloc_new w _)
  have hmA : wA.heap[rb + 1]? = some (.cells #[.string ⟨#[]⟩, .int .i64 0, .string ⟨#[]⟩, .slice none 0 0] 42 (0, 0)) := by rw [← hwA, ← hzP]; exact heap_alloc_new wP _
  have hA := h.keep hbA
  have hpr : pb < rb := by have := h.lt; omega
  have hlo : w0.heap.size ≤ rb := by have := h.under; omega
  have hra : rb + 1 < wA.heap.size := (Array.getElem?_eq_some_iff.1 hmA).1
  have HBA : Hid (But pb w wA) := But.of_below hbA
  have HR : Hid (∀ w', But pb wA w' → w'.heap[rb]? = some (.cells #[.pointer (some ⟨pb, 0, none⟩)] 52 (0, 0)) ∧ w'.heap[rb + 1]? = some (.cells #[.string ⟨#[]⟩, .int .i64 0, .string ⟨#[]⟩, .slice none 0 0] 42 (0, 0))) := fun w' hb => ⟨hb.row hmP (by omega), hb.row hmA (by omega)⟩
  obtain ⟨v, c0, c1, c2, c3, hv⟩ := hA.cells
  rw [he] at hv
  have hv' : v = .nilIface := hv
  subst hv'
  have p0 := cell_of_row _ _ 0 _ _ _ hmP
  have q1 : (s.pos : Int) < (l.length : Int) := by omega
  have q3 : decide (l.length ≤ s.pos) = false := by simpa using hlt
  have q0 : (0 : Int) ≤ (s.pos : Int) := by omega
  have HWA := Lib.hid (And.intro hwP (And.intro hwA hrb))
  have HPL := Lib.hid (And.intro hpr (And.intro hlo hra))
  have HIS : Hid (∀ n, Calls Tryd.prog 42 #[.pointer (some ⟨pb, 0, none⟩), .string ⟨#[40]⟩] (wA.drewN n) (fun e w2 => e = .returned (.bool (isP l s [40])) ∧ ∃ m, w2 = (wA.drewN n).drewN m)) := fun n => is_lit I (hA.drewN n) [40]
  obtain ⟨b, off, hAe, j0, j1⟩ := I.tok hA.bel hlt
  rw [hAe] at c0
  have HT : Hid (txtP l s = l[s.pos].text) := show _ = _ by unfold txtP; rw [List.getElem?_eq_getElem hlt]; rfl
  have HO : Hid (ofB l kNumber s = (l[s.pos].kind == kNumber)) := ofB_at he (List.getElem?_eq_getElem hlt)
  have hmem : l[s.pos] ∈ l := List.getElem_mem hlt
  have hlen := I.len
  obtain ⟨tk, ht⟩ : ∃ t, l[s.pos] = t := ⟨_, rfl⟩
  rw [ht] at j0 j1 HO HT hmem
  have hx : ((mkB tk.kind).toList == [110, 117, 109, 98, 101, 114]) = (tk.kind == kNumber) := by rw [mkB_toList]; rfl
  rw [hb] at HIS
  have hk : (tk.kind == kNumber) = false := HO.out.symm.trans hn
  rw [hk] at hx
  have HOF : Hid (∀ n, Calls Tryd.prog 25 #[.pointer (some ⟨pb, 0, none⟩), .string ⟨#[110, 97, 109, 101]⟩] (wA.drewN n) (PaRet E l pb A c w0 (.string (mkB nm)) s2 (wA.drewN n))) := fun n => by
    have := of_lit I (hA.drewN n) hs.hi kName
    rw [hof] at this
    exact this
  have hs2 : PStOk l s2 := hs.went (by have := ofP_went (x := kName) hs.hi; rw [hof] at this; exact this)
  have HI2 : Hid (∀ w', PaAt E l pb A c w0 s2 w' → Calls Tryd.prog 42 #[.pointer (some ⟨pb, 0, none⟩), .string ⟨#[40]⟩] w' (fun e w2 => e = .returned (.bool false) ∧ ∃ m, w2 = w'.drewN m)) := fun w' hw => by
    have := is_lit I hw [40]
    rw [hp] at this
    exact this
  have HES : Hid (e = ⟨yName, 0, nm, []⟩ ∧ s' = s2) := show _ ∧ _ by cases hf; exact ⟨rfl, rfl⟩
  obtain ⟨Q, hQ⟩ : ∃ Q, ExPost E l pb A c w0 e s' w = Q := ⟨_, rfl⟩
  have HQ := Lib.hid hQ
  rw [hQ]
  clear hf hb hn hk hmem ht hs he HO HT hof hs2 hp hAe
  clear h hA hbA hbA1 hbP hmA hmP hwA hwP hrb hzP hv hQ hpr hlo hra
  clear I
  go_enter Tryd.func68, Tryd.ntmps68
  go_upto_region 1 with fail
  rw [HWA.out.1, HWA.out.2.1]
  try rw [HWA.out.2.2]
  go_quiet (fail)
  go_upto_region 6 with (go_at_call 42; (with_reducible refine (HIS.out _).mono ?_); rintro y w2 ⟨rfl, n2, rfl⟩)
  go_quiet (fail)
  go_upto_region 13 with (go_at_call 25; (with_reducible refine (HOF.out _).mono ?_); rintro y w4 ⟨rfl, h4, hb4⟩; have hb9 := ((But.refl pb wA).drewN _).trans hb4; have g6 := (HR.out w4 hb9).1; have t0 := cell_of_row _ _ 0 _ _ _ g6; have H4 := Lib.hid (And.intro h4 hb9); clear h4 hb4 hb9 g6)
  go_wp2_with (go_at_call 42; (with_reducible refine (HI2.out _ H4.out.1).mono ?_); rintro y w5 ⟨rfl, n5, rfl⟩; have hb9 : But pb wA (w4.drewN n5) := H4.out.2.drewN n5; have hr9 := (HR.out (w4.drewN n5) hb9).2; obtain ⟨r0, r1, r2, r3⟩ := row4T hr9; have y0 := row_frozen hr9 0; have y1 := row_frozen hr9 1; have y2 := row_frozen hr9 2; have y3 := row_frozen hr9 3; have HR9 := Lib.hid hr9; have H5 := Lib.hid hb9; clear hb9 hr9)
  obtain ⟨u0, u1, u2, u3⟩ := row4T (set4T (v0 := .string ⟨#[110, 97, 109, 101]⟩) (v1 := .int .i64 0) (v2 := .string (mkB nm)) (v3 := .slice none 0 0) HR9.out)
  refine bodyPost_ret (v := exV ⟨yName, 0, nm, []⟩ none 0) (by simp [results, Tryd.results68, go_sem, u0, u1, u2, u3]; try rfl) rfl ?_
  rw [← HQ.out]
  rw [HES.out.1, HES.out.2]
  exact atom_end (e := ⟨yName, 0, nm, []⟩) (B := none) (d := 0) (wI := w4.drewN n5) HBA.out HWA.out.2.2 H5.out HR9.out HPL.out.2.1 (by have := H5.out.size; have := HPL.out.2.2; omega) (RdE.nil _ _ _) okN0 (H4.out.1.drewN n5)
set_option maxHeartbeats 8000000 in
set_option maxRecDepth 100000 in
theorem atom_deep (I : PaIn E l A w0) {nm : List UInt8} {s2 : PSt} (hb : isP l s [40] = false) (hn : ofB l kNumber s = false) (hof : ofP l kName s = (nm, s2)) (hp : isP l s2 [40] = true) (hq : (nestP s2).err.isNone = false) (hf : (⟨yCall, 0, nm, []⟩, nestP s2) = (e, s')) (hs : PStOk l s) (hlt : s.pos < l.length) (he : s.err = none) (h : PaAt E l pb A c w0 s w) :
    Calls Tryd.prog 68 #[.pointer (some ⟨pb, 0, none⟩)] w (ExPost E l pb A c w0 e s' w) := by
  obtain ⟨rb, hrb⟩ : ∃ rb, w.heap.size = rb := ⟨_, rfl⟩
  obtain ⟨wP, hwP⟩ : ∃ wP, w.alloc (.cells #[.pointer (some ⟨pb, 0, none⟩)] 52) = wP := ⟨_, rfl⟩
  obtain ⟨wA, hwA⟩ : ∃ wA, wP.alloc (.cells #[.string ⟨#[]⟩, .int .i64 0, .string ⟨#[]⟩, .slice none 0 0] 42) = wA := ⟨_, rfl⟩
  have hzP : wP.heap.size = rb + 1 := by rw [← hwP, ← hrb]; simp
  have hbP : Below w.heap.size w wP := by rw [← hwP]; exact grow_alloc (grow_refl _) _
  have hbA1 : Below wP.heap.size wP wA := by rw [← hwA]; exact grow_alloc (grow_refl _) _
  have hbA : Below w.heap.size w wA := grow_trans hbP hbA1
  have hmP : wA.heap[rb]? = some (.cells #[.pointer (some ⟨pb, 0, none⟩)] 52 (0, 0)) := (hbA1.block _ (by omega)).trans (by rw [← hwP, ← hrb]; exact heap_alloc_new w _)
  have hmA : wA.heap[rb + 1]? = some (.cells #[.string ⟨#[]⟩, .int .i64 0, .string ⟨#[]⟩, .slice none 0 0] 42 (0, 0)) := by rw [← hwA, ← hzP]; exact heap_alloc_new wP _
  have hA := h.keep hbA
  have hpr : pb < rb := by have := h.lt; omega
  have hlo : w0.heap.size ≤ rb := by have := h.under; omega
  have hra : rb + 1 < wA.heap.size := (Array.getElem?_eq_some_iff.1 hmA).1
  have HBA : Hid (But pb w wA) := But.of_below hbA
  have HR : Hid (∀ w', But pb wA w' → w'.heap[rb]? = some (.cells #[.pointer (some ⟨pb, 0, none⟩)] 52 (0, 0)) ∧ w'.heap[rb + 1]? = some (.cells #[.string ⟨#[]⟩, .int .i64 0, .string ⟨#[]⟩, .slice none 0 0] 42 (0, 0))) := fun w' hb => ⟨hb.row hmP (by omega), hb.row hmA (by omega)⟩
  obtain ⟨v, c0, c1, c2, c3, hv⟩ := hA.cells
  rw [he] at hv
  have hv' : v = .nilIface := hv
  subst hv'
  have p0 := cell_of_row _ _ 0 _ _ _ hmP
  have q1 : (s.pos : Int) < (l.length : Int) := by omega
  have q3 : decide (l.length ≤ s.pos) = false := by simpa using hlt
  have q0 : (0 : Int) ≤ (s.pos : Int) := by omega
  have HWA := Lib.hid (And.intro hwP (And.intro hwA hrb))
  have HPL := Lib.hid (And.intro hpr (And.intro hlo hra))
  have HIS : Hid (∀ n, Calls Tryd.prog 42 #[.pointer (some ⟨pb, 0, none⟩), .string ⟨#[40]⟩] (wA.drewN n) (fun e w2 => e = .returned (.bool (isP l s [40])) ∧ ∃ m, w2 = (wA.drewN n).drewN m)) := fun n => is_lit I (hA.drewN n) [40]
  obtain ⟨b, off, hAe, j0, j1⟩ := I.tok hA.bel hlt
  rw [hAe] at c0
  have HT : Hid (txtP l s = l[s.pos].text) := show _ = _ by unfold txtP; rw [List.getElem?_eq_getElem hlt]; rfl
  have HO : Hid (ofB l kNumber s = (l[s.pos].kind == kNumber)) := ofB_at he (List.getElem?_eq_getElem hlt)
  have hmem : l[s.pos] ∈ l := List.getElem_mem hlt
  have hlen := I.len
  obtain ⟨tk, ht⟩ : ∃ t, l[s.pos] = t := ⟨_, rfl⟩
  rw [ht] at j0 j1 HO HT hmem
  have hx : ((mkB tk.kind).toList == [110, 117, 109, 98, 101, 114]) = (tk.kind == kNumber) := by rw [mkB_toList]; rfl
  rw [hb] at HIS
  have hk : (tk.kind == kNumber) = false := HO.out.symm.trans hn
  rw [hk] at hx
  have HOF : Hid (∀ n, Calls Tryd.prog 25 #[.pointer (some ⟨pb, 0, none⟩), .string ⟨#[110, 97, 109, 101]⟩] (wA.drewN n) (PaRet E l pb A c w0 (.string (mkB nm)) s2 (wA.drewN n))) := fun n => by
    have := of_lit I (hA.drewN n) hs.hi kName
    rw [hof] at this
    exact this
  have hs2 : PStOk l s2 := hs.went (by have := ofP_went (x := kName) hs.hi; rw [hof] at this; exact this)
  have HI2 : Hid (∀ w', PaAt E l pb A c w0 s2 w' → Calls Tryd.prog 42 #[.pointer (some ⟨pb, 0, none⟩), .string ⟨#[40]⟩] w' (fun e w2 => e = .returned (.bool true) ∧ ∃ m, w2 = w'.drewN m)) := fun w' hw => by
    have := is_lit I hw [40]
    rw [hp] at this
    exact this
  have hd2 := hs2.lo
  have hd3 := hs2.top
  have HNE : Hid (∀ w', PaAt E l pb A c w0 s2 w' → Calls Tryd.prog 44 #[.pointer (some ⟨pb, 0, none⟩)] w' (PaRet E l pb A c w0 (.bool (nestP s2).err.isNone) (nestP s2) w')) := fun w' hw => nest_any I hw hs2.hi ⟨hd2, by omega⟩
  rw [hq] at HNE
  have HES : Hid (e = ⟨yCall, 0, nm, []⟩ ∧ s' = nestP s2) := show _ ∧ _ by cases hf; exact ⟨rfl, rfl⟩
  obtain ⟨s3, hs3⟩ : ∃ s3, nestP s2 = s3 := ⟨_, rfl⟩
  rw [hs3] at HNE HES
  obtain ⟨Q, hQ⟩ : ∃ Q, ExPost E l pb A c w0 e s' w = Q := ⟨_, rfl⟩
  have HQ := Lib.hid hQ
  rw [hQ]
  clear hf hb hn hk hmem ht hs he HO HT hof hs2 hp hAe hq hs3 hd2 hd3
  clear h hA hbA hbA1 hbP hmA hmP hwA hwP hrb hzP hv hQ hpr hlo hra
  clear I
  go_enter Tryd.func68, Tryd.ntmps68
  go_upto_region 1 with fail
  rw [HWA.out.1, HWA.out.2.1]
  try rw [HWA.out.2.2]
  go_quiet (fail)
  go_upto_region 6 with (go_at_call 42; (with_reducible refine (HIS.out _).mono ?_); rintro y w2 ⟨rfl, n2, rfl⟩)
  go_quiet (fail)
  go_upto_region 13 with (go_at_call 25; (with_reducible refine (HOF.out _).mono ?_); rintro y w4 ⟨rfl, h4, hb4⟩; have hb9 := ((But.refl pb wA).drewN _).trans hb4; have g6 := (HR.out w4 hb9).1; have t0 := cell_of_row _ _ 0 _ _ _ g6; have H4 := Lib.hid (And.intro h4 hb9); clear h4 hb4 hb9 g6)
  go_upto_region 15 with (go_at_call 42; (with_reducible refine (HI2.out _ H4.out.1).mono ?_); rintro y w5 ⟨rfl, n5, rfl⟩; have t1 : (w4.drewN n5).cell? ⟨rb, 0, none⟩ = _ := t0)
  obtain ⟨w5, hw5⟩ : ∃ w5, w4.drewN n5 = w5 := ⟨_, rfl⟩
  have h5 : PaAt E l pb A c w0 s2 w5 := by rw [← hw5]; exact H4.out.1.drewN n5
  have hb5 : But pb wA w5 := by rw [← hw5]; exact H4.out.2.drewN n5
  have H5 := Lib.hid (And.intro h5 hb5)
  rw [hw5] at t1 ⊢
  clear hw5 h5 hb5
  go_upto_region 16 with fail
  obtain ⟨eb, heb⟩ : ∃ eb, w5.heap.size = eb := ⟨_, rfl⟩
  obtain ⟨w6, hw6⟩ : ∃ w6, w5.alloc (.cells #[.string ⟨#[99, 97, 108, 108]⟩, .int .i64 0, .string (mkB nm), .slice none 0 0] 42) = w6 := ⟨_, rfl⟩
  have hm6 : w6.heap[eb]? = some (.cells #[.string ⟨#[99, 97, 108, 108]⟩, .int .i64 0, .string (mkB nm), .slice none 0 0] 42 (0, 0)) := by rw [← hw6, ← heb]; exact heap_alloc_new w5 _
  have hb6 : Below w5.heap.size w5 w6 := by rw [← hw6]; exact grow_alloc (grow_refl _) _
  have h6 := H5.out.1.keep hb6
  have hbA6 := H5.out.2.trans (But.of_below hb6)
  have hre : rb + 1 < eb := by have := H5.out.2.size; have := HPL.out.2.2; omega
  have hpe : pb < eb := by have := HPL.out.1; omega
  have H6 := Lib.hid (And.intro hm6 (And.intro h6 (And.intro hbA6 (And.intro hre hpe))))
  rw [heb, hw6]
  clear hw6 heb hm6 hb6 h6 hbA6 hre hpe
  have g6 := (HR.out w6 H6.out.2.2.1).1
  have t2 := cell_of_row _ _ 0 _ _ _ g6
  clear g6
  go_wp2_with (go_at_call 44; (with_reducible refine (HNE.out _ H6.out.2.1).mono ?_); rintro y w7 ⟨rfl, h7, hb7⟩; have hb9 := H6.out.2.2.1.trans hb7; have he9 := hb7.row H6.out.1 (Ne.symm (Nat.ne_of_lt H6.out.2.2.2.2)); obtain ⟨e0, e1, e2, e3⟩ := row4T he9; have hr9 := (HR.out w7 hb9).2; obtain ⟨r0, r1, r2, r3⟩ := row4T hr9; have y0 := row_frozen hr9 0; have y1 := row_frozen hr9 1; have y2 := row_frozen hr9 2; have y3 := row_frozen hr9 3; have HR9 := Lib.hid hr9; have H7 := Lib.hid (And.intro h7 hb9); clear h7 hb7 hb9 he9 hr9)
  obtain ⟨u0, u1, u2, u3⟩ := row4T (set4T (v0 := .string ⟨#[99, 97, 108, 108]⟩) (v1 := .int .i64 0) (v2 := .string (mkB nm)) (v3 := .slice none 0 0) HR9.out)
  refine bodyPost_ret (v := exV ⟨yCall, 0, nm, []⟩ none 0) (by simp [results, Tryd.results68, go_sem, u0, u1, u2, u3]; try rfl) rfl ?_
  rw [← HQ.out]
  rw [HES.out.1, HES.out.2]
  exact atom_end (e := ⟨yCall, 0, nm, []⟩) (B := none) (d := 0) (wI := w7) HBA.out HWA.out.2.2 H7.out.2 HR9.out HPL.out.2.1 (by have := H7.out.2.size; have := HPL.out.2.2; omega) (RdE.nil _ _ _) okN0 H7.out.1
set_option maxHeartbeats 8000000 in
set_option maxRecDepth 100000 in
theorem atom_call (I : PaIn E l A w0) {n : Nat} (IH : ∀ m, m ≤ n → ExI E l pb A c w0 m) {nm : List UInt8} {s2 s3 : PSt} {ks : List PExpr} (hb : isP l s [40] = false) (hn : ofB l kNumber s = false) (hof : ofP l kName s = (nm, s2)) (hp : isP l s2 [40] = true) (hq : (nestP s2).err.isNone = true) (hl : listF l (n + 1) (nestP s2).step = some (ks, s3)) (hok : PStOk l (nestP s2).step) (hok3 : 0 ≤ s3.deep ∧ s3.deep ≤ 100) (hf : (⟨yCall, 0, nm, ks⟩, s3.up) = (e, s')) (hs : PStOk l s) (hlt : s.pos < l.length) (he : s.err = none) (h : PaAt E l pb A c w0 s w) :
    Calls Tryd.prog 68 #[.pointer (some ⟨pb, 0, none⟩)] w (ExPost E l pb A c w0 e s' w) := by
  obtain ⟨rb, hrb⟩ : ∃ rb, w.heap.size = rb := ⟨_, rfl⟩
  obtain ⟨wP, hwP⟩ : ∃ wP, w.alloc (.cells #[.pointer (some ⟨pb, 0, none⟩)] 52) = wP := ⟨_, rfl⟩
  obtain ⟨wA, hwA⟩ : ∃ wA, wP.alloc (.cells #[.string ⟨#[]⟩, .int .i64 0, .string ⟨#[]⟩, .slice none 0 0] 42) = wA := ⟨_, rfl⟩
  have hzP : wP.heap.size = rb + 1 := by rw [← hwP, ← hrb]; simp
  have hbP : Below w.heap.size w wP := by rw [← hwP]; exact grow_alloc (grow_refl _) _
  have hbA1 : Below wP.heap.size wP wA := by rw [← hwA]; exact grow_alloc (grow_refl _) _
  have hbA : Below w.heap.size w wA := grow_trans hbP hbA1
  have hmP : wA.heap[rb]? = some (.cells #[.pointer (some ⟨pb, 0, none⟩)] 52 (0, 0)) := (hbA1.block _ (by omega)).trans (by rw [← hwP, ← hrb]; exact heap_alloc_new w _)
  have hmA : wA.heap[rb + 1]? = some (.cells #[.string ⟨#[]⟩, .int .i64 0, .string ⟨#[]⟩, .slice none 0 0] 42 (0, 0)) := by rw [← hwA, ← hzP]; exact heap_alloc_new wP _
  have hA := h.keep hbA
  have hpr : pb < rb := by have := h.lt; omega
  have hlo : w0.heap.size ≤ rb := by have := h.under; omega
  have hra : rb + 1 < wA.heap.size := (Array.getElem?_eq_some_iff.1 hmA).1
  have HBA : Hid (But pb w wA) := But.of_below hbA
  have HR : Hid (∀ w', But pb wA w' → w'.heap[rb]? = some (.cells #[.pointer (some ⟨pb, 0, none⟩)] 52 (0, 0)) ∧ w'.heap[rb + 1]? = some (.cells #[.string ⟨#[]⟩, .int .i64 0, .string ⟨#[]⟩, .slice none 0 0] 42 (0, 0))) := fun w' hb => ⟨hb.row hmP (by omega), hb.row hmA (by omega)⟩
  obtain ⟨v, c0, c1, c2, c3, hv⟩ := hA.cells
  rw [he] at hv
  have hv' : v = .nilIface := hv
  subst hv'
  have p0 := cell_of_row _ _ 0 _ _ _ hmP
  have q1 : (s.pos : Int) < (l.length : Int) := by omega
  have q3 : decide (l.length ≤ s.pos) = false := by simpa using hlt
  have q0 : (0 : Int) ≤ (s.pos : Int) := by omega
  have HWA := Lib.hid (And.intro hwP (And.intro hwA hrb))
  have HPL := Lib.hid (And.intro hpr (And.intro hlo hra))
  have HIS : Hid (∀ n, Calls Tryd.prog 42 #[.pointer (some ⟨pb, 0, none⟩), .string ⟨#[40]⟩] (wA.drewN n) (fun e w2 => e = .returned (.bool (isP l s [40])) ∧ ∃ m, w2 = (wA.drewN n).drewN m)) := fun n => is_lit I (hA.drewN n) [40]
  obtain ⟨b, off, hAe, j0, j1⟩ := I.tok hA.bel hlt
  rw [hAe] at c0
  have HT : Hid (txtP l s = l[s.pos].text) := show _ = _ by unfold txtP; rw [List.getElem?_eq_getElem hlt]; rfl
  have HO : Hid (ofB l kNumber s = (l[s.pos].kind == kNumber)) := ofB_at he (List.getElem?_eq_getElem hlt)
  have hmem : l[s.pos] ∈ l := List.getElem_mem hlt
  have hlen := I.len
  obtain ⟨tk, ht⟩ : ∃ t, l[s.pos] = t := ⟨_, rfl⟩
  rw [ht] at j0 j1 HO HT hmem
  have hx : ((mkB tk.kind).toList == [110, 117, 109, 98, 101, 114]) = (tk.kind == kNumber) := by rw [mkB_toList]; rfl
  rw [hb] at HIS
  have hk : (tk.kind == kNumber) = false := HO.out.symm.trans hn
  rw [hk] at hx
  have HOF : Hid (∀ n, Calls Tryd.prog 25 #[.pointer (some ⟨pb, 0, none⟩), .string ⟨#[110, 97, 109, 101]⟩] (wA.drewN n) (PaRet E l pb A c w0 (.string (mkB nm)) s2 (wA.drewN n))) := fun n => by
    have := of_lit I (hA.drewN n) hs.hi kName
    rw [hof] at this
    exact this
  have hs2 : PStOk l s2 := hs.went (by have := ofP_went (x := kName) hs.hi; rw [hof] at this; exact this)
  have HI2 : Hid (∀ w', PaAt E l pb A c w0 s2 w' → Calls Tryd.prog 42 #[.pointer (some ⟨pb, 0, none⟩), .string ⟨#[40]⟩] w' (fun e w2 => e = .returned (.bool true) ∧ ∃ m, w2 = w'.drewN m)) := fun w' hw => by
    have := is_lit I hw [40]
    rw [hp] at this
    exact this
  have hd2 := hs2.lo
  have hd3 := hs2.top
  have HNE : Hid (∀ w', PaAt E l pb A c w0 s2 w' → Calls Tryd.prog 44 #[.pointer (some ⟨pb, 0, none⟩)] w' (PaRet E l pb A c w0 (.bool (nestP s2).err.isNone) (nestP s2) w')) := fun w' hw => nest_any I hw hs2.hi ⟨hd2, by omega⟩
  rw [hq] at HNE
  have HES : Hid (e = ⟨yCall, 0, nm, ks⟩ ∧ s' = s3.up) := show _ ∧ _ by cases hf; exact ⟨rfl, rfl⟩
  have hpos : ((nestP s2).pos : Int) ≤ 100000 := by have := nestP_pos s2; have := hs2.hi; omega
  obtain ⟨sn, hsn⟩ : ∃ sn, nestP s2 = sn := ⟨_, rfl⟩
  rw [hsn] at HNE hpos hl hok
  have hwp : IntKind.i64.wrap ((sn.pos : Int) + 1) = (sn.pos : Int) + 1 := IntWalk.i64_in _ (by omega)
  have hd4 := hok3.1
  have hd5 := hok3.2
  have HLI : Hid (∀ (wE : World) (eb : Nat), PaAt E l pb A c w0 sn.step wE → wE.heap[eb]? = some (.cells #[.string ⟨#[99, 97, 108, 108]⟩, .int .i64 0, .string (mkB nm), .slice none 0 0] 42 (0, 0)) → wE.heap[rb]? = some (.cells #[.pointer (some ⟨pb, 0, none⟩)] 52 (0, 0)) → pb < eb → rb + 1 < eb → Calls Tryd.prog 26 #[.pointer (some ⟨pb, 0, none⟩), .func (.func 75) #[] #[.pointer (some ⟨eb, 0, none⟩), .pointer (some ⟨rb, 0, none⟩)]] wE (fun y w' => y = .returned (.tuple #[]) ∧ ArAt E l pb A c w0 wE eb nm ks s3 w')) := fun wE eb h1 h2 h3 h4 h5 =>
    list_any I IH hok hl ⟨But2.refl _ _ _, h1, _, [], h2, World.ownsRow_nil _ _ _ _, rfl, fun t ht => absurd ht (List.not_mem_nil)⟩ h3 h1.lt (Array.getElem?_eq_some_iff.1 h2).1 (by omega) (by omega) (by omega) (by omega)
  obtain ⟨Q, hQ⟩ : ∃ Q, ExPost E l pb A c w0 e s' w = Q := ⟨_, rfl⟩
  have HQ := Lib.hid hQ
  rw [hQ]
  clear hf hb hn hk hmem ht hs he HO HT hof hs2 hp hAe hq hsn hd2 hd3 hl hok hok3 IH
  clear h hA hbA hbA1 hbP hmA hmP hwA hwP hrb hzP hv hQ hpr hlo hra
  clear I
  go_enter Tryd.func68, Tryd.ntmps68
  go_upto_region 1 with fail
  rw [HWA.out.1, HWA.out.2.1]
  try rw [HWA.out.2.2]
  go_quiet (fail)
  go_upto_region 6 with (go_at_call 42; (with_reducible refine (HIS.out _).mono ?_); rintro y w2 ⟨rfl, n2, rfl⟩)
  go_quiet (fail)
  go_upto_region 13 with (go_at_call 25; (with_reducible refine (HOF.out _).mono ?_); rintro y w4 ⟨rfl, h4, hb4⟩; have hb9 := ((But.refl pb wA).drewN _).trans hb4; have g6 := (HR.out w4 hb9).1; have t0 := cell_of_row _ _ 0 _ _ _ g6; have H4 := Lib.hid (And.intro h4 hb9); clear h4 hb4 hb9 g6)
  go_upto_region 15 with (go_at_call 42; (with_reducible refine (HI2.out _ H4.out.1).mono ?_); rintro y w5 ⟨rfl, n5, rfl⟩; have t1 : (w4.drewN n5).cell? ⟨rb, 0, none⟩ = _ := t0)
  obtain ⟨w5, hw5⟩ : ∃ w5, w4.drewN n5 = w5 := ⟨_, rfl⟩
  have h5 : PaAt E l pb A c w0 s2 w5 := by rw [← hw5]; exact H4.out.1.drewN n5
  have hb5 : But pb wA w5 := by rw [← hw5]; exact H4.out.2.drewN n5
  have H5 := Lib.hid (And.intro h5 hb5)
  rw [hw5] at t1 ⊢
  clear hw5 h5 hb5
  go_upto_region 16 with fail
  obtain ⟨eb, heb⟩ : ∃ eb, w5.heap.size = eb := ⟨_, rfl⟩
  obtain ⟨w6, hw6⟩ : ∃ w6, w5.alloc (.cells #[.string ⟨#[99, 97, 108, 108]⟩, .int .i64 0, .string (mkB nm), .slice none 0 0] 42) = w6 := ⟨_, rfl⟩
  have hm6 : w6.heap[eb]? = some (.cells #[.string ⟨#[99, 97, 108, 108]⟩, .int .i64 0, .string (mkB nm), .slice none 0 0] 42 (0, 0)) := by rw [← hw6, ← heb]; exact heap_alloc_new w5 _
  have hb6 : Below w5.heap.size w5 w6 := by rw [← hw6]; exact grow_alloc (grow_refl _) _
  have h6 := H5.out.1.keep hb6
  have hbA6 := H5.out.2.trans (But.of_below hb6)
  have hre : rb + 1 < eb := by have := H5.out.2.size; have := HPL.out.2.2; omega
  have hpe : pb < eb := by have := HPL.out.1; omega
  have H6 := Lib.hid (And.intro hm6 (And.intro h6 (And.intro hbA6 (And.intro hre hpe))))
  rw [heb, hw6]
  clear hw6 heb hm6 hb6 h6 hbA6 hre hpe
  have g6 := (HR.out w6 H6.out.2.2.1).1
  have t2 := cell_of_row _ _ 0 _ _ _ g6
  clear g6
  go_upto_region 17 with (go_at_call 44; (with_reducible refine (HNE.out _ H6.out.2.1).mono ?_); rintro y w7 ⟨rfl, h7, hb7⟩; have hb9 := H6.out.2.2.1.trans hb7; have he9 := hb7.row H6.out.1 (Ne.symm (Nat.ne_of_lt H6.out.2.2.2.2)); have g7 := (HR.out w7 hb9).1; have t3 := cell_of_row _ _ 0 _ _ _ g7; obtain ⟨v7, -, c7, -, -, -⟩ := h7.cells; have z7 := h7.frozen 1; have H7 := Lib.hid (And.intro h7 (And.intro hb9 he9)); clear h7 hb7 hb9 he9 g7)
  go_upto_region 18 with fail
  obtain ⟨wE, hwE⟩ : ∃ wE, w7.setCell ⟨pb, 1, none⟩ (.int .i64 ((sn.pos : Int) + 1)) = wE := ⟨_, rfl⟩
  have hE : PaAt E l pb A c w0 sn.step wE := by rw [← hwE]; exact H7.out.1.setPos (sn.pos + 1)
  have hbE7 : But pb w7 wE := by rw [← hwE]; exact (But.refl pb w7).set 1 _
  have hbE : But pb wA wE := H7.out.2.1.trans hbE7
  have heE := hbE7.row H7.out.2.2 (Ne.symm (Nat.ne_of_lt H6.out.2.2.2.2))
  have g8 := (HR.out wE hbE).1
  have t4 := cell_of_row _ _ 0 _ _ _ g8
  have HE := Lib.hid (And.intro hE (And.intro hbE (And.intro heE g8)))
  rw [hwE]
  clear hwE hE hbE7 hbE heE g8 c7 z7 t0 t2 t3
  go_upto_region 19 with (go_at_call 26; (with_reducible refine (HLI.out wE eb HE.out.1 HE.out.2.2.1 HE.out.2.2.2 H6.out.2.2.2.2 H6.out.2.2.2.1).mono ?_); rintro y w9 ⟨rfl, h9⟩; have q9 := h9.but.row HE.out.2.2.2 (by have := HPL.out.1; omega) (by have := H6.out.2.2.2.1; omega); have t5 := cell_of_row _ _ 0 _ _ _ q9; obtain ⟨v9, -, -, c9, -, -⟩ := h9.pa.cells; have z9 := h9.pa.frozen 2; have H9 := Lib.hid h9; clear h9 q9)
  go_upto_region 20 with fail
  obtain ⟨wD, hwD⟩ : ∃ wD, w9.setCell ⟨pb, 2, none⟩ (.int .i64 (s3.deep - 1)) = wD := ⟨_, rfl⟩
  have hD : PaAt E l pb A c w0 s3.up wD := by rw [← hwD]; exact H9.out.pa.setDeep (s3.deep - 1)
  have hbD9 : But pb w9 wD := by rw [← hwD]; exact (But.refl pb w9).set 2 _
  have hAD := H9.out.then hD hbD9 HE.out.1.lt (by have := H6.out.2.2.2.2; omega)
  obtain ⟨vK, ts, hrow, hown, hmap, hets⟩ := hAD.row
  subst hmap
  rw [List.length_map] at hown
  obtain ⟨B, d, rfl, hkid⟩ := EC.row hown hets
  obtain ⟨e0, e1, e2, e3⟩ := row4T hrow
  have hr9 := hAD.but.row (HR.out wE HE.out.2.1).2 (by have := HPL.out.1; omega) (by have := H6.out.2.2.2.1; omega)
  obtain ⟨r0, r1, r2, r3⟩ := row4T hr9
  have y0 := row_frozen hr9 0
  have y1 := row_frozen hr9 1
  have y2 := row_frozen hr9 2
  have y3 := row_frozen hr9 3
  have HR9 := Lib.hid hr9
  have HAD := Lib.hid (And.intro hAD (And.intro hD hkid))
  rw [hwD]
  clear hwD hD hbD9 hAD hrow hown hets hkid hr9 c9 z9
  go_wp2_with fail
  skip
  obtain ⟨u0, u1, u2, u3⟩ := row4T (set4T (v0 := .string ⟨#[99, 97, 108, 108]⟩) (v1 := .int .i64 0) (v2 := .string (mkB nm)) (v3 := .slice B ts.length d) HR9.out)
  refine bodyPost_ret (v := .agg #[.string ⟨#[99, 97, 108, 108]⟩, .int .i64 0, .string (mkB nm), .slice B ts.length d]) (by simp [results, Tryd.results68, go_sem, u0, u1, u2, u3]; try rfl) rfl ?_
  rw [← HQ.out]
  rw [HES.out.1, HES.out.2]
  have hfin := atom_fin (e := ⟨yCall, 0, nm, ts.map (fun t : EC => t.e)⟩) (B := B) (d := d) HBA.out HWA.out.2.2 HE.out.2.1 HAD.out.1.but H6.out.2.2.2.1 HR9.out HPL.out.2.1 HPL.out.2.2 HAD.out.2.2 okN0 HAD.out.2.1
  unfold exV at hfin
  rw [show (⟨yCall, 0, nm, ts.map (fun t : EC => t.e)⟩ : PExpr).kids.length = ts.length from List.length_map _] at hfin
  exact hfin
end
end Go.Proofs.YtpfgimohginbdaaDoor
