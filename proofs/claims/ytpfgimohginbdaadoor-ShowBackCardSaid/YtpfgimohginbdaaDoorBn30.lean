import Derived.Test.YtpfgimohginbdaaDoorBn24
set_option linter.unusedVariables false
set_option linter.unusedSimpArgs false
namespace Go.Proofs.YtpfgimohginbdaaDoor
open Go.RowKit

/-! the parser: inner -/
section
variable {E : Nat → Addr} {l : List Tok} {pb : Nat} {A : Option Addr} {c : Nat} {w0 : World} {s s' : PSt} {w w' w1 : World}
set_option maxHeartbeats 8000000 in
set_option maxRecDepth 100000 in
theorem inner_step (I : PaIn E l A w0) {n : Nat} (IH : ExI E l pb A c w0 n) {e : PExpr} (hs : PStOk l s) (hlt : s.pos < l.length) (he : s.err = none) (hf : innerF l (n + 1) s = some (e, s')) (h : PaAt E l pb A c w0 s w) :
    Calls Tryd.prog 73 #[.pointer (some ⟨pb, 0, none⟩)] w (ExPost E l pb A c w0 e s' w) := by
  have hlen := I.len
  obtain ⟨rb, hrb⟩ : ∃ rb, w.heap.size = rb := ⟨_, rfl⟩
  obtain ⟨wA, hwA⟩ : ∃ wA, w.alloc (.cells #[.string ⟨#[]⟩, .int .i64 0, .string ⟨#[]⟩, .slice none 0 0] 42) = wA := ⟨_, rfl⟩
  have hbA : Below w.heap.size w wA := by rw [← hwA]; exact grow_alloc (grow_refl _) _
  have hmA : wA.heap[rb]? = some (.cells #[.string ⟨#[]⟩, .int .i64 0, .string ⟨#[]⟩, .slice none 0 0] 42 (0, 0)) := by rw [← hwA, ← hrb]; exact heap_alloc_new w _
  have hA := h.keep hbA
  have hpr : pb < rb := by have := h.lt; omega
  have hlo : w0.heap.size ≤ rb := by have := h.under; omega
  have HBA : Hid (But pb w wA) := But.of_below hbA
  have HR : Hid (∀ w', But pb wA w' → w'.heap[rb]? = some (.cells #[.string ⟨#[]⟩, .int .i64 0, .string ⟨#[]⟩, .slice none 0 0] 42 (0, 0))) := fun w' hb => hb.row hmA (by omega)
  have HNE := Lib.hid (nest_any I hA hs.hi ⟨hs.lo, by have := hs.top; omega⟩)
  have hne := nestP_pos s
  have HWA := Lib.hid (And.intro hwA hrb)
  have HPL := Lib.hid (And.intro hpr hlo)
  have hrbl : rb < wA.heap.size := (Array.getElem?_eq_some_iff.1 hmA).1
  rw [innerF] at hf
  obtain ⟨Q, hQ⟩ : ∃ Q, ExPost E l pb A c w0 e s' w = Q := ⟨_, rfl⟩
  have HQ := Lib.hid hQ
  rw [hQ]
  by_cases hn : (nestP s).err.isNone = true
  · rw [if_pos hn] at hf
    rw [hn] at HNE
    cases hx : exprF l n 0 (nestP s).step with
    | none => rw [hx] at hf; cases hf
    | some p =>
      obtain ⟨e1, s1⟩ := p
      rw [hx] at hf
      have hst : PStOk l (nestP s).step := by
        obtain ⟨-, h2, h3⟩ := nestP_ok (none_of hn)
        rw [h3]
        exact ⟨by show s.pos + 1 ≤ l.length; omega, by show 0 ≤ s.deep + 1; have := hs.lo; omega, by show s.deep + 1 ≤ 13; omega, fun _ => h2⟩
      have hs1 := hst.went ((went_expr l n).expr 0 _ e1 s1 hst.hi hx)
      have hd1 := hs1.lo
      have hd2 := hs1.top
      have hxs : e = e1 ∧ s' = (takeP l [41] s1).up := by cases hf; exact ⟨rfl, rfl⟩
      obtain ⟨rfl, rfl⟩ := hxs
      have htk := hs1.went (takeP_went (l := l) (x := [41]) hs1.hi)
      have ht1 := htk.lo
      have ht2 := htk.top
      have HEX : Hid (∀ w', PaAt E l pb A c w0 (nestP s).step w' → Calls Tryd.prog 57 #[.pointer (some ⟨pb, 0, none⟩), .int .i64 0] w' (ExPost E l pb A c w0 e s1 w')) := fun w' hw => IH.expr 0 _ e s1 w' (by omega) hst hx hw
      have HTK : Hid (∀ w', PaAt E l pb A c w0 s1 w' → Calls Tryd.prog 24 #[.pointer (some ⟨pb, 0, none⟩), .string ⟨#[41]⟩] w' (PaRet E l pb A c w0 (.tuple #[]) (takeP l [41] s1) w')) := fun w' hw => take_lit I hw hs1.hi [41]
      obtain ⟨s2, hs2⟩ : ∃ s2, takeP l [41] s1 = s2 := ⟨_, rfl⟩
      rw [hs2] at HTK HQ ht1 ht2
      obtain ⟨pn, hpn⟩ : ∃ pn, nestP s = pn := ⟨_, rfl⟩
      rw [hpn] at HNE HEX hne
      have hpos : (pn.pos : Int) ≤ 100000 := by omega
      have hwp : IntKind.i64.wrap ((pn.pos : Int) + 1) = (pn.pos : Int) + 1 := IntWalk.i64_in _ (by omega)
      clear hf hx hs hst hs1 htk h hA hbA hmA hwA hrb I IH hn hpn hs2 hd1 hd2 hne
      go_enter Tryd.func73, Tryd.ntmps73
      go_upto_region 1 with fail
      rw [HWA.out.1, HWA.out.2]
      go_upto_region 3 with (go_at_call 44; (with_reducible refine HNE.out.mono ?_); rintro y w2 ⟨rfl, h2, hb2⟩; obtain ⟨v2, -, c1, -, -, -⟩ := h2.cells; have z1 := h2.frozen 1; have H2 := Lib.hid (And.intro h2 hb2); clear h2 hb2)
      go_upto_region 4 with fail
      obtain ⟨w3, hw3⟩ : ∃ w3, w2.setCell ⟨pb, 1, none⟩ (.int .i64 ((pn.pos : Int) + 1)) = w3 := ⟨_, rfl⟩
      have h3 : PaAt E l pb A c w0 pn.step w3 := by rw [← hw3]; exact H2.out.1.setPos (pn.pos + 1)
      have hb3 : But pb wA w3 := by rw [← hw3]; exact H2.out.2.set 1 _
      rw [hw3]
      have H3 := Lib.hid (And.intro h3 hb3)
      clear hw3 h3 hb3 c1 z1
      go_upto_region 5 with (go_at_call 57; (with_reducible refine (HEX.out _ H3.out.1).mono ?_); rintro y w4 ⟨B, d, rfl, hB, hN, h4, hb4⟩; rw [show exV e B d = .agg #[.string (mkB e.kind), .int .i64 e.num, .string (mkB e.name), .slice B e.kids.length d] from rfl]; have H4 := Lib.hid (And.intro hB (And.intro hN (And.intro h4 hb4))); clear hB hN h4 hb4)
      obtain ⟨eb, heb⟩ : ∃ eb, w4.heap.size = eb := ⟨_, rfl⟩
      obtain ⟨w5, hw5⟩ : ∃ w5, w4.alloc (.cells #[.string (mkB e.kind), .int .i64 e.num, .string (mkB e.name), .slice B e.kids.length d] 42) = w5 := ⟨_, rfl⟩
      have hb5 : Below w4.heap.size w4 w5 := by rw [← hw5]; exact grow_alloc (grow_refl _) _
      have hm5 : w5.heap[eb]? = some (.cells #[.string (mkB e.kind), .int .i64 e.num, .string (mkB e.name), .slice B e.kids.length d] 42 (0, 0)) := by rw [← hw5, ← heb]; exact heap_alloc_new w4 _
      have h5 := H4.out.2.2.1.keep hb5
      have hpe : pb < eb := by have := H4.out.2.2.1.lt; omega
      have hre : rb < eb := by
        have h1 := H3.out.2.size
        have h2 := H4.out.2.2.2.size
        have h3 := (Array.getElem?_eq_some_iff.1 (HR.out _ (But.refl _ _))).1
        omega
      have HM5 := Lib.hid hm5
      have H5 := Lib.hid (And.intro h5 hb5)
      have HEB := Lib.hid heb
      rw [heb, hw5]
      clear hw5 heb hb5 hm5 h5
      go_upto_region 6 with (go_at_call 24; (with_reducible refine (HTK.out _ H5.out.1).mono ?_); rintro y w6 ⟨rfl, h6, hb6⟩; obtain ⟨v6, -, -, c2, -, -⟩ := h6.cells; have z2 := h6.frozen 2; have H6 := Lib.hid (And.intro h6 hb6); clear h6 hb6)
      go_upto_region 7 with fail
      obtain ⟨w7, hw7⟩ : ∃ w7, w6.setCell ⟨pb, 2, none⟩ (.int .i64 (s2.deep - 1)) = w7 := ⟨_, rfl⟩
      have h7 : PaAt E l pb A c w0 s2.up w7 := by rw [← hw7]; exact H6.out.1.setDeep (s2.deep - 1)
      have hb57 : But pb w5 w7 := by rw [← hw7]; exact H6.out.2.set 2 _
      have hb17 : But pb wA w7 := H3.out.2.trans (H4.out.2.2.2.trans ((But.of_below H5.out.2).trans hb57))
      have hm7 := hb57.row HM5.out (by omega)
      have hr7 := HR.out _ hb17
      obtain ⟨e0, e1, e2, e3⟩ := row4T hm7
      obtain ⟨r0, r1, r2, r3⟩ := row4T hr7
      have y0 := row_frozen hr7 0
      have y1 := row_frozen hr7 1
      have y2 := row_frozen hr7 2
      have y3 := row_frozen hr7 3
      have HR7 := Lib.hid hr7
      rw [hw7]
      have H7 := Lib.hid (And.intro h7 (And.intro hb57 hb17))
      clear hw7 h7 hb57 hb17 hm7 hr7 c2 z2
      go_wp2_with fail
      obtain ⟨u0, u1, u2, u3⟩ := row4T (set4T (v0 := .string (mkB e.kind)) (v1 := .int .i64 e.num) (v2 := .string (mkB e.name)) (v3 := .slice B e.kids.length d) HR7.out)
      refine bodyPost_ret (v := exV e B d) (by simp [results, Tryd.results73, go_sem, u0, u1, u2, u3]; try rfl) rfl ?_
      rw [← HQ.out]
      obtain ⟨hB, hN, h4, hb4⟩ := H4.out
      refine ⟨B, d, rfl, ?_, hN, H7.out.1.set4 HR7.out HPL.out.2, (HBA.out.trans H7.out.2.2).set4 (by rw [HWA.out.2]; omega)⟩
      refine ((hB.lt.keep (((But.of_below H5.out.2).trans H7.out.2.1).keepsIn fun k hk => ?_) fun k hk => hk) : RdE w7 _ e.kids B).set4 fun k hk => ?_
      · have h1 : w3.heap.size ≤ k := hk.1
        have h2 := H3.out.1.lt
        omega
      · have h1 : w3.heap.size ≤ k := hk.1
        have h2 := H3.out.2.size
        refine ⟨by omega, ?_⟩
        show w.heap.size ≤ k
        rw [HWA.out.2]
        omega
  · rw [if_neg hn] at hf
    rw [(Bool.not_eq_true _).mp hn] at HNE
    cases hf
    obtain ⟨pn, hpn⟩ : ∃ pn, nestP s = pn := ⟨_, rfl⟩
    rw [hpn] at HNE HQ
    clear hs h hA hbA hmA hwA hrb I IH hn hpn hne
    go_enter Tryd.func73, Tryd.ntmps73
    go_upto_region 1 with fail
    rw [HWA.out.1, HWA.out.2]
    go_upto_region 2 with (go_at_call 44; (with_reducible refine HNE.out.mono ?_); rintro y w2 ⟨rfl, h2, hb2⟩; have hr2 := HR.out _ hb2; obtain ⟨r0, r1, r2, r3⟩ := row4T hr2; have y0 := row_frozen hr2 0; have y1 := row_frozen hr2 1; have y2 := row_frozen hr2 2; have y3 := row_frozen hr2 3; have H2 := Lib.hid (And.intro h2 (And.intro hb2 hr2)); clear h2 hb2 hr2)
    go_wp2_with fail
    obtain ⟨u0, u1, u2, u3⟩ := row4T (set4T (v0 := .string ⟨#[]⟩) (v1 := .int .i64 0) (v2 := .string ⟨#[]⟩) (v3 := .slice none 0 0) H2.out.2.2)
    refine bodyPost_ret (v := exV zeroE none 0) (by simp [results, Tryd.results73, go_sem, u0, u1, u2, u3]; try rfl) rfl ?_
    rw [← HQ.out]
    exact ⟨none, 0, rfl, RdE.nil _ _ _, ⟨by decide, by decide⟩, H2.out.1.set4 H2.out.2.2 HPL.out.2, (HBA.out.trans H2.out.2.1).set4 (by rw [HWA.out.2]; omega)⟩
end
end Go.Proofs.YtpfgimohginbdaaDoor
