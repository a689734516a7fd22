import Derived.Outline
import Derived.Test.YtpfgimohginbdaaDoorBn24
set_option linter.unusedVariables false
set_option linter.unusedSimpArgs false
namespace Go.Proofs.YtpfgimohginbdaaDoor
open Go.RowKit

/-! the parser: an op ahead -/
section
variable {E : Nat → Addr} {l : List Tok} {pb : Nat} {A : Option Addr} {c : Nat} {w0 : World} {s s' : PSt} {w w' w1 : World}
def oneX (k : Nat) : List UInt8 := if k = 0 then [45] else [33]
/-- What a round of the loop over the ops ahead finds. -/
def OneAt (l : List Tok) (s : PSt) (e : PExpr) (s' : PSt) (k : Nat) (st : PSt) : Prop :=
  (st = s ∧ ∀ j, j < k → isP l s (oneX j) = false) ∨ (st.err ≠ none ∧ e = zeroE ∧ s' = st ∧ st.pos ≤ l.length ∧ PStOk l st)
set_option maxHeartbeats 16000000 in
set_option maxRecDepth 100000 in
theorem one_step (I : PaIn E l A w0) {n : Nat} (IH : ExI E l pb A c w0 n) {e : PExpr} (hs : PStOk l s) (hf : oneF l (n + 1) s = some (e, s')) (h : PaAt E l pb A c w0 s w) :
    Calls Tryd.prog 66 #[.pointer (some ⟨pb, 0, none⟩)] w (ExPost E l pb A c w0 e s' w) := by
  have hlen := I.len
  obtain ⟨rb, hrb⟩ : ∃ rb, w.heap.size = rb := ⟨_, rfl⟩
  obtain ⟨wR, hwR⟩ : ∃ wR, w.alloc (.cells #[.string ⟨#[]⟩, .int .i64 0, .string ⟨#[]⟩, .slice none 0 0] 42) = wR := ⟨_, rfl⟩
  obtain ⟨wA, hwA⟩ : ∃ wA, wR.alloc (.cells #[.string ⟨#[45]⟩, .string ⟨#[33]⟩] 9) = wA := ⟨_, rfl⟩
  have hzR : wR.heap.size = rb + 1 := by rw [← hwR, ← hrb]; simp
  have hbR : Below w.heap.size w wR := by rw [← hwR]; exact grow_alloc (grow_refl _) _
  have hbA1 : Below wR.heap.size wR wA := by rw [← hwA]; exact grow_alloc (grow_refl _) _
  have hbA : Below w.heap.size w wA := grow_trans hbR hbA1
  have hmR : wA.heap[rb]? = some (.cells #[.string ⟨#[]⟩, .int .i64 0, .string ⟨#[]⟩, .slice none 0 0] 42 (0, 0)) := (hbA1.block _ (by omega)).trans (by rw [← hwR, ← hrb]; exact heap_alloc_new w _)
  have hmA : wA.heap[rb + 1]? = some (.cells #[.string ⟨#[45]⟩, .string ⟨#[33]⟩] 9 (0, 0)) := by rw [← hwA, ← hzR]; exact heap_alloc_new wR _
  have hA := h.keep hbA
  have hpr : pb < rb := by have := h.lt; omega
  have hlo : w0.heap.size ≤ rb := by have := h.under; omega
  have hra : rb + 1 < wA.heap.size := (Array.getElem?_eq_some_iff.1 hmA).1
  have HBA : Hid (But pb w wA) := But.of_below hbA
  have HR : Hid (∀ w', But pb wA w' → w'.heap[rb]? = some (.cells #[.string ⟨#[]⟩, .int .i64 0, .string ⟨#[]⟩, .slice none 0 0] 42 (0, 0)) ∧ w'.heap[rb + 1]? = some (.cells #[.string ⟨#[45]⟩, .string ⟨#[33]⟩] 9 (0, 0))) := fun w' hb => ⟨hb.row hmR (by omega), hb.row hmA (by omega)⟩
  have HWA := Lib.hid (And.intro hwR (And.intro hwA (And.intro hrb hzR)))
  have HPL := Lib.hid (And.intro hpr (And.intro hlo hra))
  have HA := Lib.hid hA
  have HS := Lib.hid hs
  have HIS : Hid (∀ st w' k, PaAt E l pb A c w0 st w' → Calls Tryd.prog 42 #[.pointer (some ⟨pb, 0, none⟩), .string (mkB (oneX k))] w' (fun e w2 => e = .returned (.bool (isP l st (oneX k))) ∧ ∃ n, w2 = w'.drewN n)) := fun st w' k hw => is_lit I hw _
  have HI := Lib.hid I
  have HIH := Lib.hid IH
  have HF := Lib.hid hf
  obtain ⟨Q, hQ⟩ : ∃ Q, ExPost E l pb A c w0 e s' w = Q := ⟨_, rfl⟩
  have HQ := Lib.hid hQ
  rw [hQ]
  clear hs h hA hbA hbA1 hbR hmA hmR hwA hwR hrb hzR I IH hf hQ hpr hlo hra
  go_enter Tryd.func66, Tryd.ntmps66
  go_upto_region 1 with fail
  rw [HWA.out.1]
  go_upto_region 2 with fail
  rw [HWA.out.2.1, HWA.out.2.2.1, HWA.out.2.2.2]
  go_loopw [4, 5, 8] (fun _ _ i wr => ∃ (k : Nat) (st : PSt), k ≤ 2 ∧ i = .int .i64 k ∧ OneAt l s e s' k st ∧ PaAt E l pb A c w0 st wr ∧ But pb wA wr) (fun _ _ i _ => 2 - (intOf i).toNat)
  case atStart => exact ⟨0, s, by omega, rfl, .inl ⟨rfl, fun j hj => by omega⟩, HA.out, But.refl _ _⟩
  case round =>
    obtain ⟨k, st, hk, rfl, hat, hpa, hbt⟩ := hrel
    obtain ⟨hr, hsb⟩ := HR.out wr hbt
    have HRR := Lib.hid hr
    have HPA := Lib.hid hpa
    have HBT := Lib.hid hbt
    have HAT := Lib.hid hat
    by_cases hlt : k < 2
    · have hlt' : (k : Int) < 2 := by omega
      have hk0 : (0 : Int) ≤ k := by omega
      have s0 : wr.cell? ⟨rb + 1, k, none⟩ = some (.string (mkB (oneX k))) := by
        rcases (by omega : k = 0 ∨ k = 1) with rfl | rfl
        · exact cell_of_row _ _ 0 _ _ _ hsb
        · exact cell_of_row _ _ 1 _ _ _ hsb
      have HISK := Lib.hid (HIS.out st wr k hpa)
      obtain ⟨xk, hxk⟩ : ∃ x, mkB (oneX k) = x := ⟨_, rfl⟩
      rw [hxk] at s0 HISK
      have HXK := Lib.hid hxk
      clear hr hsb hpa hbt hat hxk
      cases hb : isP l st (oneX k)
      · rw [hb] at HISK
        have HN : Hid (OneAt l s e s' (k + 1) st) := show OneAt l s e s' (k + 1) st by
          rcases HAT.out with ⟨h1, h2⟩ | h1
          · refine .inl ⟨h1, fun j hj => ?_⟩
            by_cases hj2 : j < k
            · exact h2 j hj2
            · rw [show j = k by omega, ← h1]; exact hb
          · exact .inr h1
        clear hb
        go_wp2_with (go_at_call 42; (with_reducible refine HISK.out.mono ?_); rintro y w2 ⟨rfl, n2, rfl⟩)
        go_roundw
        case rel => exact ⟨k + 1, st, by omega, by go_num, HN.out, HPA.out.drewN n2, HBT.out.drewN n2⟩
        case measure => simp [intOf]; omega
      · rw [hb] at HISK
        obtain ⟨hse, tk, htk, htx, hpl, -⟩ := isP_some hb
        have hst : st = s := by
          rcases HAT.out with ⟨h1, -⟩ | ⟨h1, -⟩
          · exact h1
          · exact absurd hse h1
        subst hst
        have HT : Hid (txtP l st = oneX k) := show _ = _ by unfold txtP; rw [htk, ← htx]; rfl
        have hor : isP l st [45] = true ∨ isP l st [33] = true := by
          rcases (by omega : k = 0 ∨ k = 1) with rfl | rfl
          · exact .inl hb
          · exact .inr hb
        have hf := HF.out
        rw [oneF, if_pos hor] at hf
        have HNE := Lib.hid (fun n => nest_any HI.out (HPA.out.drewN n) HS.out.hi ⟨HS.out.lo, by have := HS.out.top; omega⟩)
        have hne := nestP_pos st
        by_cases hn : (nestP st).err.isNone = true
        · rw [if_pos hn] at hf
          rw [hn] at HNE
          cases hx : oneF l n (nestP st).step with
          | none => rw [hx] at hf; cases hf
          | some p =>
            obtain ⟨e1, s1⟩ := p
            rw [hx] at hf
            have hstk : PStOk l (nestP st).step := by
              obtain ⟨-, h2, h3⟩ := nestP_ok (none_of hn)
              rw [h3]
              exact ⟨by show st.pos + 1 ≤ l.length; omega, by show 0 ≤ st.deep + 1; have := HS.out.lo; omega, by show st.deep + 1 ≤ 13; omega, fun _ => h2⟩
            have hs1 := hstk.went ((went_expr l n).one _ e1 s1 hstk.hi hx)
            have hd1 := hs1.lo
            have hd2 := hs1.top
            have hxs : e = ⟨yOne, 0, oneX k, [e1]⟩ ∧ s' = s1.up := by rw [← HT.out]; cases hf; exact ⟨rfl, rfl⟩
            have HXS := Lib.hid hxs
            have HEX : Hid (∀ w', PaAt E l pb A c w0 (nestP st).step w' → Calls Tryd.prog 66 #[.pointer (some ⟨pb, 0, none⟩)] w' (ExPost E l pb A c w0 e1 s1 w')) := fun w' hw => HIH.out.one _ e1 s1 w' hstk hx hw
            obtain ⟨pn, hpn⟩ : ∃ pn, nestP st = pn := ⟨_, rfl⟩
            rw [hpn] at HNE HEX hne
            have hpos : (pn.pos : Int) ≤ 100000 := by omega
            have hwp : IntKind.i64.wrap ((pn.pos : Int) + 1) = (pn.pos : Int) + 1 := IntWalk.i64_in _ (by omega)
            clear hf hx hstk hs1 hn hpn hxs hb hse htk htx hpl hor hne
            go_upto_region 5 with (first
              | (go_at_call 42; (with_reducible refine HISK.out.mono ?_); rintro y w2 ⟨rfl, n2, rfl⟩)
              | (go_at_call 44; (with_reducible refine (HNE.out n2).mono ?_); rintro y w2 ⟨rfl, h2, hb2⟩; obtain ⟨v2, -, c1, -, -, -⟩ := h2.cells; have z1 := h2.frozen 1; have H2 := Lib.hid (And.intro h2 ((HBT.out.drewN n2).trans hb2)); clear h2 hb2))
            go_upto_region 6 with fail
            obtain ⟨w3, hw3⟩ : ∃ w3, w2.setCell ⟨pb, 1, none⟩ (.int .i64 ((pn.pos : Int) + 1)) = w3 := ⟨_, rfl⟩
            have h3 : PaAt E l pb A c w0 pn.step w3 := by rw [← hw3]; exact H2.out.1.setPos (pn.pos + 1)
            have hb3 : But pb wA w3 := by rw [← hw3]; exact H2.out.2.set 1 _
            rw [hw3]
            have H3 := Lib.hid (And.intro h3 hb3)
            clear hw3 h3 hb3 c1 z1
            go_upto_region 7 with (go_at_call 66; (with_reducible refine (HEX.out _ H3.out.1).mono ?_); rintro y w4 ⟨B, d, rfl, hB, hN, h4, hb4⟩; rw [show exV e1 B d = .agg #[.string (mkB e1.kind), .int .i64 e1.num, .string (mkB e1.name), .slice B e1.kids.length d] from rfl]; have H4 := Lib.hid (And.intro hB (And.intro hN (And.intro h4 hb4))); clear hB hN h4 hb4)
            obtain ⟨kb, hkb⟩ : ∃ kb, w4.heap.size = kb := ⟨_, rfl⟩
            obtain ⟨wK, hwK⟩ : ∃ wK, w4.alloc (.cells #[.string (mkB e1.kind), .int .i64 e1.num, .string (mkB e1.name), .slice B e1.kids.length d] 42) = wK := ⟨_, rfl⟩
            obtain ⟨w5, hw5⟩ : ∃ w5, wK.alloc (.cells #[.string ⟨#[111, 110, 101]⟩, .int .i64 0, .string xk, .slice (some ⟨kb, 0, none⟩) 1 1] 42) = w5 := ⟨_, rfl⟩
            have hzK : wK.heap.size = kb + 1 := by rw [← hwK, ← hkb]; simp
            have hbK : Below w4.heap.size w4 wK := by rw [← hwK]; exact grow_alloc (grow_refl _) _
            have hbK5 : Below wK.heap.size wK w5 := by rw [← hw5]; exact grow_alloc (grow_refl _) _
            have hb5 : Below w4.heap.size w4 w5 := grow_trans hbK hbK5
            have hmK : w5.heap[kb]? = some (.cells #[.string (mkB e1.kind), .int .i64 e1.num, .string (mkB e1.name), .slice B e1.kids.length d] 42 (0, 0)) := (hbK5.block _ (by omega)).trans (by rw [← hwK, ← hkb]; exact heap_alloc_new w4 _)
            have hm5 : w5.heap[kb + 1]? = some (.cells #[.string ⟨#[111, 110, 101]⟩, .int .i64 0, .string xk, .slice (some ⟨kb, 0, none⟩) 1 1] 42 (0, 0)) := by rw [← hw5, ← hzK]; exact heap_alloc_new wK _
            have h5 := H4.out.2.2.1.keep hb5
            have hpe : pb < kb := by have := H4.out.2.2.1.lt; omega
            have hre : rb + 1 < kb := by
              have h1 := H3.out.2.size
              have h2 := H4.out.2.2.2.size
              have h3 := HPL.out.2.2
              omega
            have HM5 := Lib.hid (And.intro hmK hm5)
            have H5 := Lib.hid (And.intro h5 hb5)
            have HKB := Lib.hid (And.intro hkb hzK)
            have HW5 := Lib.hid (And.intro hwK hw5)
            obtain ⟨v6, -, -, c2, -, -⟩ := h5.cells
            have z2 := h5.frozen 2
            clear hwK hw5 hkb hzK hbK hbK5 hb5 hmK hm5 h5
            rw [HKB.out.1]
            rw [HW5.out.1, HW5.out.2]
            go_upto_region 8 with fail
            obtain ⟨w7, hw7⟩ : ∃ w7, w5.setCell ⟨pb, 2, none⟩ (.int .i64 (s1.deep - 1)) = w7 := ⟨_, rfl⟩
            have h7 : PaAt E l pb A c w0 s1.up w7 := by rw [← hw7]; exact H5.out.1.setDeep (s1.deep - 1)
            have hb57 : But pb w5 w7 := by rw [← hw7]; exact (But.refl pb w5).set 2 _
            have hb17 : But pb wA w7 := H3.out.2.trans (H4.out.2.2.2.trans ((But.of_below H5.out.2).trans hb57))
            have hm7 := hb57.row HM5.out.2 (by omega)
            have hk7 := hb57.row HM5.out.1 (by omega)
            have hr7 := (HR.out _ hb17).1
            obtain ⟨e0, e1', e2, e3⟩ := row4T hm7
            obtain ⟨r0, r1, r2, r3⟩ := row4T hr7
            have y0 := row_frozen hr7 0
            have y1 := row_frozen hr7 1
            have y2 := row_frozen hr7 2
            have y3 := row_frozen hr7 3
            have HR7 := Lib.hid hr7
            rw [hw7]
            have H7 := Lib.hid (And.intro h7 (And.intro hb57 (And.intro hb17 hk7)))
            clear hw7 h7 hb57 hb17 hm7 hr7 hk7 c2 z2
            go_wp2_with fail
            obtain ⟨u0, u1, u2, u3⟩ := row4T (set4T (v0 := .string ⟨#[111, 110, 101]⟩) (v1 := .int .i64 0) (v2 := .string xk) (v3 := .slice (some ⟨kb, 0, none⟩) 1 1) HR7.out)
            refine bodyPost_ret (v := .agg #[.string ⟨#[111, 110, 101]⟩, .int .i64 0, .string xk, .slice (some ⟨kb, 0, none⟩) 1 1]) (by simp [results, Tryd.results66, go_sem, u0, u1, u2, u3]; try rfl) rfl ?_
            rw [← HQ.out]
            obtain ⟨hB, hN, h4, hb4⟩ := H4.out
            rw [HXS.out.1, HXS.out.2]
            refine ⟨some ⟨kb, 0, none⟩, 1, by rw [← HXK.out]; rfl, ?_, okN0, H7.out.1.set4 HR7.out HPL.out.2.1, (HBA.out.trans H7.out.2.2.1).set4 (by rw [HWA.out.2.2.1]; omega)⟩
            have hwr : w.heap.size ≤ kb := by rw [HWA.out.2.2.1]; omega
            refine RdE.one (d := d) ((far4T (by omega)).trans H7.out.2.2.2) ?_ hN hwr
            refine ((hB.lt.keep (((But.of_below H5.out.2).trans H7.out.2.1).keepsIn fun k hk => ?_) fun k hk => hk) : RdE w7 _ e1.kids B).set4 fun k hk => ?_
            · have h1 : w3.heap.size ≤ k := hk.1
              have h2 := H3.out.1.lt
              omega
            · have h1 : w3.heap.size ≤ k := hk.1
              have h2 := H3.out.2.size
              have h3 := HPL.out.2.2
              refine ⟨by omega, ?_⟩
              show w.heap.size ≤ k
              rw [HWA.out.2.2.1]
              omega
        · rw [if_neg hn] at hf
          rw [(Bool.not_eq_true _).mp hn] at HNE
          have hok : PStOk l (nestP st) := HS.out.went (nest_bad HS.out.hi hse (some_of hn))
          have HN : Hid (OneAt l st e s' (k + 1) (nestP st)) := show OneAt l st e s' (k + 1) (nestP st) by
            cases hf
            exact .inr ⟨some_of hn, rfl, rfl, hok.hi, hok⟩
          clear hf hn hok hb hse htk htx hpl hor hne
          go_wp2_with (first
            | (go_at_call 42; (with_reducible refine HISK.out.mono ?_); rintro y w2 ⟨rfl, n2, rfl⟩)
            | (go_at_call 44; (with_reducible refine (HNE.out n2).mono ?_); rintro y w2 ⟨rfl, h2, hb2⟩; have H2 := Lib.hid (And.intro h2 ((HBT.out.drewN n2).trans hb2)); clear h2 hb2))
          go_roundw
          case rel => exact ⟨k + 1, _, by omega, by go_num, HN.out, H2.out⟩
          case measure => simp [intOf]; omega
    · have hk2 : k = 2 := by omega
      subst hk2
      have HAT2 : Hid (Calls Tryd.prog 68 #[.pointer (some ⟨pb, 0, none⟩)] wr (ExPost E l pb A c w0 e s' wr)) := show Calls _ _ _ _ _ by
        rcases HAT.out with ⟨h1, h2⟩ | ⟨h1, h2, h3, h4, h5⟩
        · subst h1
          have hf := HF.out
          rw [oneF, if_neg (by rw [show isP l st [45] = false from h2 0 (by omega), show isP l st [33] = false from h2 1 (by omega)]; decide)] at hf
          exact HIH.out.atom st e s' wr HS.out hf HPA.out
        · have := atom_bad HI.out h5 (fun q => h1 q.1) HPA.out
          rw [failP_old h1] at this
          rw [h2, h3]
          exact this
      clear hr hsb hpa hbt hat hlt hk
      go_wp2_with (go_at_call 68; (with_reducible refine HAT2.out.mono ?_); rintro y w4 ⟨B, d, rfl, hB, hN, h4, hb4⟩; rw [show exV e B d = .agg #[.string (mkB e.kind), .int .i64 e.num, .string (mkB e.name), .slice B e.kids.length d] from rfl]; have hr4 := (HR.out w4 (HBT.out.trans hb4)).1; obtain ⟨r0, r1, r2, r3⟩ := row4T hr4; have y0 := row_frozen hr4 0; have y1 := row_frozen hr4 1; have y2 := row_frozen hr4 2; have y3 := row_frozen hr4 3; have H4 := Lib.hid (And.intro hB (And.intro hN (And.intro h4 (And.intro hb4 hr4)))); clear hB hN h4 hb4 hr4)
      obtain ⟨hB, hN, h4, hb4, hr4⟩ := H4.out
      obtain ⟨u0, u1, u2, u3⟩ := row4T (set4T (v0 := .string (mkB e.kind)) (v1 := .int .i64 e.num) (v2 := .string (mkB e.name)) (v3 := .slice B e.kids.length d) hr4)
      refine bodyPost_ret (v := exV e B d) (by simp [results, Tryd.results66, go_sem, u0, u1, u2, u3]; try rfl) rfl ?_
      rw [← HQ.out]
      have h9 := HBT.out.size
      have h8 := HPL.out.2.2
      refine ⟨B, d, rfl, hB.set4 fun k hk => ?_, hN, h4.set4 hr4 HPL.out.2.1, ((HBA.out.trans HBT.out).trans hb4).set4 (by rw [HWA.out.2.2.1]; omega)⟩
      have h1 : wr.heap.size ≤ k := hk
      refine ⟨by omega, ?_⟩
      show w.heap.size ≤ k
      rw [HWA.out.2.2.1]
      omega
end
end Go.Proofs.YtpfgimohginbdaaDoor
