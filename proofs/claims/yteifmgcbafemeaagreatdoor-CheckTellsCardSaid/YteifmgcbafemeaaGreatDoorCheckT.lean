import Derived.Test.YteifmgcbafemeaaGreatDoorCheckX
namespace Go.Proofs.YteifmgcbafemeaaGreatDoor
open Go.RowKit

/-! checker.add, stmt, block -/
/-- Cells that hold no texts stand, but for block p. -/
def KpC (p : Nat) (w w' : World) : Prop := ∀ k cs T fz, k ≠ p → T ≠ 9 → w.heap[k]? = some (.cells cs T fz) → w'.heap[k]? = some (.cells cs T fz)
theorem KpC.refl (p : Nat) (w : World) : KpC p w w := fun _ _ _ _ _ _ h => h
theorem KpC.trans {p : Nat} {a b c : World} (h : KpC p a b) (k : KpC p b c) : KpC p a c := fun i cs T fz h1 h2 h3 => k i cs T fz h1 h2 (h i cs T fz h1 h2 h3)
theorem KpC.below {p : Nat} {w w' : World} (h : Below w.heap.size w w') : KpC p w w' := fun i _ _ _ _ _ h3 => (h.block i (Array.getElem?_eq_some_iff.1 h3).1).trans h3
theorem KpC.store (p j : Nat) (w : World) (u : Value) : KpC p w (w.setCell ⟨p, j, none⟩ u) := fun i _ _ _ h1 _ h3 => (Below.heap_setCell _ _ _ _ h1).trans h3
theorem KpC.append {p base n : Nat} {w w' : World} {v : Value} {xs : List Value} {o : Obj} (h : w.ownsRow base 9 1 v n xs) (hg : (w.alloc o).grownBy w' v.ownBlock) : KpC p w w' := fun k cs T fz _ h2 h3 => by
  have hlt := (Array.getElem?_eq_some_iff.1 h3).1
  rw [hg.block k (by simp; omega) (fun q => ?_), old_block _ _ hlt]
  · exact h3
  · rcases h.2 with ⟨q2, _⟩ | ⟨g, cap, cur, q2, _, q4, _⟩
    · rw [q2] at q; cases q
    · rw [q2] at q
      simp only [Value.ownBlock, Option.some.injEq] at q
      subst q
      rw [q4] at h3
      injection h3 with h3
      injection h3 with _ h3 _
      exact h2 h3.symm
/-- What a call on a checker leaves. -/
structure ChkPost (base p b n : Nat) (fs : Tab) (c : Nat) (all vis : List Nm) (w w' : World) : Prop where
  bel : Below base w w'
  kp : KpC p w w'
  chk : c = 0 → ChkAt base p b n fs all vis w'
theorem strVs_snoc (l : List Nm) (x : Nm) : strVs (l ++ [x]) = strVs l ++ [.string (mkB x)] := by simp [strVs]
theorem strInfo2 : (Tryz.prog.info? 9).map (fun i => (i.zero, i.size, i.bytes)) = some (some (.string ⟨#[]⟩), 1, 16) := by kernel_rfl
theorem setRow_owns {w : World} {base p j : Nat} {e : TypeId} {size : Nat} {v : Value} {n : Nat} {xs : List Value} (u : Value) (h : w.ownsRow base e size v n xs) (hp : v.ownBlock ≠ some p) : (w.setCell ⟨p, j, none⟩ u).ownsRow base e size v n xs :=
  h.kept (row := some p) ⟨rfl, rfl, rfl, by simp [World.setCell], fun k _ hk => Below.heap_setCell _ _ _ _ (fun e => hk (by simp [e]))⟩ (.inr hp)
theorem addC_has {name : Nm} {all vis : List Nm} (h : all.contains name = true) : addC name all vis = (7, all, vis) := by unfold addC; rw [if_pos h]
theorem addC_full {name : Nm} {all vis : List Nm} (h : all.contains name = false) (hl : 12 ≤ all.length) : addC name all vis = (8, all, vis) := by unfold addC; rw [if_neg (by rw [h]; decide), if_pos hl]
theorem addC_yes {name : Nm} {all vis : List Nm} (h : all.contains name = false) (hl : ¬ 12 ≤ all.length) : addC name all vis = (0, all ++ [name], vis ++ [name]) := by unfold addC; rw [if_neg (by rw [h]; decide), if_neg hl]
theorem kept_hne {a r : Option Nat} (h : r = none ∨ a ≠ r) : a = none ∨ a ≠ r := by
  rcases h with rfl | h
  · cases a <;> simp
  · exact .inr h
set_option maxHeartbeats 4000000 in
set_option maxRecDepth 100000 in
theorem add_any (E : Nat → Addr) (base p b n : Nat) (fs : Tab) (all vis : List Nm) (name : Nm) (w : World) (hE : Laid E w) (h : ChkAt base p b n fs all vis w) (hal : all.length ≤ 1000) (hvl : vis.length ≤ 1000) :
    Calls Tryz.prog 93 #[.pointer (some ⟨p, 0, none⟩), .string (mkB name)] w fun e w' => e = .returned (eV E (addC name all vis).1) ∧ ChkPost base p b n fs (addC name all vis).1 (addC name all vis).2.1 (addC name all vis).2.2 w w' := by
  obtain ⟨v, s, h1, h2, h3, h4, h5, h6⟩ := h.cells
  have hlow := h.low
  have hplt := h.lt
  have hmlt := h.mlt
  have HM := Lib.hid h.map
  have HBR : Hid (Below base w w) := Below.refl _ _
  obtain ⟨A, c, rfl, hrow, hcap⟩ := owns_Row h2
  obtain ⟨B, d, rfl, -, hcap2⟩ := owns_Row h3
  have p1 : w.cell? ⟨p, 1, none⟩ = some (.slice A all.length c) := cell_of_row _ _ 1 _ _ _ h1
  have HCON := Lib.hid (fun w' (hb : Below w.heap.size w w') => has_any all name A c w' (hrow.keep (Keeps.of_below hb)) (by omega))
  have g6 := hE.c6
  have g7 := hE.c7
  cases hc : all.contains name
  · rw [hc] at HCON
    by_cases hl : 12 ≤ all.length
    · have q1 : (12 : Int) ≤ (all.length : Int) := by omega
      rw [addC_full hc hl]
      clear h1 h2 h3 h4 h5 h6 hE hrow hc hl
      have HH := Lib.hid h
      clear h
      go_enter Tryz.func93, Tryz.ntmps93
      go_wp2_with (go_at_call 36; (with_reducible refine (HCON.out _ (Below.refl _ _)).mono ?_); rintro x w1 ⟨rfl, rfl⟩)
      go_ret
      exact ⟨rfl, Below.refl _ _, KpC.refl _ _, fun e => by cases e⟩
    · have q1 : ¬ (12 : Int) ≤ (all.length : Int) := by omega
      rw [addC_yes hc hl]
      obtain ⟨i0, hi, hz0, hz1, hz2⟩ := info_parts strInfo2
      have HO1 := Lib.hid h2
      have HO2 := Lib.hid h3
      have H1 := Lib.hid h1
      have H4 := Lib.hid h4
      have H5 := Lib.hid h5
      have H6 := Lib.hid h6
      have z1 := row_frozen h1 1
      have z2 := row_frozen h1 2
      have HLT : Hid (p < w.heap.size) := Lib.hid hplt
      have HLO := Lib.hid (⟨hlow, hmlt⟩ : base ≤ p ∧ b < base)
      clear h1 h2 h3 h4 h5 h6 hE hrow hc hl h hplt hlow hmlt
      go_enter Tryz.func93, Tryz.ntmps93
      go_wp2_with (first
        | (go_at_call 36; (with_reducible refine (HCON.out _ (Below.refl _ _)).mono ?_); rintro x w1 ⟨rfl, rfl⟩)
        | (at_builtin; refine wpList_append_own_at _ rfl _ _ 35 rfl base 9 i0 _ 1 16 Tryz.underlying35 hi hz0 hz1 hz2 rfl (by decide) _ _ _ rfl (HO1.out.alloc _) ⟨w1.heap.size, 0, none⟩ 1 1 [.string (mkB name)] rfl rfl ?c1 ?c2 ?c3 ?c4 ?c5 ?_))
      case c1 =>
        intro i u hu
        match i, hu with
        | 0, hu => simp at hu; subst hu; simp [Addr.add]
      case c2 => intro u hu; simp at hu; subst hu; rfl
      case c3 => unfold maxLen; omega
      case c4 => omega
      case c5 => have := HLO.out.1; have := HLT.out; simp; omega
      · intro v' w2 hown' hgrow _ hat
        obtain ⟨A', c', rfl⟩ := owns_slice hown'
        have hlt := HLT.out
        have hold : w2.heap[p]? = some (.cells #[.map (some b), .slice A all.length c, .slice B vis.length d] 109 (0, 0)) := by
          rw [hgrow.block p (by simp; omega) (fun q => H4.out q.symm), old_block _ _ hlt]; exact H1.out
        have hb1 : Below base w1 w2 := Below.grown ((Below.refl base w1).alloc (Nat.le_trans HLO.out.1 (Nat.le_of_lt hlt)) _) hgrow (by simp; have := HLO.out.1; omega) (fun k hk => (HO1.out.lt k hk).1)
        have ho2 : w2.ownsRow base 9 1 (.slice B vis.length d) vis.length (strVs vis) := (HO2.out.alloc _).kept hgrow (by rcases H6.out with q | q; exact .inl q; exact .inr (fun e => q e.symm))
        have hne : (Value.slice A' (all.length + 1) c').ownBlock ≠ some p := by
          rcases hat with e | e
          · rw [e]; exact H4.out
          · rw [e]; intro q; simp at q; omega
        have hap : (Value.slice B vis.length d).ownBlock = none ∨ (Value.slice A' (all.length + 1) c').ownBlock ≠ (Value.slice B vis.length d).ownBlock := by
          rcases H6.out with q | q
          · exact .inl q
          · right
            rcases hat with e | e
            · rw [e]; exact q
            · rw [e]; intro q2; have := (HO2.out.lt _ q2.symm).2; omega
        have hm2 : MapAt w2 b n (tabF fs) := HM.out.keep (hb1.block b HLO.out.2)
        have HKP1 : Hid (KpC p w1 w2) := KpC.append HO1.out hgrow
        have hsz2 : w1.heap.size + 1 ≤ w2.heap.size := by have := hgrow.size; simpa using this
        have HW1 : Hid (w2.ownsRow base 9 1 (.slice A' (all.length + 1) c') (all ++ [name]).length (strVs (all ++ [name]))) := show World.ownsRow _ _ _ _ _ _ _ by
          rw [strVs_snoc, List.length_append]; exact hown'
        have hr3 := row_set (j := 1) (cs' := #[.map (some b), .slice A' (all.length + 1) c', .slice B vis.length d]) (.slice A' (all.length + 1) c') hold (by simp)
        have f1 : w2.cell? ⟨p, 1, none⟩ = some (.slice A all.length c) := cell_of_row _ _ 1 _ _ _ hold
        have y1 : w2.frozen? ⟨p, 1, none⟩ = false := row_frozen hold 1
        have f2 : (w2.setCell ⟨p, 1, none⟩ (.slice A' (all.length + 1) c')).cell? ⟨p, 2, none⟩ = some (.slice B vis.length d) := cell_of_row _ _ 2 _ _ _ hr3
        have ho3 := setRow_owns (p := p) (j := 1) (.slice A' (all.length + 1) c') ho2 H5.out
        have HO3 := Lib.hid ho3
        have HR3 := Lib.hid hr3
        have HB1 := Lib.hid hb1
        have HNE := Lib.hid hne
        have HAP := Lib.hid hap
        have HM2 := Lib.hid hm2
        clear hown' hgrow hat hold hb1 ho2 hne hap hm2 hr3 ho3 p1 g6 g7 z1 z2 HCON
        go_wp2_with (at_builtin; refine wpList_append_own_at _ rfl _ _ 35 rfl base 9 i0 _ 1 16 Tryz.underlying35 hi hz0 hz1 hz2 rfl (by decide) _ _ _ rfl (HO3.out.alloc _) ⟨w2.heap.size, 0, none⟩ 1 1 [.string (mkB name)] rfl rfl ?d1 ?d2 ?d3 ?d4 ?d5 ?_)
        case d1 =>
          intro i u hu
          match i, hu with
          | 0, hu => simp at hu; subst hu; simp only [Addr.add, Nat.add_zero]; exact cell_of_row _ _ 0 _ _ _ (new_block _ _ (by simp))
        case d2 => intro u hu; simp at hu; subst hu; rfl
        case d3 => unfold maxLen; omega
        case d4 => omega
        case d5 => have := HLO.out.1; simp; omega
        · intro v3 w4 hown4 hgrow4 _ hat4
          obtain ⟨B', d', rfl⟩ := owns_slice hown4
          have hp2 : p < w2.heap.size := by omega
          have hold4 : w4.heap[p]? = some (.cells #[.map (some b), .slice A' (all.length + 1) c', .slice B vis.length d] 109 (0, 0)) := by
            rw [hgrow4.block p (by simp; omega) (fun q => H5.out q.symm), old_block _ _ (by simp; omega)]; exact HR3.out
          have hb4 : Below base w1 w4 := Below.grown ((HB1.out.setCell HLO.out.1 _).alloc (by simp; have := HLO.out.1; omega) _) hgrow4 (by simp; have := HLO.out.1; omega) (fun k hk => (HO3.out.lt k hk).1)
          have ho4 := ((setRow_owns (p := p) (j := 1) (.slice A' (all.length + 1) c') HW1.out HNE.out).alloc (.cells #[.string (mkB name)] 9)).kept hgrow4 (kept_hne HAP.out)
          have hne4 : (Value.slice B' (vis.length + 1) d').ownBlock ≠ some p := by
            rcases hat4 with e | e
            · rw [e]; exact H5.out
            · rw [e]; intro q; simp at q; omega
          have f3 : w4.cell? ⟨p, 2, none⟩ = some (.slice B vis.length d) := cell_of_row _ _ 2 _ _ _ hold4
          have y3 : w4.frozen? ⟨p, 2, none⟩ = false := row_frozen hold4 2
          have HR4 := Lib.hid hold4
          have HB4 := Lib.hid hb4
          have HO4 := Lib.hid ho4
          have HN4 := Lib.hid hne4
          have HAT4 := Lib.hid hat4
          have HW4 : Hid (w4.ownsRow base 9 1 (.slice B' (vis.length + 1) d') (vis ++ [name]).length (strVs (vis ++ [name]))) := show World.ownsRow _ _ _ _ _ _ _ by
            rw [strVs_snoc, List.length_append]; exact hown4
          have HKP4 : Hid (KpC p w1 w4) := show KpC p w1 w4 from (HKP1.out.trans (KpC.store p 1 w2 _)).trans (KpC.append HO3.out hgrow4)
          have hsz4 : w2.heap.size + 1 ≤ w4.heap.size := by have := hgrow4.size; simpa using this
          clear hold4 hb4 ho4 hne4 hown4 hgrow4 hat4
          go_wp2_with fail
          go_ret
          refine ⟨rfl, HB4.out.setCell HLO.out.1 _, HKP4.out.trans (KpC.store p 2 w4 _), fun _ => ⟨HLO.out.1, by simp; omega, HLO.out.2, HM.out.keep (((HB4.out.setCell HLO.out.1 _).block b HLO.out.2)), _, _, row_set (j := 2) (cs' := #[.map (some b), .slice A' (all.length + 1) c', .slice B' (vis.length + 1) d']) _ HR4.out (by simp), ?_, setRow_owns _ HW4.out HN4.out, HNE.out, HN4.out, ?_⟩⟩
          · exact setRow_owns _ HO4.out HNE.out
          · right
            rcases HAT4.out with e | e
            · rw [e]
              rcases HAP.out with q | q
              · rw [q]; intro e2
                exact absurd (show (Value.slice A' (all.length + 1) c').ownBlock = none from e2) (by
                  have := HW1.out.2
                  rcases this with ⟨q2, q3⟩ | ⟨g, _, _, q2, _⟩
                  · simp at q3
                  · injection q2 with q2 _ _; rw [q2]; simp [Value.ownBlock])
              · exact q
            · rw [e]; intro q2; have := (HW1.out.lt _ q2).2; omega
  · rw [hc] at HCON
    rw [addC_has hc]
    clear h1 h2 h3 h4 h5 h6 hE hrow hc
    have HH := Lib.hid h
    clear h
    go_enter Tryz.func93, Tryz.ntmps93
    go_wp2_with (go_at_call 36; (with_reducible refine (HCON.out _ (Below.refl _ _)).mono ?_); rintro x w1 ⟨rfl, rfl⟩)
    go_ret
    exact ⟨rfl, Below.refl _ _, KpC.refl _ _, fun e => by cases e⟩
end Go.Proofs.YteifmgcbafemeaaGreatDoor
