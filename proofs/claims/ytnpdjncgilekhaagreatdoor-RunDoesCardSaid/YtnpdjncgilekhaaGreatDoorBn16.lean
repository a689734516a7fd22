import Derived.Deep.CutBlock
import Derived.BigRegion
import Derived.Test.YtnpdjncgilekhaaGreatDoorBn15
namespace Go.Proofs.YtnpdjncgilekhaaGreatDoor
open Go.RowKit

/-! the document's check -/
def opsN : List Nm := [[43], [45], [42], [47], [37], [38], [124], [94], [60, 60], [62, 62], [60], [60, 61], [61, 61], [33, 61]]
theorem isTwoB_ops (n : Nm) : isTwoB n = opsN.contains n := by
  cases h : opsN.contains n
  · have k : ∀ x ∈ opsN, ¬ ((n == x) = true) := fun x hx e => by
      have : n = x := by simpa using e
      subst this
      rw [List.contains_iff_mem.2 hx] at h
      cases h
    unfold isTwoB doV orderV
    rw [if_neg (k _ (by decide)), if_neg (k _ (by decide)), if_neg (k _ (by decide)), if_neg (k _ (by decide)), if_neg (k _ (by decide)), if_neg (k _ (by decide)), if_neg (k _ (by decide)), if_neg (k _ (by decide)), if_neg (k _ (by decide)), if_neg (k _ (by decide)),
      if_neg (k _ (by decide)), if_neg (k _ (by decide)), if_neg (k _ (by decide)), if_neg (k _ (by decide))]
    rfl
  · have := List.contains_iff_mem.1 h
    simp only [opsN, List.mem_cons, List.not_mem_nil, or_false] at this
    rcases this with rfl | rfl | rfl | rfl | rfl | rfl | rfl | rfl | rfl | rfl | rfl | rfl | rfl | rfl <;> rfl
theorem isOneB_eq (n : Nm) : isOneB n = ((n == [45]) || (n == [33])) := by
  unfold isOneB oneV
  split
  · rename_i h; simp [h]
  · split
    · rename_i h; simp [h]
    · simp_all
theorem isTwo_any (n : Nm) (w : World) : Calls Tryz.prog 95 #[.string (mkB n)] w (Ret (.bool (isTwoB n)) w) := by
  have H := Lib.hid (isTwoB_ops n)
  have HR : Hid (∀ w', Row w' (some ⟨w.heap.size, 0, none⟩) (strVs opsN) → Calls Tryz.prog 38 #[.string (mkB n), .slice (some ⟨w.heap.size, 0, none⟩) 14 14] w' fun e w'' => e = .returned (.bool (opsN.contains n)) ∧ w'' = w') := fun w' hr => isin_any opsN n _ 14 w' hr (by decide)
  have HN : Hid (Row (w.alloc (.cells #[.string ⟨#[43]⟩, .string ⟨#[45]⟩, .string ⟨#[42]⟩, .string ⟨#[47]⟩, .string ⟨#[37]⟩, .string ⟨#[38]⟩, .string ⟨#[124]⟩, .string ⟨#[94]⟩, .string ⟨#[60, 60]⟩, .string ⟨#[62, 62]⟩, .string ⟨#[60]⟩, .string ⟨#[60, 61]⟩, .string ⟨#[61, 61]⟩, .string ⟨#[33, 61]⟩] 9)) (some ⟨w.heap.size, 0, none⟩) (strVs opsN)) :=
    show Row _ _ _ from Row.new w (strVs opsN).toArray 9
  cases hc : opsN.contains n
  all_goals
    rw [hc] at HR H
    clear hc
    go_enter Tryz.func95, Tryz.ntmps95
    go_wp2_with (first
      | (go_at_call 106; go_in)
      | (go_at_call 38; (with_reducible refine (HR.out _ HN.out).mono ?_); rintro e w' ⟨rfl, rfl⟩))
    go_ret
    exact ⟨by rw [H.out]; rfl, grow_alloc (grow_refl _) _⟩
theorem isOne_any (n : Nm) (w : World) : Calls Tryz.prog 94 #[.string (mkB n)] w fun e w' => e = .returned (.bool (isOneB n)) ∧ w' = w := by
  have H : Hid (isOneB n = (((mkB n).toList == [45]) || ((mkB n).toList == [33]))) := show _ = _ by rw [isOneB_eq, mkB_toList]
  cases h1 : ((mkB n).toList == [45]) <;> cases h2 : ((mkB n).toList == [33])
  all_goals
    rw [h1, h2] at H
    go_enter Tryz.func94, Tryz.ntmps94
    go_wp2_with fail
    go_ret
    exact ⟨by rw [H.out]; rfl, rfl⟩
theorem argsOf_step {fs : List PFun} {x : Nm} {k : Nat} (h : k < fs.length) : argsOf (tabOf (fs.drop k)) x = if fs[k].name == x then some fs[k].params.length else argsOf (tabOf (fs.drop (k + 1))) x := by
  rw [List.drop_eq_getElem_cons h]
  unfold argsOf tabOf
  rw [List.map_cons, List.find?_cons]
  cases fs[k].name == x <;> rfl
theorem krow4 {w : World} {q : Nat} {v0 v1 v2 v3 : Value} {T : TypeId} {fz : Nat × Nat} (hrow : w.heap[q]? = some (.cells #[v0, v1, v2, v3] T fz)) :
    w.cell? ⟨q, 0, none⟩ = some v0 ∧ w.cell? ⟨q, 1, none⟩ = some v1 ∧ w.cell? ⟨q, 2, none⟩ = some v2 ∧ w.cell? ⟨q, 3, none⟩ = some v3 :=
  ⟨cell_of_row _ _ 0 _ _ _ hrow, cell_of_row _ _ 1 _ _ _ hrow, cell_of_row _ _ 2 _ _ _ hrow, cell_of_row _ _ 3 _ _ _ hrow⟩
def rexprO (e : PExpr) (A : Option Addr) (c : Nat) : Obj := .cells #[.string (mkB e.kind), .int .i64 e.num, .string (mkB e.name), .slice A e.kids.length c] 95
/-- A Known at block p. -/
structure KnAt (base p : Nat) (F : Option Addr) (nf cf : Nat) (all vis : List Nm) (w : World) : Prop where
  low : base ≤ p
  lt : p < w.heap.size
  cells : ∃ v s, w.heap[p]? = some (.cells #[.slice F nf cf, .bool true, v, s] 113 (0, 0)) ∧ w.ownsRow base 9 1 v all.length (strVs all) ∧ w.ownsRow base 9 1 s vis.length (strVs vis) ∧
    v.ownBlock ≠ some p ∧ s.ownBlock ≠ some p ∧ (s.ownBlock = none ∨ v.ownBlock ≠ s.ownBlock)
theorem KnAt.keep {base p : Nat} {F : Option Addr} {nf cf : Nat} {all vis : List Nm} {w w' : World} (h : KnAt base p F nf cf all vis w) (hb : Below w.heap.size w w') : KnAt base p F nf cf all vis w' := by
  obtain ⟨v, s, h1, h2, h3, h4, h5, h6⟩ := h.cells
  exact ⟨h.low, Nat.lt_of_lt_of_le h.lt hb.size, v, s, (hb.block p h.lt).trans h1, ownsRow_below h2 hb, ownsRow_below h3 hb, h4, h5, h6⟩
theorem KnAt.base_le {base p : Nat} {F : Option Addr} {nf cf : Nat} {all vis : List Nm} {w : World} (h : KnAt base p F nf cf all vis w) : base ≤ w.heap.size := by have := h.low; have := h.lt; omega
set_option maxHeartbeats 8000000 in
set_option maxRecDepth 100000 in
theorem rexpr_any (base p : Nat) (fs : List PFun) (F : Option Addr) (cf : Nat) (hf : fs.length ≤ 10) (all vis : List Nm) (hv : vis.length ≤ 1000) : ∀ e : PExpr, SmE e → ∀ (S : Nat → Prop) (A : Option Addr) (c : Nat) (w : World), KnAt base p F fs.length cf all vis w → RdF w (fun k => k < base) fs F → RdE w S e.kids A →
    Calls Tryz.prog 78 #[.pointer (some ⟨p, 0, none⟩), exprV e A c] w (Ret (.int .i64 (exprC (tabOf fs) vis e : Nat)) w) := by
  intro e
  induction e using PExpr.ind with
  | h e ih =>
  intro hsm S A c w hC hF hr
  have h8 := hsm.len
  have h20 := hsm.nameLen
  have hn1 := IsName_any e.name
  unfold strV at hn1
  obtain ⟨b0, hb0⟩ : ∃ b, nmOk e.name = b := ⟨_, rfl⟩
  rw [hb0] at hn1
  have HN := Lib.hid hn1
  have HN0 := Lib.hid hb0
  clear hb0
  have HI2 := Lib.hid (isTwo_any e.name)
  have HI1 := Lib.hid (isOne_any e.name)
  have hbx : Below w.heap.size w (w.alloc (rexprO e A c)) := grow_alloc (grow_refl _) _
  have HBX := Lib.hid hbx
  have HBK := Lib.hid (heap_alloc_new w (rexprO e A c))
  have IH : Hid (∀ (i : Nat) (hi : i < e.kids.length) (S : Nat → Prop) (A : Option Addr) (c : Nat) (w : World), KnAt base p F fs.length cf all vis w → RdF w (fun k => k < base) fs F → RdE w S e.kids[i].kids A →
    Calls Tryz.prog 78 #[.pointer (some ⟨p, 0, none⟩), exprV e.kids[i] A c] w (Ret (.int .i64 (exprC (tabOf fs) vis e.kids[i] : Nat)) w)) :=
    fun i hi => ih _ (List.getElem_mem hi) (hsm.kid _ (List.getElem_mem hi))
  have HCK := Lib.hid hC
  have HR := Lib.hid hr
  have HFF := Lib.hid hF
  clear ih hC hr hF hbx hsm hn1
  unfold exprV at *
  unfold rexprO at *
  go_enter Tryz.func78, Tryz.ntmps78
  go_upto_block 0 with (go_at_call 55; (with_reducible refine (HN.out _).mono ?_); rintro y w1 ⟨rfl, hb1⟩; have HK1 := Lib.hid ((hb1.block w.heap.size (by simp)).trans HBK.out); have HB1 := Lib.hid (grow_trans HBX.out hb1); obtain ⟨d0, d1, d2, d3⟩ := krow4 HK1.out)
  go_cut [7] (fun v wx => v = .bool (bareB e) ∧ Below w1.heap.size w1 wx)
  case first =>
    by_cases k0 : e.kind = xNum
    · have g0 : ((mkB e.kind).toList == [110, 117, 109]) = true := by rw [mkB_toList, k0]; rfl
      have hb := bareB_num k0
      rw [empty_mkB, isEmpty_len e.kids] at hb
      have HB := Lib.hid hb
      clear k0 hb
      by_cases q1 : 0 ≤ e.num
      · cases h2 : (mkB e.name).toList.isEmpty
        · have HF : Hid (bareB e = false) := show _ = _ by rw [HB.out, h2]; simp
          go_wp2_with fail
          go_meet
          exact ⟨by rw [HF.out], Below.refl _ _⟩
        · by_cases h3 : e.kids.length = 0
          · have q3 : ((e.kids.length : Int) == 0) = true := by rw [h3]; rfl
            have HF : Hid (bareB e = true) := show _ = _ by rw [HB.out, h2, h3]; simp [q1]
            clear h3
            go_wp2_with fail
            go_meet
            exact ⟨by rw [HF.out], Below.refl _ _⟩
          · have q3 : ((e.kids.length : Int) == 0) = false := beq_eq_false_iff_ne.2 (by omega)
            have HF : Hid (bareB e = false) := show _ = _ by rw [HB.out, decide_eq_false h3]; simp
            clear h3
            go_wp2_with fail
            go_meet
            exact ⟨by rw [HF.out], Below.refl _ _⟩
      · have HF : Hid (bareB e = false) := show _ = _ by rw [HB.out, decide_eq_false q1]; simp
        go_wp2_with fail
        go_meet
        exact ⟨by rw [HF.out], Below.refl _ _⟩
    · have g0 : ((mkB e.kind).toList == [110, 117, 109]) = false := by rw [mkB_toList]; exact beq_eq_false_iff_ne.2 k0
      by_cases k1 : e.kind = xName
      · have g1 : ((mkB e.kind).toList == [110, 97, 109, 101]) = true := by rw [mkB_toList, k1]; rfl
        have hb := bareB_name k1
        rw [isEmpty_len e.kids] at hb
        have HB := Lib.hid hb
        clear k0 k1 hb
        cases h1 : (e.num == 0)
        · have HF : Hid (bareB e = false) := show _ = _ by rw [HB.out, h1]; simp
          go_wp2_with fail
          go_meet
          exact ⟨by rw [HF.out], Below.refl _ _⟩
        · cases b0
          · have HF : Hid (bareB e = false) := show _ = _ by rw [HB.out, HN0.out]; simp
            go_wp2_with fail
            go_meet
            exact ⟨by rw [HF.out], Below.refl _ _⟩
          · by_cases h3 : e.kids.length = 0
            · have q3 : ((e.kids.length : Int) == 0) = true := by rw [h3]; rfl
              have HF : Hid (bareB e = true) := show _ = _ by rw [HB.out, h1, HN0.out, decide_eq_true h3]; rfl
              clear h3
              go_wp2_with fail
              go_meet
              exact ⟨by rw [HF.out], Below.refl _ _⟩
            · have q3 : ((e.kids.length : Int) == 0) = false := beq_eq_false_iff_ne.2 (by omega)
              have HF : Hid (bareB e = false) := show _ = _ by rw [HB.out, decide_eq_false h3]; simp
              clear h3
              go_wp2_with fail
              go_meet
              exact ⟨by rw [HF.out], Below.refl _ _⟩
      · have g1 : ((mkB e.kind).toList == [110, 97, 109, 101]) = false := by rw [mkB_toList]; exact beq_eq_false_iff_ne.2 k1
        by_cases k2 : e.kind = xCall
        · have g2 : ((mkB e.kind).toList == [99, 97, 108, 108]) = true := by rw [mkB_toList, k2]; rfl
          have HB := Lib.hid (bareB_call k2)
          clear k0 k1 k2
          cases h1 : (e.num == 0) <;> cases b0
          all_goals
            rw [h1, HN0.out] at HB
            go_wp2_with fail
            go_meet
            exact ⟨by rw [HB.out]; rfl, Below.refl _ _⟩
        · have g2 : ((mkB e.kind).toList == [99, 97, 108, 108]) = false := by rw [mkB_toList]; exact beq_eq_false_iff_ne.2 k2
          by_cases k3 : e.kind = xOne
          · have g3 : ((mkB e.kind).toList == [111, 110, 101]) = true := by rw [mkB_toList, k3]; rfl
            have HB := Lib.hid (bareB_one k3)
            clear k0 k1 k2 k3
            cases h1 : (e.num == 0)
            · have HF : Hid (bareB e = false) := show _ = _ by rw [HB.out, h1]; simp
              go_wp2_with fail
              go_meet
              exact ⟨by rw [HF.out], Below.refl _ _⟩
            · cases h2 : isOneB e.name
              · have HF : Hid (bareB e = false) := show _ = _ by rw [HB.out, h2]; simp
                rw [h2] at HI1
                go_wp2_with (go_at_call 94; (with_reducible refine (HI1.out _).mono ?_); rintro y w2 ⟨rfl, rfl⟩)
                go_meet
                exact ⟨by rw [HF.out], Below.refl _ _⟩
              · rw [h2] at HI1
                by_cases h3 : e.kids.length = 1
                · have q3 : ((e.kids.length : Int) == 1) = true := by rw [h3]; rfl
                  have HF : Hid (bareB e = true) := show _ = _ by rw [HB.out, h1, h2, decide_eq_true h3]; rfl
                  clear h3
                  go_wp2_with (go_at_call 94; (with_reducible refine (HI1.out _).mono ?_); rintro y w2 ⟨rfl, rfl⟩)
                  go_meet
                  exact ⟨by rw [HF.out], Below.refl _ _⟩
                · have q3 : ((e.kids.length : Int) == 1) = false := beq_eq_false_iff_ne.2 (by omega)
                  have HF : Hid (bareB e = false) := show _ = _ by rw [HB.out, decide_eq_false h3]; simp
                  clear h3
                  go_wp2_with (go_at_call 94; (with_reducible refine (HI1.out _).mono ?_); rintro y w2 ⟨rfl, rfl⟩)
                  go_meet
                  exact ⟨by rw [HF.out], Below.refl _ _⟩
          · have g3 : ((mkB e.kind).toList == [111, 110, 101]) = false := by rw [mkB_toList]; exact beq_eq_false_iff_ne.2 k3
            by_cases k4 : e.kind = xTwo
            · have g4 : ((mkB e.kind).toList == [116, 119, 111]) = true := by rw [mkB_toList, k4]; rfl
              have HB := Lib.hid (bareB_two k4)
              clear k0 k1 k2 k3 k4
              cases h1 : (e.num == 0)
              · have HF : Hid (bareB e = false) := show _ = _ by rw [HB.out, h1]; simp
                go_wp2_with fail
                go_meet
                exact ⟨by rw [HF.out], Below.refl _ _⟩
              · cases h2 : isTwoB e.name
                · have HF : Hid (bareB e = false) := show _ = _ by rw [HB.out, h2]; simp
                  rw [h2] at HI2
                  go_wp2_with (go_at_call 95; (with_reducible refine (HI2.out _).mono ?_); rintro y w2 ⟨rfl, hb2⟩)
                  go_meet
                  exact ⟨by rw [HF.out], hb2⟩
                · rw [h2] at HI2
                  by_cases h3 : e.kids.length = 2
                  · have q3 : ((e.kids.length : Int) == 2) = true := by rw [h3]; rfl
                    have HF : Hid (bareB e = true) := show _ = _ by rw [HB.out, h1, h2, decide_eq_true h3]; rfl
                    clear h3
                    go_wp2_with (go_at_call 95; (with_reducible refine (HI2.out _).mono ?_); rintro y w2 ⟨rfl, hb2⟩)
                    go_meet
                    exact ⟨by rw [HF.out], hb2⟩
                  · have q3 : ((e.kids.length : Int) == 2) = false := beq_eq_false_iff_ne.2 (by omega)
                    have HF : Hid (bareB e = false) := show _ = _ by rw [HB.out, decide_eq_false h3]; simp
                    clear h3
                    go_wp2_with (go_at_call 95; (with_reducible refine (HI2.out _).mono ?_); rintro y w2 ⟨rfl, hb2⟩)
                    go_meet
                    exact ⟨by rw [HF.out], hb2⟩
            · have g4 : ((mkB e.kind).toList == [116, 119, 111]) = false := by rw [mkB_toList]; exact beq_eq_false_iff_ne.2 k4
              have HF := Lib.hid (bareB_none k0 k1 k2 k3 k4)
              clear k0 k1 k2 k3 k4
              go_wp2_with fail
              go_meet
              exact ⟨by rw [HF.out], Below.refl _ _⟩
  case rest =>
    rename_i v7 wx
    obtain ⟨rfl, hbx⟩ := hcut
    have HBW := Lib.hid (grow_trans HB1.out hbx)
    have HKX := Lib.hid ((hbx.block w.heap.size (Array.getElem?_eq_some_iff.1 HK1.out).1).trans HK1.out)
    obtain ⟨f0, f1, f2, f3⟩ := krow4 HKX.out
    clear d0 d1 d2 d3 hbx HI1 HI2 HN HN0
    cases hba : bareB e
    · have HE := Lib.hid (exprC_bad (fs := tabOf fs) (vis := vis) hba)
      go_wp2_with fail
      go_ret
      exact ⟨by rw [HE.out]; rfl, HBW.out⟩
    · have HBA := Lib.hid hba
      clear hba
      go_wp2_with fail
      go_loopw [8, 9] (fun i _ wr => ∃ k : Nat, k ≤ e.kids.length ∧ i = .int .i64 k ∧ kidsC (tabOf fs) vis e.kids = kidsC (tabOf fs) vis (e.kids.drop k) ∧ Below w.heap.size w wr ∧ wr.heap[w.heap.size]? = some (rexprO e A c)) (fun i _ _ => e.kids.length - (intOf i).toNat)
      case atStart => exact ⟨0, Nat.zero_le _, rfl, by simp, HBW.out, HKX.out⟩
      case round =>
        obtain ⟨k, hk, rfl, hI, hbel, hbox⟩ := hrel
        have HI := Lib.hid hI
        clear hI
        unfold rexprO at hbox
        have HBOX := Lib.hid hbox
        obtain ⟨d0, d1, d2, d3⟩ := krow4 hbox
        clear hbox f0 f1 f2 f3
        by_cases hlt : k < e.kids.length
        · obtain ⟨b', off, B, d, rfl, -, hcells, hnum, hkid⟩ := (HR.out.keep ((Keeps.of_below hbel).in S) (fun _ h => h)).at hlt
          obtain ⟨c0, c1, c2, c3⟩ := cells_expr hcells
          have hlt' : (k : Int) < (e.kids.length : Int) := by omega
          have hst := kidsC_step (fs := tabOf fs) (vis := vis) hlt
          have hcode := exprC_code (tabOf fs) vis e.kids[k]
          have hkc := IH.out k hlt S B d wr (HCK.out.keep hbel) (HFF.out.keep ((Keeps.of_below hbel).in _) (fun _ h => h)) hkid
          obtain ⟨z, hz⟩ : ∃ z, exprC (tabOf fs) vis e.kids[k] = z := ⟨_, rfl⟩
          rw [hz] at hkc hst hcode
          have HKC := Lib.hid hkc
          clear hcells hkid hnum hz hkc
          by_cases h0 : z = 0
          · subst h0
            rw [if_pos rfl] at hst
            have HS := Lib.hid hst
            rw [show ((0 : Nat) : Int) = 0 from rfl] at HKC
            clear hst
            go_wp2_with (go_at_call 78; (with_reducible refine HKC.out.mono ?_); rintro x w2 ⟨rfl, hb2⟩)
            go_roundw
            case rel => exact ⟨k + 1, by omega, by go_num, HI.out.trans HS.out, grow_trans hbel hb2, (hb2.block _ (Array.getElem?_eq_some_iff.1 HBOX.out).1).trans HBOX.out⟩
            case measure => simp [intOf]; omega
          · rw [if_neg h0] at hst
            have hne : kidsC (tabOf fs) vis e.kids ≠ 0 := by rw [HI.out, hst]; exact h0
            have HF : Hid (exprC (tabOf fs) vis e = z) := show _ = _ by rw [exprC_kid HBA.out hne, HI.out, hst]
            have hz0 : (0 : Int) < (z : Int) := by omega
            clear hst hne h0
            go_wp2_with (go_at_call 78; (with_reducible refine HKC.out.mono ?_); rintro x w2 ⟨rfl, hb2⟩)
            go_ret
            exact ⟨by rw [HF.out]; rfl, grow_trans hbel hb2⟩
        · have hk' : k = e.kids.length := by omega
          subst hk'
          have h0 : kidsC (tabOf fs) vis e.kids = 0 := by rw [HI.out, List.drop_length, kidsC_nil]
          have hself := exprC_self HBA.out h0
          have hck := HCK.out.keep hbel
          obtain ⟨v, s, q1, -, q3, -⟩ := hck.cells
          obtain ⟨A', c', rfl, hrow, -⟩ := owns_Row q3
          have p0 : wr.cell? ⟨p, 0, none⟩ = some (.slice F fs.length cf) := cell_of_row _ _ 0 _ _ _ q1
          have p1 : wr.cell? ⟨p, 1, none⟩ = some (.bool true) := cell_of_row _ _ 1 _ _ _ q1
          have p3 : wr.cell? ⟨p, 3, none⟩ = some (.slice A' vis.length c') := cell_of_row _ _ 3 _ _ _ q1
          have HCON := Lib.hid (fun w' (hb : Below wr.heap.size wr w') => isin_any vis e.name A' c' w' (hrow.keep (Keeps.of_below hb)) (by omega))
          clear hck q1 q3 hrow h0
          by_cases hn : e.kind = xName
          · have t0 : ((mkB e.kind).toList == [110, 97, 109, 101]) = true := by rw [mkB_toList, hn]; rfl
            have t1 : ((mkB e.kind).toList != [99, 97, 108, 108]) = true := by rw [mkB_toList, hn]; rfl
            have t2 : ((mkB e.kind).toList == [99, 97, 108, 108]) = false := by rw [mkB_toList, hn]; rfl
            cases hc : vis.contains e.name
            · have HF : Hid (exprC (tabOf fs) vis e = 6) := show _ = _ by rw [hself]; unfold selfC; rw [if_pos hn, hc]; rfl
              rw [hc] at HCON
              clear hn hself hc
              go_wp2_with fail
              go_quiet ((go_at_call 38; exact Calls.quiet_of_same (HCON.out _ (grow_drew (Below.refl _ _) _))))
              go_wp2_with fail
              go_ret
              exact ⟨by rw [HF.out]; rfl, grow_drew hbel _⟩
            · have HF : Hid (exprC (tabOf fs) vis e = 0) := show _ = _ by rw [hself]; unfold selfC; rw [if_pos hn, hc]; rfl
              rw [hc] at HCON
              clear hn hself hc
              go_wp2_with fail
              go_quiet ((go_at_call 38; exact Calls.quiet_of_same (HCON.out _ (grow_drew (Below.refl _ _) _))))
              go_wp2_with fail
              go_ret
              exact ⟨by rw [HF.out]; rfl, grow_drew hbel _⟩
          · have t0 : ((mkB e.kind).toList == [110, 97, 109, 101]) = false := by rw [mkB_toList]; exact beq_eq_false_iff_ne.2 hn
            by_cases hcl : e.kind = xCall
            · have t1 : ((mkB e.kind).toList != [99, 97, 108, 108]) = false := by rw [mkB_toList, hcl]; rfl
              have t2 : ((mkB e.kind).toList == [99, 97, 108, 108]) = true := by rw [mkB_toList, hcl]; rfl
              have HF : Hid (exprC (tabOf fs) vis e = callC (tabOf fs) e.name e.kids.length) := show _ = _ by rw [hself]; unfold selfC; rw [if_neg hn, if_pos hcl]
              clear hn hself hcl HCON
              go_wp2_with fail
              go_quiet (fail)
              go_wp2_with fail
              rename_i nq _
              go_loopw [10] (fun i wt => ∃ (j m : Nat), j ≤ fs.length ∧ i = .int .i64 j ∧ argsOf (tabOf fs) e.name = argsOf (tabOf (fs.drop j)) e.name ∧ wt = wr.drewN m) (fun i _ => fs.length - (intOf i).toNat)
              case atStart => exact ⟨0, _, Nat.zero_le _, rfl, by simp, rfl⟩
              case round =>
                obtain ⟨j, m, hj, rfl, hJ, rfl⟩ := hrel
                have HJ := Lib.hid hJ
                clear hJ
                by_cases hlt2 : j < fs.length
                · obtain ⟨b2, off2, P2, p2, B2, d2', e2, -, hcells2, -, -⟩ := (HFF.out.keep ((Keeps.of_below hbel).in _) (fun _ h => h)) j hlt2
                  subst e2
                  obtain ⟨g0, g1, -⟩ := cells_fun hcells2
                  have hlt2' : (j : Int) < (fs.length : Int) := by omega
                  have HST := Lib.hid (argsOf_step (x := e.name) hlt2)
                  clear hcells2
                  cases hnm : (fs[j].name == e.name)
                  · have r1 : ((mkB fs[j].name).toList == (mkB e.name).toList) = false := by rw [mkB_toList, mkB_toList]; exact hnm
                    rw [hnm] at HST
                    clear hnm
                    go_wp2_with fail
                    go_quiet (fail)
                    go_wp2_with fail
                    go_roundw
                    case rel => exact ⟨j + 1, _, by omega, by go_num, HJ.out.trans HST.out, rfl⟩
                    case measure => simp [intOf]; omega
                  · have r1 : ((mkB fs[j].name).toList == (mkB e.name).toList) = true := by rw [mkB_toList, mkB_toList]; exact hnm
                    rw [hnm] at HST
                    have HA : Hid (argsOf (tabOf fs) e.name = some fs[j].params.length) := show _ = _ from HJ.out.trans HST.out
                    clear hnm
                    by_cases hq : fs[j].params.length = e.kids.length
                    · have r2 : ((fs[j].params.length : Int) != (e.kids.length : Int)) = false := by rw [hq]; simp
                      have HZ := Lib.hid (callC_yes HA.out hq)
                      clear hq
                      go_wp2_with fail
                      go_quiet (fail)
                      go_wp2_with fail
                      go_ret
                      exact ⟨by rw [HF.out, HZ.out]; rfl, grow_drew hbel _⟩
                    · have r2 : ((fs[j].params.length : Int) != (e.kids.length : Int)) = true := by rw [bne_iff_ne]; omega
                      have HZ := Lib.hid (callC_no HA.out hq)
                      clear hq
                      go_wp2_with fail
                      go_quiet (fail)
                      go_wp2_with fail
                      go_ret
                      exact ⟨by rw [HF.out, HZ.out]; rfl, grow_drew hbel _⟩
                · have hj' : j = fs.length := by omega
                  subst hj'
                  have HZ : Hid (callC (tabOf fs) e.name e.kids.length = 6) := show _ = _ from callC_none (by rw [HJ.out, List.drop_length]; rfl)
                  go_wp2_with fail
                  go_ret
                  exact ⟨by rw [HF.out, HZ.out]; rfl, grow_drew hbel _⟩
            · have t1 : ((mkB e.kind).toList != [99, 97, 108, 108]) = true := by rw [mkB_toList, bne_iff_ne]; exact hcl
              have t2 : ((mkB e.kind).toList == [99, 97, 108, 108]) = false := by rw [mkB_toList]; exact beq_eq_false_iff_ne.2 hcl
              have HF : Hid (exprC (tabOf fs) vis e = 0) := show _ = _ by rw [hself]; unfold selfC; rw [if_neg hn, if_neg hcl]
              clear hn hself hcl HCON
              go_wp2_with fail
              go_quiet (fail)
              go_wp2_with fail
              go_ret
              exact ⟨by rw [HF.out]; rfl, grow_drew hbel _⟩
end Go.Proofs.YtnpdjncgilekhaaGreatDoor

namespace Go.Proofs.YtnpdjncgilekhaaGreatDoor
open Go.RowKit

/-! the reference's run: values -/
def AP (v xv : Value) : Prop := ∀ k, v.ownBlock = some k → xv.ownBlock ≠ some k
section
variable (fs : List PFun) (base m : Nat) (A : Option Addr) (cf T : Nat)
def RvPost (d : Nat) (r : Int × St) (v : Value) (w : World) : Ending → World → Prop := fun en w' => ∃ n : Int, en = .returned (.int .i64 n) ∧ I64 n ∧ (r.2.over = false → n = r.1) ∧ ∃ v', Rn base m A fs.length cf T d r.2 v' w' ∧ Mv base [m] v v' w w'
def RCallR (call : Caller) (t : Tab) (d : Nat) : Prop := ∀ (name : Nm) (l : List Int) (st : St) (v : Value) (B : Option Addr) (c : Nat) (w : World), RdF w (fun k => k < base) fs A → Rn base m A fs.length cf T d st v w → Row w B (intVs l) → (l ≠ [] → ∀ a, B = some a → a.block ≠ m ∧ v.ownBlock ≠ some a.block ∧ a.block < w.heap.size) → (∀ n ∈ l, I64 n) → name.length ≤ 20 → st.over = false → argsOf t name = some l.length →
  Calls Tryz.prog 44 #[.pointer (some ⟨m, 0, none⟩), .string (mkB name), .slice B l.length c] w (RvPost fs base m A cf T d (call name l st) v w)
def RExprR (call : Caller) (d q : Nat) (e : PExpr) : Prop := ∀ (vs : Vs) (st : St) (nv xv v : Value) (X : Option Addr) (c : Nat) (w : World), RdF w (fun k => k < base) fs A → Rn base m A fs.length cf T d st v w → Vr base q nv xv vs w → AP v xv → vs.length ≤ 1000 → RdE w (fun k => k < base) e.kids X → okN e.num → st.over = false →
  Calls Tryz.prog 99 #[.pointer (some ⟨m, 0, none⟩), .pointer (some ⟨q, 0, none⟩), exprV e X c] w (RvPost fs base m A cf T d (evalP call vs e st) v w)
end
section
variable {base m q : Nat} {A : Option Addr} {nf cf T d : Nat} {st : St} {v v' nv xv : Value} {vs : Vs} {w w' : World}
theorem Vr.ne (h : Vr base q nv xv vs w) (k : Rn base m A nf cf T d st v w) : q ≠ m ∧ v.ownBlock ≠ some q ∧ nv.ownBlock ≠ some m ∧ xv.ownBlock ≠ some m :=
  ⟨fun e => by
    have h1 := h.blk
    rw [e, k.blk] at h1
    injection h1 with h1; injection h1 with _ h1 _; exact absurd h1 (by decide),
  own_other k.own h.blk fun cs e => by injection e with _ e _; exact absurd e (by decide),
  own_other h.ns k.blk fun cs e => by injection e with _ e _; exact absurd e (by decide),
  own_other h.xs k.blk fun cs e => by injection e with _ e _; exact absurd e (by decide)⟩
/-- A value leaves the variables. -/
theorem Vr.mv (h : Vr base q nv xv vs w) (k : Rn base m A nf cf T d st v w) (ap : AP v xv) (hm : Mv base [m] v v' w w') : Vr base q nv xv vs w' ∧ AP v' xv := by
  obtain ⟨h1, h2, h3, h4⟩ := h.ne k
  refine ⟨h.same (hm.kp q h.lt (by simpa using h1) h2) (fun i hi => hm.kp i (owns_lt h.ns hi).2 (fun e => h3 (by simp at e; rw [hi, e])) (owns_apart h.ns k.own (by decide) hi)) (fun i hi => hm.kp i (owns_lt h.xs hi).2 (fun e => h4 (by simp at e; rw [hi, e])) (fun e => ap i e hi)), fun i hi => ?_⟩
  rcases hm.nw with e | e
  · exact ap i (by rw [← e]; exact hi)
  · intro e2; have := e i hi; have := (owns_lt h.xs e2).2; omega
theorem over_yes {st : St} (h : st.over = true) : (mkB st.how).toList.isEmpty = false := by
  rw [mkB_toList]; unfold St.over at h; simpa using h
theorem over_no {st : St} (h : st.over = false) : mkB st.how = (⟨#[]⟩ : ByteArray) := by
  unfold St.over at h
  have : st.how = [] := by simpa using h
  rw [this]; rfl
/-- An append to a row of one's own. -/
theorem grown_rn {e : TypeId} {o : Value} {n bs : Nat} {xs : List Value} {ob : Obj} (h : Rn base m A nf cf T d st v w) (ho : w.ownsRow bs e 1 o n xs) (hT : e ≠ 92) (hne : ∀ k, o.ownBlock = some k → v.ownBlock ≠ some k) (hg : (w.alloc ob).grownBy w' o.ownBlock) :
    Rn base m A nf cf T d st v w' := by
  have hold : ∀ k, k < w.heap.size → o.ownBlock ≠ some k → w'.heap[k]? = w.heap[k]? := fun k hk hn => grown_old hg hk hn
  exact h.same (hold m h.lt (own_other ho h.blk fun cs e => by injection e with _ e _; exact absurd e.symm hT)) fun k hk => hold k (owns_lt h.own hk).2 fun q => hne k q hk
end
theorem doV_some (l : Nm) (a b : Int) : (doV l a b).isSome = (doV l 0 0).isSome := by rw [doV_ops, doV_ops]
theorem evalP_in {call : Caller} {vs : Vs} {e : PExpr} {st : St} (h : st.over = false) : evalP call vs e st = selfP call vs e.kind e.name e.num (kidsP call vs e.kids st) := by rw [evalP_eq, if_neg (by rw [h]; decide)]
theorem self_over {call : Caller} {vs : Vs} {kind name : Nm} {num : Int} {r : List Int × St} (h : r.2.over = true) : selfP call vs kind name num r = (0, r.2) := by unfold selfP; rw [if_pos h]
theorem kids_over {T : Nat} {call : Caller} (hg : GoC T call) (vs : Vs) (ks : List PExpr) {st : St} (h : st.over = true) : (kidsP call vs ks st).2 = st := (go_kids vs ks (fun k _ st => go_eval hg vs k st) st).stop h
set_option maxHeartbeats 8000000 in
set_option maxRecDepth 100000 in
theorem rvalue_any (fs : List PFun) (base m : Nat) (A : Option Addr) (cf T : Nat) (call : Caller) (hg : GoC T call) (t : Tab) (d q : Nat) (hcl : RCallR fs base m A cf T call t d) (e : PExpr) (hwf : WfE t e) (hq : ∀ k ∈ e.kids, RExprR fs base m A cf T call d q k) : RExprR fs base m A cf T call d q e := by
  intro vs st nv xv v X c w hA hR hV hap hvl hX hnum hov
  obtain ⟨i0, hi, hz0, hz1, hz2⟩ := info_parts intInfo
  have hev := evalP_in (call := call) (vs := vs) (e := e) hov
  obtain ⟨rk, hrk⟩ : ∃ rk, kidsP call vs e.kids st = rk := ⟨_, rfl⟩
  rw [hrk] at hev
  have HEV := Lib.hid hev
  have HRK := Lib.hid hrk
  have HQ := Lib.hid hq
  have HA := Lib.hid hA
  have HR := Lib.hid hR
  have HV := Lib.hid hV
  have HX := Lib.hid hX
  have HG := Lib.hid hg
  have HWF := Lib.hid hwf
  have HAP := Lib.hid hap
  have HCL := Lib.hid hcl
  have HNUM := Lib.hid hnum
  have HOV := Lib.hid hov
  have hk8 := hwf.small.1
  have hbl := hR.base_le
  have HB0 := Lib.hid (grow_alloc (grow_refl w) (rexprO e X c))
  have HBK := Lib.hid (heap_alloc_new w (rexprO e X c))
  have HLT : Hid (m < w.heap.size ∧ base ≤ w.heap.size) := ⟨hR.lt, hbl⟩
  clear hev hrk hq hA hR hV hX hg hwf hap hcl hnum hov
  unfold exprV
  unfold rexprO at *
  go_enter Tryz.func99, Tryz.ntmps99
  go_wp2_with fail
  go_loopw [7, 8, 9] (fun o i _ wr => ∃ (k : Nat) (l : List Int) (sk : St) (vk : Value), k ≤ e.kids.length ∧ i = .int .i64 k ∧ l.length = k ∧ wr.ownsRow w.heap.size 3 1 o k (intVs l) ∧ (∀ n ∈ l, I64 n) ∧ (∀ j, o.ownBlock = some j → vk.ownBlock ≠ some j) ∧ KidsTo call vs e.kids st k l sk ∧ sk.over = false ∧ Rn base m A fs.length cf T d sk vk wr ∧ Mv base [m] v vk w wr ∧ wr.heap[w.heap.size]? = some (.cells #[.string (mkB e.kind), .int .i64 e.num, .string (mkB e.name), .slice X e.kids.length c] 95 (0, 0))) (fun _ i _ _ => e.kids.length - (intOf i).toNat)
  case atStart => exact ⟨0, [], st, v, Nat.zero_le _, rfl, rfl, World.ownsRow_nil _ _ _ _, fun n hn => (by cases hn), fun j hj => (by cases hj), KidsTo.start, HOV.out, HR.out.below HB0.out, Mv.below hbl HB0.out, HBK.out⟩
  case round =>
    obtain ⟨k, l, sk, vk, hk, rfl, hl, hown, hI64, hne, hI, hso, hrn, hmv, hbox⟩ := hrel
    obtain ⟨d0, d1, d2, d3⟩ := row4 hbox
    by_cases hlt : k < e.kids.length
    · obtain ⟨b', off, B, c', rfl, -, hcells, hnk, hkid⟩ := (HX.out.keep (keepsLow hmv.bel) (fun _ h => h)).at hlt
      obtain ⟨c0, c1, c2, c3⟩ := cells_expr hcells
      have hlt' : (k : Int) < (e.kids.length : Int) := by omega
      have hqe := HQ.out e.kids[k] (List.getElem_mem hlt)
      have hstep : ∀ n : Int, ((evalP call vs e.kids[k] sk).2.over = false → n = (evalP call vs e.kids[k] sk).1) → KidsTo call vs e.kids st (k + 1) (l ++ [n]) (evalP call vs e.kids[k] sk).2 := fun n hn => hI.step HG.out hlt hn
      obtain ⟨kid, he⟩ : ∃ kid, e.kids[k] = kid := ⟨_, rfl⟩
      rw [he] at hcells hnk hkid c0 c1 c2 c3 hqe hstep
      obtain ⟨hvr, hapk⟩ := HV.out.mv HR.out HAP.out hmv
      have hcall := hqe vs sk nv xv vk B c' wr (HA.out.keep (keepsLow hmv.bel) (fun _ h => h)) hrn hvr hapk hvl hkid hnk hso
      have hnm : ∀ j, u7.ownBlock = some j → j ∉ [m] := fun j hj => by
        have := own_other hown hrn.blk (fun cs e => by injection e with _ e _; exact absurd e (by decide))
        simp only [List.mem_singleton]
        exact fun q => this (by rw [hj, q])
      have hvb : vk.ownBlock ≠ some w.heap.size := own_other hrn.own hbox fun cs e => by injection e with _ e _; exact absurd e (by decide)
      have hub : u7.ownBlock ≠ some w.heap.size := own_other hown hbox fun cs e => by injection e with _ e _; exact absurd e (by decide)
      have hbx : w.heap.size < wr.heap.size := (Array.getElem?_eq_some_iff.1 hbox).1
      obtain ⟨r, hr⟩ : ∃ r, evalP call vs kid sk = r := ⟨_, rfl⟩
      unfold RvPost at hcall
      rw [hr] at hcall hstep
      unfold exprV at hcall
      have HC := Lib.hid hcall
      have HOW := Lib.hid hown
      have HNE := Lib.hid hne
      have HNM := Lib.hid hnm
      have HST := Lib.hid hstep
      have HMV1 := Lib.hid hmv
      have HL := Lib.hid hl
      have HI := Lib.hid hI64
      have HBX := Lib.hid (And.intro hbox (And.intro hvb (And.intro hub hbx)))
      clear hcall hown hne hnm hstep hmv hqe hI hl hcells hnk hkid he hr hrn hvr hapk hvb hub hbox hI64 hso hbx
      go_upto_region 7 with (first
        | (go_at_call 99; (with_reducible refine HC.out.mono ?_); rintro x1 w1 ⟨n, rfl, hn64, hn, v1, hrn2, hmv2⟩; have HO1 := Lib.hid (owns_same HOW.out fun j hj => hmv2.kp j (owns_lt HOW.out hj).2 (HNM.out j hj) (HNE.out j hj)); have hbox2 := (hmv2.kp _ HBX.out.2.2.2 (by have := HLT.out.1; simp; omega) HBX.out.2.1).trans HBX.out.1; have HN64 := Lib.hid hn64; have HN := Lib.hid hn; have HRN2 := Lib.hid hrn2; have HMV2 := Lib.hid hmv2; have HBOX2 := Lib.hid hbox2; clear hn64 hn hrn2 hmv2 hbox2)
        | (at_builtin; refine wpList_append_own_at _ rfl _ _ 45 rfl w.heap.size 3 i0 _ 1 8 Tryz.underlying45 hi hz0 hz1 hz2 rfl (by decide) _ _ _ rfl (HO1.out.alloc _) ⟨w1.heap.size, 0, none⟩ 1 1 [.int .i64 n] rfl rfl (cell_one_new _ _ _) (fun u hu => by simp at hu; subst hu; rfl) (by unfold maxLen; omega) (by omega) (by have h12 := Nat.le_trans HMV1.out.bel.size HMV2.out.bel.size; simp; omega) ?_; intro v' w2 hown' hgrow _ hat; obtain ⟨A', c'', rfl⟩ := owns_slice hown'; have HOWN := Lib.hid hown'; have HGROW : Hid ((w1.alloc (.cells #[.int .i64 n] 3)).grownBy w2 (Value.ownBlock u7)) := hgrow; have HAT : Hid ((Value.slice A' (k + 1) c'').ownBlock = Value.ownBlock u7 ∨ (Value.slice A' (k + 1) c'').ownBlock = some (w1.heap.size + 1)) := hat.elim (fun e => .inl e) (fun e => .inr (e.trans (by simp))); clear hown' hgrow hat))
      have hnv : ∀ j, u7.ownBlock = some j → v1.ownBlock ≠ some j := fun j hj => by
        rcases HMV2.out.nw with q | q
        · rw [q]; exact HNE.out j hj
        · exact fun e2 => by have := q j e2; have := (owns_lt HOW.out hj).2; omega
      have HRN3 := Lib.hid (grown_rn HRN2.out HO1.out (by decide) hnv HGROW.out)
      have HMV3 := Lib.hid (grown_mv hbl (HMV1.out.trans HMV2.out) HO1.out HGROW.out)
      have HBOX3 := Lib.hid ((grown_old HGROW.out (Nat.lt_of_lt_of_le HBX.out.2.2.2 HMV2.out.bel.size) HBX.out.2.2.1).trans HBOX2.out)
      obtain ⟨-, -, -, -, e4, -, -⟩ := HRN3.out.cells
      cases hro : r.2.over
      · rw [over_no hro] at e4
        have HNE3 : Hid (∀ j, (Value.slice A' (k + 1) c'').ownBlock = some j → v1.ownBlock ≠ some j) := show ∀ j, _ from fun j hj => by
          rcases HAT.out with e2 | e2
          · exact hnv j (by rw [← e2]; exact hj)
          · intro e3
            have h3 := (owns_lt HRN2.out.own e3).2
            rw [e2] at hj
            have hj2 := Option.some.inj hj
            omega
        have HOW3 : Hid (w2.ownsRow w.heap.size 3 1 (.slice A' (k + 1) c'') (k + 1) (intVs (l ++ [n]))) := show World.ownsRow _ _ _ _ _ _ _ by
          rw [intVs_snoc]; exact HOWN.out
        have HST3 := Lib.hid (HST.out n HN.out)
        have HL3 : Hid ((l ++ [n]).length = k + 1) := show _ = _ by rw [List.length_append, HL.out]; rfl
        have HI3 : Hid (∀ x ∈ l ++ [n], I64 x) := fun x hx => by
          rcases List.mem_append.1 hx with hx | hx
          · exact HI.out x hx
          · simp only [List.mem_singleton] at hx; subst hx; exact HN64.out
        have HRO := Lib.hid hro
        clear hnv hro
        go_wp2_with fail
        go_roundw
        case rel => exact ⟨k + 1, l ++ [n], r.2, v1, by omega, by go_num, HL3.out, HOW3.out, HI3.out, HNE3.out, HST3.out, HRO.out, HRN3.out, HMV3.out, HBOX3.out⟩
        case measure => simp [intOf]; omega
      · obtain ⟨hs, ehs⟩ : ∃ hs, mkB r.2.how = hs := ⟨_, rfl⟩
        have eh := over_yes hro
        rw [ehs] at e4 eh
        have HST3 := Lib.hid (HST.out n HN.out)
        have hkk : rk.2 = r.2 := by
          have := HST3.out.1
          rw [HRK.out] at this
          rw [this]; exact kids_over HG.out vs _ hro
        have hres : evalP call vs e st = (0, r.2) := by rw [HEV.out, self_over (by rw [hkk]; exact hro), hkk]
        have HRES := Lib.hid hres
        have HRO := Lib.hid hro
        clear hnv hro hkk hres ehs
        go_wp2_with fail
        go_ret
        unfold RvPost
        rw [HRES.out]
        exact ⟨0, rfl, ⟨by decide, by decide⟩, fun _ => rfl, v1, HRN3.out, HMV3.out⟩
    · have hk' : k = e.kids.length := by omega
      subst hk'
      obtain ⟨hd1, hd2⟩ := hI.done
      rw [HRK.out] at hd1 hd2
      have hd3 := hd2 hso
      have hnl : ¬ ((e.kids.length : Int) < (e.kids.length : Int)) := by omega
      obtain ⟨hvr, hapk⟩ := HV.out.mv HR.out HAP.out hmv
      have hnm := own_other hown hrn.blk (fun cs e => by injection e with _ e _; exact absurd e (by decide))
      have hlts : ∀ j, u7.ownBlock = some j → j < wr.heap.size := fun j hj => (owns_lt hown hj).2
      obtain ⟨A', c', rfl, hcap, hrow⟩ := owns_row hown
      have HAM : Hid (∀ a, A' = some a → a.block ≠ m ∧ vk.ownBlock ≠ some a.block ∧ a.block < wr.heap.size) := fun a ha => ⟨fun e => hnm (by rw [ha, ← e]; rfl), hne a.block (by rw [ha]; rfl), hlts a.block (by rw [ha]; rfl)⟩
      have HROW := Lib.hid hrow
      have HRN := Lib.hid hrn
      have HMV := Lib.hid hmv
      have HVR := Lib.hid hvr
      have HL := Lib.hid hl
      have HLK := Lib.hid hd3
      have HSK := Lib.hid hd1
      have HI := Lib.hid hI64
      have HSO := Lib.hid hso
      have HAA := Lib.hid (HA.out.keep (keepsLow hmv.bel) (fun _ h => h))
      clear hd1 hd2 hd3 hI hown hrn hmv hl hrow hne hnm hlts hvr hapk hI64 hso hbox
      by_cases hk0 : e.kind = xNum
      · have g0 := ekind_yes hk0
        have HS := Lib.hid (selfP_num (call := call) (vs := vs) (name := e.name) (num := e.num) (r := rk) hk0)
        unfold xNum at g0
        clear hk0
        go_wp2_with fail
        go_ret
        unfold RvPost
        rw [HEV.out]
        refine ⟨_, rfl, HNUM.out, fun q => HS.out.2 (by rw [← HS.out.1]; exact q), vk, ?_, HMV.out⟩
        rw [HS.out.1, HSK.out]; exact HRN.out
      · by_cases hk1 : e.kind = xName
        · have g0 := ekind_no hk0
          have g1 := ekind_yes hk1
          have HS := Lib.hid (selfP_name (call := call) (vs := vs) (name := e.name) (num := e.num) (r := rk) hk1)
          unfold xNum at g0; unfold xName at g1
          clear hk0 hk1
          go_wp2_with (go_at_call 110; (with_reducible refine (get_any HVR.out hvl e.name).mono ?_); rintro y w3 ⟨rfl, n3, rfl⟩)
          go_ret
          unfold RvPost
          rw [HEV.out]
          refine ⟨_, rfl, getV_I64 HVR.out.ok _, fun q => HS.out.2 (by rw [← HS.out.1]; exact q), vk, ?_, HMV.out.drewN _⟩
          rw [HS.out.1, HSK.out]; exact HRN.out.drewN _
        · by_cases hk3 : e.kind = xOne
          · have g0 := ekind_no hk0
            have g1 := ekind_no hk1
            have g3 := ekind_yes hk3
            have HS := Lib.hid (selfP_one (call := call) (vs := vs) (name := e.name) (num := e.num) (r := rk) hk3)
            have hb := HWF.out.bare
            rw [bareB_one hk3] at hb
            simp only [Bool.and_eq_true, decide_eq_true_eq] at hb
            have hl0 : (0 : Int) < (e.kids.length : Int) := by omega
            have hl1 : 0 < e.kids.length := by omega
            obtain ⟨bA, oA, n0, rfl, hcA, hl2⟩ := one_row HROW.out (HL.out.trans hb.2)
            have hsome : (oneV e.name n0).isSome = true := by rw [oneV_some e.name n0 0]; exact hb.1.2
            obtain ⟨u, hu⟩ := Option.isSome_iff_exists.1 hsome
            have HO : Hid (∀ w', Calls Tryz.prog 111 #[.string (mkB e.name), .int .i64 n0] w' fun en w'' => en = .returned (.int .i64 u) ∧ w'' = w') := fun w' => OneOf_any (mkB e.name) n0 u (by rw [mkB_toList]; exact hu) w'
            have HU := Lib.hid hu
            have HL2 := Lib.hid hl2
            unfold xNum at g0; unfold xName at g1; unfold xOne at g3
            clear hk0 hk1 hk3 hb hsome hu hl2
            go_wp2_with fail
            go_quiet ((go_at_call 111; exact Calls.quiet_of_same (HO.out _)))
            go_wp2_with fail
            go_ret
            unfold RvPost
            rw [HEV.out]
            refine ⟨_, rfl, oneV_I64 HU.out, fun q => ?_, vk, ?_, HMV.out.drewN _⟩
            · have := HS.out.2 (by rw [← HS.out.1]; exact q)
              rw [← this, ← HLK.out, HL2.out]
              show u = valOf (oneV e.name n0)
              rw [HU.out]; rfl
            · rw [HS.out.1, HSK.out]; exact HRN.out.drewN _
          · by_cases hk4 : e.kind = xTwo
            · have g0 := ekind_no hk0
              have g1 := ekind_no hk1
              have g3 := ekind_no hk3
              have g4 := ekind_yes hk4
              have HS := Lib.hid (selfP_two (call := call) (vs := vs) (name := e.name) (num := e.num) (r := rk) hk4)
              have hb := HWF.out.bare
              rw [bareB_two hk4] at hb
              simp only [Bool.and_eq_true, decide_eq_true_eq] at hb
              have hl0 : (0 : Int) < (e.kids.length : Int) := by omega
              have hl1 : 0 < e.kids.length := by omega
              have hl3 : (1 : Int) < (e.kids.length : Int) := by omega
              have hl4 : 1 < e.kids.length := by omega
              obtain ⟨bA, oA, n0, n1, rfl, hcA, hcB, hl2⟩ := two_row HROW.out (HL.out.trans hb.2)
              have hsome : (doV e.name n0 n1).isSome = true := by rw [doV_some e.name n0 n1]; exact hb.1.2
              obtain ⟨u, hu⟩ := Option.isSome_iff_exists.1 hsome
              have h64 : I64 n0 := HI.out n0 (by rw [hl2]; simp)
              have HO : Hid (∀ w', Calls Tryz.prog 112 #[.string (mkB e.name), .int .i64 n0, .int .i64 n1] w' fun en w'' => en = .returned (.int .i64 u) ∧ w'' = w') := fun w' => by
                have := DoOf_any (mkB e.name) n0 n1 h64 w'
                rw [mkB_toList, doV_dofV _ _ _ _ hu] at this
                exact this
              have HU : Hid (doV e.name n0 n1 = some u ∧ I64 u) := ⟨hu, by rw [← doV_dofV _ _ _ _ hu]; exact dofV_I64 _ h64 _⟩
              have HL2 := Lib.hid hl2
              unfold xNum at g0; unfold xName at g1; unfold xOne at g3; unfold xTwo at g4
              clear hk0 hk1 hk3 hk4 hb hsome hu hl2 h64
              go_wp2_with fail
              go_quiet ((go_at_call 112; exact Calls.quiet_of_same (HO.out _)))
              go_wp2_with fail
              go_ret
              unfold RvPost
              rw [HEV.out]
              refine ⟨_, rfl, HU.out.2, fun q => ?_, vk, ?_, HMV.out.drewN _⟩
              · have := HS.out.2 (by rw [← HS.out.1]; exact q)
                rw [← this, ← HLK.out, HL2.out]
                show u = valOf (doV e.name n0 n1)
                rw [HU.out.1]; rfl
              · rw [HS.out.1, HSK.out]; exact HRN.out.drewN _
            · have hk2 : e.kind = xCall := by
                have := HWF.out.bare
                by_cases h2 : e.kind = xCall
                · exact h2
                · rw [bareB_none hk0 hk1 h2 hk3 hk4] at this; cases this
              have g0 := ekind_no hk0
              have g1 := ekind_no hk1
              have g3 := ekind_no hk3
              have g4 := ekind_no hk4
              have HS := Lib.hid (selfP_call HG.out (vs := vs) (name := e.name) (num := e.num) (r := rk) hk2 (l := l) (fun _ => HLK.out))
              have hcc := HCL.out e.name l sk vk A' c' wr HAA.out HRN.out HROW.out (fun _ => HAM.out) HI.out HWF.out.small.2 HSO.out (by rw [HL.out]; exact HWF.out.call hk2)
              rw [HL.out] at hcc
              have HCC := Lib.hid hcc
              unfold xNum at g0; unfold xName at g1; unfold xOne at g3; unfold xTwo at g4
              clear hk0 hk1 hk2 hk3 hk4 hcc
              go_wp2_with (go_at_call 44; (with_reducible refine HCC.out.mono ?_); rintro y w3 ⟨n3, rfl, hn64, hn, v3, hrn3, hmv3⟩; have HF := Lib.hid (And.intro hn64 (And.intro hn (And.intro hrn3 hmv3))); clear hn64 hn hrn3 hmv3)
              go_ret
              obtain ⟨q1, q2, q3, q4⟩ := HF.out
              unfold RvPost
              rw [HEV.out]
              obtain ⟨s1, s2⟩ := HS.out
              rw [HSK.out] at s1 s2
              refine ⟨n3, rfl, q1, fun q => ?_, v3, ?_, HMV.out.trans q4⟩
              · rw [s1] at q; rw [q2 q]; exact s2 q
              · rw [s1]; exact q3
end Go.Proofs.YtnpdjncgilekhaaGreatDoor

namespace Go.Proofs.YtnpdjncgilekhaaGreatDoor
open Go.RowKit

/-! the reference's run: what a block moves -/
section
variable (base m q : Nat) (A : Option Addr) (nf cf T : Nat)
structure BSt (d : Nat) (vs : Vs) (st : St) (v nv xv : Value) (w : World) : Prop where
  rn : Rn base m A nf cf T d st v w
  vr : Vr base q nv xv vs w
  ap : AP v xv
end
section
variable {base m q : Nat} {A : Option Addr} {nf cf T d d' : Nat} {st st' : St} {v v' nv xv nv' xv' : Value} {vs vs' : Vs} {w w' w4 : World} {n : Int} {ob : Obj}
theorem BSt.below (h : BSt base m q A nf cf T d vs st v nv xv w) (hb : Below w.heap.size w w') : BSt base m q A nf cf T d vs st v nv xv w' := ⟨h.rn.below hb, h.vr.below hb, h.ap⟩
theorem BSt.val (h : BSt base m q A nf cf T d vs st v nv xv w) (hr : Rn base m A nf cf T d' st' v' w') (hm : Mv base [m] v v' w w') : BSt base m q A nf cf T d' vs st' v' nv xv w' := ⟨hr, (h.vr.mv h.rn h.ap hm).1, (h.vr.mv h.rn h.ap hm).2⟩
theorem BSt.set (h : BSt base m q A nf cf T d vs st v nv xv w) (hv : Vr base q nv' xv' vs' w') (hm' : ∀ v, Mv3 base [q] v nv xv v nv' xv' w w') : BSt base m q A nf cf T d vs' st v nv' xv' w' := by
  have hm := hm' .nilIface
  obtain ⟨h1, h2, h3, h4⟩ := h.vr.ne h.rn
  refine ⟨h.rn.same (hm.kp m h.rn.lt (by simpa using fun e : m = q => h1 e.symm) (by simp [Value.ownBlock]) h3 h4) (fun k hk => ?_), hv, fun k hk => ?_⟩
  · exact hm.kp k (owns_lt h.rn.own hk).2 (fun e => h2 (by simp at e; rw [hk, e])) (by simp [Value.ownBlock]) (owns_apart h.rn.own h.vr.ns (by decide) hk) (h.ap k hk)
  · exact nw_ne hm.mx (owns_lt h.rn.own hk).2 (h.ap k hk)
theorem rprint_put (h : Rn base m A nf cf T d st v w) (hl : ¬ 1000 ≤ st.out.length) (hown : w4.ownsRow base 3 1 v' (st.out.length + 1) (intVs st.out ++ [.int .i64 n])) (hg : (w.alloc ob).grownBy w4 v.ownBlock)
    (hat : v'.ownBlock = v.ownBlock ∨ v'.ownBlock = some (w.heap.size + 1)) : w4.heap[m]? = w.heap[m]? ∧ Rn base m A nf cf T d (printP n st) v' (w4.setCell ⟨m, 5, none⟩ v') ∧ Mv base [m] v v' w (w4.setCell ⟨m, 5, none⟩ v') := by
  have hp : printP n st = { st with out := st.out ++ [n] } := by unfold printP; rw [if_neg hl]
  rw [hp]
  have hm := grown_old hg h.lt h.own_m
  have hne : v'.ownBlock ≠ some m := by
    rcases hat with e | e
    · rw [e]; exact h.own_m
    · rw [e]; intro q; have := h.lt; have := Option.some.inj q; omega
  refine ⟨hm, ⟨h.low, row_set (j := 5) (cs := rnL A nf cf T d st v) v' (hm.trans h.blk) (by unfold rnL; simp), ?_, h.ticks, by simp; omega⟩, ?_, ?_, ?_⟩
  · rw [intVs_snoc, List.length_append]
    exact setRow_owns v' hown hne
  · exact Below.setCell (Below.grown ((Below.refl base w).alloc h.base_le ob) hg (by have := h.base_le; simp; omega) (fun k hk => (owns_lt h.own hk).1)) h.low _
  · intro k h1 h2 h3
    rw [Below.heap_setCell _ _ _ _ (fun e => h2 (by simp only at e; simp [e]))]
    exact grown_old hg h1 h3
  · rcases hat with e | e
    · exact .inl e
    · exact .inr fun k hk => by rw [e] at hk; have := Option.some.inj hk; omega
end
end Go.Proofs.YtnpdjncgilekhaaGreatDoor

namespace Go.Proofs.YtnpdjncgilekhaaGreatDoor
open Go.RowKit

/-! the reference's run: blocks -/
def rstmtO2 (s : PStmt) (X : Option Addr) (x : Nat) (T : Option Addr) (t : Nat) (L : Option Addr) (l : Nat) : Obj := .cells #[.string (mkB s.kind), .string (mkB s.name), .string (mkB s.e.kind), .int .i64 s.e.num, .string (mkB s.e.name), .slice X s.e.kids.length x, .slice T s.th.length t, .slice L s.el.length l] 97
section
variable (fs : List PFun) (base m : Nat) (A : Option Addr) (cf T : Nat)
def RbPost (d q : Nat) (N : List Nm) (z : FS) (v nv xv : Value) (w : World) : Ending → World → Prop := fun en w' => ∃ a : Int, en = .returned (.tuple #[.int .i64 a, .bool z.1.ans.isSome]) ∧ I64 a ∧ a = z.1.ans.getD 0 ∧ OnlyIn z.1.vars N ∧
  ∃ v' nv' xv', BSt base m q A fs.length cf T d z.1.vars z.2 v' nv' xv' w' ∧ Mv3 base [m, q] v nv xv v' nv' xv' w w'
def RBlockR (call : Caller) (d q : Nat) (N : List Nm) (ss : List PStmt) : Prop := ∀ (vs : Vs) (st : St) (v nv xv : Value) (B : Option Addr) (c : Nat) (w : World), OnlyIn vs N → RdF w (fun k => k < base) fs A → BSt base m q A fs.length cf T d vs st v nv xv w → RdS w (fun k => k < base) ss B →
  Calls Tryz.prog 81 #[.pointer (some ⟨m, 0, none⟩), .pointer (some ⟨q, 0, none⟩), .slice B ss.length c] w (RbPost fs base m A cf T d q N (blockP call T ss (⟨vs, none⟩, st)) v nv xv w)
end
section
variable {base m q : Nat} {A : Option Addr} {nf cf T d d' : Nat} {st st' : St} {v v' nv xv nv' xv' : Value} {vs vs' : Vs} {w w' : World}
theorem BSt.box {p : Nat} {cs : Array Value} {fz : Nat × Nat} (h : BSt base m q A nf cf T d vs st v nv xv w) (hb : w.heap[p]? = some (.cells cs 97 fz)) (hm : Mv3 base [m, q] v nv xv v' nv' xv' w w') : w'.heap[p]? = some (.cells cs 97 fz) := by
  have h1 : p ≠ m := fun e => by
    rw [e, h.rn.blk] at hb
    injection hb with hb; injection hb with _ hb _; exact absurd hb (by decide)
  have h2 : p ≠ q := fun e => by
    rw [e, h.vr.blk] at hb
    injection hb with hb; injection hb with _ hb _; exact absurd hb (by decide)
  refine (hm.kp p (Array.getElem?_eq_some_iff.1 hb).1 (by simp [h1, h2]) (own_other h.rn.own hb fun cs e => ?_) (own_other h.vr.ns hb fun cs e => ?_) (own_other h.vr.xs hb fun cs e => ?_)).trans hb
  all_goals (injection e with _ e _; exact absurd e (by decide))
end
/-- What is left, by the run's cell. -/
def leftR (T m : Nat) (w : World) : Nat := match w.cell? ⟨m, 6, none⟩ with
  | some v => T - (intOf v).toNat
  | none => 0
theorem left_rn {base m : Nat} {A : Option Addr} {nf cf T d : Nat} {st : St} {v : Value} {w : World} (h : Rn base m A nf cf T d st v w) : leftR T m w = T - st.ticks := by
  unfold leftR
  rw [h.cells.2.2.2.2.2.2]
  rfl
theorem stopP_none {vs : Vs} {st : St} : stopP (⟨vs, none⟩, st) = st.over := by unfold stopP; simp
set_option maxHeartbeats 16000000 in
set_option maxRecDepth 100000 in
theorem rblock_list2 (fs : List PFun) (base m : Nat) (A : Option Addr) (cf T : Nat) (hT : T ≤ 5000) (call : Caller) (hg : GoC T call) (t : Tab) (d q : Nat) (N : List Nm) (hN12 : N.length ≤ 12) (ss : List PStmt) (hlen : ss.length ≤ 30) (hq : ∀ s ∈ ss, WfS t N s ∧ RExprR fs base m A cf T call d q s.e ∧ RBlockR fs base m A cf T call d q N s.th ∧ RBlockR fs base m A cf T call d q N s.el) : RBlockR fs base m A cf T call d q N ss := by
  intro vs st v nv xv B c w hN hA hB hr
  have HQ := Lib.hid hq
  have HA := Lib.hid hA
  have HB := Lib.hid hB
  have HR := Lib.hid hr
  have HG := Lib.hid hg
  obtain ⟨i0, hi, hz0, hz1, hz2⟩ := info_parts intInfo
  clear hq hA hB hr hg
  go_enter Tryz.func81, Tryz.ntmps81
  go_wp2_with fail
  go_loopw [8] (fun i wr => ∃ (k : Nat) (vk : Vs) (sk : St) (v1 nv1 xv1 : Value), k ≤ ss.length ∧ i = .int .i64 k ∧ blockP call T ss (⟨vs, none⟩, st) = blockP call T (ss.drop k) (⟨vk, none⟩, sk) ∧ OnlyIn vk N ∧ BSt base m q A fs.length cf T d vk sk v1 nv1 xv1 wr ∧ Mv3 base [m, q] v nv xv v1 nv1 xv1 w wr) (fun i _ => ss.length - (intOf i).toNat)
  case atStart => exact ⟨0, vs, st, v, nv, xv, Nat.zero_le _, rfl, rfl, hN, HB.out, Mv3.refl⟩
  case round =>
    obtain ⟨k, vk, sk, v1, nv1, xv1, hk, rfl, hI, hon, hbs, hmv⟩ := hrel
    have HI := Lib.hid hI
    have HMV := Lib.hid hmv
    have HBS := Lib.hid hbs
    obtain ⟨-, -, -, -, c4, c5, -⟩ := hbs.rn.cells
    have hbl := hbs.rn.base_le
    clear hI hmv hbs
    by_cases hlt : k < ss.length
    · have hlt' : (k : Int) < (ss.length : Int) := by omega
      cases hso : sk.over
      · rw [over_no hso] at c4
        obtain ⟨b', off, X, xc, H, h, L, l, rfl, -, hcells, hnum, hX, hTh, hL⟩ := (HR.out.keep (keepsLow HMV.out.bel) (fun _ h => h)).at hlt
        obtain ⟨g0, g1, g2, g3, g4, g5, g6, g7⟩ := cells_stmt hcells
        have hst := blockP_step call T hlt (⟨vk, none⟩, sk)
        rw [if_neg (by rw [stopP_none, hso]; decide)] at hst
        obtain ⟨hwf, hqe, hqt, hql⟩ := HQ.out ss[k] (List.getElem_mem hlt)
        obtain ⟨s, hs⟩ : ∃ s, ss[k] = s := ⟨_, rfl⟩
        rw [hs] at hcells hnum hX hTh hL g0 g1 g2 g3 g4 g5 g6 g7 hst hwf hqe hqt hql
        obtain ⟨wb, hwb⟩ : ∃ wb, wr.alloc (rstmtO2 s X xc H h L l) = wb := ⟨_, rfl⟩
        have hal0 : Below wr.heap.size wr wb := by rw [← hwb]; exact grow_alloc (grow_refl _) _
        have hbs1 := HBS.out.below hal0
        have hmv1 : Mv3 base [m, q] v nv xv v1 nv1 xv1 w wb := HMV.out.trans (Mv3.below hbl hal0)
        obtain ⟨p, hp⟩ : ∃ p, wr.heap.size = p := ⟨_, rfl⟩
        have hbk : wb.heap[p]? = some (rstmtO2 s X xc H h L l) := by rw [← hwb, ← hp]; exact heap_alloc_new wr _
        unfold rstmtO2 at hbk
        have hX1 := hX.keep (keepsLow (hal0.mono hbl)) (fun _ h => h)
        have HTH := Lib.hid (hTh.keep (keepsLow (hal0.mono hbl)) (fun _ h => h))
        have HL := Lib.hid (hL.keep (keepsLow (hal0.mono hbl)) (fun _ h => h))
        have hA1 := HA.out.keep (keepsLow hmv1.bel) (fun _ h => h)
        have hvl : vk.length ≤ 1000 := by have := hon.len; omega
        have hex := hqe vk sk nv1 xv1 v1 X xc wb hA1 hbs1.rn hbs1.vr hbs1.ap hvl hX1 hnum hso
        have HX := Lib.hid hX1
        have HAA := Lib.hid hA1
        have HBS1 := Lib.hid hbs1
        have HMV1 := Lib.hid hmv1
        have HBK := Lib.hid hbk
        have HST := Lib.hid hst
        have HWF := Lib.hid hwf
        have HQE := Lib.hid hqe
        have HQT := Lib.hid hqt
        have HQL := Lib.hid hql
        have HNUM := Lib.hid hnum
        have HSO := Lib.hid hso
        clear hcells hnum hX hTh hL hst hwf hqe hqt hql hal0 hbs1 hmv1 hs hX1 hA1 hso
        go_upto_region 5 with fail
        change Code.wp _ _ _ _ (wr.alloc (rstmtO2 s X xc H h L l))
        rw [hwb]
        try rw [hp]
        obtain ⟨d0, d1, d2, d3, d4, d5, d6, d7⟩ := row8 hbk
        clear hwb hp hbk c4 c5 g0 g1 g2 g3 g4 g5 g6 g7
        by_cases hw : s.kind = sWhile
        · have gw := kind_yes hw
          unfold sWhile at gw
          obtain ⟨cond, hcond⟩ : ∃ c : FS → Int × St, c = fun s' => evalP call s'.1.vars s.e s'.2 := ⟨_, rfl⟩
          obtain ⟨body, hbody⟩ : ∃ c : FS → FS, c = fun s' => blockP call T s.th s' := ⟨_, rfl⟩
          have HCO := Lib.hid hcond
          have HBO := Lib.hid hbody
          have HSP : Hid (stmtP call T s (⟨vk, none⟩, sk) = loopP T cond body (T - sk.ticks) (⟨vk, none⟩, sk)) := show _ = _ by
            rw [stmtP_eq, if_pos hw, hcond, hbody]
          have HEND : Hid (∀ z : FS, loopP T cond body (T - sk.ticks) (⟨vk, none⟩, sk) = z → blockP call T ss (⟨vs, none⟩, st) = blockP call T (ss.drop (k + 1)) z) := fun z hz => by rw [HI.out, HST.out, HSP.out, hz]
          clear hcond hbody hw hex
          go_wp2_with fail
          go_loopw [] (fun wl => ∃ (n : Nat) (fk : Vs) (sl : St) (v2 nv2 xv2 : Value), T - sl.ticks ≤ n ∧ loopP T cond body (T - sk.ticks) (⟨vk, none⟩, sk) = loopP T cond body n (⟨fk, none⟩, sl) ∧ OnlyIn fk N ∧ BSt base m q A fs.length cf T d fk sl v2 nv2 xv2 wl ∧ Mv3 base [m, q] v nv xv v2 nv2 xv2 w wl ∧ wl.heap[p]? = some (.cells #[.string (mkB s.kind), .string (mkB s.name), .string (mkB s.e.kind), .int .i64 s.e.num, .string (mkB s.e.name), .slice X s.e.kids.length xc, .slice H s.th.length h, .slice L s.el.length l] 97 (0, 0)) ∧ Below base wb wl) (fun wl => leftR T m wl)
          case atStart => exact ⟨T - sk.ticks, vk, sk, v1, nv1, xv1, Nat.le_refl _, rfl, hon, HBS1.out, HMV1.out, HBK.out, Below.refl _ _⟩
          case round =>
            obtain ⟨n, fk, sl, v2, nv2, xv2, hn, hJ, hon2, hbs2, hmv2, hbox2, hbw⟩ := hrel
            obtain ⟨b0, b1, b2, b3, b4, b5, b6, b7⟩ := row8 hbox2
            obtain ⟨-, -, -, -, f4, -, -⟩ := hbs2.rn.cells
            have htk := rTick_any hbs2.rn hT
            have hleft := left_rn hbs2.rn
            have hvl2 : fk.length ≤ 1000 := by have := hon2.len; omega
            have HJ := Lib.hid hJ
            have HBS2 := Lib.hid hbs2
            have HMV2 := Lib.hid hmv2
            have HBX2 := Lib.hid hbox2
            have HLE := Lib.hid hleft
            have HBW := Lib.hid hbw
            clear hbw
            clear hJ hbs2 hmv2 hbox2 hleft
            cases hsl : sl.over
            · rw [over_no hsl] at f4
              by_cases ht : sl.ticks < T
              · rw [decide_eq_true ht] at htk
                obtain ⟨n', rfl⟩ : ∃ n', n = n' + 1 := ⟨n - 1, by omega⟩
                have HTK := Lib.hid htk
                have HTL := Lib.hid (And.intro hn ht)
                have HSL := Lib.hid hsl
                have hsp : stopP (⟨fk, none⟩, sl) = false := by rw [stopP_none]; exact hsl
                have HSTP := Lib.hid hsp
                have HOV3 := Lib.hid (tick_over hsl ht)
                clear htk hn ht hsl hsp
                go_upto_region 9 with (go_at_call 61; (with_reducible refine HTK.out.mono ?_); rintro y w3 ⟨rfl, hrn3, hmv3⟩; have hbs3 := HBS2.out.val hrn3 hmv3; have hm3 := HMV2.out.trans (Mv3.of hmv3 (S := [m, q]) (nv := nv2) (xv := xv2) (by simp)); have hbox3 := HBS2.out.box HBX2.out (Mv3.of hmv3 (S := [m, q]) (by simp)); have HBW3 := Lib.hid (HBW.out.trans hmv3.bel); have HBS3 := Lib.hid hbs3; have HMV3 := Lib.hid hm3; have HBX3 := Lib.hid hbox3; clear hrn3 hmv3 hbs3 hm3 hbox3)
                clear b0 b1 b2 b3 b4 b5 b6 b7 f4
                obtain ⟨b0, b1, b2, b3, b4, b5, b6, b7⟩ := row8 HBX3.out
                obtain ⟨r, hr⟩ : ∃ r, evalP call fk s.e (tickP T sl) = r := ⟨_, rfl⟩
                have hex3 := HQE.out fk (tickP T sl) nv2 xv2 v2 X xc w3 (HAA.out.keep (keepsLow HBW3.out) (fun _ h => h)) HBS3.out.rn HBS3.out.vr HBS3.out.ap hvl2 (HX.out.keep (keepsLow HBW3.out) (fun _ h => h)) HNUM.out HOV3.out
                unfold RvPost exprV at hex3
                rw [hr] at hex3
                have HEX3 := Lib.hid hex3
                have HRR := Lib.hid hr
                clear hex3 hr
                go_upto_region 10 with (go_at_call 99; (with_reducible refine HEX3.out.mono ?_); rintro y w4 ⟨n3, rfl, hn64, hn3, v4, hrn4, hmv4⟩; have hbs4 := HBS3.out.val hrn4 hmv4; have hm4 := HMV3.out.trans (Mv3.of hmv4 (S := [m, q]) (nv := nv2) (xv := xv2) (by simp)); have hbox4 := HBS3.out.box HBX3.out (Mv3.of hmv4 (S := [m, q]) (by simp)); have HBW4 := Lib.hid (HBW3.out.trans hmv4.bel); have HBS4 := Lib.hid hbs4; have HMV4 := Lib.hid hm4; have HBX4 := Lib.hid hbox4; have HN64 := Lib.hid hn64; have HN3 := Lib.hid hn3; clear hrn4 hmv4 hbs4 hm4 hbox4 hn64 hn3)
                clear b0 b1 b2 b3 b4 b5 b6 b7
                obtain ⟨b0, b1, b2, b3, b4, b5, b6, b7⟩ := row8 HBX4.out
                obtain ⟨-, -, -, -, f4, -, -⟩ := HBS4.out.rn.cells
                have HCR : Hid (cond (⟨fk, none⟩, tickP T sl) = r) := show _ = _ by rw [HCO.out]; exact HRR.out
                by_cases hbr : r.2.over = true ∨ r.1 = 0
                · have hz : blockP call T ss (⟨vs, none⟩, st) = blockP call T (ss.drop (k + 1)) (⟨fk, none⟩, r.2) := HEND.out _ (by
                    have := loopP_end (n := n') (cond := cond) (body := body) HSTP.out HTL.out.2 (by rw [HCR.out]; exact hbr)
                    rw [HCR.out] at this
                    exact HJ.out.trans this)
                  have HZ := Lib.hid hz
                  clear hz
                  cases hro : r.2.over
                  · have hn0 : (n3 == 0) = true := by
                      have h1 := HN3.out hro
                      rcases hbr with e | e
                      · rw [hro] at e; cases e
                      · rw [h1, e]; rfl
                    rw [over_no hro] at f4
                    clear hbr hro
                    go_wp2_with fail
                    go_roundw
                    case rel => exact ⟨k + 1, fk, r.2, _, _, _, by omega, by go_num, HZ.out, hon2, HBS4.out, HMV4.out⟩
                    case measure => simp [intOf]; omega
                  · obtain ⟨hh, ehh⟩ : ∃ hh, mkB r.2.how = hh := ⟨_, rfl⟩
                    have eh := over_yes hro
                    rw [ehh] at eh f4
                    clear hbr hro ehh
                    cases hn0 : (n3 == 0)
                    all_goals
                      go_wp2_with fail
                      go_roundw
                      case rel => exact ⟨k + 1, fk, r.2, _, _, _, by omega, by go_num, HZ.out, hon2, HBS4.out, HMV4.out⟩
                      case measure => simp [intOf]; omega
                · have hro : r.2.over = false := by
                    cases q : r.2.over
                    · rfl
                    · exact absurd (.inl q) hbr
                  have hr0 : r.1 ≠ 0 := fun e => hbr (.inr e)
                  have hn0 : (n3 == 0) = false := by rw [HN3.out hro]; exact beq_eq_false_iff_ne.2 hr0
                  rw [over_no hro] at f4
                  obtain ⟨z, hz⟩ : ∃ z, blockP call T s.th (⟨fk, none⟩, r.2) = z := ⟨_, rfl⟩
                  have hlp : loopP T cond body (T - sk.ticks) (⟨vk, none⟩, sk) = loopP T cond body n' z := by
                    have := loopP_more (n := n') (cond := cond) (body := body) HSTP.out HTL.out.2 (by rw [HCR.out]; exact hro) (by rw [HCR.out]; exact hr0)
                    rw [HCR.out] at this
                    have hb2 : body (⟨fk, none⟩, r.2) = z := by rw [HBO.out]; exact hz
                    rw [hb2] at this
                    exact HJ.out.trans this
                  have hge : sl.ticks + 1 ≤ z.2.ticks := by
                    have t1 : (tickP T sl).ticks = sl.ticks + 1 := by unfold tickP; rw [if_pos HTL.out.2]
                    have t2 := (go_eval HG.out fk s.e (tickP T sl)).tick
                    rw [HRR.out] at t2
                    have t3 := (go_block HG.out s.th (⟨fk, none⟩, r.2)).tick
                    rw [hz] at t3
                    simp only at t3
                    omega
                  have hblk := HQT.out fk r.2 _ _ _ H h w4 hon2 (HAA.out.keep (keepsLow HBW4.out) (fun _ h => h)) HBS4.out (HTH.out.keep (keepsLow HBW4.out) (fun _ h => h))
                  unfold RbPost at hblk
                  rw [hz] at hblk
                  have HLP := Lib.hid hlp
                  have HGE := Lib.hid hge
                  clear hbr hro hr0 hz hlp hge
                  cases hza : z.1.ans.isSome
                  all_goals
                    rw [hza] at hblk
                    have HBL := Lib.hid hblk
                    clear hblk
                    go_wp2_with (go_at_call 81; (with_reducible refine HBL.out.mono ?_); rintro y w5 ⟨a5, rfl, ha64, ha, hon5, v5, nv5, xv5, hbs5, hmv5⟩; have hbox5 := HBS4.out.box HBX4.out hmv5; have HON5 := Lib.hid hon5; have HBS5 := Lib.hid hbs5; have HMV5 := Lib.hid (HMV4.out.trans hmv5); have HBX5 := Lib.hid hbox5; have HBW5 := Lib.hid (HBW4.out.trans hmv5.bel); have HA5 := Lib.hid (And.intro ha64 ha); clear hon5 hbs5 hmv5 ha64 ha hbox5)
                  · go_roundw
                    case rel =>
                      have hza' : z.1.ans = none := by simpa using hza
                      exact ⟨n', z.1.vars, z.2, v5, nv5, xv5, by have := HTL.out.1; have := HGE.out; omega, by rw [HLP.out, ← hza'], HON5.out, HBS5.out, HMV5.out, HBX5.out, HBW5.out⟩
                    case measure =>
                      rw [left_rn HBS5.out.rn, HLE.out]
                      have := HGE.out
                      have := HTL.out.2
                      omega
                  · go_ret2
                    have hzz : blockP call T ss (⟨vs, none⟩, st) = z := by
                      rw [HEND.out z (HLP.out.trans (loopP_stop (by unfold stopP; rw [hza]; simp)))]
                      exact blockP_stop call T _ (by unfold stopP; rw [hza]; simp)
                    unfold RbPost
                    rw [hzz, hza]
                    exact ⟨a5, rfl, HA5.out.1, HA5.out.2, HON5.out, v5, nv5, xv5, HBS5.out, HMV5.out⟩
              · rw [decide_eq_false ht] at htk
                have HTK := Lib.hid htk
                have HZ := Lib.hid (HEND.out _ (HJ.out.trans (loopP_tired (by rw [stopP_none]; exact hsl) ht)))
                clear htk hn ht hsl
                go_wp2_with (go_at_call 61; (with_reducible refine HTK.out.mono ?_); rintro y w3 ⟨rfl, hrn3, hmv3⟩; have hbs3 := HBS2.out.val hrn3 hmv3; have hm3 := HMV2.out.trans (Mv3.of hmv3 (S := [m, q]) (nv := nv2) (xv := xv2) (by simp)); have HBS3 := Lib.hid hbs3; have HMV3 := Lib.hid hm3; clear hrn3 hmv3 hbs3 hm3)
                go_roundw
                case rel => exact ⟨k + 1, fk, tickP T sl, _, _, _, by omega, by go_num, HZ.out, hon2, HBS3.out, HMV3.out⟩
                case measure => simp [intOf]; omega
            · obtain ⟨hh, ehh⟩ : ∃ hh, mkB sl.how = hh := ⟨_, rfl⟩
              have eh := over_yes hsl
              rw [ehh] at eh f4
              have HZ := Lib.hid (HEND.out _ (HJ.out.trans (loopP_stop (by rw [stopP_none]; exact hsl))))
              clear hsl ehh htk hn
              go_wp2_with fail
              go_roundw
              case rel => exact ⟨k + 1, fk, sl, _, _, _, by omega, by go_num, HZ.out, hon2, HBS2.out, HMV2.out⟩
              case measure => simp [intOf]; omega
        · obtain ⟨r, hr⟩ : ∃ r, evalP call vk s.e sk = r := ⟨_, rfl⟩
          unfold RvPost exprV at hex
          rw [hr] at hex
          have HRR := Lib.hid hr
          have HEX := Lib.hid hex
          have gw := kind_no hw
          have HW := Lib.hid hw
          unfold sWhile at gw
          clear hex hr hw
          cases hro : r.2.over
          · have hrw : stmtP call T s (⟨vk, none⟩, sk) = (if s.kind = sVar ∨ s.kind = sSet then (⟨putV vk s.name r.1, none⟩, r.2) else if s.kind = sPrint then (⟨vk, none⟩, printP r.1 r.2) else if s.kind = sReturn then (⟨vk, some r.1⟩, r.2) else if r.1 = 0 then blockP call T s.el (⟨vk, none⟩, r.2) else blockP call T s.th (⟨vk, none⟩, r.2)) := by
              rw [stmtP_eq, if_neg HW.out]
              simp only [HRR.out]
              rw [if_neg (by rw [hro]; decide)]
            have HSP := Lib.hid hrw
            have HRO := Lib.hid hro
            clear hrw
            by_cases h1 : s.kind = sVar ∨ s.kind = sSet
            · have hkk : (((mkB s.kind).toList == [118, 97, 114]) = true) ∨ (((mkB s.kind).toList == [118, 97, 114]) = false ∧ ((mkB s.kind).toList == [115, 101, 116]) = true) := by
                rw [mkB_toList]
                rcases h1 with q | q
                · exact .inl (by rw [q]; rfl)
                · exact .inr ⟨by rw [q]; rfl, by rw [q]; rfl⟩
              have HF := Lib.hid (HSP.out.trans (by rw [if_pos h1]))
              have HNM := Lib.hid (HWF.out.name h1)
              clear h1 hro
              rcases hkk with g1 | ⟨g1, g2⟩
              all_goals
                go_wp2_with (first
                  | (go_at_call 99; (with_reducible refine HEX.out.mono ?_); rintro y w2 ⟨n, rfl, hn64, hn, v2, hrn2, hmv2⟩; have hbs2 := HBS1.out.val hrn2 hmv2; obtain ⟨e0, e1, e2, e3, e4, e5, e6, e7⟩ := row8 (HBS1.out.box HBK.out (Mv3.of hmv2 (S := [m, q]) (by simp))); obtain ⟨-, -, -, -, f4, f5, -⟩ := hrn2.cells; rw [over_no HRO.out] at f4; have HBS2 := Lib.hid hbs2; have HMV2 := Lib.hid (HMV1.out.trans (Mv3.of hmv2 (S := [m, q]) (nv := nv1) (xv := xv1) (by simp))); have HN64 := Lib.hid hn64; have HNN := Lib.hid hn; clear hbs2 hn64 hn hrn2 hmv2)
                  | (go_at_call 80; (with_reducible refine (set_any HBS2.out.vr hvl s.name n HN64.out).mono ?_); rintro y w4 ⟨rfl, nv4, xv4, vr4, mv4⟩; have HBS4 := Lib.hid (HBS2.out.set vr4 mv4); have HMV4 := Lib.hid (HMV2.out.trans ((mv4 v2).wide (S := [m, q]) (by simp))); clear vr4 mv4))
                go_roundw
                case rel => exact ⟨k + 1, putV vk s.name n, r.2, v2, nv4, xv4, by omega, by go_num, by rw [HI.out, HST.out, HF.out, ← HNN.out HRO.out], hon.put HNM.out n, HBS4.out, HMV4.out⟩
                case measure => simp [intOf]; omega
            · by_cases h2 : s.kind = sPrint
              · have g1 := kind_no (s := s) (k := sVar) (by rw [h2]; decide)
                have g2 := kind_no (s := s) (k := sSet) (by rw [h2]; decide)
                have g3 := kind_yes h2
                have HF := Lib.hid (HSP.out.trans (by rw [if_neg h1, if_pos h2]))
                unfold sVar at g1; unfold sSet at g2; unfold sPrint at g3
                clear h1 h2 hro
                by_cases hl : 1000 ≤ r.2.out.length
                · have hl' : (1000 : Int) ≤ (r.2.out.length : Int) := by omega
                  have HLL := Lib.hid hl
                  clear hl
                  go_wp2_with (go_at_call 99; (with_reducible refine HEX.out.mono ?_); rintro y w2 ⟨n, rfl, hn64, hn, v2, hrn2, hmv2⟩; obtain ⟨A2, a2, rfl⟩ := owns_slice hrn2.own; have hbs2 := HBS1.out.val hrn2 hmv2; obtain ⟨e0, e1, e2, e3, e4, e5, e6, e7⟩ := row8 (HBS1.out.box HBK.out (Mv3.of hmv2 (S := [m, q]) (by simp))); obtain ⟨-, -, -, -, f4, f5, -⟩ := hrn2.cells; rw [over_no HRO.out] at f4; have HBS2 := Lib.hid hbs2; have HMV2 := Lib.hid (HMV1.out.trans (Mv3.of hmv2 (S := [m, q]) (nv := nv1) (xv := xv1) (by simp))); have HN64 := Lib.hid hn64; have HNN := Lib.hid hn; have z4 := row_frozen hrn2.blk 4; clear hbs2 hn64 hn hrn2 hmv2)
                  have HR4 : Hid (Rn base m A fs.length cf T d (printP r.1 r.2) (.slice A2 r.2.out.length a2) (w2.setCell ⟨m, 4, none⟩ (.string (mkB loudN)))) := show Rn _ _ _ _ _ _ _ _ _ _ by
                    unfold printP; rw [if_pos HLL.out]; exact HBS2.out.rn.store _ (by unfold rnL; simp) rfl HBS2.out.rn.ticks
                  have hm4 : Mv base [m] (.slice A2 r.2.out.length a2) (.slice A2 r.2.out.length a2) w2 (w2.setCell ⟨m, 4, none⟩ (.string (mkB loudN))) := Mv.store HBS2.out.rn.low (by simp)
                  have HBS4 := Lib.hid (HBS2.out.val HR4.out hm4)
                  have HMV4 := Lib.hid (HMV2.out.trans (Mv3.of hm4 (S := [m, q]) (nv := nv1) (xv := xv1) (by simp)))
                  clear hm4
                  go_roundw
                  case rel => exact ⟨k + 1, vk, printP r.1 r.2, _, nv1, xv1, by omega, by go_num, by rw [HI.out, HST.out, HF.out], hon, HBS4.out, HMV4.out⟩
                  case measure => simp [intOf]; omega
                · have hl' : ¬ (1000 : Int) ≤ (r.2.out.length : Int) := by omega
                  have HLL := Lib.hid hl
                  clear hl
                  go_wp2_with (first
                    | (go_at_call 99; (with_reducible refine HEX.out.mono ?_); rintro y w2 ⟨n, rfl, hn64, hn, v2, hrn2, hmv2⟩; obtain ⟨A2, a2, rfl⟩ := owns_slice hrn2.own; have hbs2 := HBS1.out.val hrn2 hmv2; obtain ⟨e0, e1, e2, e3, e4, e5, e6, e7⟩ := row8 (HBS1.out.box HBK.out (Mv3.of hmv2 (S := [m, q]) (by simp))); obtain ⟨-, -, -, -, f4, f5, -⟩ := hrn2.cells; rw [over_no HRO.out] at f4; have HBS2 := Lib.hid hbs2; have HMV2 := Lib.hid (HMV1.out.trans (Mv3.of hmv2 (S := [m, q]) (nv := nv1) (xv := xv1) (by simp))); have HN64 := Lib.hid hn64; have HNN := Lib.hid hn; clear hbs2 hn64 hn hrn2 hmv2)
                    | (at_builtin; refine wpList_append_own_at _ rfl _ _ 45 rfl base 3 i0 _ 1 8 Tryz.underlying45 hi hz0 hz1 hz2 rfl (by decide) _ _ _ rfl (HBS2.out.rn.own.alloc _) ⟨w2.heap.size, 0, none⟩ 1 1 [.int .i64 n] rfl rfl (cell_one_new _ _ _) (fun u hu => by simp at hu; subst hu; rfl) (by unfold maxLen; omega) (by omega) (by have := HBS2.out.rn.base_le; simp; omega) ?_; intro v4 w4 hown hgrow _ hat; obtain ⟨A4, a4, rfl⟩ := owns_slice hown; obtain ⟨k1, k2, k3⟩ := rprint_put HBS2.out.rn HLL.out hown hgrow (hat.elim (fun e => .inl e) (fun e => .inr (e.trans (by simp)))); have x5 : w4.cell? ⟨m, 5, none⟩ = some (.slice A2 r.2.out.length a2) := (row9 (k1.trans HBS2.out.rn.blk)).2.2.2.2.2.1; have y5 : w4.frozen? ⟨m, 5, none⟩ = false := row_frozen (k1.trans HBS2.out.rn.blk) 5; have K2 := Lib.hid k2; have K3 := Lib.hid k3; clear hown hgrow hat k1 k2 k3))
                  have HBS4 := Lib.hid (HBS2.out.val K2.out K3.out)
                  have HMV4 := Lib.hid (HMV2.out.trans (Mv3.of K3.out (S := [m, q]) (nv := nv1) (xv := xv1) (by simp)))
                  go_roundw
                  case rel => exact ⟨k + 1, vk, printP n r.2, _, nv1, xv1, by omega, by go_num, by rw [HI.out, HST.out, HF.out, ← HNN.out HRO.out], hon, HBS4.out, HMV4.out⟩
                  case measure => simp [intOf]; omega
              · by_cases h3 : s.kind = sReturn
                · have g1 := kind_no (s := s) (k := sVar) (by rw [h3]; decide)
                  have g2 := kind_no (s := s) (k := sSet) (by rw [h3]; decide)
                  have g3 := kind_no (s := s) (k := sPrint) (by rw [h3]; decide)
                  have g4 := kind_yes h3
                  have HF := Lib.hid (HSP.out.trans (by rw [if_neg h1, if_neg h2, if_pos h3]))
                  unfold sVar at g1; unfold sSet at g2; unfold sPrint at g3; unfold sReturn at g4
                  clear h1 h2 h3 hro
                  go_wp2_with (go_at_call 99; (with_reducible refine HEX.out.mono ?_); rintro y w2 ⟨n, rfl, hn64, hn, v2, hrn2, hmv2⟩; have hbs2 := HBS1.out.val hrn2 hmv2; obtain ⟨e0, e1, e2, e3, e4, e5, e6, e7⟩ := row8 (HBS1.out.box HBK.out (Mv3.of hmv2 (S := [m, q]) (by simp))); obtain ⟨-, -, -, -, f4, f5, -⟩ := hrn2.cells; rw [over_no HRO.out] at f4; have HBS2 := Lib.hid hbs2; have HMV2 := Lib.hid (HMV1.out.trans (Mv3.of hmv2 (S := [m, q]) (nv := nv1) (xv := xv1) (by simp))); have HN64 := Lib.hid hn64; have HNN := Lib.hid hn; clear hbs2 hn64 hn hrn2 hmv2)
                  go_ret2
                  have hz : blockP call T ss (⟨vs, none⟩, st) = (⟨vk, some r.1⟩, r.2) := by rw [HI.out, HST.out, HF.out]; exact blockP_stop call T _ (by unfold stopP; simp)
                  unfold RbPost
                  rw [hz]
                  exact ⟨n, rfl, HN64.out, HNN.out HRO.out, hon, v2, nv1, xv1, HBS2.out, HMV2.out⟩
                · have g1 := kind_no (s := s) (k := sVar) (fun e => h1 (.inl e))
                  have g2 := kind_no (s := s) (k := sSet) (fun e => h1 (.inr e))
                  have g3 := kind_no h2
                  have g4 := kind_no h3
                  unfold sVar at g1; unfold sSet at g2; unfold sPrint at g3; unfold sReturn at g4
                  have hsp := HSP.out
                  rw [if_neg h1, if_neg h2, if_neg h3] at hsp
                  by_cases hc : r.1 = 0
                  · rw [if_pos hc] at hsp
                    obtain ⟨z, hz⟩ : ∃ z, blockP call T s.el (⟨vk, none⟩, r.2) = z := ⟨_, rfl⟩
                    rw [hz] at hsp
                    have HF := Lib.hid hsp
                    have HZ := Lib.hid hz
                    have HCC := Lib.hid hc
                    clear hsp hz hc h1 h2 h3 hro
                    cases hza : z.1.ans.isSome
                    all_goals
                      go_wp2_with (first
                        | (go_at_call 99; (with_reducible refine HEX.out.mono ?_); rintro y w2 ⟨n, rfl, hn64, hn, v2, hrn2, hmv2⟩; have hbs2 := HBS1.out.val hrn2 hmv2; obtain ⟨e0, e1, e2, e3, e4, e5, e6, e7⟩ := row8 (HBS1.out.box HBK.out (Mv3.of hmv2 (S := [m, q]) (by simp))); obtain ⟨-, -, -, -, f4, f5, -⟩ := hrn2.cells; rw [over_no HRO.out] at f4; have HBS2 := Lib.hid hbs2; have HMV2 := Lib.hid (HMV1.out.trans (Mv3.of hmv2 (S := [m, q]) (nv := nv1) (xv := xv1) (by simp))); have HN64 := Lib.hid hn64; have HNN := Lib.hid hn; have hn0 : (n == 0) = true := (by have q1 := HNN.out HRO.out; have q2 := HCC.out; rw [q1]; simpa using q2); have hblk := HQL.out vk r.2 v2 nv1 xv1 L l w2 hon (HAA.out.keep (keepsLow hmv2.bel) (fun _ h => h)) hbs2 (HL.out.keep (keepsLow hmv2.bel) (fun _ h => h)); unfold RbPost at hblk; rw [HZ.out, hza] at hblk; have HBL := Lib.hid hblk; clear hblk; clear hbs2 hn64 hn hrn2 hmv2)
                        | (go_at_call 81; (with_reducible refine HBL.out.mono ?_); rintro y w4 ⟨a4, rfl, ha64, ha, hon4, v4, nv4, xv4, hbs4, hmv4⟩; have HON4 := Lib.hid hon4; have HBS4 := Lib.hid hbs4; have HMV4 := Lib.hid (HMV2.out.trans hmv4); have HA4 := Lib.hid (And.intro ha64 ha); clear hon4 hbs4 hmv4 ha64 ha))
                    · go_roundw
                      case rel =>
                        have hza' : z.1.ans = none := by simpa using hza
                        exact ⟨k + 1, z.1.vars, z.2, v4, nv4, xv4, by omega, by go_num, by rw [HI.out, HST.out, HF.out, ← hza'], HON4.out, HBS4.out, HMV4.out⟩
                      case measure => simp [intOf]; omega
                    · go_ret2
                      have hzz : blockP call T ss (⟨vs, none⟩, st) = z := by rw [HI.out, HST.out, HF.out]; exact blockP_stop call T _ (by unfold stopP; rw [hza]; simp)
                      unfold RbPost
                      rw [hzz, hza]
                      exact ⟨a4, rfl, HA4.out.1, HA4.out.2, HON4.out, v4, nv4, xv4, HBS4.out, HMV4.out⟩
                  · rw [if_neg hc] at hsp
                    obtain ⟨z, hz⟩ : ∃ z, blockP call T s.th (⟨vk, none⟩, r.2) = z := ⟨_, rfl⟩
                    rw [hz] at hsp
                    have HF := Lib.hid hsp
                    have HZ := Lib.hid hz
                    have HCC := Lib.hid hc
                    clear hsp hz hc h1 h2 h3 hro
                    cases hza : z.1.ans.isSome
                    all_goals
                      go_wp2_with (first
                        | (go_at_call 99; (with_reducible refine HEX.out.mono ?_); rintro y w2 ⟨n, rfl, hn64, hn, v2, hrn2, hmv2⟩; have hbs2 := HBS1.out.val hrn2 hmv2; obtain ⟨e0, e1, e2, e3, e4, e5, e6, e7⟩ := row8 (HBS1.out.box HBK.out (Mv3.of hmv2 (S := [m, q]) (by simp))); obtain ⟨-, -, -, -, f4, f5, -⟩ := hrn2.cells; rw [over_no HRO.out] at f4; have HBS2 := Lib.hid hbs2; have HMV2 := Lib.hid (HMV1.out.trans (Mv3.of hmv2 (S := [m, q]) (nv := nv1) (xv := xv1) (by simp))); have HN64 := Lib.hid hn64; have HNN := Lib.hid hn; have hn0 : (n == 0) = false := (by have q1 := HNN.out HRO.out; have q2 := HCC.out; rw [q1]; simpa using q2); have hblk := HQT.out vk r.2 v2 nv1 xv1 H h w2 hon (HAA.out.keep (keepsLow hmv2.bel) (fun _ h => h)) hbs2 (HTH.out.keep (keepsLow hmv2.bel) (fun _ h => h)); unfold RbPost at hblk; rw [HZ.out, hza] at hblk; have HBL := Lib.hid hblk; clear hblk; clear hbs2 hn64 hn hrn2 hmv2)
                        | (go_at_call 81; (with_reducible refine HBL.out.mono ?_); rintro y w4 ⟨a4, rfl, ha64, ha, hon4, v4, nv4, xv4, hbs4, hmv4⟩; have HON4 := Lib.hid hon4; have HBS4 := Lib.hid hbs4; have HMV4 := Lib.hid (HMV2.out.trans hmv4); have HA4 := Lib.hid (And.intro ha64 ha); clear hon4 hbs4 hmv4 ha64 ha))
                    · go_roundw
                      case rel =>
                        have hza' : z.1.ans = none := by simpa using hza
                        exact ⟨k + 1, z.1.vars, z.2, v4, nv4, xv4, by omega, by go_num, by rw [HI.out, HST.out, HF.out, ← hza'], HON4.out, HBS4.out, HMV4.out⟩
                      case measure => simp [intOf]; omega
                    · go_ret2
                      have hzz : blockP call T ss (⟨vs, none⟩, st) = z := by rw [HI.out, HST.out, HF.out]; exact blockP_stop call T _ (by unfold stopP; rw [hza]; simp)
                      unfold RbPost
                      rw [hzz, hza]
                      exact ⟨a4, rfl, HA4.out.1, HA4.out.2, HON4.out, v4, nv4, xv4, HBS4.out, HMV4.out⟩
          · have HF : Hid (stmtP call T s (⟨vk, none⟩, sk) = (⟨vk, none⟩, r.2)) := show _ = _ by
              rw [stmtP_eq, if_neg HW.out]
              simp only [HRR.out]
              rw [if_pos hro]
            obtain ⟨hh, ehh⟩ : ∃ hh, mkB r.2.how = hh := ⟨_, rfl⟩
            have eh := over_yes hro
            rw [ehh] at eh
            have HRO := Lib.hid hro
            clear hro
            go_wp2_with (go_at_call 99; (with_reducible refine HEX.out.mono ?_); rintro y w2 ⟨n, rfl, hn64, hn, v2, hrn2, hmv2⟩; have hbs2 := HBS1.out.val hrn2 hmv2; obtain ⟨e0, e1, e2, e3, e4, e5, e6, e7⟩ := row8 (HBS1.out.box HBK.out (Mv3.of hmv2 (S := [m, q]) (by simp))); obtain ⟨-, -, -, -, f4, f5, -⟩ := hrn2.cells; rw [ehh] at f4; have HBS2 := Lib.hid hbs2; have HMV2 := Lib.hid (HMV1.out.trans (Mv3.of hmv2 (S := [m, q]) (nv := nv1) (xv := xv1) (by simp))); have HN64 := Lib.hid hn64; have HNN := Lib.hid hn; clear hbs2 hn64 hn hrn2 hmv2)
            go_ret2
            have hz : blockP call T ss (⟨vs, none⟩, st) = (⟨vk, none⟩, r.2) := by rw [HI.out, HST.out, HF.out]; exact blockP_stop call T _ (by rw [stopP_none]; exact HRO.out)
            unfold RbPost
            rw [hz]
            exact ⟨0, rfl, ⟨by decide, by decide⟩, rfl, hon, v2, nv1, xv1, HBS2.out, HMV2.out⟩
      · obtain ⟨hh, ehh⟩ : ∃ hh, mkB sk.how = hh := ⟨_, rfl⟩
        have eh := over_yes hso
        rw [ehh] at c4 eh
        have HST := Lib.hid (HI.out.trans (blockP_stop call T (ss.drop k) (by rw [stopP_none]; exact hso)))
        clear hso ehh
        go_wp2_with fail
        go_ret2
        unfold RbPost
        rw [HST.out]
        exact ⟨0, rfl, ⟨by decide, by decide⟩, rfl, hon, v1, nv1, xv1, HBS.out, HMV.out⟩
    · have hk' : k = ss.length := by omega
      have hnl : ¬ ((k : Int) < (ss.length : Int)) := by omega
      have HST : Hid (blockP call T ss (⟨vs, none⟩, st) = (⟨vk, none⟩, sk)) := show _ = _ by rw [HI.out, hk', List.drop_length, blockP_nil]
      clear hk' hlt hk c4 c5
      go_wp2_with fail
      go_ret2
      unfold RbPost
      rw [HST.out]
      exact ⟨0, rfl, ⟨by decide, by decide⟩, rfl, hon, v1, nv1, xv1, HBS.out, HMV.out⟩
end Go.Proofs.YtnpdjncgilekhaaGreatDoor

namespace Go.Proofs.YtnpdjncgilekhaaGreatDoor
open Go.RowKit

/-! the reference's run: Body -/
def rfunO2 (f : PFun) (P : Option Addr) (p : Nat) (B : Option Addr) (c : Nat) : Obj := .cells #[.string (mkB f.name), .slice P f.params.length p, .slice B f.body.length c] 43
section
variable {base m q : Nat} {A : Option Addr} {nf cf T d d' : Nat} {st st' : St} {v v' nv xv nv' xv' : Value} {vs vs' : Vs} {w w' w5 w6 : World} {n : Int} {ob : Obj}
theorem own_mono {b : Nat} {e : TypeId} {x : Value} {k : Nat} {xs : List Value} (h : w.ownsRow b e 1 x k xs) (hb : base ≤ b) : w.ownsRow base e 1 x k xs := by
  refine ⟨h.1, ?_⟩
  rcases h.2 with r | ⟨g, cap, cur, r, h2, h3⟩
  · exact .inl r
  · exact .inr ⟨g, cap, cur, r, Nat.le_trans hb h2, h3⟩
theorem Vr.mono {b : Nat} (h : Vr b q nv xv vs w) (hb : base ≤ b) : Vr base q nv xv vs w := ⟨Nat.le_trans hb h.low, h.blk, own_mono h.ns hb, own_mono h.xs hb, h.ok⟩
theorem Mv3.made (hb : base ≤ w.heap.size) (h0 : Below w.heap.size w w5) (hv : Vr w.heap.size q nv xv vs w5) (h : Mv3 base [m, q] v nv xv v' nv' xv' w5 w6) : Mv base [m] v v' w w6 := by
  refine ⟨(h0.mono hb).trans h.bel, fun k h1 h2 h3 => ?_, ?_⟩
  · have hq : k ≠ q := by have := hv.low; omega
    rw [h.kp k (Nat.lt_of_lt_of_le h1 h0.size) (by simp at h2; simp [h2, hq]) h3 (fun e => by have := (owns_lt hv.ns e).1; omega) (fun e => by have := (owns_lt hv.xs e).1; omega), h0.block k h1]
  · rcases h.mv with e | e
    · exact .inl e
    · exact .inr fun k hk => Nat.le_trans h0.size (e k hk)
end
set_option maxHeartbeats 8000000 in
set_option maxRecDepth 100000 in
theorem rbody_any (fs : List PFun) (base m : Nat) (A : Option Addr) (cf T : Nat) (call : Caller) (d : Nat) (f : PFun) (N : List Nm) (hN12 : N.length ≤ 12) (hPN : SubN f.params N) (hbk : ∀ q, RBlockR fs base m A cf T call d q N f.body) (l : List Int) (hp4 : f.params.length ≤ 4) (hp : f.params.length = l.length) (hl64 : ∀ n ∈ l, I64 n) (st : St) (v : Value) (P : Option Addr) (p : Nat) (B : Option Addr) (c' : Nat) (X : Option Addr) (xc : Nat) (w : World)
    (hA : RdF w (fun k => k < base) fs A) (hR : Rn base m A fs.length cf T d st v w) (hP : RdT w (fun k => k < base) f.params P) (hB : RdS w (fun k => k < base) f.body B) (hX : Row w X (intVs l)) :
    Calls Tryz.prog 62 #[.pointer (some ⟨m, 0, none⟩), funV f P p B c', .slice X l.length xc] w (RvPost fs base m A cf T d (bodyP call T f l st) v w) := by
  have hbl := hR.base_le
  have hb2 : Below w.heap.size w ((w.alloc (rfunO2 f P p B c')).alloc (.cells #[.slice none 0 0, .slice none 0 0] 146)) := grow_alloc (grow_alloc (grow_refl _) _) _
  have hk1 : ((w.alloc (rfunO2 f P p B c')).alloc (.cells #[.slice none 0 0, .slice none 0 0] 146)).heap[w.heap.size]? = some (rfunO2 f P p B c') := (old_block _ _ (by simp)).trans (heap_alloc_new w _)
  have hk2 : ((w.alloc (rfunO2 f P p B c')).alloc (.cells #[.slice none 0 0, .slice none 0 0] 146)).heap[w.heap.size + 1]? = some (.cells #[.slice none 0 0, .slice none 0 0] 146) := new_block _ _ (by simp)
  have HB2 := Lib.hid hb2
  have HV0 : Hid (Vr w.heap.size (w.heap.size + 1) (.slice none 0 0) (.slice none 0 0) (bindP (f.params.take 0) l []) ((w.alloc (rfunO2 f P p B c')).alloc (.cells #[.slice none 0 0, .slice none 0 0] 146))) := ⟨by omega, hk2, World.ownsRow_nil _ _ _ _, World.ownsRow_nil _ _ _ _, fun x hx => by simp [bindP] at hx⟩
  have HK1 := Lib.hid hk1
  have HA := Lib.hid hA
  have HR := Lib.hid hR
  have HP := Lib.hid hP
  have HB := Lib.hid hB
  have HX := Lib.hid hX
  have HBK := Lib.hid hbk
  have hple : f.params.length ≤ l.length := by omega
  have H64 := Lib.hid hl64
  have HPN := Lib.hid hPN
  clear hA hR hP hB hX hbk hl64 hPN hb2 hk1 hk2 hp
  unfold funV
  unfold rfunO2 at *
  go_enter Tryz.func62, Tryz.ntmps62
  go_wp2_with fail
  go_loopw [8] (fun i wr => ∃ (k : Nat) (nv xv : Value), k ≤ f.params.length ∧ i = .int .i64 k ∧ Vr w.heap.size (w.heap.size + 1) nv xv (bindP (f.params.take k) l []) wr ∧ OnlyIn (bindP (f.params.take k) l []) N ∧ Below w.heap.size w wr ∧ wr.heap[w.heap.size]? = some (.cells #[.string (mkB f.name), .slice P f.params.length p, .slice B f.body.length c'] 43 (0, 0))) (fun i _ => f.params.length - (intOf i).toNat)
  case atStart => exact ⟨0, _, _, Nat.zero_le _, rfl, HV0.out, OnlyIn.nil _, HB2.out, HK1.out⟩
  case round =>
    obtain ⟨k, nv, xv, hk, rfl, hvr, hon, hbw, hbox⟩ := hrel
    obtain ⟨d0, d1, d2⟩ := (⟨cell_of_row _ _ 0 _ _ _ hbox, cell_of_row _ _ 1 _ _ _ hbox, cell_of_row _ _ 2 _ _ _ hbox⟩ : wr.cell? ⟨w.heap.size, 0, none⟩ = some (.string (mkB f.name)) ∧ wr.cell? ⟨w.heap.size, 1, none⟩ = some (.slice P f.params.length p) ∧ wr.cell? ⟨w.heap.size, 2, none⟩ = some (.slice B f.body.length c'))
    have HVR := Lib.hid hvr
    have HBW := Lib.hid hbw
    have HBX := Lib.hid hbox
    have hvl : (bindP (f.params.take k) l []).length ≤ 1000 := by have := hon.len; omega
    clear hvr hbw hbox
    by_cases hlt : k < f.params.length
    · have hlt' : (k : Int) < (f.params.length : Int) := by omega
      have hlt2 : k < l.length := by omega
      have hlt2' : (k : Int) < (l.length : Int) := by omega
      obtain ⟨bP, oP, rfl, -, gP⟩ := (HP.out.keep ((Keeps.of_below HBW.out).in _) (fun _ h => h)) k hlt
      obtain ⟨bX, oX, rfl, gX⟩ := (HX.out.keep (Keeps.of_below HBW.out)) k _ (intVs_get hlt2)
      have hset := set_any (w := wr.drew) (HVR.out.same rfl (fun _ _ => rfl) (fun _ _ => rfl)) hvl f.params[k] l[k] (H64.out _ (List.getElem_mem hlt2))
      rw [← bindP_step f.params l [] k hlt hlt2] at hset
      have HSET := Lib.hid hset
      have HON := Lib.hid (show OnlyIn (bindP (f.params.take (k + 1)) l []) N by rw [bindP_step f.params l [] k hlt hlt2]; exact hon.put (HPN.out _ (List.getElem_mem hlt)) _)
      clear hset
      go_upto_region 5 with fail
      go_still_tail 10, (by kernel_rfl)
      change wpList _ _ _ _ _ wr.drew
      go_wp2_with (go_at_call 80; (with_reducible refine HSET.out.mono ?_); rintro y w4 ⟨rfl, nv4, xv4, vr4, mv4⟩; have HV4 := Lib.hid vr4; have HM4 := Lib.hid (mv4 .nilIface); clear vr4 mv4)
      have hbx4 := (HM4.out.kp w.heap.size (Array.getElem?_eq_some_iff.1 HBX.out).1 (by simp) (by simp [Value.ownBlock]) (own_other HVR.out.ns HBX.out fun cs e => by injection e with _ e _; exact absurd e (by decide)) (own_other HVR.out.xs HBX.out fun cs e => by injection e with _ e _; exact absurd e (by decide))).trans HBX.out
      have HBX4 := Lib.hid hbx4
      clear hbx4
      go_roundw
      case rel => exact ⟨k + 1, nv4, xv4, by omega, by go_num, HV4.out, HON.out, HBW.out.drew.trans HM4.out.bel, HBX4.out⟩
      case measure => simp [intOf]; omega
    · have hk' : k = f.params.length := by omega
      have hnl : ¬ ((k : Int) < (f.params.length : Int)) := by omega
      have hta : f.params.take k = f.params := by rw [hk', List.take_length]
      rw [hta] at HVR hon
      have hr5 := HR.out.below HBW.out
      have hbs : BSt base m (w.heap.size + 1) A fs.length cf T d (bindP f.params l []) st v nv xv wr := ⟨hr5, HVR.out.mono hbl, fun i h1 h2 => by have := (owns_lt HR.out.own h1).2; have := (owns_lt HVR.out.xs h2).1; omega⟩
      have hcall := HBK.out (w.heap.size + 1) (bindP f.params l []) st v nv xv B c' wr hon (HA.out.keep ((Keeps.of_below HBW.out).in _) (fun _ h => h)) hbs (HB.out.keep ((Keeps.of_below HBW.out).in _) (fun _ h => h))
      obtain ⟨z, hz⟩ : ∃ z, blockP call T f.body (⟨bindP f.params l [], none⟩, st) = z := ⟨_, rfl⟩
      unfold RbPost at hcall
      rw [hz] at hcall
      have HC := Lib.hid hcall
      have HZ := Lib.hid hz
      clear hk' hta hlt hk hcall hz hbs hr5
      go_wp2_with (go_at_call 81; (with_reducible refine HC.out.mono ?_); rintro y w6 ⟨a6, rfl, ha64, ha, -, v6, nv6, xv6, hbs6, hmv6⟩; have HF := Lib.hid (And.intro ha64 (And.intro ha (And.intro hbs6.rn hmv6))); clear ha64 ha hbs6 hmv6)
      go_ret
      obtain ⟨q1, q2, q3, q4⟩ := HF.out
      unfold RvPost bodyP
      rw [HZ.out]
      exact ⟨a6, rfl, q1, fun _ => q2, v6, q3, Mv3.made hbl HBW.out HVR.out q4⟩
end Go.Proofs.YtnpdjncgilekhaaGreatDoor

namespace Go.Proofs.YtnpdjncgilekhaaGreatDoor
open Go.RowKit

/-! the reference's run: call -/
theorem find_at {fs : List PFun} {name : Nm} {k : Nat} (hk : k < fs.length) (h : fs[k].name = name) (hno : ∀ j (hj : j < fs.length), j < k → fs[j].name ≠ name) : findF fs name = some fs[k] := by
  have e : fs = fs.take k ++ fs[k] :: fs.drop (k + 1) := by rw [← List.drop_eq_getElem_cons hk, List.take_append_drop]
  have h2 : (fs.take k).find? (fun f => f.name == name) = none := by
    rw [List.find?_eq_none]
    intro g hg
    obtain ⟨j, hj, rfl⟩ := List.mem_iff_getElem.1 hg
    rw [List.length_take] at hj
    rw [List.getElem_take]
    simpa using hno j (by omega) (by omega)
  unfold findF
  conv => lhs; rw [e]
  rw [List.find?_append, h2, List.find?_cons]
  simp only [h, beq_self_eq_true, Option.none_or]
section
variable {fs : List PFun} {base m : Nat} {A : Option Addr} {cf T : Nat}
set_option maxHeartbeats 4000000 in
set_option maxRecDepth 100000 in
theorem rcall_tired (hT : T ≤ 5000) (d e : Nat) (name : Nm) (l : List Int) (st : St) (v : Value) (B : Option Addr) (c : Nat) (w : World) (hR : Rn base m A fs.length cf T d st v w) (ho : st.over = false) (ht : ¬ st.ticks < T) :
    Calls Tryz.prog 44 #[.pointer (some ⟨m, 0, none⟩), .string (mkB name), .slice B l.length c] w (RvPost fs base m A cf T d (callP fs T e name l st) v w) := by
  rw [callP_tired ho ht]
  have htk := rTick_any hR hT
  rw [decide_eq_false ht] at htk
  obtain ⟨-, -, -, c3, -, -, -⟩ := hR.cells
  have HTK := Lib.hid htk
  clear hR htk ht ho
  go_enter Tryz.func44, Tryz.ntmps44
  go_wp2_with (go_at_call 61; (with_reducible refine HTK.out.mono ?_); rintro y w2 ⟨rfl, hrn2, hmv2⟩; have HF := Lib.hid (And.intro hrn2 hmv2); clear hrn2 hmv2)
  go_ret
  exact ⟨0, rfl, ⟨by decide, by decide⟩, fun _ => rfl, v, HF.out.1, HF.out.2⟩
set_option maxHeartbeats 4000000 in
set_option maxRecDepth 100000 in
theorem rcall_deep (hT : T ≤ 5000) (name : Nm) (l : List Int) (st : St) (v : Value) (B : Option Addr) (c : Nat) (w : World) (hR : Rn base m A fs.length cf T 40 st v w) (ho : st.over = false) (ht : st.ticks < T) :
    Calls Tryz.prog 44 #[.pointer (some ⟨m, 0, none⟩), .string (mkB name), .slice B l.length c] w (RvPost fs base m A cf T 40 (callP fs T 0 name l st) v w) := by
  rw [callP_deep ho ht]
  have htk := rTick_any hR hT
  rw [decide_eq_true ht] at htk
  obtain ⟨-, -, -, c3, -, -, -⟩ := hR.cells
  have HTK := Lib.hid htk
  clear hR htk ht ho
  go_enter Tryz.func44, Tryz.ntmps44
  go_wp2_with (go_at_call 61; (with_reducible refine HTK.out.mono ?_); rintro y w2 ⟨rfl, hrn2, hmv2⟩; obtain ⟨c0, c1, c2, c3', c4, c5, c6⟩ := hrn2.cells; have z4 := row_frozen hrn2.blk 4; have HF := Lib.hid (And.intro hrn2 hmv2); clear hrn2 hmv2)
  go_ret
  obtain ⟨q1, q2⟩ := HF.out
  exact ⟨0, rfl, ⟨by decide, by decide⟩, fun _ => rfl, v, q1.store (.string (mkB deepN)) (by unfold rnL; simp) rfl q1.ticks, q2.trans (Mv.store q1.low (by simp))⟩
set_option maxHeartbeats 8000000 in
set_option maxRecDepth 100000 in
theorem rcall_body (hT : T ≤ 5000) (d : Nat) (hd : d < 40) (call : Caller) (name : Nm) (l : List Int) (st : St) (v : Value) (B : Option Addr) (c : Nat) (w : World) (hA : RdF w (fun k => k < base) fs A) (hR : Rn base m A fs.length cf T d st v w) (hX : Row w B (intVs l)) (hXm : l ≠ [] → ∀ a, B = some a → a.block ≠ m ∧ v.ownBlock ≠ some a.block ∧ a.block < w.heap.size) (h64 : ∀ n ∈ l, I64 n) (hfl : fs.length ≤ 1000)
    (hp : ∀ f ∈ fs, f.name = name → findF fs name = some f → f.params.length = l.length ∧ f.params.length ≤ 4 ∧ ∃ N : List Nm, N.length ≤ 12 ∧ SubN f.params N ∧ ∀ q, RBlockR fs base m A cf T call (d + 1) q N f.body) (hin : ∃ f, findF fs name = some f) (ho : st.over = false) (ht : st.ticks < T) (r : Int × St) (hr : ∀ f, findF fs name = some f → bodyP call T f l (tickP T st) = r) :
    Calls Tryz.prog 44 #[.pointer (some ⟨m, 0, none⟩), .string (mkB name), .slice B l.length c] w (RvPost fs base m A cf T d r v w) := by
  have htk := rTick_any hR hT
  rw [decide_eq_true ht] at htk
  obtain ⟨-, -, -, c3, -, -, -⟩ := hR.cells
  have HTK := Lib.hid htk
  have HA := Lib.hid hA
  have HR := Lib.hid hR
  have HX := Lib.hid hX
  have HXM := Lib.hid hXm
  have H64 := Lib.hid h64
  have HP := Lib.hid hp
  have HIN := Lib.hid hin
  have HRR := Lib.hid hr
  have hd40 : ¬ (40 : Int) ≤ (d : Int) := by omega
  have hd1 : (d : Int) ≤ 40 := by omega
  have hd0 : (0 : Int) ≤ d := by omega
  have HLOW := Lib.hid hR.base_le
  clear hA hR hX hXm h64 hp hin hr htk ht ho hd
  go_enter Tryz.func44, Tryz.ntmps44
  go_wp2_with (go_at_call 61; (with_reducible refine HTK.out.mono ?_); rintro y w2 ⟨rfl, hrn2, hmv2⟩; obtain ⟨c0, -, c2, -, -, -, -⟩ := hrn2.cells; have HRN2 := Lib.hid hrn2; have HMV2 := Lib.hid hmv2; clear hrn2 hmv2)
  obtain ⟨w3, hw3⟩ : ∃ w3 : World, w3 = w2 := ⟨_, rfl⟩
  subst hw3
  go_loopw [9] (fun i wr => ∃ k : Nat, k ≤ fs.length ∧ i = .int .i64 k ∧ w3 = wr ∧ ∀ j (hj : j < fs.length), j < k → fs[j].name ≠ name) (fun i _ => fs.length - (intOf i).toNat)
  case atStart => exact ⟨0, Nat.zero_le _, rfl, rfl, fun j _ h => absurd h (by omega)⟩
  case round =>
    obtain ⟨k, hk, rfl, rfl, hno⟩ := hrel
    have HNO := Lib.hid hno
    clear hno
    by_cases hlt : k < fs.length
    · have hlt' : (k : Int) < (fs.length : Int) := by omega
      obtain ⟨b8, off8, P8, p8, B8, d8, rfl, hb8, hcells8, hprm8, hbody8⟩ := (HA.out.keep (keepsLow HMV2.out.bel) (fun _ h => h)) k hlt
      obtain ⟨g0, g1, g2⟩ := cells_fun hcells8
      have hpk := HP.out fs[k] (List.getElem_mem hlt)
      have hfa := fun e => find_at hlt e HNO.out
      obtain ⟨f, hf⟩ : ∃ f, fs[k] = f := ⟨_, rfl⟩
      rw [hf] at hcells8 hprm8 hbody8 g0 g1 g2 hpk hfa
      have HNF : Hid (f.name ≠ name → fs[k].name ≠ name) := fun h => by rw [hf]; exact h
      by_cases hn : f.name = name
      · have q1 : ((mkB f.name).toList == (mkB name).toList) = true := by rw [mkB_toList, mkB_toList, hn]; exact beq_self_eq_true _
        obtain ⟨p1, p2, N, p3, p4, p5⟩ := hpk hn (hfa hn)
        have hrr := HRR.out f (hfa hn)
        have z2 := row_frozen HRN2.out.blk 2
        have hrn4 : Rn base m (some ⟨b8, off8, none⟩) fs.length cf T (d + 1) (tickP T st) v (w3.setCell ⟨m, 2, none⟩ (.int .i64 (d + 1))) := HRN2.out.store _ (by unfold rnL; simp) rfl HRN2.out.ticks
        have hst4 : Mv base [m] v v w3 (w3.setCell ⟨m, 2, none⟩ (.int .i64 (d + 1))) := Mv.store HRN2.out.low (by simp)
        have hk4 := keepsLow hst4.bel
        have hX4 : Row (w3.setCell ⟨m, 2, none⟩ (.int .i64 (d + 1))) B (intVs l) := fun j u hj => by
          obtain ⟨bx, ox, e, hc⟩ := HX.out j u hj
          obtain ⟨m1, m2, m3⟩ := HXM.out (fun hl => by rw [hl] at hj; simp [intVs] at hj) _ e
          refine ⟨bx, ox, e, ?_⟩
          have := (HMV2.out.trans hst4).kp bx m3 (by simpa using m1) m2
          exact cell_same hc this
        have hbd := rbody_any fs base m (some ⟨b8, off8, none⟩) cf T call (d + 1) f N p3 p4 p5 l p2 p1 H64.out (tickP T st) v P8 p8 B8 d8 B c (w3.setCell ⟨m, 2, none⟩ (.int .i64 (d + 1))) (HA.out.keep (keepsLow (HMV2.out.trans hst4).bel) (fun _ h => h)) hrn4 (hprm8.keep hk4 (fun _ h => h)) (hbody8.keep hk4 (fun _ h => h)) hX4
        rw [hrr] at hbd
        unfold RvPost funV at hbd
        obtain ⟨x0, -, x2, -, -, -, -⟩ := hrn4.cells
        obtain ⟨w4, hw4⟩ : ∃ w4, w3.setCell ⟨m, 2, none⟩ (.int .i64 (d + 1)) = w4 := ⟨_, rfl⟩
        have y0 := hk4 _ _ hb8 g0
        have y1 := hk4 _ _ hb8 g1
        have y2 := hk4 _ _ hb8 g2
        have hmv4 := HMV2.out.trans hst4
        rw [hw4] at hbd x0 x2 y0 y1 y2 hmv4
        have HBD := Lib.hid hbd
        have HMV4 := Lib.hid hmv4
        have Y0 := Lib.hid y0
        have Y1 := Lib.hid y1
        have Y2 := Lib.hid y2
        have X0 := Lib.hid x0
        clear hbd hmv4 hst4 hk4 hX4 hrn4 hrr p1 p2 p3 p4 p5 hn hpk hfa hf hcells8 hprm8 hbody8 y0 y1 y2 x0 x2
        go_upto_region 19 with fail
        try rw [hw4]
        have y0 := Y0.out
        have y1 := Y1.out
        have y2 := Y2.out
        have x0 := X0.out
        clear hw4 c0 c2 z2 g0 g1 g2
        go_wp2_with (go_at_call 62; (with_reducible refine HBD.out.mono ?_); rintro y w5 ⟨n, rfl, hn64, hn, v5, hrn5, hmv5⟩; obtain ⟨-, -, e2, -, -, -, -⟩ := hrn5.cells; have z5 := row_frozen hrn5.blk 2; have HF := Lib.hid (And.intro hn64 (And.intro hn (And.intro hrn5 hmv5))); clear hn64 hn hrn5 hmv5)
        go_ret
        obtain ⟨s1, s2, s3, s4⟩ := HF.out
        have hrn6 : Rn base m (some ⟨b8, off8, none⟩) fs.length cf T d r.2 v5 (w5.setCell ⟨m, 2, none⟩ (.int .i64 d)) := s3.store _ (by unfold rnL; simp) rfl s3.ticks
        exact ⟨n, rfl, s1, s2, v5, hrn6, (HMV4.out.trans s4).trans (Mv.store s3.low (by simp))⟩
      · have q1 : ((mkB f.name).toList == (mkB name).toList) = false := by rw [mkB_toList, mkB_toList]; exact beq_eq_false_iff_ne.2 hn
        have HN := Lib.hid (HNF.out hn)
        clear hn hpk hfa hf hcells8 hprm8 hbody8
        go_wp2_with fail
        go_roundw
        case rel => exact ⟨k + 1, by omega, by go_num, (by trivial), fun j hj hjk => by
          by_cases hjj : j = k
          · subst hjj; exact HN.out
          · exact HNO.out j hj (by omega)⟩
        case measure => simp [intOf]; omega
    · obtain ⟨f, hf⟩ := HIN.out
      have hm : f ∈ fs ∧ f.name = name := by
        unfold findF at hf
        exact ⟨List.mem_of_find?_eq_some hf, by simpa using List.find?_some hf⟩
      obtain ⟨j, hj, e⟩ := List.mem_iff_getElem.1 hm.1
      exact absurd (by rw [e]; exact hm.2) (HNO.out j hj (by omega))
end
end Go.Proofs.YtnpdjncgilekhaaGreatDoor

namespace Go.Proofs.YtnpdjncgilekhaaGreatDoor
open Go.RowKit

/-! the reference's run: all calls; RunOf -/
section
variable {fs : List PFun} {base m : Nat} {A : Option Addr} {cf T : Nat}
theorem rexpr_each (call : Caller) (hg : GoC T call) (t : Tab) (d q : Nat) (hcl : RCallR fs base m A cf T call t d) : ∀ e : PExpr, WfE t e → RExprR fs base m A cf T call d q e := by
  intro e
  induction e using PExpr.ind with
  | h e ih => intro hw; exact rvalue_any fs base m A cf T call hg t d q hcl e hw fun k hk => ih k hk (hw.kid k hk)
theorem rstmt_each (hT : T ≤ 5000) (call : Caller) (hg : GoC T call) (t : Tab) (d q : Nat) (N : List Nm) (hN12 : N.length ≤ 12) (hcl : RCallR fs base m A cf T call t d) : ∀ s : PStmt, WfS t N s → RBlockR fs base m A cf T call d q N s.th ∧ RBlockR fs base m A cf T call d q N s.el := by
  intro s
  induction s using PStmt.ind with
  | h s iht ihl =>
    intro hw
    exact ⟨rblock_list2 fs base m A cf T hT call hg t d q N hN12 s.th hw.small.2.1 fun k hk => ⟨hw.kidT k hk, rexpr_each call hg t d q hcl k.e (hw.kidT k hk).expr, iht k hk (hw.kidT k hk)⟩,
      rblock_list2 fs base m A cf T hT call hg t d q N hN12 s.el hw.small.2.2 fun k hk => ⟨hw.kidL k hk, rexpr_each call hg t d q hcl k.e (hw.kidL k hk).expr, ihl k hk (hw.kidL k hk)⟩⟩
theorem rblock_any2 (hT : T ≤ 5000) (call : Caller) (hg : GoC T call) (t : Tab) (d q : Nat) (N : List Nm) (hN12 : N.length ≤ 12) (hcl : RCallR fs base m A cf T call t d) (ss : List PStmt) (hlen : ss.length ≤ 30) (hw : ∀ s ∈ ss, WfS t N s) : RBlockR fs base m A cf T call d q N ss :=
  rblock_list2 fs base m A cf T hT call hg t d q N hN12 ss hlen fun s hs => ⟨hw s hs, rexpr_each call hg t d q hcl s.e (hw s hs).expr, rstmt_each hT call hg t d q N hN12 hcl s (hw s hs)⟩
theorem rcall_each (hT : T ≤ 5000) (hfl : fs.length ≤ 1000) (hwf : ∀ f ∈ fs, WfF (tabOf fs) f) : ∀ e, e ≤ 40 → RCallR fs base m A cf T (callP fs T e) (tabOf fs) (40 - e) := by
  intro e
  induction e with
  | zero =>
    intro _ name l st v B c w hA hR hX hXm h64 hn ho ha
    by_cases ht : st.ticks < T
    · exact rcall_deep hT name l st v B c w hR ho ht
    · exact rcall_tired hT 40 0 name l st v B c w hR ho ht
  | succ e ih =>
    intro he name l st v B c w hA hR hX hXm h64 hn ho ha
    by_cases ht : st.ticks < T
    · obtain ⟨f0, hf0, -, -, -⟩ := find_there ha
      have ih' := ih (by omega)
      rw [show 40 - e = 40 - (e + 1) + 1 by omega] at ih'
      refine rcall_body hT (40 - (e + 1)) (by omega) (callP fs T e) name l st v B c w hA hR hX hXm h64 hfl (fun f hf hfn hff => ?_) ⟨f0, hf0⟩ ho ht _ (fun f hf => (callP_body ho ht hf).symm)
      have hw := hwf f hf
      obtain ⟨N, hN12, hPN, hs⟩ := hw.body
      have hp : f.params.length = l.length := by
        have := args_there hff
        rw [this] at ha
        exact Option.some.inj ha
      exact ⟨hp, hw.four, N, hN12, hPN, fun q => rblock_any2 hT (callP fs T e) (go_call fs T e) (tabOf fs) _ q N hN12 ih' f.body hw.small.body hs⟩
    · exact rcall_tired hT (40 - (e + 1)) (e + 1) name l st v B c w hR ho ht
end
end Go.Proofs.YtnpdjncgilekhaaGreatDoor

namespace Go.Proofs.YtnpdjncgilekhaaGreatDoor
open Go.RowKit

/-! RunOf -/
def outL (v : Value) (how : Nm) (n : Int) (ticks : Nat) : Array Value := #[.string (mkB how), .int .i64 n, v, .int .i64 ticks]
set_option maxHeartbeats 8000000 in
set_option maxRecDepth 100000 in
theorem RunOf_any (fs : List PFun) (hsm : ∀ f ∈ fs, SmF f) (A : Option Addr) (c : Nat) (hfl : fs.length ≤ 1000) (name : Nm) (hn20 : name.length ≤ 20) (args : List Int) (X : Option Addr) (xc T : Nat) (hT : T ≤ 5000) (w : World) (hr : RdF w (fun _ => True) fs A) (hX : Row w X (intVs args)) (h64 : ∀ n ∈ args, I64 n) (hz : (runC fs name args.length 0).1 = 0) (hXl : args ≠ [] → ∀ a, X = some a → a.block < w.heap.size) :
    Calls Tryz.prog 20 #[.slice A fs.length c, .string (mkB name), .slice X args.length xc, .int .i64 T] w fun en w' => ∃ B b, en = .returned (ocV (runP fs name args T) B b) ∧ Row w' B (intVs (runP fs name args T).2.2.1) ∧ (runP fs name args T).2.2.1.length ≤ b ∧ Below w.heap.size w w' := by
  have hp : (progC fs).1 = 0 := by
    unfold runC at hz
    by_cases hp : (progC fs).1 = 0
    · exact hp
    · rw [if_pos hp] at hz; simp at hz; exact absurd hz hp
  have hargs : argsOf (tabOf fs) name = some args.length := by
    unfold runC at hz
    rw [if_neg (by simp [hp])] at hz
    cases hf : findF fs name with
    | none => rw [hf] at hz; simp at hz
    | some f =>
      rw [hf] at hz
      simp only at hz
      by_cases hn : f.params.length = args.length
      · rw [args_there hf, hn]
      · rw [if_pos hn] at hz; simp at hz
  obtain ⟨m, hm⟩ : ∃ m, w.heap.size + 1 = m := ⟨_, rfl⟩
  have hrl := hr.lt
  have hb2 : Below w.heap.size w ((w.alloc (.cells #[.string ⟨#[]⟩, .int .i64 0, .slice none 0 0, .int .i64 0] 47)).alloc (.cells (rnL A fs.length c T 0 St0 (.slice none 0 0)) 92)) := grow_alloc (grow_alloc (grow_refl _) _) _
  have hk1 : ((w.alloc (.cells #[.string ⟨#[]⟩, .int .i64 0, .slice none 0 0, .int .i64 0] 47)).alloc (.cells (rnL A fs.length c T 0 St0 (.slice none 0 0)) 92)).heap[w.heap.size]? = some (.cells #[.string ⟨#[]⟩, .int .i64 0, .slice none 0 0, .int .i64 0] 47) := (old_block _ _ (by simp)).trans (heap_alloc_new w _)
  have hk2 : ((w.alloc (.cells #[.string ⟨#[]⟩, .int .i64 0, .slice none 0 0, .int .i64 0] 47)).alloc (.cells (rnL A fs.length c T 0 St0 (.slice none 0 0)) 92)).heap[m]? = some (.cells (rnL A fs.length c T 0 St0 (.slice none 0 0)) 92) := new_block _ _ (by simp; omega)
  obtain ⟨w2, hw2⟩ : ∃ w2, ((w.alloc (.cells #[.string ⟨#[]⟩, .int .i64 0, .slice none 0 0, .int .i64 0] 47)).alloc (.cells (rnL A fs.length c T 0 St0 (.slice none 0 0)) 92)) = w2 := ⟨_, rfl⟩
  rw [hw2] at hb2 hk1 hk2
  have hrn : Rn w.heap.size m A fs.length c T 0 St0 (.slice none 0 0) w2 := ⟨by omega, hk2, World.ownsRow_nil _ _ _ _, Nat.zero_le _, by decide⟩
  have hcall := rcall_each (fs := fs) (base := w.heap.size) (m := m) (A := A) (cf := c) hT hfl (wfF_prog hsm hp) 40 (Nat.le_refl _) name args St0 (.slice none 0 0) X xc w2 ((hrl.keep ((Keeps.of_below hb2).in _) (fun _ h => h)).keep ((Keeps.refl _).in _) (fun n h => h.2)) hrn (hX.keep (Keeps.of_below hb2)) (fun hne a ha => ⟨by have := hXl hne a ha; omega, by simp [Value.ownBlock], by have := hXl hne a ha; have := hb2.size; omega⟩) h64 hn20 rfl hargs
  obtain ⟨r, hrr⟩ : ∃ r, callP fs T 40 name args St0 = r := ⟨_, rfl⟩
  unfold RvPost at hcall
  rw [hrr] at hcall
  have HC := Lib.hid hcall
  have HRR := Lib.hid hrr
  have HB2 := Lib.hid hb2
  have HK1 := Lib.hid hk1
  have HW2 := Lib.hid hw2
  have HM := Lib.hid hm
  clear hcall hrr hb2 hk1 hk2 hw2 hm hrn hrl hr hX h64 hz hXl hargs hp hsm
  go_enter Tryz.func20, Tryz.ntmps20
  go_upto_region 2 with fail
  change Code.wp _ _ _ _ ((w.alloc (.cells #[.string ⟨#[]⟩, .int .i64 0, .slice none 0 0, .int .i64 0] 47)).alloc (.cells (rnL A fs.length c T 0 St0 (.slice none 0 0)) 92))
  rw [HW2.out, HM.out]
  go_upto_region 3 with (go_at_call 44; (with_reducible refine HC.out.mono ?_); rintro y w3 ⟨n, rfl, hn64, hn, v3, hrn3, hmv3⟩; obtain ⟨B3, b3, rfl⟩ := owns_slice hrn3.own; obtain ⟨-, -, -, -, e4, e5, e6⟩ := hrn3.cells; have HRN3 := Lib.hid hrn3; have HMV3 := Lib.hid hmv3; have HN := Lib.hid hn; clear hn64 hn hrn3 hmv3)
  have a4 := Keeps.alloc w3 (.cells #[.string ⟨#[]⟩, .int .i64 0, .slice none 0 0, .int .i64 0] 47) _ _ e4
  have a5 := Keeps.alloc w3 (.cells #[.string ⟨#[]⟩, .int .i64 0, .slice none 0 0, .int .i64 0] 47) _ _ e5
  have a6 := Keeps.alloc w3 (.cells #[.string ⟨#[]⟩, .int .i64 0, .slice none 0 0, .int .i64 0] 47) _ _ e6
  go_region
  have hk3 := (HMV3.out.kp w.heap.size (Array.getElem?_eq_some_iff.1 HK1.out).1 (by simp; have := HM.out; omega) (by simp [Value.ownBlock])).trans HK1.out
  have hlt3 := (Array.getElem?_eq_some_iff.1 hk3).1
  have hnA := heap_alloc_new w3 (.cells #[.string (mkB r.2.how), .int .i64 0, .slice B3 r.2.out.length b3, .int .i64 r.2.ticks] 47)
  have hkA := (old_block w3 (.cells #[.string (mkB r.2.how), .int .i64 0, .slice B3 r.2.out.length b3, .int .i64 r.2.ticks] 47) hlt3).trans hk3
  have hmA : (w3.alloc (.cells #[.string (mkB r.2.how), .int .i64 0, .slice B3 r.2.out.length b3, .int .i64 r.2.ticks] 47)).drew.cell? ⟨m, 4, none⟩ = some (.string (mkB r.2.how)) := Keeps.alloc w3 _ _ _ e4
  have hownA := (HRN3.out.own.alloc (.cells #[.string (mkB r.2.how), .int .i64 0, .slice B3 r.2.out.length b3, .int .i64 r.2.ticks] 47))
  have hbA := ((HB2.out.trans HMV3.out.bel).alloc (by omega) (.cells #[.string (mkB r.2.how), .int .i64 0, .slice B3 r.2.out.length b3, .int .i64 r.2.ticks] 47)).drew
  have hnq : Value.ownBlock (.slice B3 r.2.out.length b3) ≠ some w.heap.size := own_other HRN3.out.own hk3 fun cs e => by injection e with _ e _; exact absurd e (by decide)
  have hnp : Value.ownBlock (.slice B3 r.2.out.length b3) ≠ some w3.heap.size := fun e => by have := (owns_lt HRN3.out.own e).2; omega
  obtain ⟨p, hp⟩ : ∃ p, w3.heap.size = p := ⟨_, rfl⟩
  obtain ⟨wA, hwA⟩ : ∃ wA, (w3.alloc (.cells #[.string (mkB r.2.how), .int .i64 0, .slice B3 r.2.out.length b3, .int .i64 r.2.ticks] 47)).drew = wA := ⟨_, rfl⟩
  change (w3.alloc _).drew.heap[w3.heap.size]? = _ at hnA
  change (w3.alloc _).drew.heap[w.heap.size]? = _ at hkA
  change (w3.alloc _).drew.ownsRow _ _ _ _ _ _ at hownA
  rw [hwA] at hnA hkA hownA hbA hmA
  rw [hp] at hnA hlt3 hnp
  rw [hwA, hp]
  obtain ⟨k0, k1, k2, k3⟩ := row4 hkA
  have u0 := row_frozen hkA 0
  have u1 := row_frozen hkA 1
  have u2 := row_frozen hkA 2
  have u3 := row_frozen hkA 3
  obtain ⟨n0, n1, n2, n3⟩ := row4 hnA
  have m0 := row_frozen hnA 0
  have m1 := row_frozen hnA 1
  have hne1 : ¬ p = w.heap.size := by omega
  have hne2 : ¬ w.heap.size = p := by omega
  have HKA := Lib.hid hkA
  have HOA := Lib.hid hownA
  have HBA := Lib.hid hbA
  have HNQ := Lib.hid hnq
  have HNP := Lib.hid hnp
  have HLT := Lib.hid hlt3
  clear hk3 hnA hkA hownA hbA hnq hnp hp hwA hlt3 a4 a5 a6 e4 e5 e6 HK1 HW2
  cases hro : r.2.over
  · have HRO := Lib.hid hro
    have e1 := over_no hro
    have HN9 := Lib.hid (HN.out hro)
    rw [e1] at n0 hmA
    clear hro e1
    go_wp2_with fail
    have hown11 := setRow_owns (p := p) (j := 1) (.int .i64 n) (setRow_owns (p := p) (j := 0) (.string (mkB doneN)) HOA.out HNP.out) HNP.out
    have hb11 := (HBA.out.setCell (p := ⟨p, 0, none⟩) (by have := HLT.out; show w.heap.size ≤ p; omega) (.string (mkB doneN))).setCell (p := ⟨p, 1, none⟩) (by have := HLT.out; show w.heap.size ≤ p; omega) (.int .i64 n)
    have hk11 : ((wA.setCell ⟨p, 0, none⟩ (.string (mkB doneN))).setCell ⟨p, 1, none⟩ (.int .i64 n)).heap[w.heap.size]? = _ := ((Below.heap_setCell _ _ _ _ (by simp only; omega)).trans (Below.heap_setCell _ _ _ _ (by simp only; omega))).trans HKA.out
    obtain ⟨w11, hw11⟩ : ∃ w11, (wA.setCell ⟨p, 0, none⟩ (.string (mkB doneN))).setCell ⟨p, 1, none⟩ (.int .i64 n) = w11 := ⟨_, rfl⟩
    rw [hw11] at hk11 hown11 hb11
    change bodyPost _ _ _ _ _ ((((((wA.setCell ⟨p, 0, none⟩ (.string (mkB doneN))).setCell ⟨p, 1, none⟩ (.int .i64 n)).setCell _ _).setCell _ _).setCell _ _).setCell _ _)
    rw [hw11]
    have hk12 := set4 (v0 := .string (mkB doneN)) (v1 := .int .i64 n) (v2 := .slice B3 r.2.out.length b3) (v3 := .int .i64 r.2.ticks) hk11
    have hown12 := setRow_owns (p := w.heap.size) (j := 3) (.int .i64 r.2.ticks) (setRow_owns (p := w.heap.size) (j := 2) (.slice B3 r.2.out.length b3) (setRow_owns (p := w.heap.size) (j := 1) (.int .i64 n) (setRow_owns (p := w.heap.size) (j := 0) (.string (mkB doneN)) hown11 HNQ.out) HNQ.out) HNQ.out) HNQ.out
    have hb12 := below4 (q := w.heap.size) (v0 := .string (mkB doneN)) (v1 := .int .i64 n) (v2 := .slice B3 r.2.out.length b3) (v3 := .int .i64 r.2.ticks) hb11 (Nat.le_refl _)
    change bodyPost _ _ _ _ _ ((((w11.setCell ⟨w.heap.size, 0, none⟩ (.string (mkB doneN))).setCell ⟨w.heap.size, 1, none⟩ (.int .i64 n)).setCell ⟨w.heap.size, 2, none⟩ (.slice B3 r.2.out.length b3)).setCell ⟨w.heap.size, 3, none⟩ (.int .i64 r.2.ticks))
    obtain ⟨wf, hwf⟩ : ∃ wf, ((((w11.setCell ⟨w.heap.size, 0, none⟩ (.string (mkB doneN))).setCell ⟨w.heap.size, 1, none⟩ (.int .i64 n)).setCell ⟨w.heap.size, 2, none⟩ (.slice B3 r.2.out.length b3)).setCell ⟨w.heap.size, 3, none⟩ (.int .i64 r.2.ticks)) = wf := ⟨_, rfl⟩
    rw [hwf] at hk12 hown12 hb12
    rw [hwf]
    obtain ⟨z0, z1, z2, z3⟩ := row4 hk12
    obtain ⟨A', c', e', hc', hrow⟩ := owns_row hown12
    simp only [Value.slice.injEq, true_and] at e'
    obtain ⟨rfl, rfl⟩ := e'
    have hru : runP fs name args T = (doneN, n, r.2.out, r.2.ticks) := by unfold runP; rw [HRR.out, if_neg (by rw [HRO.out]; decide), HN9.out]
    refine bodyPost_ret (v := .agg #[.string (mkB doneN), .int .i64 n, .slice B3 r.2.out.length b3, .int .i64 r.2.ticks]) (by simp [results, Tryz.results20, go_sem, z0, z1, z2, z3]; try rfl) rfl ?_
    rw [hru]
    exact ⟨B3, b3, rfl, hrow, hc', hb12⟩
  · have HRO := Lib.hid hro
    have e1 := over_yes hro
    clear hro
    go_wp2_with fail
    have hk12 := set4 (v0 := .string (mkB r.2.how)) (v1 := .int .i64 0) (v2 := .slice B3 r.2.out.length b3) (v3 := .int .i64 r.2.ticks) HKA.out
    have hown12 := setRow_owns (p := w.heap.size) (j := 3) (.int .i64 r.2.ticks) (setRow_owns (p := w.heap.size) (j := 2) (.slice B3 r.2.out.length b3) (setRow_owns (p := w.heap.size) (j := 1) (.int .i64 0) (setRow_owns (p := w.heap.size) (j := 0) (.string (mkB r.2.how)) HOA.out HNQ.out) HNQ.out) HNQ.out) HNQ.out
    have hb12 := below4 (q := w.heap.size) (v0 := .string (mkB r.2.how)) (v1 := .int .i64 0) (v2 := .slice B3 r.2.out.length b3) (v3 := .int .i64 r.2.ticks) HBA.out (Nat.le_refl _)
    change bodyPost _ _ _ _ _ ((((wA.setCell ⟨w.heap.size, 0, none⟩ (.string (mkB r.2.how))).setCell ⟨w.heap.size, 1, none⟩ (.int .i64 0)).setCell ⟨w.heap.size, 2, none⟩ (.slice B3 r.2.out.length b3)).setCell ⟨w.heap.size, 3, none⟩ (.int .i64 r.2.ticks))
    obtain ⟨wf, hwf⟩ : ∃ wf, ((((wA.setCell ⟨w.heap.size, 0, none⟩ (.string (mkB r.2.how))).setCell ⟨w.heap.size, 1, none⟩ (.int .i64 0)).setCell ⟨w.heap.size, 2, none⟩ (.slice B3 r.2.out.length b3)).setCell ⟨w.heap.size, 3, none⟩ (.int .i64 r.2.ticks)) = wf := ⟨_, rfl⟩
    rw [hwf] at hk12 hown12 hb12
    rw [hwf]
    obtain ⟨z0, z1, z2, z3⟩ := row4 hk12
    obtain ⟨A', c', e', hc', hrow⟩ := owns_row hown12
    simp only [Value.slice.injEq, true_and] at e'
    obtain ⟨rfl, rfl⟩ := e'
    have hru : runP fs name args T = (r.2.how, 0, r.2.out, r.2.ticks) := by unfold runP; rw [HRR.out, if_pos HRO.out]
    refine bodyPost_ret (v := .agg #[.string (mkB r.2.how), .int .i64 0, .slice B3 r.2.out.length b3, .int .i64 r.2.ticks]) (by simp [results, Tryz.results20, go_sem, z0, z1, z2, z3]; try rfl) rfl ?_
    rw [hru]
    exact ⟨B3, b3, rfl, hrow, hc', hb12⟩
end Go.Proofs.YtnpdjncgilekhaaGreatDoor
