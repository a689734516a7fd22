import Derived.Test.YteifmgcbafemeaaGreatDoorCheckE
import Derived.Test.YteifmgcbafemeaaGreatDoorCheckLw
import Derived.Test.YteifmgcbafemeaaGreatDoorCheckC
import Derived.Test.YteifmgcbafemeaaGreatDoorCheckU
import Derived.Test.YteifmgcbafemeaaGreatDoorCheckX
import Derived.Deep.CutBlock
namespace Go.Proofs.YteifmgcbafemeaaGreatDoor
open Go.RowKit

/-! the document's check -/
def opsN : List Nm := [[43], [45], [42], [47], [37], [38], [124], [94], [60, 60], [62, 62], [60], [60, 61], [61, 61], [33, 61]]
theorem isTwoB_ops (n : Nm) : isTwoB n = opsN.contains n := by
  cases h : opsN.contains n
  · have k : ∀ x ∈ opsN, ¬ ((n == x) = true) := fun x hx e => by
      have : n = x := by simpa using e
      subst this
      rw [List.contains_iff_mem.2 hx] at h
      cases h
    unfold isTwoB doV orderV
    rw [if_neg (k _ (by decide)), if_neg (k _ (by decide)), if_neg (k _ (by decide)), if_neg (k _ (by decide)), if_neg (k _ (by decide)), if_neg (k _ (by decide)), if_neg (k _ (by decide)), if_neg (k _ (by decide)), if_neg (k _ (by decide)), if_neg (k _ (by decide)),
      if_neg (k _ (by decide)), if_neg (k _ (by decide)), if_neg (k _ (by decide)), if_neg (k _ (by decide))]
    rfl
  · have := List.contains_iff_mem.1 h
    simp only [opsN, List.mem_cons, List.not_mem_nil, or_false] at this
    rcases this with rfl | rfl | rfl | rfl | rfl | rfl | rfl | rfl | rfl | rfl | rfl | rfl | rfl | rfl <;> rfl
theorem isOneB_eq (n : Nm) : isOneB n = ((n == [45]) || (n == [33])) := by
  unfold isOneB oneV
  split
  · rename_i h; simp [h]
  · split
    · rename_i h; simp [h]
    · simp_all
theorem isTwo_any (n : Nm) (w : World) : Calls Tryz.prog 95 #[.string (mkB n)] w (Ret (.bool (isTwoB n)) w) := by
  have H := Lib.hid (isTwoB_ops n)
  have HR : Hid (∀ w', Row w' (some ⟨w.heap.size, 0, none⟩) (strVs opsN) → Calls Tryz.prog 38 #[.string (mkB n), .slice (some ⟨w.heap.size, 0, none⟩) 14 14] w' fun e w'' => e = .returned (.bool (opsN.contains n)) ∧ w'' = w') := fun w' hr => isin_any opsN n _ 14 w' hr (by decide)
  have HN : Hid (Row (w.alloc (.cells #[.string ⟨#[43]⟩, .string ⟨#[45]⟩, .string ⟨#[42]⟩, .string ⟨#[47]⟩, .string ⟨#[37]⟩, .string ⟨#[38]⟩, .string ⟨#[124]⟩, .string ⟨#[94]⟩, .string ⟨#[60, 60]⟩, .string ⟨#[62, 62]⟩, .string ⟨#[60]⟩, .string ⟨#[60, 61]⟩, .string ⟨#[61, 61]⟩, .string ⟨#[33, 61]⟩] 9)) (some ⟨w.heap.size, 0, none⟩) (strVs opsN)) :=
    show Row _ _ _ from Row.new w (strVs opsN).toArray 9
  cases hc : opsN.contains n
  all_goals
    rw [hc] at HR H
    clear hc
    go_enter Tryz.func95, Tryz.ntmps95
    go_wp2_with (first
      | (go_at_call 106; go_in)
      | (go_at_call 38; (with_reducible refine (HR.out _ HN.out).mono ?_); rintro e w' ⟨rfl, rfl⟩))
    go_ret
    exact ⟨by rw [H.out]; rfl, grow_alloc (grow_refl _) _⟩
theorem isOne_any (n : Nm) (w : World) : Calls Tryz.prog 94 #[.string (mkB n)] w fun e w' => e = .returned (.bool (isOneB n)) ∧ w' = w := by
  have H : Hid (isOneB n = (((mkB n).toList == [45]) || ((mkB n).toList == [33]))) := show _ = _ by rw [isOneB_eq, mkB_toList]
  cases h1 : ((mkB n).toList == [45]) <;> cases h2 : ((mkB n).toList == [33])
  all_goals
    rw [h1, h2] at H
    go_enter Tryz.func94, Tryz.ntmps94
    go_wp2_with fail
    go_ret
    exact ⟨by rw [H.out]; rfl, rfl⟩
theorem argsOf_step {fs : List PFun} {x : Nm} {k : Nat} (h : k < fs.length) : argsOf (tabOf (fs.drop k)) x = if fs[k].name == x then some fs[k].params.length else argsOf (tabOf (fs.drop (k + 1))) x := by
  rw [List.drop_eq_getElem_cons h]
  unfold argsOf tabOf
  rw [List.map_cons, List.find?_cons]
  cases fs[k].name == x <;> rfl
theorem row4 {w : World} {q : Nat} {v0 v1 v2 v3 : Value} {T : TypeId} {fz : Nat × Nat} (hrow : w.heap[q]? = some (.cells #[v0, v1, v2, v3] T fz)) :
    w.cell? ⟨q, 0, none⟩ = some v0 ∧ w.cell? ⟨q, 1, none⟩ = some v1 ∧ w.cell? ⟨q, 2, none⟩ = some v2 ∧ w.cell? ⟨q, 3, none⟩ = some v3 :=
  ⟨cell_of_row _ _ 0 _ _ _ hrow, cell_of_row _ _ 1 _ _ _ hrow, cell_of_row _ _ 2 _ _ _ hrow, cell_of_row _ _ 3 _ _ _ hrow⟩
def rexprO (e : PExpr) (A : Option Addr) (c : Nat) : Obj := .cells #[.string (mkB e.kind), .int .i64 e.num, .string (mkB e.name), .slice A e.kids.length c] 95
/-- A Known at block p. -/
structure KnAt (base p : Nat) (F : Option Addr) (nf cf : Nat) (all vis : List Nm) (w : World) : Prop where
  low : base ≤ p
  lt : p < w.heap.size
  cells : ∃ v s, w.heap[p]? = some (.cells #[.slice F nf cf, .bool true, v, s] 113 (0, 0)) ∧ w.ownsRow base 9 1 v all.length (strVs all) ∧ w.ownsRow base 9 1 s vis.length (strVs vis) ∧
    v.ownBlock ≠ some p ∧ s.ownBlock ≠ some p ∧ (s.ownBlock = none ∨ v.ownBlock ≠ s.ownBlock)
theorem KnAt.keep {base p : Nat} {F : Option Addr} {nf cf : Nat} {all vis : List Nm} {w w' : World} (h : KnAt base p F nf cf all vis w) (hb : Below w.heap.size w w') : KnAt base p F nf cf all vis w' := by
  obtain ⟨v, s, h1, h2, h3, h4, h5, h6⟩ := h.cells
  exact ⟨h.low, Nat.lt_of_lt_of_le h.lt hb.size, v, s, (hb.block p h.lt).trans h1, ownsRow_below h2 hb, ownsRow_below h3 hb, h4, h5, h6⟩
theorem KnAt.base_le {base p : Nat} {F : Option Addr} {nf cf : Nat} {all vis : List Nm} {w : World} (h : KnAt base p F nf cf all vis w) : base ≤ w.heap.size := by have := h.low; have := h.lt; omega
set_option maxHeartbeats 8000000 in
set_option maxRecDepth 100000 in
theorem rexpr_any (base p : Nat) (fs : List PFun) (F : Option Addr) (cf : Nat) (hf : fs.length ≤ 10) (all vis : List Nm) (hv : vis.length ≤ 1000) : ∀ e : PExpr, SmE e → ∀ (S : Nat → Prop) (A : Option Addr) (c : Nat) (w : World), KnAt base p F fs.length cf all vis w → RdF w (fun k => k < base) fs F → RdE w S e.kids A →
    Calls Tryz.prog 78 #[.pointer (some ⟨p, 0, none⟩), exprV e A c] w (Ret (.int .i64 (exprC (tabOf fs) vis e : Nat)) w) := by
  intro e
  induction e using PExpr.ind with
  | h e ih =>
  intro hsm S A c w hC hF hr
  have h8 := hsm.len
  have h20 := hsm.nameLen
  have hn1 := IsName_any e.name
  unfold strV at hn1
  obtain ⟨b0, hb0⟩ : ∃ b, nmOk e.name = b := ⟨_, rfl⟩
  rw [hb0] at hn1
  have HN := Lib.hid hn1
  have HN0 := Lib.hid hb0
  clear hb0
  have HI2 := Lib.hid (isTwo_any e.name)
  have HI1 := Lib.hid (isOne_any e.name)
  have hbx : Below w.heap.size w (w.alloc (rexprO e A c)) := grow_alloc (grow_refl _) _
  have HBX := Lib.hid hbx
  have HBK := Lib.hid (heap_alloc_new w (rexprO e A c))
  have IH : Hid (∀ (i : Nat) (hi : i < e.kids.length) (S : Nat → Prop) (A : Option Addr) (c : Nat) (w : World), KnAt base p F fs.length cf all vis w → RdF w (fun k => k < base) fs F → RdE w S e.kids[i].kids A →
    Calls Tryz.prog 78 #[.pointer (some ⟨p, 0, none⟩), exprV e.kids[i] A c] w (Ret (.int .i64 (exprC (tabOf fs) vis e.kids[i] : Nat)) w)) :=
    fun i hi => ih _ (List.getElem_mem hi) (hsm.kid _ (List.getElem_mem hi))
  have HCK := Lib.hid hC
  have HR := Lib.hid hr
  have HFF := Lib.hid hF
  clear ih hC hr hF hbx hsm hn1
  unfold exprV at *
  unfold rexprO at *
  go_enter Tryz.func78, Tryz.ntmps78
  go_upto_block 0 with (go_at_call 55; (with_reducible refine (HN.out _).mono ?_); rintro y w1 ⟨rfl, hb1⟩; have HK1 := Lib.hid ((hb1.block w.heap.size (by simp)).trans HBK.out); have HB1 := Lib.hid (grow_trans HBX.out hb1); obtain ⟨d0, d1, d2, d3⟩ := row4 HK1.out)
  go_cut [7] (fun v wx => v = .bool (bareB e) ∧ Below w1.heap.size w1 wx)
  case first =>
    by_cases k0 : e.kind = xNum
    · have g0 : ((mkB e.kind).toList == [110, 117, 109]) = true := by rw [mkB_toList, k0]; rfl
      have hb := bareB_num k0
      rw [empty_mkB, isEmpty_len e.kids] at hb
      have HB := Lib.hid hb
      clear k0 hb
      by_cases q1 : 0 ≤ e.num
      · cases h2 : (mkB e.name).toList.isEmpty
        · have HF : Hid (bareB e = false) := show _ = _ by rw [HB.out, h2]; simp
          go_wp2_with fail
          go_meet
          exact ⟨by rw [HF.out], Below.refl _ _⟩
        · by_cases h3 : e.kids.length = 0
          · have q3 : ((e.kids.length : Int) == 0) = true := by rw [h3]; rfl
            have HF : Hid (bareB e = true) := show _ = _ by rw [HB.out, h2, h3]; simp [q1]
            clear h3
            go_wp2_with fail
            go_meet
            exact ⟨by rw [HF.out], Below.refl _ _⟩
          · have q3 : ((e.kids.length : Int) == 0) = false := beq_eq_false_iff_ne.2 (by omega)
            have HF : Hid (bareB e = false) := show _ = _ by rw [HB.out, decide_eq_false h3]; simp
            clear h3
            go_wp2_with fail
            go_meet
            exact ⟨by rw [HF.out], Below.refl _ _⟩
      · have HF : Hid (bareB e = false) := show _ = _ by rw [HB.out, decide_eq_false q1]; simp
        go_wp2_with fail
        go_meet
        exact ⟨by rw [HF.out], Below.refl _ _⟩
    · have g0 : ((mkB e.kind).toList == [110, 117, 109]) = false := by rw [mkB_toList]; exact beq_eq_false_iff_ne.2 k0
      by_cases k1 : e.kind = xName
      · have g1 : ((mkB e.kind).toList == [110, 97, 109, 101]) = true := by rw [mkB_toList, k1]; rfl
        have hb := bareB_name k1
        rw [isEmpty_len e.kids] at hb
        have HB := Lib.hid hb
        clear k0 k1 hb
        cases h1 : (e.num == 0)
        · have HF : Hid (bareB e = false) := show _ = _ by rw [HB.out, h1]; simp
          go_wp2_with fail
          go_meet
          exact ⟨by rw [HF.out], Below.refl _ _⟩
        · cases b0
          · have HF : Hid (bareB e = false) := show _ = _ by rw [HB.out, HN0.out]; simp
            go_wp2_with fail
            go_meet
            exact ⟨by rw [HF.out], Below.refl _ _⟩
          · by_cases h3 : e.kids.length = 0
            · have q3 : ((e.kids.length : Int) == 0) = true := by rw [h3]; rfl
              have HF : Hid (bareB e = true) := show _ = _ by rw [HB.out, h1, HN0.out, decide_eq_true h3]; rfl
              clear h3
              go_wp2_with fail
              go_meet
              exact ⟨by rw [HF.out], Below.refl _ _⟩
            · have q3 : ((e.kids.length : Int) == 0) = false := beq_eq_false_iff_ne.2 (by omega)
              have HF : Hid (bareB e = false) := show _ = _ by rw [HB.out, decide_eq_false h3]; simp
              clear h3
              go_wp2_with fail
              go_meet
              exact ⟨by rw [HF.out], Below.refl _ _⟩
      · have g1 : ((mkB e.kind).toList == [110, 97, 109, 101]) = false := by rw [mkB_toList]; exact beq_eq_false_iff_ne.2 k1
        by_cases k2 : e.kind = xCall
        · have g2 : ((mkB e.kind).toList == [99, 97, 108, 108]) = true := by rw [mkB_toList, k2]; rfl
          have HB := Lib.hid (bareB_call k2)
          clear k0 k1 k2
          cases h1 : (e.num == 0) <;> cases b0
          all_goals
            rw [h1, HN0.out] at HB
            go_wp2_with fail
            go_meet
            exact ⟨by rw [HB.out]; rfl, Below.refl _ _⟩
        · have g2 : ((mkB e.kind).toList == [99, 97, 108, 108]) = false := by rw [mkB_toList]; exact beq_eq_false_iff_ne.2 k2
          by_cases k3 : e.kind = xOne
          · have g3 : ((mkB e.kind).toList == [111, 110, 101]) = true := by rw [mkB_toList, k3]; rfl
            have HB := Lib.hid (bareB_one k3)
            clear k0 k1 k2 k3
            cases h1 : (e.num == 0)
            · have HF : Hid (bareB e = false) := show _ = _ by rw [HB.out, h1]; simp
              go_wp2_with fail
              go_meet
              exact ⟨by rw [HF.out], Below.refl _ _⟩
            · cases h2 : isOneB e.name
              · have HF : Hid (bareB e = false) := show _ = _ by rw [HB.out, h2]; simp
                rw [h2] at HI1
                go_wp2_with (go_at_call 94; (with_reducible refine (HI1.out _).mono ?_); rintro y w2 ⟨rfl, rfl⟩)
                go_meet
                exact ⟨by rw [HF.out], Below.refl _ _⟩
              · rw [h2] at HI1
                by_cases h3 : e.kids.length = 1
                · have q3 : ((e.kids.length : Int) == 1) = true := by rw [h3]; rfl
                  have HF : Hid (bareB e = true) := show _ = _ by rw [HB.out, h1, h2, decide_eq_true h3]; rfl
                  clear h3
                  go_wp2_with (go_at_call 94; (with_reducible refine (HI1.out _).mono ?_); rintro y w2 ⟨rfl, rfl⟩)
                  go_meet
                  exact ⟨by rw [HF.out], Below.refl _ _⟩
                · have q3 : ((e.kids.length : Int) == 1) = false := beq_eq_false_iff_ne.2 (by omega)
                  have HF : Hid (bareB e = false) := show _ = _ by rw [HB.out, decide_eq_false h3]; simp
                  clear h3
                  go_wp2_with (go_at_call 94; (with_reducible refine (HI1.out _).mono ?_); rintro y w2 ⟨rfl, rfl⟩)
                  go_meet
                  exact ⟨by rw [HF.out], Below.refl _ _⟩
          · have g3 : ((mkB e.kind).toList == [111, 110, 101]) = false := by rw [mkB_toList]; exact beq_eq_false_iff_ne.2 k3
            by_cases k4 : e.kind = xTwo
            · have g4 : ((mkB e.kind).toList == [116, 119, 111]) = true := by rw [mkB_toList, k4]; rfl
              have HB := Lib.hid (bareB_two k4)
              clear k0 k1 k2 k3 k4
              cases h1 : (e.num == 0)
              · have HF : Hid (bareB e = false) := show _ = _ by rw [HB.out, h1]; simp
                go_wp2_with fail
                go_meet
                exact ⟨by rw [HF.out], Below.refl _ _⟩
              · cases h2 : isTwoB e.name
                · have HF : Hid (bareB e = false) := show _ = _ by rw [HB.out, h2]; simp
                  rw [h2] at HI2
                  go_wp2_with (go_at_call 95; (with_reducible refine (HI2.out _).mono ?_); rintro y w2 ⟨rfl, hb2⟩)
                  go_meet
                  exact ⟨by rw [HF.out], hb2⟩
                · rw [h2] at HI2
                  by_cases h3 : e.kids.length = 2
                  · have q3 : ((e.kids.length : Int) == 2) = true := by rw [h3]; rfl
                    have HF : Hid (bareB e = true) := show _ = _ by rw [HB.out, h1, h2, decide_eq_true h3]; rfl
                    clear h3
                    go_wp2_with (go_at_call 95; (with_reducible refine (HI2.out _).mono ?_); rintro y w2 ⟨rfl, hb2⟩)
                    go_meet
                    exact ⟨by rw [HF.out], hb2⟩
                  · have q3 : ((e.kids.length : Int) == 2) = false := beq_eq_false_iff_ne.2 (by omega)
                    have HF : Hid (bareB e = false) := show _ = _ by rw [HB.out, decide_eq_false h3]; simp
                    clear h3
                    go_wp2_with (go_at_call 95; (with_reducible refine (HI2.out _).mono ?_); rintro y w2 ⟨rfl, hb2⟩)
                    go_meet
                    exact ⟨by rw [HF.out], hb2⟩
            · have g4 : ((mkB e.kind).toList == [116, 119, 111]) = false := by rw [mkB_toList]; exact beq_eq_false_iff_ne.2 k4
              have HF := Lib.hid (bareB_none k0 k1 k2 k3 k4)
              clear k0 k1 k2 k3 k4
              go_wp2_with fail
              go_meet
              exact ⟨by rw [HF.out], Below.refl _ _⟩
  case rest =>
    rename_i v7 wx
    obtain ⟨rfl, hbx⟩ := hcut
    have HBW := Lib.hid (grow_trans HB1.out hbx)
    have HKX := Lib.hid ((hbx.block w.heap.size (Array.getElem?_eq_some_iff.1 HK1.out).1).trans HK1.out)
    obtain ⟨f0, f1, f2, f3⟩ := row4 HKX.out
    clear d0 d1 d2 d3 hbx HI1 HI2 HN HN0
    cases hba : bareB e
    · have HE := Lib.hid (exprC_bad (fs := tabOf fs) (vis := vis) hba)
      go_wp2_with fail
      go_ret
      exact ⟨by rw [HE.out]; rfl, HBW.out⟩
    · have HBA := Lib.hid hba
      clear hba
      go_wp2_with fail
      go_loopw [8, 9] (fun i _ wr => ∃ k : Nat, k ≤ e.kids.length ∧ i = .int .i64 k ∧ kidsC (tabOf fs) vis e.kids = kidsC (tabOf fs) vis (e.kids.drop k) ∧ Below w.heap.size w wr ∧ wr.heap[w.heap.size]? = some (rexprO e A c)) (fun i _ _ => e.kids.length - (intOf i).toNat)
      case atStart => exact ⟨0, Nat.zero_le _, rfl, by simp, HBW.out, HKX.out⟩
      case round =>
        obtain ⟨k, hk, rfl, hI, hbel, hbox⟩ := hrel
        have HI := Lib.hid hI
        clear hI
        unfold rexprO at hbox
        have HBOX := Lib.hid hbox
        obtain ⟨d0, d1, d2, d3⟩ := row4 hbox
        clear hbox f0 f1 f2 f3
        by_cases hlt : k < e.kids.length
        · obtain ⟨b', off, B, d, rfl, -, hcells, hnum, hkid⟩ := (HR.out.keep ((Keeps.of_below hbel).in S) (fun _ h => h)).at hlt
          obtain ⟨c0, c1, c2, c3⟩ := cells_expr hcells
          have hlt' : (k : Int) < (e.kids.length : Int) := by omega
          have hst := kidsC_step (fs := tabOf fs) (vis := vis) hlt
          have hcode := exprC_code (tabOf fs) vis e.kids[k]
          have hkc := IH.out k hlt S B d wr (HCK.out.keep hbel) (HFF.out.keep ((Keeps.of_below hbel).in _) (fun _ h => h)) hkid
          obtain ⟨z, hz⟩ : ∃ z, exprC (tabOf fs) vis e.kids[k] = z := ⟨_, rfl⟩
          rw [hz] at hkc hst hcode
          have HKC := Lib.hid hkc
          clear hcells hkid hnum hz hkc
          by_cases h0 : z = 0
          · subst h0
            rw [if_pos rfl] at hst
            have HS := Lib.hid hst
            rw [show ((0 : Nat) : Int) = 0 from rfl] at HKC
            clear hst
            go_wp2_with (go_at_call 78; (with_reducible refine HKC.out.mono ?_); rintro x w2 ⟨rfl, hb2⟩)
            go_roundw
            case rel => exact ⟨k + 1, by omega, by go_num, HI.out.trans HS.out, grow_trans hbel hb2, (hb2.block _ (Array.getElem?_eq_some_iff.1 HBOX.out).1).trans HBOX.out⟩
            case measure => simp [intOf]; omega
          · rw [if_neg h0] at hst
            have hne : kidsC (tabOf fs) vis e.kids ≠ 0 := by rw [HI.out, hst]; exact h0
            have HF : Hid (exprC (tabOf fs) vis e = z) := show _ = _ by rw [exprC_kid HBA.out hne, HI.out, hst]
            have hz0 : (0 : Int) < (z : Int) := by omega
            clear hst hne h0
            go_wp2_with (go_at_call 78; (with_reducible refine HKC.out.mono ?_); rintro x w2 ⟨rfl, hb2⟩)
            go_ret
            exact ⟨by rw [HF.out]; rfl, grow_trans hbel hb2⟩
        · have hk' : k = e.kids.length := by omega
          subst hk'
          have h0 : kidsC (tabOf fs) vis e.kids = 0 := by rw [HI.out, List.drop_length, kidsC_nil]
          have hself := exprC_self HBA.out h0
          have hck := HCK.out.keep hbel
          obtain ⟨v, s, q1, -, q3, -⟩ := hck.cells
          obtain ⟨A', c', rfl, hrow, -⟩ := owns_Row q3
          have p0 : wr.cell? ⟨p, 0, none⟩ = some (.slice F fs.length cf) := cell_of_row _ _ 0 _ _ _ q1
          have p1 : wr.cell? ⟨p, 1, none⟩ = some (.bool true) := cell_of_row _ _ 1 _ _ _ q1
          have p3 : wr.cell? ⟨p, 3, none⟩ = some (.slice A' vis.length c') := cell_of_row _ _ 3 _ _ _ q1
          have HCON := Lib.hid (fun w' (hb : Below wr.heap.size wr w') => isin_any vis e.name A' c' w' (hrow.keep (Keeps.of_below hb)) (by omega))
          clear hck q1 q3 hrow h0
          by_cases hn : e.kind = xName
          · have t0 : ((mkB e.kind).toList == [110, 97, 109, 101]) = true := by rw [mkB_toList, hn]; rfl
            have t1 : ((mkB e.kind).toList != [99, 97, 108, 108]) = true := by rw [mkB_toList, hn]; rfl
            have t2 : ((mkB e.kind).toList == [99, 97, 108, 108]) = false := by rw [mkB_toList, hn]; rfl
            cases hc : vis.contains e.name
            · have HF : Hid (exprC (tabOf fs) vis e = 6) := show _ = _ by rw [hself]; unfold selfC; rw [if_pos hn, hc]; rfl
              rw [hc] at HCON
              clear hn hself hc
              go_wp2_with fail
              go_quiet ((go_at_call 38; exact Calls.quiet_of_same (HCON.out _ (grow_drew (Below.refl _ _) _))))
              go_wp2_with fail
              go_ret
              exact ⟨by rw [HF.out]; rfl, grow_drew hbel _⟩
            · have HF : Hid (exprC (tabOf fs) vis e = 0) := show _ = _ by rw [hself]; unfold selfC; rw [if_pos hn, hc]; rfl
              rw [hc] at HCON
              clear hn hself hc
              go_wp2_with fail
              go_quiet ((go_at_call 38; exact Calls.quiet_of_same (HCON.out _ (grow_drew (Below.refl _ _) _))))
              go_wp2_with fail
              go_ret
              exact ⟨by rw [HF.out]; rfl, grow_drew hbel _⟩
          · have t0 : ((mkB e.kind).toList == [110, 97, 109, 101]) = false := by rw [mkB_toList]; exact beq_eq_false_iff_ne.2 hn
            by_cases hcl : e.kind = xCall
            · have t1 : ((mkB e.kind).toList != [99, 97, 108, 108]) = false := by rw [mkB_toList, hcl]; rfl
              have t2 : ((mkB e.kind).toList == [99, 97, 108, 108]) = true := by rw [mkB_toList, hcl]; rfl
              have HF : Hid (exprC (tabOf fs) vis e = callC (tabOf fs) e.name e.kids.length) := show _ = _ by rw [hself]; unfold selfC; rw [if_neg hn, if_pos hcl]
              clear hn hself hcl HCON
              go_wp2_with fail
              go_quiet (fail)
              go_wp2_with fail
              rename_i nq _
              go_loopw [10] (fun i wt => ∃ (j m : Nat), j ≤ fs.length ∧ i = .int .i64 j ∧ argsOf (tabOf fs) e.name = argsOf (tabOf (fs.drop j)) e.name ∧ wt = wr.drewN m) (fun i _ => fs.length - (intOf i).toNat)
              case atStart => exact ⟨0, _, Nat.zero_le _, rfl, by simp, rfl⟩
              case round =>
                obtain ⟨j, m, hj, rfl, hJ, rfl⟩ := hrel
                have HJ := Lib.hid hJ
                clear hJ
                by_cases hlt2 : j < fs.length
                · obtain ⟨b2, off2, P2, p2, B2, d2', e2, -, hcells2, -, -⟩ := (HFF.out.keep ((Keeps.of_below hbel).in _) (fun _ h => h)) j hlt2
                  subst e2
                  obtain ⟨g0, g1, -⟩ := cells_fun hcells2
                  have hlt2' : (j : Int) < (fs.length : Int) := by omega
                  have HST := Lib.hid (argsOf_step (x := e.name) hlt2)
                  clear hcells2
                  cases hnm : (fs[j].name == e.name)
                  · have r1 : ((mkB fs[j].name).toList == (mkB e.name).toList) = false := by rw [mkB_toList, mkB_toList]; exact hnm
                    rw [hnm] at HST
                    clear hnm
                    go_wp2_with fail
                    go_quiet (fail)
                    go_wp2_with fail
                    go_roundw
                    case rel => exact ⟨j + 1, _, by omega, by go_num, HJ.out.trans HST.out, rfl⟩
                    case measure => simp [intOf]; omega
                  · have r1 : ((mkB fs[j].name).toList == (mkB e.name).toList) = true := by rw [mkB_toList, mkB_toList]; exact hnm
                    rw [hnm] at HST
                    have HA : Hid (argsOf (tabOf fs) e.name = some fs[j].params.length) := show _ = _ from HJ.out.trans HST.out
                    clear hnm
                    by_cases hq : fs[j].params.length = e.kids.length
                    · have r2 : ((fs[j].params.length : Int) != (e.kids.length : Int)) = false := by rw [hq]; simp
                      have HZ := Lib.hid (callC_yes HA.out hq)
                      clear hq
                      go_wp2_with fail
                      go_quiet (fail)
                      go_wp2_with fail
                      go_ret
                      exact ⟨by rw [HF.out, HZ.out]; rfl, grow_drew hbel _⟩
                    · have r2 : ((fs[j].params.length : Int) != (e.kids.length : Int)) = true := by rw [bne_iff_ne]; omega
                      have HZ := Lib.hid (callC_no HA.out hq)
                      clear hq
                      go_wp2_with fail
                      go_quiet (fail)
                      go_wp2_with fail
                      go_ret
                      exact ⟨by rw [HF.out, HZ.out]; rfl, grow_drew hbel _⟩
                · have hj' : j = fs.length := by omega
                  subst hj'
                  have HZ : Hid (callC (tabOf fs) e.name e.kids.length = 6) := show _ = _ from callC_none (by rw [HJ.out, List.drop_length]; rfl)
                  go_wp2_with fail
                  go_ret
                  exact ⟨by rw [HF.out, HZ.out]; rfl, grow_drew hbel _⟩
            · have t1 : ((mkB e.kind).toList != [99, 97, 108, 108]) = true := by rw [mkB_toList, bne_iff_ne]; exact hcl
              have t2 : ((mkB e.kind).toList == [99, 97, 108, 108]) = false := by rw [mkB_toList]; exact beq_eq_false_iff_ne.2 hcl
              have HF : Hid (exprC (tabOf fs) vis e = 0) := show _ = _ by rw [hself]; unfold selfC; rw [if_neg hn, if_neg hcl]
              clear hn hself hcl HCON
              go_wp2_with fail
              go_quiet (fail)
              go_wp2_with fail
              go_ret
              exact ⟨by rw [HF.out]; rfl, grow_drew hbel _⟩
end Go.Proofs.YteifmgcbafemeaaGreatDoor
