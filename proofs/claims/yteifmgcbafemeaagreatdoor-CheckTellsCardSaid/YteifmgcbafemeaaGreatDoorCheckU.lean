import Derived.Test.YteifmgcbafemeaaGreatDoorCheckT
namespace Go.Proofs.YteifmgcbafemeaaGreatDoor
open Go.RowKit

/-- The sentinels stand below base. -/
def LaidIn (E : Nat → Addr) (base : Nat) (w : World) : Prop := ∃ w0, Laid E w0 ∧ w0.heap.size ≤ base ∧ Below w0.heap.size w0 w
theorem LaidIn.laid {E : Nat → Addr} {base : Nat} {w : World} (h : LaidIn E base w) : Laid E w := by
  obtain ⟨w0, h1, _, h3⟩ := h; exact h1.keep h3
theorem LaidIn.keep {E : Nat → Addr} {base : Nat} {w w' : World} (h : LaidIn E base w) (hb : Below base w w') : LaidIn E base w' := by
  obtain ⟨w0, h1, h2, h3⟩ := h; exact ⟨w0, h1, h2, h3.trans (hb.mono h2)⟩
theorem keepsLow {base : Nat} {w w' : World} (hb : Below base w w') : KeepsIn (fun k => k < base) w w' := fun a v hs hc => (hb.cell hs).trans hc
theorem ChkAt.base_le {base p b n : Nat} {fs : Tab} {all vis : List Nm} {w : World} (h : ChkAt base p b n fs all vis w) : base ≤ w.heap.size := by have := h.low; have := h.lt; omega
theorem ChkPost.below {base p b n : Nat} {fs : Tab} {all vis : List Nm} {w w' : World} (h : ChkAt base p b n fs all vis w) (hb : Below w.heap.size w w') : ChkPost base p b n fs 0 all vis w w' := ⟨hb.mono h.base_le, KpC.below hb, fun _ => h.keep hb⟩
theorem ChkPost.trans {base p b n c : Nat} {fs : Tab} {all vis all' vis' : List Nm} {w w' w'' : World} (h : ChkPost base p b n fs 0 all vis w w') (k : ChkPost base p b n fs c all' vis' w' w'') : ChkPost base p b n fs c all' vis' w w'' := ⟨h.bel.trans k.bel, h.kp.trans k.kp, k.chk⟩
theorem ChkPost.fail {base p b n c : Nat} {fs : Tab} {all vis all' vis' : List Nm} {w w' : World} (h : ChkPost base p b n fs 0 all vis w w') (hc : c ≠ 0) : ChkPost base p b n fs c all' vis' w w' := ⟨h.bel, h.kp, fun e => absurd e hc⟩
theorem ChkPost.fail2 {base p b n c : Nat} {fs : Tab} {all vis all' vis' : List Nm} {w w' : World} (h : ChkPost base p b n fs c all vis w w') (hc : c ≠ 0) : ChkPost base p b n fs c all' vis' w w' := ⟨h.bel, h.kp, fun e => absurd e hc⟩
section
variable (E : Nat → Addr) (base p b n : Nat) (fs : Tab)
def CBlockC (ss : List PStmt) : Prop := ∀ (all vis : List Nm) (A : Option Addr) (c : Nat) (w : World), LaidIn E base w → ChkAt base p b n fs all vis w → RdS w (fun k => k < base) ss A → all.length ≤ 12 → vis.length ≤ all.length →
  Calls Tryz.prog 54 #[.pointer (some ⟨p, 0, none⟩), .slice A ss.length c] w fun e w' => e = .returned (eV E (blockC fs ss all vis).1) ∧ ChkPost base p b n fs (blockC fs ss all vis).1 (blockC fs ss all vis).2 vis w w'
def CStmtC (s : PStmt) : Prop := ∀ (all vis : List Nm) (X : Option Addr) (x : Nat) (T : Option Addr) (t : Nat) (L : Option Addr) (l : Nat) (w : World), LaidIn E base w → ChkAt base p b n fs all vis w → RdE w (fun k => k < base) s.e.kids X → RdS w (fun k => k < base) s.th T → RdS w (fun k => k < base) s.el L → all.length ≤ 12 → vis.length ≤ all.length →
  Calls Tryz.prog 74 #[.pointer (some ⟨p, 0, none⟩), stmtV s X x T t L l] w fun e w' => e = .returned (eV E (stmtC fs s all vis).1) ∧ ChkPost base p b n fs (stmtC fs s all vis).1 (stmtC fs s all vis).2.1 (stmtC fs s all vis).2.2 w w'
end
theorem stmtC_shape {fs : Tab} {s : PStmt} {all vis : List Nm} (h : Shp s = false) : stmtC fs s all vis = (3, all, vis) := by rw [stmtC_eq]; unfold Shp at h; rw [h]; rfl
theorem stmtC_expr {fs : Tab} {s : PStmt} {all vis : List Nm} (h : Shp s = true) (he : exprC fs vis s.e ≠ 0) : stmtC fs s all vis = (exprC fs vis s.e, all, vis) := by rw [stmtC_eq]; unfold Shp at h; rw [if_pos h, if_neg he]
theorem stmtC_var {fs : Tab} {s : PStmt} {all vis : List Nm} (h : Shp s = true) (he : exprC fs vis s.e = 0) (hk : s.kind = sVar) : stmtC fs s all vis = addC s.name all vis := by rw [stmtC_eq]; unfold Shp at h; rw [if_pos h, if_pos he, if_pos hk]
theorem stmtC_set {fs : Tab} {s : PStmt} {all vis : List Nm} (h : Shp s = true) (he : exprC fs vis s.e = 0) (hk : s.kind = sSet) (hv : vis.contains s.name = false) : stmtC fs s all vis = (6, all, vis) := by
  rw [stmtC_eq]; unfold Shp at h; rw [if_pos h, if_pos he, if_neg (by rw [hk]; decide), if_pos ⟨hk, hv⟩]
theorem stmtC_rest {fs : Tab} {s : PStmt} {all vis : List Nm} (h : Shp s = true) (he : exprC fs vis s.e = 0) (hk : s.kind ≠ sVar) (hv : s.kind = sSet → vis.contains s.name = true) : stmtC fs s all vis =
    if (blockC fs s.th all vis).1 = 0 then ((blockC fs s.el (blockC fs s.th all vis).2 vis).1, (blockC fs s.el (blockC fs s.th all vis).2 vis).2, vis) else ((blockC fs s.th all vis).1, (blockC fs s.th all vis).2, vis) := by
  rw [stmtC_eq]; unfold Shp at h; rw [if_pos h, if_pos he, if_neg hk, if_neg (fun q => by rw [hv q.1] at q; cases q.2)]
def stmtO (s : PStmt) (X : Option Addr) (x : Nat) (T : Option Addr) (t : Nat) (L : Option Addr) (l : Nat) : Obj := .cells #[.string (mkB s.kind), .string (mkB s.name), .string (mkB s.e.kind), .int .i64 s.e.num, .string (mkB s.e.name), .slice X s.e.kids.length x, .slice T s.th.length t, .slice L s.el.length l] 58
theorem stmt_ne_str : (58 : TypeId) ≠ 9 := by decide
theorem row8 {w : World} {q : Nat} {v0 v1 v2 v3 v4 v5 v6 v7 : Value} {T : TypeId} {fz : Nat × Nat} (hrow : w.heap[q]? = some (.cells #[v0, v1, v2, v3, v4, v5, v6, v7] T fz)) :
    w.cell? ⟨q, 0, none⟩ = some v0 ∧ w.cell? ⟨q, 1, none⟩ = some v1 ∧ w.cell? ⟨q, 2, none⟩ = some v2 ∧ w.cell? ⟨q, 3, none⟩ = some v3 ∧ w.cell? ⟨q, 4, none⟩ = some v4 ∧ w.cell? ⟨q, 5, none⟩ = some v5 ∧ w.cell? ⟨q, 6, none⟩ = some v6 ∧ w.cell? ⟨q, 7, none⟩ = some v7 :=
  ⟨cell_of_row _ _ 0 _ _ _ hrow, cell_of_row _ _ 1 _ _ _ hrow, cell_of_row _ _ 2 _ _ _ hrow, cell_of_row _ _ 3 _ _ _ hrow, cell_of_row _ _ 4 _ _ _ hrow, cell_of_row _ _ 5 _ _ _ hrow, cell_of_row _ _ 6 _ _ _ hrow, cell_of_row _ _ 7 _ _ _ hrow⟩
set_option maxHeartbeats 8000000 in
set_option maxRecDepth 100000 in
theorem cstmt_any (E : Nat → Addr) (base p b n : Nat) (fs : Tab) (hs : TabSmall fs) (s : PStmt) (hsm : SmS s) (hqT : CBlockC E base p b n fs s.th) (hqL : CBlockC E base p b n fs s.el) : CStmtC E base p b n fs s := by
  intro all vis X x T t L l w hE hC hX hT hL hal hvl
  have hw : w.heap.size ≠ p := by have := hC.lt; omega
  have hbx : Below w.heap.size w (w.alloc (stmtO s X x T t L l)) := grow_alloc (grow_refl _) _
  have HBK := Lib.hid (heap_alloc_new w (stmtO s X x T t L l))
  have HP0 := Lib.hid (ChkPost.below hC hbx)
  have HSH : Hid (∀ w', Calls Tryz.prog 91 #[stmtV s X x T t L l] w' (Ret (.bool (Shp s)) w')) := fun w' => shaped_any s X x T t L l w' hsm.lenT hsm.lenL
  have HEX : Hid (∀ w', ChkPost base p b n fs 0 all vis w w' → Calls Tryz.prog 92 #[.pointer (some ⟨p, 0, none⟩), exprV s.e X x] w' (Ret (eV E (exprC fs vis s.e)) w')) := fun w' hb =>
    cexpr_any E base p b n fs all vis hs (by omega) s.e hsm.expr _ X x w' (hE.keep hb.bel).laid (hb.chk rfl) (hX.keep (keepsLow hb.bel) (fun _ h => h))
  have HAD : Hid (∀ w', ChkPost base p b n fs 0 all vis w w' → Calls Tryz.prog 93 #[.pointer (some ⟨p, 0, none⟩), .string (mkB s.name)] w' fun e w'' => e = .returned (eV E (addC s.name all vis).1) ∧ ChkPost base p b n fs (addC s.name all vis).1 (addC s.name all vis).2.1 (addC s.name all vis).2.2 w' w'') := fun w' hb =>
    add_any E base p b n fs all vis s.name w' (hE.keep hb.bel).laid (hb.chk rfl) (by omega) (by omega)
  have HBT : Hid (∀ w', ChkPost base p b n fs 0 all vis w w' → Calls Tryz.prog 54 #[.pointer (some ⟨p, 0, none⟩), .slice T s.th.length t] w' fun e w'' => e = .returned (eV E (blockC fs s.th all vis).1) ∧ ChkPost base p b n fs (blockC fs s.th all vis).1 (blockC fs s.th all vis).2 vis w' w'') := fun w' hb =>
    hqT all vis T t w' (hE.keep hb.bel) (hb.chk rfl) (hT.keep (keepsLow hb.bel) (fun _ h => h)) hal hvl
  have hlb := leftB_any fs s.th all vis
  have HBL : Hid (∀ w', ChkPost base p b n fs 0 (blockC fs s.th all vis).2 vis w w' → Calls Tryz.prog 54 #[.pointer (some ⟨p, 0, none⟩), .slice L s.el.length l] w' fun e w'' => e = .returned (eV E (blockC fs s.el (blockC fs s.th all vis).2 vis).1) ∧ ChkPost base p b n fs (blockC fs s.el (blockC fs s.th all vis).2 vis).1 (blockC fs s.el (blockC fs s.th all vis).2 vis).2 vis w' w'') := fun w' hb =>
    hqL _ vis L l w' (hE.keep hb.bel) (hb.chk rfl) (hL.keep (keepsLow hb.bel) (fun _ h => h)) (hlb.2.1 hal) (Nat.le_trans hvl hlb.2.2)
  have HE : Hid (∀ w', Below base w w' → Laid E w') := fun w' hb => (hE.keep hb).laid
  have HCN : Hid (∀ w', ChkPost base p b n fs 0 all vis w w' → ∃ B d, w'.cell? ⟨p, 2, none⟩ = some (.slice B vis.length d) ∧ ∀ w'', Below w'.heap.size w' w'' → Calls Tryz.prog 36 #[.slice B vis.length d, .string (mkB s.name)] w'' fun e w3 => e = .returned (.bool (vis.contains s.name)) ∧ w3 = w'') := fun w' hb => by
    obtain ⟨v, s', q1, -, q3, -⟩ := (hb.chk rfl).cells
    obtain ⟨B, d, rfl, hrow, -⟩ := owns_Row q3
    exact ⟨B, d, cell_of_row _ _ 2 _ _ _ q1, fun w'' hb' => has_any vis s.name B d w'' (hrow.keep (Keeps.of_below hb')) (by omega)⟩
  clear hE hC hX hT hL hbx hqT hqL hlb hsm
  unfold stmtV exprV at *
  unfold stmtO at *
  cases hsh : Shp s
  · rw [stmtC_shape hsh]
    rw [hsh] at HSH
    clear hsh HAD HBT HBL HCN HEX
    go_enter Tryz.func74, Tryz.ntmps74
    go_wp2_with (go_at_call 91; (with_reducible refine (HSH.out _).mono ?_); rintro x1 w1 ⟨rfl, hb1⟩; have hp1 := HP0.out.trans (ChkPost.below (HP0.out.chk rfl) hb1); have g2 := (HE.out _ hp1.bel).c2; have HP1 := Lib.hid hp1; clear hp1)
    go_ret
    exact ⟨rfl, HP1.out.fail (by omega)⟩
  · rw [hsh] at HSH
    have HSS := Lib.hid hsh
    by_cases he : exprC fs vis s.e = 0
    · have HXX := Lib.hid he
      rw [he] at HEX
      rw [eV_zero] at HEX
      by_cases hk : s.kind = sVar
      · have t0 := kind_yes hk
        unfold sVar at t0
        rw [stmtC_var hsh he hk]
        clear hsh he hk HBT HBL HCN
        go_enter Tryz.func74, Tryz.ntmps74
        go_wp2_with (first
          | (go_at_call 91; (with_reducible refine (HSH.out _).mono ?_); rintro x1 w1 ⟨rfl, hb1⟩; obtain ⟨d0, d1, d2, d3, d4, d5, d6, d7⟩ := row8 ((hb1.block _ (by simp)).trans HBK.out); have HK1 := Lib.hid ((hb1.block _ (by simp)).trans HBK.out); have HP1 := Lib.hid (HP0.out.trans (ChkPost.below (HP0.out.chk rfl) hb1)))
          | (go_at_call 92; (with_reducible refine (HEX.out _ HP1.out).mono ?_); rintro x2 w2 ⟨rfl, hb2⟩; obtain ⟨d0', d1', d2', d3', d4', d5', d6', d7'⟩ := row8 ((hb2.block _ (Array.getElem?_eq_some_iff.1 HK1.out).1).trans HK1.out); have HP2 := Lib.hid (HP1.out.trans (ChkPost.below (HP1.out.chk rfl) hb2)))
          | (go_at_call 93; (with_reducible refine (HAD.out _ HP2.out).mono ?_); rintro x3 w3 ⟨rfl, hp3⟩))
        go_ret
        exact ⟨rfl, HP2.out.trans hp3⟩
      · have t0 := kind_no hk
        unfold sVar at t0
        have HWP := Lib.hid hw
        by_cases hst : s.kind = sSet
        · have t1 := kind_yes hst
          unfold sSet at t1
          cases hc : vis.contains s.name
          · rw [stmtC_set hsh he hst hc]
            rw [hc] at HCN
            clear hsh he hk hst hc HBT HBL HAD
            go_enter Tryz.func74, Tryz.ntmps74
            go_wp2_with (first
              | (go_at_call 91; (with_reducible refine (HSH.out _).mono ?_); rintro x1 w1 ⟨rfl, hb1⟩; obtain ⟨d0, d1, d2, d3, d4, d5, d6, d7⟩ := row8 ((hb1.block _ (by simp)).trans HBK.out); have HK1 := Lib.hid ((hb1.block _ (by simp)).trans HBK.out); have HP1 := Lib.hid (HP0.out.trans (ChkPost.below (HP0.out.chk rfl) hb1)))
              | (go_at_call 92; (with_reducible refine (HEX.out _ HP1.out).mono ?_); rintro x2 w2 ⟨rfl, hb2⟩; have HK2 := Lib.hid ((hb2.block _ (Array.getElem?_eq_some_iff.1 HK1.out).1).trans HK1.out); obtain ⟨d0', d1', d2', d3', d4', d5', d6', d7'⟩ := row8 HK2.out; have HP2 := Lib.hid (HP1.out.trans (ChkPost.below (HP1.out.chk rfl) hb2)); obtain ⟨B, d, q2, hcon⟩ := HCN.out _ HP2.out; have HCON := Lib.hid hcon; clear hcon; have g5 := (HE.out _ HP2.out.bel).c5))
            go_quiet ((go_at_call 36; exact Calls.quiet_of_same (HCON.out _ (grow_drew (Below.refl _ _) _))))
            go_wp2_with fail
            go_ret
            exact ⟨rfl, (HP2.out.trans (ChkPost.below (HP2.out.chk rfl) (grow_drew (Below.refl _ _) _))).fail (by omega)⟩
          · have HRS := Lib.hid (stmtC_rest (all := all) hsh he hk (fun _ => hc))
            rw [hc] at HCN
            clear hsh he hk hst hc HAD
            by_cases hz : (blockC fs s.th all vis).1 = 0
            · rw [if_pos hz] at HRS
              rw [hz] at HBT
              rw [eV_zero] at HBT
              rw [HRS.out]
              clear hz
              go_enter Tryz.func74, Tryz.ntmps74
              go_wp2_with (first
                | (go_at_call 91; (with_reducible refine (HSH.out _).mono ?_); rintro x1 w1 ⟨rfl, hb1⟩; obtain ⟨d0, d1, d2, d3, d4, d5, d6, d7⟩ := row8 ((hb1.block _ (by simp)).trans HBK.out); have HK1 := Lib.hid ((hb1.block _ (by simp)).trans HBK.out); have HP1 := Lib.hid (HP0.out.trans (ChkPost.below (HP0.out.chk rfl) hb1)))
                | (go_at_call 92; (with_reducible refine (HEX.out _ HP1.out).mono ?_); rintro x2 w2 ⟨rfl, hb2⟩; have HK2 := Lib.hid ((hb2.block _ (Array.getElem?_eq_some_iff.1 HK1.out).1).trans HK1.out); obtain ⟨d0', d1', d2', d3', d4', d5', d6', d7'⟩ := row8 HK2.out; have HP2 := Lib.hid (HP1.out.trans (ChkPost.below (HP1.out.chk rfl) hb2)); obtain ⟨B, d, q2, hcon⟩ := HCN.out _ HP2.out; have HCON := Lib.hid hcon; clear hcon; have g5 := (HE.out _ HP2.out.bel).c5))
              go_quiet ((go_at_call 36; exact Calls.quiet_of_same (HCON.out _ (grow_drew (Below.refl _ _) _))))
              rename_i nq _
              have HP3 := Lib.hid (HP2.out.trans (ChkPost.below (HP2.out.chk rfl) (grow_drew (Below.refl _ _) nq)))
              have HK3 : Hid ((w2.drewN nq).heap[w.heap.size]? = some (.cells #[.string (mkB s.kind), .string (mkB s.name), .string (mkB s.e.kind), .int .i64 s.e.num, .string (mkB s.e.name), .slice X s.e.kids.length x, .slice T s.th.length t, .slice L s.el.length l] 58 (0, 0))) := HK2.out
              go_wp2_with (first
                | (go_at_call 54; (with_reducible refine (HBT.out _ HP3.out).mono ?_); rintro x4 w4 ⟨rfl, hp4⟩; have HP4 := Lib.hid (HP3.out.trans hp4); have HK4 := Lib.hid (hp4.kp _ _ _ _ HWP.out stmt_ne_str HK3.out); obtain ⟨e0, e1, e2, e3, e4, e5, e6, e7⟩ := row8 HK4.out; clear hp4)
                | (go_at_call 54; (with_reducible refine (HBL.out _ HP4.out).mono ?_); rintro x5 w5 ⟨rfl, hp5⟩))
              go_ret
              exact ⟨rfl, HP4.out.trans hp5⟩
            · rw [if_neg hz] at HRS
              have HZ := Lib.hid (eV_pos E hz)
              have HNE := Lib.hid hz
              rw [eV_pos E hz] at HBT
              rw [HRS.out]
              clear hz
              go_enter Tryz.func74, Tryz.ntmps74
              go_wp2_with (first
                | (go_at_call 91; (with_reducible refine (HSH.out _).mono ?_); rintro x1 w1 ⟨rfl, hb1⟩; obtain ⟨d0, d1, d2, d3, d4, d5, d6, d7⟩ := row8 ((hb1.block _ (by simp)).trans HBK.out); have HK1 := Lib.hid ((hb1.block _ (by simp)).trans HBK.out); have HP1 := Lib.hid (HP0.out.trans (ChkPost.below (HP0.out.chk rfl) hb1)))
                | (go_at_call 92; (with_reducible refine (HEX.out _ HP1.out).mono ?_); rintro x2 w2 ⟨rfl, hb2⟩; have HK2 := Lib.hid ((hb2.block _ (Array.getElem?_eq_some_iff.1 HK1.out).1).trans HK1.out); obtain ⟨d0', d1', d2', d3', d4', d5', d6', d7'⟩ := row8 HK2.out; have HP2 := Lib.hid (HP1.out.trans (ChkPost.below (HP1.out.chk rfl) hb2)); obtain ⟨B, d, q2, hcon⟩ := HCN.out _ HP2.out; have HCON := Lib.hid hcon; clear hcon; have g5 := (HE.out _ HP2.out.bel).c5))
              go_quiet ((go_at_call 36; exact Calls.quiet_of_same (HCON.out _ (grow_drew (Below.refl _ _) _))))
              rename_i nq _
              have HP3 := Lib.hid (HP2.out.trans (ChkPost.below (HP2.out.chk rfl) (grow_drew (Below.refl _ _) nq)))
              have HK3 : Hid ((w2.drewN nq).heap[w.heap.size]? = some (.cells #[.string (mkB s.kind), .string (mkB s.name), .string (mkB s.e.kind), .int .i64 s.e.num, .string (mkB s.e.name), .slice X s.e.kids.length x, .slice T s.th.length t, .slice L s.el.length l] 58 (0, 0))) := HK2.out
              go_wp2_with (first
                | (go_at_call 54; (with_reducible refine (HBT.out _ HP3.out).mono ?_); rintro x4 w4 ⟨rfl, hp4⟩))
              go_ret
              exact ⟨by rw [HZ.out]; rfl, HP3.out.trans hp4⟩
        · have t1 := kind_no hst
          unfold sSet at t1
          have HRS := Lib.hid (stmtC_rest (all := all) hsh he hk (fun q => absurd q hst))
          clear hsh he hk hst HAD HCN
          by_cases hz : (blockC fs s.th all vis).1 = 0
          · rw [if_pos hz] at HRS
            rw [hz] at HBT
            rw [eV_zero] at HBT
            rw [HRS.out]
            clear hz
            go_enter Tryz.func74, Tryz.ntmps74
            go_wp2_with (first
              | (go_at_call 91; (with_reducible refine (HSH.out _).mono ?_); rintro x1 w1 ⟨rfl, hb1⟩; obtain ⟨d0, d1, d2, d3, d4, d5, d6, d7⟩ := row8 ((hb1.block _ (by simp)).trans HBK.out); have HK1 := Lib.hid ((hb1.block _ (by simp)).trans HBK.out); have HP1 := Lib.hid (HP0.out.trans (ChkPost.below (HP0.out.chk rfl) hb1)))
              | (go_at_call 92; (with_reducible refine (HEX.out _ HP1.out).mono ?_); rintro x2 w2 ⟨rfl, hb2⟩; have HK2 := Lib.hid ((hb2.block _ (Array.getElem?_eq_some_iff.1 HK1.out).1).trans HK1.out); obtain ⟨d0', d1', d2', d3', d4', d5', d6', d7'⟩ := row8 HK2.out; have HP2 := Lib.hid (HP1.out.trans (ChkPost.below (HP1.out.chk rfl) hb2)); have HP3 := HP2; have HK3 := HK2)
              | (go_at_call 54; (with_reducible refine (HBT.out _ HP3.out).mono ?_); rintro x4 w4 ⟨rfl, hp4⟩; have HP4 := Lib.hid (HP3.out.trans hp4); have HK4 := Lib.hid (hp4.kp _ _ _ _ HWP.out stmt_ne_str HK3.out); obtain ⟨e0, e1, e2, e3, e4, e5, e6, e7⟩ := row8 HK4.out; clear hp4)
              | (go_at_call 54; (with_reducible refine (HBL.out _ HP4.out).mono ?_); rintro x5 w5 ⟨rfl, hp5⟩))
            go_ret
            exact ⟨rfl, HP4.out.trans hp5⟩
          · rw [if_neg hz] at HRS
            have HZ := Lib.hid (eV_pos E hz)
            have HNE := Lib.hid hz
            rw [eV_pos E hz] at HBT
            rw [HRS.out]
            clear hz
            go_enter Tryz.func74, Tryz.ntmps74
            go_wp2_with (first
              | (go_at_call 91; (with_reducible refine (HSH.out _).mono ?_); rintro x1 w1 ⟨rfl, hb1⟩; obtain ⟨d0, d1, d2, d3, d4, d5, d6, d7⟩ := row8 ((hb1.block _ (by simp)).trans HBK.out); have HK1 := Lib.hid ((hb1.block _ (by simp)).trans HBK.out); have HP1 := Lib.hid (HP0.out.trans (ChkPost.below (HP0.out.chk rfl) hb1)))
              | (go_at_call 92; (with_reducible refine (HEX.out _ HP1.out).mono ?_); rintro x2 w2 ⟨rfl, hb2⟩; have HK2 := Lib.hid ((hb2.block _ (Array.getElem?_eq_some_iff.1 HK1.out).1).trans HK1.out); obtain ⟨d0', d1', d2', d3', d4', d5', d6', d7'⟩ := row8 HK2.out; have HP2 := Lib.hid (HP1.out.trans (ChkPost.below (HP1.out.chk rfl) hb2)); have HP3 := HP2; have HK3 := HK2)
              | (go_at_call 54; (with_reducible refine (HBT.out _ HP3.out).mono ?_); rintro x4 w4 ⟨rfl, hp4⟩))
            go_ret
            exact ⟨by rw [HZ.out]; rfl, HP3.out.trans hp4⟩
    · rw [stmtC_expr hsh he]
      have HZ := Lib.hid (eV_pos E he)
      have HNE := Lib.hid he
      rw [eV_pos E he] at HEX
      clear hsh he HAD HBT HBL HCN
      go_enter Tryz.func74, Tryz.ntmps74
      go_wp2_with (first
        | (go_at_call 91; (with_reducible refine (HSH.out _).mono ?_); rintro x1 w1 ⟨rfl, hb1⟩; obtain ⟨d0, d1, d2, d3, d4, d5, d6, d7⟩ := row8 ((hb1.block _ (by simp)).trans HBK.out); have HP1 := Lib.hid (HP0.out.trans (ChkPost.below (HP0.out.chk rfl) hb1)))
        | (go_at_call 92; (with_reducible refine (HEX.out _ HP1.out).mono ?_); rintro x2 w2 ⟨rfl, hb2⟩; have HP2 := Lib.hid (HP1.out.trans (ChkPost.below (HP1.out.chk rfl) hb2))))
      go_ret
      exact ⟨by rw [HZ.out]; rfl, HP2.out.fail HNE.out⟩
end Go.Proofs.YteifmgcbafemeaaGreatDoor
