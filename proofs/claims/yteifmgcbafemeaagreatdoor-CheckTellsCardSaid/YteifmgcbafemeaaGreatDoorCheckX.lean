import Derived.Test.YteifmgcbafemeaaGreatDoorCheckC
namespace Go.Proofs.YteifmgcbafemeaaGreatDoor
open Go.RowKit

theorem kidsC_step {fs : Tab} {vis : List Nm} {ks : List PExpr} {k : Nat} (h : k < ks.length) : kidsC fs vis (ks.drop k) = if exprC fs vis ks[k] = 0 then kidsC fs vis (ks.drop (k + 1)) else exprC fs vis ks[k] := by
  rw [List.drop_eq_getElem_cons h, kidsC_cons]
theorem exprC_bad {fs : Tab} {vis : List Nm} {e : PExpr} (h : bareB e = false) : exprC fs vis e = 3 := by rw [exprC_eq, h]; rfl
theorem exprC_kid {fs : Tab} {vis : List Nm} {e : PExpr} (h : bareB e = true) (hk : kidsC fs vis e.kids ≠ 0) : exprC fs vis e = kidsC fs vis e.kids := by rw [exprC_eq, h, if_pos rfl, if_neg hk]
theorem exprC_self {fs : Tab} {vis : List Nm} {e : PExpr} (h : bareB e = true) (hk : kidsC fs vis e.kids = 0) : exprC fs vis e = selfC fs vis e := by rw [exprC_eq, h, if_pos rfl, if_pos hk]
def exprO (e : PExpr) (A : Option Addr) (c : Nat) : Obj := .cells #[.string (mkB e.kind), .int .i64 e.num, .string (mkB e.name), .slice A e.kids.length c] 56
set_option maxHeartbeats 4000000 in
set_option maxRecDepth 100000 in
theorem cexpr_any (E : Nat → Addr) (base p b n : Nat) (fs : Tab) (all vis : List Nm) (hs : TabSmall fs) (hv : vis.length ≤ 1000) : ∀ e : PExpr, SmE e → ∀ (S : Nat → Prop) (A : Option Addr) (c : Nat) (w : World), Laid E w → ChkAt base p b n fs all vis w → RdE w S e.kids A →
    Calls Tryz.prog 92 #[.pointer (some ⟨p, 0, none⟩), exprV e A c] w (Ret (eV E (exprC fs vis e)) w) := by
  intro e
  induction e using PExpr.ind with
  | h e ih =>
  intro hsm S A c w hE hC hr
  have h8 := hsm.len
  have h20 := hsm.nameLen
  have HB : Hid (∀ w', Below w.heap.size w w' → Calls Tryz.prog 104 #[exprV e A c] w' (Ret (.bool (bareB e)) w')) := fun w' hb => bare_any e E A c w' (hE.keep hb)
  have hbx : Below w.heap.size w (w.alloc (exprO e A c)) := grow_alloc (grow_refl _) _
  have HBX := Lib.hid hbx
  have hbk := heap_alloc_new w (exprO e A c)
  have IH : Hid (∀ (i : Nat) (hi : i < e.kids.length) (S : Nat → Prop) (A : Option Addr) (c : Nat) (w : World), Laid E w → ChkAt base p b n fs all vis w → RdE w S e.kids[i].kids A →
    Calls Tryz.prog 92 #[.pointer (some ⟨p, 0, none⟩), exprV e.kids[i] A c] w (Ret (eV E (exprC fs vis e.kids[i])) w)) :=
    fun i hi => ih _ (List.getElem_mem hi) (hsm.kid _ (List.getElem_mem hi))
  have HE := Lib.hid hE
  have HCK := Lib.hid hC
  have HR := Lib.hid hr
  have HK := Lib.hid hbk
  clear ih hE hC hr hbx hsm hbk
  unfold exprV at *
  cases hba : bareB e
  · have HF := Lib.hid (exprC_bad (fs := fs) (vis := vis) hba)
    rw [hba] at HB
    clear hba
    have hk2 : ∀ w1, Below (w.alloc (exprO e A c)).heap.size (w.alloc (exprO e A c)) w1 → w1.cell? ⟨5, 0, none⟩ = some (esV (E 2)) := fun w1 hb => (HE.out.keep (grow_trans HBX.out hb)).c2
    unfold exprO at *
    go_enter Tryz.func92, Tryz.ntmps92
    go_wp2_with (go_at_call 104; (with_reducible refine (HB.out _ HBX.out).mono ?_); rintro x w1 ⟨rfl, hb1⟩; have g2 := hk2 _ hb1)
    go_ret
    exact ⟨by rw [HF.out]; rfl, grow_trans HBX.out hb1⟩
  · rw [hba] at HB
    have HBA := Lib.hid hba
    clear hba
    unfold exprO at *
    go_enter Tryz.func92, Tryz.ntmps92
    go_wp2_with (go_at_call 104; (with_reducible refine (HB.out _ HBX.out).mono ?_); rintro x w1 ⟨rfl, hb1⟩; have b3 := Keeps.of_below hb1 _ _ (cell_of_row _ _ 3 _ _ _ HK.out))
    go_loopw [6, 7, 15] (fun _ _ i wr => ∃ k : Nat, k ≤ e.kids.length ∧ i = .int .i64 k ∧ kidsC fs vis e.kids = kidsC fs vis (e.kids.drop k) ∧ Below w.heap.size w wr ∧ wr.heap[w.heap.size]? = some (exprO e A c)) (fun _ _ i _ => e.kids.length - (intOf i).toNat)
    case atStart => exact ⟨0, Nat.zero_le _, rfl, by simp, grow_trans HBX.out hb1, (hb1.block _ (by simp)).trans HK.out⟩
    case round =>
      obtain ⟨k, hk, rfl, hI, hbel, hbox⟩ := hrel
      have HI := Lib.hid hI
      clear hI
      unfold exprO at hbox
      by_cases hlt : k < e.kids.length
      · obtain ⟨b', off, B, d, rfl, -, hcells, hnum, hkid⟩ := (HR.out.keep ((Keeps.of_below hbel).in S) (fun _ h => h)).at hlt
        obtain ⟨c0, c1, c2, c3⟩ := cells_expr hcells
        have hlt' : (k : Int) < (e.kids.length : Int) := by omega
        have hal : ∀ o, Below w.heap.size w (wr.alloc o) := fun o => grow_alloc hbel o
        have hst := kidsC_step (fs := fs) (vis := vis) hlt
        have HKC : Hid (∀ w', Below wr.heap.size wr w' → Calls Tryz.prog 92 #[.pointer (some ⟨p, 0, none⟩), .agg #[.string (mkB e.kids[k].kind), .int .i64 e.kids[k].num, .string (mkB e.kids[k].name), .slice B e.kids[k].kids.length d]] w' (Ret (eV E (exprC fs vis e.kids[k])) w')) := fun w' hb =>
          IH.out k hlt S B d w' (HE.out.keep (grow_trans hbel hb)) (HCK.out.keep (grow_trans hbel hb)) (hkid.keep ((Keeps.of_below hb).in S) (fun _ h => h))
        obtain ⟨z, hz⟩ : ∃ z, exprC fs vis e.kids[k] = z := ⟨_, rfl⟩
        rw [hz] at HKC hst
        have HBOX := Lib.hid hbox
        clear hcells hkid hnum hz hbox
        by_cases h0 : z = 0
        · subst h0
          rw [if_pos rfl] at hst
          have HS := Lib.hid hst
          rw [eV_zero] at HKC
          clear hst
          go_wp2_with (go_at_call 92; (with_reducible refine (HKC.out _ (grow_alloc (grow_refl _) _)).mono ?_); rintro x w2 ⟨rfl, hb2⟩)
          go_roundw
          case rel => exact ⟨k + 1, by omega, by go_num, HI.out.trans HS.out, grow_trans (hal _) hb2, (hb2.block _ (by have := (Array.getElem?_eq_some_iff.1 HBOX.out).1; simp; omega)).trans ((old_block wr _ (Array.getElem?_eq_some_iff.1 HBOX.out).1).trans HBOX.out)⟩
          case measure => simp [intOf]; omega
        · rw [if_neg h0] at hst
          have hne : kidsC fs vis e.kids ≠ 0 := by rw [HI.out, hst]; exact h0
          have HF : Hid (exprC fs vis e = z) := show _ = _ by rw [exprC_kid HBA.out hne, HI.out, hst]
          have HZ := Lib.hid (eV_pos E h0)
          rw [eV_pos E h0] at HKC
          clear hst hne h0
          go_wp2_with (go_at_call 92; (with_reducible refine (HKC.out _ (grow_alloc (grow_refl _) _)).mono ?_); rintro x w2 ⟨rfl, hb2⟩)
          go_ret
          exact ⟨by rw [HF.out, HZ.out]; rfl, grow_trans (hal _) hb2⟩
      · have hk' : k = e.kids.length := by omega
        subst hk'
        have h0 : kidsC fs vis e.kids = 0 := by rw [HI.out, List.drop_length, kidsC_nil]
        have hself := exprC_self HBA.out h0
        have HE' := Lib.hid (HE.out.keep hbel)
        have hck := HCK.out.keep hbel
        obtain ⟨v, s, q1, -, q3, -⟩ := hck.cells
        obtain ⟨A', c', rfl, hrow, -⟩ := owns_Row q3
        have p2 := cell_of_row _ _ 2 _ _ _ q1
        have HCON := Lib.hid (fun w' (hb : Below wr.heap.size wr w') => has_any vis e.name A' c' w' (hrow.keep (Keeps.of_below hb)) (by omega))
        have HCALL : Hid (∀ w', Below wr.heap.size wr w' → Calls Tryz.prog 105 #[.pointer (some ⟨p, 0, none⟩), .agg #[.string (mkB e.kind), .int .i64 e.num, .string (mkB e.name), .slice A e.kids.length c]] w' (Ret (eV E (callC fs e.name e.kids.length)) w')) := fun w' hb =>
          call_any E base p b n fs all vis e A c w' (HE'.out.keep hb) hs h20 h8 (hck.keep hb)
        have d0 := cell_of_row _ _ 0 _ _ _ hbox
        have d1 := cell_of_row _ _ 1 _ _ _ hbox
        have d2 := cell_of_row _ _ 2 _ _ _ hbox
        have d3 := cell_of_row _ _ 3 _ _ _ hbox
        have g5 := HE'.out.c5
        clear hck q1 q3 hrow hbox h0
        by_cases hn : e.kind = xName
        · have t0 : ((mkB e.kind).toList == [110, 97, 109, 101]) = true := by rw [mkB_toList, hn]; rfl
          cases hc : vis.contains e.name
          · have HF : Hid (exprC fs vis e = 6) := show _ = _ by rw [hself]; unfold selfC; rw [if_pos hn, hc]; rfl
            rw [hc] at HCON
            clear hn hself hc
            go_wp2_with fail
            go_quiet ((go_at_call 36; exact Calls.quiet_of_same (HCON.out _ (grow_drew (Below.refl _ _) _))))
            go_wp2_with fail
            go_ret
            exact ⟨by rw [HF.out]; rfl, grow_drew hbel _⟩
          · have HF : Hid (exprC fs vis e = 0) := show _ = _ by rw [hself]; unfold selfC; rw [if_pos hn, hc]; rfl
            rw [hc] at HCON
            clear hn hself hc
            go_wp2_with fail
            go_quiet ((go_at_call 36; exact Calls.quiet_of_same (HCON.out _ (grow_drew (Below.refl _ _) _))))
            go_wp2_with fail
            go_ret
            exact ⟨by rw [HF.out]; rfl, grow_drew hbel _⟩
        · have t0 : ((mkB e.kind).toList == [110, 97, 109, 101]) = false := by rw [mkB_toList]; exact beq_eq_false_iff_ne.2 hn
          by_cases hcl : e.kind = xCall
          · have t1 : ((mkB e.kind).toList == [99, 97, 108, 108]) = true := by rw [mkB_toList, hcl]; rfl
            have HF : Hid (exprC fs vis e = callC fs e.name e.kids.length) := show _ = _ by rw [hself]; unfold selfC; rw [if_neg hn, if_pos hcl]
            clear hn hself hcl
            go_wp2_with (go_at_call 105; (with_reducible refine (HCALL.out _ (Below.refl _ _)).mono ?_); rintro x w2 ⟨rfl, hb2⟩)
            go_ret
            exact ⟨by rw [HF.out]; rfl, grow_trans hbel hb2⟩
          · have t1 : ((mkB e.kind).toList == [99, 97, 108, 108]) = false := by rw [mkB_toList]; exact beq_eq_false_iff_ne.2 hcl
            have HF : Hid (exprC fs vis e = 0) := show _ = _ by rw [hself]; unfold selfC; rw [if_neg hn, if_neg hcl]
            clear hn hself hcl
            go_wp2_with fail
            go_ret
            exact ⟨by rw [HF.out]; rfl, hbel⟩
end Go.Proofs.YteifmgcbafemeaaGreatDoor
