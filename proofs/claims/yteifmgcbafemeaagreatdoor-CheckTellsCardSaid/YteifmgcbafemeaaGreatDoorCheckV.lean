import Derived.Test.YteifmgcbafemeaaGreatDoorCheckU
namespace Go.Proofs.YteifmgcbafemeaaGreatDoor
open Go.RowKit

theorem blockC_step {fs : Tab} {ss : List PStmt} {k : Nat} (h : k < ss.length) (all vis : List Nm) : blockC fs (ss.drop k) all vis =
    if (stmtC fs ss[k] all vis).1 = 0 then blockC fs (ss.drop (k + 1)) (stmtC fs ss[k] all vis).2.1 (stmtC fs ss[k] all vis).2.2 else ((stmtC fs ss[k] all vis).1, (stmtC fs ss[k] all vis).2.1) := by
  rw [List.drop_eq_getElem_cons h, blockC_cons]
theorem owns_cut {w : World} {base : Nat} {e : TypeId} {l more : List Nm} {A : Option Addr} {c : Nat} (h : w.ownsRow base e 1 (.slice A (l ++ more).length c) (l ++ more).length (strVs (l ++ more))) : w.ownsRow base e 1 (.slice A l.length c) l.length (strVs l) := by
  refine ⟨by simp [strVs], ?_⟩
  rcases h.2 with ⟨q, h0⟩ | ⟨g, cap, cur, q, h1, h2, h3, h4, h5, h6⟩
  · injection q with q1 _ q3
    subst q1; subst q3
    have : l.length = 0 := by simp at h0; simp [h0.1]
    exact .inl ⟨by rw [this], this⟩
  · injection q with q1 _ q3
    subst q1; subst q3
    refine .inr ⟨g, c, cur, rfl, h1, h2, by simp at h3; omega, h4, h5, ?_⟩
    have := congrArg (List.take l.length) h6
    rw [List.take_take] at this
    simp only [Nat.mul_one] at this ⊢
    rw [Nat.min_eq_left (by simp)] at this
    rw [this]
    simp [strVs]
theorem own_len {B : Option Addr} {m n d : Nat} : (Value.slice B n d).ownBlock = (Value.slice B m d).ownBlock := by cases B <;> rfl
set_option maxHeartbeats 8000000 in
set_option maxRecDepth 100000 in
theorem cblock_list (E : Nat → Addr) (base p b n : Nat) (fs : Tab) (ss : List PStmt) (hlen : ss.length ≤ 30) (hq : ∀ s ∈ ss, CStmtC E base p b n fs s) : CBlockC E base p b n fs ss := by
  intro all vis A c w hE hC hr hal hvl
  obtain ⟨v, s, q1, -, q3, -⟩ := hC.cells
  obtain ⟨B, d, rfl, -, -⟩ := owns_Row q3
  have p2 : w.cell? ⟨p, 2, none⟩ = some (.slice B vis.length d) := cell_of_row _ _ 2 _ _ _ q1
  have HP0 : Hid (ChkPost base p b n fs 0 all vis w w) := ChkPost.below hC (Below.refl _ _)
  have HQ := Lib.hid hq
  have HR := Lib.hid hr
  have HE := Lib.hid hE
  have HAL := Lib.hid (And.intro hal hvl)
  have hv12 : vis.length ≤ 12 := by omega
  clear q1 q3 hq hr hE hC hal hvl
  go_enter Tryz.func54, Tryz.ntmps54
  go_wp2_with fail
  go_loopw [7, 8, 16] (fun _ _ i wr => ∃ (k : Nat) (al vi more : List Nm), k ≤ ss.length ∧ i = .int .i64 k ∧ blockC fs ss all vis = blockC fs (ss.drop k) al vi ∧ al.length ≤ 12 ∧ vi.length ≤ al.length ∧ vi = vis ++ more ∧ ChkPost base p b n fs 0 al vi w wr) (fun _ _ i _ => ss.length - (intOf i).toNat)
  case atStart => exact ⟨0, all, vis, [], Nat.zero_le _, rfl, by simp, HAL.out.1, HAL.out.2, by simp, HP0.out⟩
  case round =>
    obtain ⟨k, al, vi, more, hk, rfl, hI, hal, hvl, hmore, hp⟩ := hrel
    have HI := Lib.hid hI
    have HMR := Lib.hid hmore
    clear hI hmore
    by_cases hlt : k < ss.length
    · obtain ⟨b', off, X, x, T, t, L, l, rfl, -, hcells, hnum, hX, hT, hL⟩ := (HR.out.keep (keepsLow hp.bel) (fun _ h => h)).at hlt
      obtain ⟨c0, c1, c2, c3, c4, c5, c6, c7⟩ := cells_stmt hcells
      have hlt' : (k : Int) < (ss.length : Int) := by omega
      have hst := blockC_step (fs := fs) hlt al vi
      have hqs := HQ.out ss[k] (List.getElem_mem hlt)
      obtain ⟨s, hs⟩ : ∃ s, ss[k] = s := ⟨_, rfl⟩
      rw [hs] at hcells hnum hX hT hL c0 c1 c2 c3 c4 c5 c6 c7 hst hqs
      have hal0 : Below wr.heap.size wr (wr.alloc (stmtO s X x T t L l)) := grow_alloc (grow_refl _) _
      have hp1 := hp.trans (ChkPost.below (hp.chk rfl) hal0)
      have hcall := hqs al vi X x T t L l _ (HE.out.keep hp1.bel) (hp1.chk rfl) (hX.keep (keepsLow (hal0.mono (hp.chk rfl).base_le)) (fun _ h => h)) (hT.keep (keepsLow (hal0.mono (hp.chk rfl).base_le)) (fun _ h => h)) (hL.keep (keepsLow (hal0.mono (hp.chk rfl).base_le)) (fun _ h => h)) hal hvl
      have hlf := left_any fs s al vi
      unfold stmtV at hcall
      unfold stmtO at hcall hp1
      obtain ⟨z, hz⟩ : ∃ z, stmtC fs s al vi = z := ⟨_, rfl⟩
      rw [hz] at hcall hst hlf
      have HP1 := Lib.hid hp1
      have HLF := Lib.hid hlf
      clear hcells hnum hX hT hL hqs hs hal0 hp hp1 hlf hz
      by_cases h0 : z.1 = 0
      · rw [if_pos h0] at hst
        rw [h0] at hcall
        rw [eV_zero] at hcall
        have HS := Lib.hid hst
        have HC := Lib.hid hcall
        clear hst hcall h0
        go_wp2_with (go_at_call 74; (with_reducible refine HC.out.mono ?_); rintro x1 w1 ⟨rfl, hp2⟩)
        go_roundw
        case rel =>
          obtain ⟨m2, hm2⟩ := HLF.out.2.2.2.2
          exact ⟨k + 1, z.2.1, z.2.2, more ++ m2, by omega, by go_num, HI.out.trans HS.out, HLF.out.2.1 hal, HLF.out.2.2.1 hvl, by rw [hm2, HMR.out, List.append_assoc], HP1.out.trans hp2⟩
        case measure => simp [intOf]; omega
      · rw [if_neg h0] at hst
        have HF : Hid (blockC fs ss all vis = (z.1, z.2.1)) := show _ = _ from HI.out.trans hst
        have HZ := Lib.hid (eV_pos E h0)
        have HNE := Lib.hid h0
        rw [eV_pos E h0] at hcall
        have HC := Lib.hid hcall
        clear hst hcall h0
        go_wp2_with (go_at_call 74; (with_reducible refine HC.out.mono ?_); rintro x1 w1 ⟨rfl, hp2⟩)
        go_ret
        rw [HF.out]
        exact ⟨by rw [HZ.out]; rfl, ((HP1.out.trans hp2) : ChkPost base p b n fs z.1 z.2.1 z.2.2 w w1).fail2 HNE.out⟩
    · have hk' : k = ss.length := by omega
      subst hk'
      have HF : Hid (blockC fs ss all vis = (0, al)) := show _ = _ by rw [HI.out, List.drop_length, blockC_nil]
      obtain ⟨v, s, q1, q2, q3, q4, q5, q6⟩ := (hp.chk rfl).cells
      have hmr := HMR.out
      subst hmr
      obtain ⟨B', d', rfl, -, hcap⟩ := owns_Row q3
      have hcut := owns_cut q3
      have r2 : wr.cell? ⟨p, 2, none⟩ = some (.slice B' (vis ++ more).length d') := cell_of_row _ _ 2 _ _ _ q1
      have y2 := row_frozen q1 2
      have hc1 : (vis.length : Int) ≤ (d' : Int) := by simp at hcap; omega
      have hlow := (hp.chk rfl).low
      have hplt := (hp.chk rfl).lt
      have hmlt := (hp.chk rfl).mlt
      have HM := Lib.hid (hp.chk rfl).map
      have HP := Lib.hid hp
      have HC2 := Lib.hid hcut
      have HO := Lib.hid q2
      have H1 := Lib.hid q1
      have H4 := Lib.hid q4
      have H5 := Lib.hid q5
      have H6 := Lib.hid q6
      clear q1 q2 q3 q4 q5 q6 hcut hp hcap
      go_wp2_with fail
      go_ret
      rw [HF.out]
      refine ⟨rfl, HP.out.bel.setCell hlow _, HP.out.kp.trans (KpC.store p 2 wr _), fun _ => ⟨hlow, by simp; omega, hmlt, HM.out.keep (((Below.refl base wr).setCell hlow _).block b hmlt), _, _, row_set (j := 2) _ H1.out (by simp), setRow_owns _ HO.out H4.out, setRow_owns _ HC2.out (own_len (n := (vis ++ more).length) ▸ H5.out), H4.out, own_len (n := (vis ++ more).length) ▸ H5.out, own_len (n := (vis ++ more).length) ▸ H6.out⟩⟩
theorem cstmt_each (E : Nat → Addr) (base p b n : Nat) (fs : Tab) (hs : TabSmall fs) : ∀ s : PStmt, SmS s → CStmtC E base p b n fs s := by
  intro s
  induction s using PStmt.ind with
  | h s iht ihl =>
    intro hsm
    exact cstmt_any E base p b n fs hs s hsm (cblock_list E base p b n fs s.th hsm.lenT fun k hk => iht k hk (hsm.kidT k hk)) (cblock_list E base p b n fs s.el hsm.lenL fun k hk => ihl k hk (hsm.kidL k hk))
theorem cblock_any (E : Nat → Addr) (base p b n : Nat) (fs : Tab) (hs : TabSmall fs) (ss : List PStmt) (hlen : ss.length ≤ 30) (h : ∀ s ∈ ss, SmS s) : CBlockC E base p b n fs ss := cblock_list E base p b n fs ss hlen fun s hq => cstmt_each E base p b n fs hs s (h s hq)
end Go.Proofs.YteifmgcbafemeaaGreatDoor
