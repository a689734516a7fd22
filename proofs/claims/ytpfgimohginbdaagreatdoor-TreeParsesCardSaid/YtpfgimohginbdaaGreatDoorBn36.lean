import Derived.StillTailTactics
import Derived.BigQuiet
import Derived.Test.YtpfgimohginbdaaGreatDoorBn35
import Derived.Test.YtpfgimohginbdaaGreatDoorBn19
import Derived.Test.YtpfgimohginbdaaGreatDoorBn8
set_option linter.unusedVariables false
set_option linter.unusedSimpArgs false
namespace Go.Proofs.YtpfgimohginbdaaGreatDoor
open Go.RowKit

/-! sameExpr, sameStmts, AlikeFuns over trees that are the same -/
theorem rdT_rowQ {w : World} {S : Nat → Prop} {xs : List (List UInt8)} {A : Option Addr} (h : RdT w S xs A) : Row w A ((xs.map mkB).map .string) := by
  intro j u hj
  simp only [List.getElem?_map, Option.map_eq_some_iff] at hj
  obtain ⟨y, ⟨x, hx, rfl⟩, rfl⟩ := hj
  obtain ⟨hl, rfl⟩ := List.getElem?_eq_some_iff.1 hx
  obtain ⟨b, off, e, -, hc⟩ := h j hl
  exact ⟨b, off, e, hc⟩
theorem bq (x : ByteArray) : (x.toList == x.toList) = true := beq_self_eq_true _
set_option maxHeartbeats 4000000 in
set_option maxRecDepth 100000 in
theorem sameExpr_any {N : Nat} (hN : N ≤ 1000000) : ∀ e : PExpr, BdE N e → ∀ (S S' : Nat → Prop) (A B : Option Addr) (c d : Nat) (w : World), RdE w S e.kids A → RdE w S' e.kids B →
    Calls Tryz.prog 40 #[exV e A c, exV e B d] w (Ret (.bool true) w) := by
  intro e
  induction e using PExpr.ind with
  | h e ih =>
  intro hbd S S' A B c d w hA hB
  have hlen := hbd.len
  have HA := Lib.hid (And.intro hA hB)
  have IH : Hid (∀ (i : Nat) (hi : i < e.kids.length) (S S' : Nat → Prop) (A B : Option Addr) (c d : Nat) (w : World), RdE w S e.kids[i].kids A → RdE w S' e.kids[i].kids B →
    Calls Tryz.prog 40 #[exV e.kids[i] A c, exV e.kids[i] B d] w (Ret (.bool true) w)) :=
    fun i hi => ih _ (List.getElem_mem hi) (hbd.kid _ (List.getElem_mem hi))
  obtain ⟨xk, hxk⟩ : ∃ x, mkB e.kind = x := ⟨_, rfl⟩
  obtain ⟨xn, hxn⟩ : ∃ x, mkB e.name = x := ⟨_, rfl⟩
  obtain ⟨nn, hnn⟩ : ∃ n, e.num = n := ⟨_, rfl⟩
  obtain ⟨kl, hkl⟩ : ∃ n, e.kids.length = n := ⟨_, rfl⟩
  have b1 := bq xk
  have b2 := bq xn
  have b3 : (nn == nn) = true := beq_self_eq_true _
  have b4 : ((kl : Int) == (kl : Int)) = true := beq_self_eq_true _
  unfold exV
  rw [hxk, hxn, hnn, hkl]
  rw [hkl] at hlen
  have HKL := Lib.hid hkl
  obtain ⟨wb, hwb⟩ : ∃ n, w.heap.size = n := ⟨_, rfl⟩
  have HWB := Lib.hid hwb
  clear ih hbd hA hB hxk hxn hnn hkl hwb
  go_enter Tryz.func40, Tryz.ntmps40
  go_upto_region 1 with fail
  rw [HWB.out]
  obtain ⟨wA, hwA⟩ : ∃ W, (w.alloc (.cells #[.string xk, .int .i64 nn, .string xn, .slice A kl c] 49)).alloc (.cells #[.string xk, .int .i64 nn, .string xn, .slice B kl d] 88) = W := ⟨_, rfl⟩
  have hbA : Below w.heap.size w wA := by rw [← hwA]; exact grow_alloc (grow_alloc (grow_refl _) _) _
  have hm1 : wA.heap[wb]? = some (.cells #[.string xk, .int .i64 nn, .string xn, .slice A kl c] 49 (0, 0)) := by rw [← hwA, ← HWB.out]; exact (old_block _ _ (by simp)).trans (heap_alloc_new _ _)
  have hm2 : wA.heap[wb + 1]? = some (.cells #[.string xk, .int .i64 nn, .string xn, .slice B kl d] 88 (0, 0)) := by rw [← hwA, ← HWB.out]; exact new_block _ _ (by simp)
  rw [hwA]
  obtain ⟨p0, p1, p2, p3⟩ := row4T hm1
  obtain ⟨q0, q1, q2, q3⟩ := row4T hm2
  have HM := Lib.hid (And.intro hbA (And.intro hm1 hm2))
  clear hwA hbA hm1 hm2
  go_upto_region 4 with fail
  clear p0 p1 p2 p3 q0 q1 q2 q3 b1 b2 b3 b4
  go_loopw [5, 6] (fun i _ wr => ∃ k : Nat, k ≤ kl ∧ i = .int .i64 k ∧ Below wA.heap.size wA wr) (fun i _ _ => kl - (intOf i).toNat)
  case atStart => exact ⟨0, Nat.zero_le _, rfl, Below.refl _ _⟩
  case round =>
    obtain ⟨k, hk, rfl, hb⟩ := hrel
    have hm1 := (hb.block _ (Array.getElem?_eq_some_iff.1 HM.out.2.1).1).trans HM.out.2.1
    have hm2 := (hb.block _ (Array.getElem?_eq_some_iff.1 HM.out.2.2).1).trans HM.out.2.2
    have p3 := cell_of_row _ _ 3 _ _ _ hm1
    have q3 := cell_of_row _ _ 3 _ _ _ hm2
    have HBW := Lib.hid hb
    clear hm1 hm2 hb
    by_cases hlt : k < kl
    · have hki : k < e.kids.length := by rw [HKL.out]; exact hlt
      have hbw := grow_trans HM.out.1 HBW.out
      obtain ⟨b, off, B1, d1, rfl, -, hc1, -, hk1⟩ := (HA.out.1.keep ((Keeps.of_below hbw).in S) (fun _ h => h)).at hki
      obtain ⟨b', off', B2, d2, rfl, -, hc2, -, hk2⟩ := (HA.out.2.keep ((Keeps.of_below hbw).in S') (fun _ h => h)).at hki
      obtain ⟨c0, c1, c2, c3⟩ := cells_expr hc1
      obtain ⟨f0, f1, f2, f3⟩ := cells_expr hc2
      have HCL := Lib.hid (IH.out k hki S S' B1 B2 d1 d2 wr.drew (hk1.keep ((Keeps.of_below (Below.refl _ _).drew).in _) fun _ h => h) (hk2.keep ((Keeps.of_below (Below.refl _ _).drew).in _) fun _ h => h))
      unfold exV at HCL
      have hlt' : (k : Int) < (kl : Int) := by omega
      have hk0 : (0 : Int) ≤ (k : Int) := by omega
      have hkm : (k : Int) ≤ 1000000 := by omega
      clear hc1 hc2 hk1 hk2 hbw
      go_upto_region 6 with fail
      go_still_tail 10, (by kernel_rfl)
      go_wp2_with (go_at_call 40; (with_reducible refine HCL.out.mono ?_); rintro y w1 ⟨rfl, hb1⟩)
      go_roundw
      case rel => exact ⟨k + 1, by omega, by go_num, grow_trans HBW.out (grow_trans (Below.refl _ _).drew hb1)⟩
      case measure => simp [intOf]; omega
    · have hk' : k = kl := by omega
      subst hk'
      go_wp2_with fail
      go_ret
      exact ⟨rfl, grow_trans HM.out.1 HBW.out⟩
def LSame (ss : List PStmt) : Prop := ∀ (S S' : Nat → Prop) (A B : Option Addr) (c d : Nat) (w : World), RdS w S ss A → RdS w S' ss B →
    Calls Tryz.prog 24 #[.slice A ss.length c, .slice B ss.length d] w (Ret (.bool true) w)
set_option maxHeartbeats 8000000 in
set_option maxRecDepth 100000 in
theorem sameStmts_list {N : Nat} (hN : N ≤ 1000000) {ss : List PStmt} (hl : ss.length ≤ N) (hs : ∀ s ∈ ss, BdS N s ∧ LSame s.th ∧ LSame s.el) : LSame ss := by
  intro S S' A B c d w hA hB
  have HA := Lib.hid (And.intro hA hB)
  have HS : Hid (∀ (k : Nat) (hk : k < ss.length), BdE N ss[k].e ∧ LSame ss[k].th ∧ LSame ss[k].el) := fun k hk => by
    have := hs _ (List.getElem_mem hk)
    refine ⟨?_, this.2⟩
    cases this.1; assumption
  obtain ⟨kl, hkl⟩ : ∃ n, ss.length = n := ⟨_, rfl⟩
  have b4 : ((kl : Int) == (kl : Int)) = true := beq_self_eq_true _
  rw [hkl]
  rw [hkl] at hl
  have HKL := Lib.hid hkl
  clear hA hB hs hkl
  go_enter Tryz.func24, Tryz.ntmps24
  go_upto_region 4 with fail
  clear b4
  go_loopw [5, 6, 7, 8] (fun i _ _ _ wr => ∃ k : Nat, k ≤ kl ∧ i = .int .i64 k ∧ Below w.heap.size w wr) (fun i _ _ _ _ => kl - (intOf i).toNat)
  case atStart => exact ⟨0, Nat.zero_le _, rfl, Below.refl _ _⟩
  case round =>
    obtain ⟨k, hk, rfl, hb⟩ := hrel
    have HBW := Lib.hid hb
    by_cases hlt : k < kl
    · have hki : k < ss.length := by rw [HKL.out]; exact hlt
      have HC : Hid (∀ w', Below w.heap.size w w' → ∃ b off X x T t L l b' off' X' x' T' t' L' l', A = some ⟨b, off, none⟩ ∧ B = some ⟨b', off', none⟩ ∧ CellsAt w' b (off + k * 8) (stmtL ss[k] X x T t L l) ∧ CellsAt w' b' (off' + k * 8) (stmtL ss[k] X' x' T' t' L' l')) := fun w' hb => by
        obtain ⟨b, off, X, x, T, t, L, l, e, -, hc, -⟩ := (HA.out.1.keep ((Keeps.of_below hb).in S) (fun _ h => h)).at hki
        obtain ⟨b', off', X', x', T', t', L', l', e', -, hc', -⟩ := (HA.out.2.keep ((Keeps.of_below hb).in S') (fun _ h => h)).at hki
        exact ⟨b, off, X, x, T, t, L, l, b', off', X', x', T', t', L', l', e, e', hc, hc'⟩
      clear HC
      obtain ⟨b, off, X, x, T, t, L, l, rfl, -, hc1, -, hx1, ht1, hl1⟩ := HA.out.1.at hki
      obtain ⟨b', off', X', x', T', t', L', l', rfl, -, hc2, -, hx2, ht2, hl2⟩ := HA.out.2.at hki
      have HCA : Hid (∀ w', Below w.heap.size w w' → CellsAt w' b (off + k * 8) (stmtL ss[k] X x T t L l) ∧ CellsAt w' b' (off' + k * 8) (stmtL ss[k] X' x' T' t' L' l')) := fun w' hb => ⟨hc1.keep fun a v _ hv => Keeps.of_below hb a v hv, hc2.keep fun a v _ hv => Keeps.of_below hb a v hv⟩
      have HE : Hid (∀ w', Below w.heap.size w w' → Calls Tryz.prog 40 #[.agg #[.string (mkB ss[k].e.kind), .int .i64 ss[k].e.num, .string (mkB ss[k].e.name), .slice X ss[k].e.kids.length x], .agg #[.string (mkB ss[k].e.kind), .int .i64 ss[k].e.num, .string (mkB ss[k].e.name), .slice X' ss[k].e.kids.length x']] w' (Ret (.bool true) w')) := fun w' hb =>
        sameExpr_any hN ss[k].e (HS.out k hki).1 S S' X X' x x' w' (hx1.keep ((Keeps.of_below hb).in _) fun _ h => h) (hx2.keep ((Keeps.of_below hb).in _) fun _ h => h)
      have HT : Hid (∀ w', Below w.heap.size w w' → Calls Tryz.prog 24 #[.slice T ss[k].th.length t, .slice T' ss[k].th.length t'] w' (Ret (.bool true) w')) := fun w' hb =>
        (HS.out k hki).2.1 S S' T T' t t' w' (ht1.keep ((Keeps.of_below hb).in _) fun _ h => h) (ht2.keep ((Keeps.of_below hb).in _) fun _ h => h)
      have HL : Hid (∀ w', Below w.heap.size w w' → Calls Tryz.prog 24 #[.slice L ss[k].el.length l, .slice L' ss[k].el.length l'] w' (Ret (.bool true) w')) := fun w' hb =>
        (HS.out k hki).2.2 S S' L L' l l' w' (hl1.keep ((Keeps.of_below hb).in _) fun _ h => h) (hl2.keep ((Keeps.of_below hb).in _) fun _ h => h)
      obtain ⟨a0, a1, a2, a3, a4, a5, a6, a7⟩ := cells_stmt (HCA.out wr HBW.out).1
      obtain ⟨g0, g1, g2, g3, g4, g5, g6, g7⟩ := cells_stmt (HCA.out wr HBW.out).2
      have b1 := bq (mkB ss[k].kind)
      have b2 := bq (mkB ss[k].name)
      have hlt' : (k : Int) < (kl : Int) := by omega
      have hk0 : (0 : Int) ≤ (k : Int) := by omega
      have hkm : (k : Int) ≤ 1000000 := by omega
      clear hc1 hc2 hx1 hx2 ht1 ht2 hl1 hl2 hb HKL
      go_upto_region 6 with fail
      go_quiet (fail)
      go_upto_region 8 with fail
      have hb0 : Below w.heap.size w (wr.drewN nq) := grow_drew HBW.out nq
      obtain ⟨w0, hw0⟩ : ∃ w0, wr.drewN nq = w0 := ⟨_, rfl⟩
      rw [hw0] at hb0
      rw [hw0]
      have HB0 := Lib.hid hb0
      clear hb0 hw0 a0 a1 a2 a3 a4 a5 a6 a7 g0 g1 g2 g3 g4 g5 g6 g7 b1 b2
      obtain ⟨a0, a1, a2, a3, a4, a5, a6, a7⟩ := cells_stmt (HCA.out w0 HB0.out).1
      obtain ⟨g0, g1, g2, g3, g4, g5, g6, g7⟩ := cells_stmt (HCA.out w0 HB0.out).2
      go_still_tail 10, (by kernel_rfl)
      go_upto_region 9 with (go_at_call 40; (with_reducible refine (HE.out _ (HB0.out.drew)).mono ?_); rintro y w1 ⟨rfl, hb1⟩; have HB1 := Lib.hid (grow_trans (HB0.out.drew) hb1); clear hb1)
      clear a0 a1 a2 a3 a4 a5 a6 a7 g0 g1 g2 g3 g4 g5 g6 g7
      obtain ⟨a0, a1, a2, a3, a4, a5, a6, a7⟩ := cells_stmt (HCA.out w1 HB1.out).1
      obtain ⟨g0, g1, g2, g3, g4, g5, g6, g7⟩ := cells_stmt (HCA.out w1 HB1.out).2
      go_still_tail 10, (by kernel_rfl)
      go_upto_region 10 with (go_at_call 24; (with_reducible refine (HT.out _ (HB1.out.drew)).mono ?_); rintro y w2 ⟨rfl, hb2⟩; have HB2 := Lib.hid (grow_trans (HB1.out.drew) hb2); clear hb2)
      clear a0 a1 a2 a3 a4 a5 a6 a7 g0 g1 g2 g3 g4 g5 g6 g7
      obtain ⟨a0, a1, a2, a3, a4, a5, a6, a7⟩ := cells_stmt (HCA.out w2 HB2.out).1
      obtain ⟨g0, g1, g2, g3, g4, g5, g6, g7⟩ := cells_stmt (HCA.out w2 HB2.out).2
      go_still_tail 10, (by kernel_rfl)
      go_wp2_with (go_at_call 24; (with_reducible refine (HL.out _ (HB2.out.drew)).mono ?_); rintro y w3 ⟨rfl, hb3⟩; have HB3 := Lib.hid (grow_trans (HB2.out.drew) hb3); clear hb3)
      go_roundw
      case rel => exact ⟨k + 1, by omega, by go_num, HB3.out⟩
      case measure => simp [intOf]; omega
    · have hk' : k = kl := by omega
      subst hk'
      go_wp2_with fail
      go_ret
      exact ⟨rfl, HBW.out⟩
theorem sameStmts_kids {N : Nat} (hN : N ≤ 1000000) : ∀ s : PStmt, BdS N s → LSame s.th ∧ LSame s.el := by
  intro s
  induction s using PStmt.ind with
  | h s iht ihl =>
    intro hb
    cases hb with
    | mk _ he ht hl hts hls => exact ⟨sameStmts_list hN ht fun k hk => ⟨hts k hk, iht k hk (hts k hk)⟩, sameStmts_list hN hl fun k hk => ⟨hls k hk, ihl k hk (hls k hk)⟩⟩
theorem sameStmts_any {N : Nat} (hN : N ≤ 1000000) {ss : List PStmt} (hl : ss.length ≤ N) (hs : ∀ s ∈ ss, BdS N s) : LSame ss :=
  sameStmts_list hN hl fun s h => ⟨hs s h, sameStmts_kids hN s (hs s h)⟩
theorem sameS_self (xs : List ByteArray) : sameS xs xs = true := by unfold sameS; exact beq_self_eq_true _
set_option maxHeartbeats 8000000 in
set_option maxRecDepth 100000 in
theorem Alike_any {N : Nat} (hN : N ≤ 1000000) {fs : List PFun} (hl : fs.length ≤ N) (hs : ∀ f ∈ fs, BdF N f) (S S' : Nat → Prop) (A B : Option Addr) (c d : Nat) (w : World) (hA : RdF w S fs A) (hB : RdF w S' fs B) :
    Calls Tryz.prog 10 #[.slice A fs.length c, .slice B fs.length d] w (Ret (.int .i64 1) w) := by
  have HA := Lib.hid (And.intro hA hB)
  have HS : Hid (∀ (k : Nat) (hk : k < fs.length), BdF N fs[k]) := fun k hk => hs _ (List.getElem_mem hk)
  obtain ⟨kl, hkl⟩ : ∃ n, fs.length = n := ⟨_, rfl⟩
  have b4 : ((kl : Int) == (kl : Int)) = true := beq_self_eq_true _
  rw [hkl]
  rw [hkl] at hl
  have HKL := Lib.hid hkl
  clear hA hB hs hkl
  go_enter Tryz.func10, Tryz.ntmps10
  go_upto_region 4 with fail
  clear b4
  go_loopw [5, 6] (fun i _ wr => ∃ k : Nat, k ≤ kl ∧ i = .int .i64 k ∧ Below w.heap.size w wr) (fun i _ _ => kl - (intOf i).toNat)
  case atStart => exact ⟨0, Nat.zero_le _, rfl, Below.refl _ _⟩
  case round =>
    obtain ⟨k, hk, rfl, hb⟩ := hrel
    have HBW := Lib.hid hb
    by_cases hlt : k < kl
    · have hki : k < fs.length := by rw [HKL.out]; exact hlt
      obtain ⟨b, off, P, p, D, g, rfl, -, hc1, hp1, hd1⟩ := HA.out.1 k hki
      obtain ⟨b', off', P', p', D', g', rfl, -, hc2, hp2, hd2⟩ := HA.out.2 k hki
      have HCA : Hid (∀ w', Below w.heap.size w w' → CellsAt w' b (off + k * 3) (funL fs[k] P p D g) ∧ CellsAt w' b' (off' + k * 3) (funL fs[k] P' p' D' g')) := fun w' hb => ⟨hc1.keep fun a v _ hv => Keeps.of_below hb a v hv, hc2.keep fun a v _ hv => Keeps.of_below hb a v hv⟩
      have HT : Hid (∀ w', Below w.heap.size w w' → Calls Tryz.prog 24 #[.slice D fs[k].body.length g, .slice D' fs[k].body.length g'] w' (Ret (.bool true) w')) := fun w' hb =>
        sameStmts_any hN (HS.out k hki).body (HS.out k hki).stmts S S' D D' g g' w' (hd1.keep ((Keeps.of_below hb).in _) fun _ h => h) (hd2.keep ((Keeps.of_below hb).in _) fun _ h => h)
      have HST : Hid (∀ w', Below w.heap.size w w' → Calls Tryz.prog 25 #[.slice P fs[k].params.length p, .slice P' fs[k].params.length p'] w' (Quiet (.bool true) w')) := fun w' hb => by
        have h1 := SameTexts_any P P' (fs[k].params.map mkB) (fs[k].params.map mkB) p p' w' (rdT_rowQ (hp1.keep ((Keeps.of_below hb).in _) fun _ h => h)) (rdT_rowQ (hp2.keep ((Keeps.of_below hb).in _) fun _ h => h)) (by rw [List.length_map]; have := (HS.out k hki).params; omega) (by rw [List.length_map]; have := (HS.out k hki).params; omega)
        rw [sameS_self, List.length_map] at h1
        exact h1
      obtain ⟨a0, a1, a2⟩ := cells_fun (HCA.out wr HBW.out).1
      obtain ⟨g0, g1, g2⟩ := cells_fun (HCA.out wr HBW.out).2
      have hlt' : (k : Int) < (kl : Int) := by omega
      have hk0 : (0 : Int) ≤ (k : Int) := by omega
      have hkm : (k : Int) ≤ 1000000 := by omega
      clear hc1 hc2 hp1 hp2 hd1 hd2 hb HKL
      go_upto_region 6 with fail
      go_still_tail 10, (by kernel_rfl)
      go_upto_region 7 with (go_at_call 24; (with_reducible refine (HT.out _ (HBW.out.drew)).mono ?_); rintro y w1 ⟨rfl, hb1⟩; have HB1 := Lib.hid (grow_trans (HBW.out.drew) hb1); clear hb1)
      clear a0 a1 a2 g0 g1 g2
      obtain ⟨a0, a1, a2⟩ := cells_fun (HCA.out w1 HB1.out).1
      obtain ⟨g0, g1, g2⟩ := cells_fun (HCA.out w1 HB1.out).2
      have b1 := bq (mkB fs[k].name)
      go_quiet ((go_at_call 25; exact Calls.quiet_of (HST.out _ (by first | exact HB1.out | exact grow_drew HB1.out _))))
      go_wp2_with fail
      go_roundw
      case rel => exact ⟨k + 1, by omega, by go_num, grow_drew HB1.out _⟩
      case measure => simp [intOf]; omega
    · have hk' : k = kl := by omega
      subst hk'
      go_wp2_with fail
      go_ret
      exact ⟨rfl, HBW.out⟩
end Go.Proofs.YtpfgimohginbdaaGreatDoor
