import Derived.Test.YteifmgcbafemeaaGreatDoorCheckPr
import Derived.Test.YteifmgcbafemeaaGreatDoorCheckVP
namespace Go.Proofs.YteifmgcbafemeaaGreatDoor
open Go.RowKit

/-! check.Vars, Calls -/
theorem strsInfo : (Tryz.prog.info? 35).map (fun i => (i.zero, i.size, i.bytes)) = some (some (.slice none 0 0), 1, 24) := by kernel_rfl
theorem strs_ne_str : (35 : TypeId) ≠ 9 := by decide
theorem expr_ne_str : (56 : TypeId) ≠ 9 := by decide
theorem fun_ne_str : (39 : TypeId) ≠ 9 := by decide
/-- A variable at block q holds a slice of these texts. -/
structure OutAt (base q : Nat) (xs : List Nm) (w : World) : Prop where
  low : base ≤ q
  lt : q < w.heap.size
  cell : ∃ v, w.heap[q]? = some (.cells #[v] 35 (0, 0)) ∧ w.ownsRow base 9 1 v xs.length (strVs xs) ∧ v.ownBlock ≠ some q
theorem OutAt.keep {base q : Nat} {xs : List Nm} {w w' : World} (h : OutAt base q xs w) (hb : Below w.heap.size w w') : OutAt base q xs w' := by
  obtain ⟨v, h1, h2, h3⟩ := h.cell
  exact ⟨h.low, Nat.lt_of_lt_of_le h.lt hb.size, v, (hb.block q h.lt).trans h1, ownsRow_below h2 hb, h3⟩
theorem OutAt.base_le {base q : Nat} {xs : List Nm} {w : World} (h : OutAt base q xs w) : base ≤ w.heap.size := by have := h.low; have := h.lt; omega
structure OutPost (base q : Nat) (xs : List Nm) (w w' : World) : Prop where
  bel : Below base w w'
  kp : KpC q w w'
  out : OutAt base q xs w'
theorem OutPost.below {base q : Nat} {xs : List Nm} {w w' : World} (h : OutAt base q xs w) (hb : Below w.heap.size w w') : OutPost base q xs w w' := ⟨hb.mono h.base_le, KpC.below hb, h.keep hb⟩
theorem OutPost.trans {base q : Nat} {xs ys : List Nm} {w w' w'' : World} (h : OutPost base q xs w w') (k : OutPost base q ys w' w'') : OutPost base q ys w w'' := ⟨h.bel.trans k.bel, h.kp.trans k.kp, k.out⟩
/-- An append to the variable, and the store. -/
theorem out_push {base q : Nat} {xs : List Nm} {x : Nm} {w w0 w' : World} {o : Obj} {v v' : Value} (hw0 : OutAt base q xs w) (hb0 : Below w.heap.size w w0) (hv : w0.heap[q]? = some (.cells #[v] 35 (0, 0))) (hown : w0.ownsRow base 9 1 v xs.length (strVs xs)) (hne : v.ownBlock ≠ some q)
    (h1 : w'.ownsRow base 9 1 v' (xs.length + 1) (strVs xs ++ [.string (mkB x)])) (hg : (w0.alloc o).grownBy w' v.ownBlock) (hat : v'.ownBlock = v.ownBlock ∨ ∃ m, w0.heap.size ≤ m ∧ v'.ownBlock = some m) :
    w'.heap[q]? = some (.cells #[v] 35 (0, 0)) ∧ OutPost base q (xs ++ [x]) w (w'.setCell ⟨q, 0, none⟩ v') := by
  have hq := hw0.lt
  have hs0 := hb0.size
  have hqw : w'.heap[q]? = some (.cells #[v] 35 (0, 0)) := by
    rw [hg.block q (by simp; omega) (fun e => hne e.symm), old_block _ _ (by omega)]; exact hv
  have hne' : v'.ownBlock ≠ some q := by
    rcases hat with e | ⟨m, hm, e⟩
    · rw [e]; exact hne
    · rw [e]; intro e2; simp at e2; omega
  have hbase := hw0.base_le
  have hb' : Below base w w' := Below.grown ((hb0.mono hbase).alloc (by omega) _) hg (by simp; omega) (fun k hk => (hown.lt k hk).1)
  have hkp : KpC q w w' := (KpC.below hb0).trans (KpC.append hown hg)
  refine ⟨hqw, hb'.setCell hw0.low _, hkp.trans (KpC.store q 0 w' _), hw0.low, by have := hg.size; simp at this; simp; omega, v', row_set (j := 0) _ hqw (by simp), ?_, hne'⟩
  rw [strVs_snoc, List.length_append]
  exact setRow_owns _ h1 hne'
set_option maxHeartbeats 2000000 in
set_option maxRecDepth 100000 in
theorem vars1_any (base q : Nat) (xs : List Nm) (hxs : xs.length ≤ 10000) (s : PStmt) (X : Option Addr) (x : Nat) (T : Option Addr) (t : Nat) (L : Option Addr) (l : Nat) (w : World) (h : OutAt base q xs w) :
    Calls Tryz.prog 31 #[stmtV s X x T t L l, .pointer (some ⟨q, 0, none⟩)] w fun e w' => e = .returned (.tuple #[]) ∧ OutPost base q (stepV s xs) w w' := by
  have hb0 : Below w.heap.size w (w.alloc (stmtO s X x T t L l)) := grow_alloc (grow_refl _) _
  have HB0 := Lib.hid hb0
  have HH := Lib.hid h
  have h1 := h.keep hb0
  obtain ⟨v, q1, q2, q3⟩ := h1.cell
  obtain ⟨A, c, rfl⟩ := owns_slice q2
  have c0 := cell_of_row _ _ 0 _ _ _ q1
  have z0 := row_frozen q1 0
  obtain ⟨i0, hi, hz0, hz1, hz2⟩ := info_parts strInfo2
  have HO := Lib.hid q2
  have HQ := Lib.hid q1
  have HN := Lib.hid q3
  have hbase := h.base_le
  clear hb0 h h1 q1 q2 q3
  unfold stmtV
  unfold stmtO at *
  by_cases hk : s.kind = sVar
  · have t0 := kind_yes hk
    unfold sVar at t0
    have HS : Hid (stepV s xs = xs ++ [s.name]) := show _ = _ by unfold stepV; rw [if_pos hk]
    clear hk
    go_enter Tryz.func31, Tryz.ntmps31
    go_wp2_with (at_builtin; refine wpList_append_own_at _ rfl _ _ 35 rfl base 9 i0 _ 1 16 Tryz.underlying35 hi hz0 hz1 hz2 rfl (by decide) _ _ _ rfl (HO.out.alloc _) ⟨w.heap.size + 1, 0, none⟩ 1 1 [.string (mkB s.name)] rfl rfl ?c1 ?c2 ?c3 ?c4 ?c5 ?_)
    case c1 =>
      intro i u hu
      match i, hu with
      | 0, hu => simp at hu; subst hu; simp [Addr.add]
    case c2 => intro u hu; simp at hu; subst hu; rfl
    case c3 => unfold maxLen; omega
    case c4 => omega
    case c5 => simp; omega
    · intro v' w2 hown' hgrow _ hat
      obtain ⟨A', c', rfl⟩ := owns_slice hown'
      obtain ⟨r1, r2⟩ := out_push (x := s.name) HH.out HB0.out HQ.out HO.out HN.out hown' hgrow (hat.imp id fun e => ⟨_, by simp, e⟩)
      have f0 := cell_of_row _ _ 0 _ _ _ r1
      have y0 := row_frozen r1 0
      have HR := Lib.hid r2
      clear hown' hgrow hat r1 r2 c0 z0
      go_wp2_with fail
      go_end0
      exact ⟨rfl, by rw [HS.out]; exact HR.out⟩
  · have t0 := kind_no hk
    unfold sVar at t0
    have HS : Hid (stepV s xs = xs) := show _ = _ by unfold stepV; rw [if_neg hk]
    clear hk
    go_enter Tryz.func31, Tryz.ntmps31
    go_wp2_with fail
    go_end0
    exact ⟨rfl, by rw [HS.out]; exact OutPost.below HH.out HB0.out⟩
theorem pushN_has {xs : List Nm} {x : Nm} (h : xs.contains x = true) : pushN xs x = xs := by unfold pushN; rw [if_pos h]
theorem pushN_new {xs : List Nm} {x : Nm} (h : xs.contains x = false) : pushN xs x = xs ++ [x] := by unfold pushN; rw [if_neg (by rw [h]; decide)]
set_option maxHeartbeats 2000000 in
set_option maxRecDepth 100000 in
theorem calls11_any (base q : Nat) (xs : List Nm) (hxs : xs.length ≤ 10000) (x : Nm) (w : World) (h : OutAt base q xs w) :
    Calls Tryz.prog 35 #[.string (mkB x), .pointer (some ⟨q, 0, none⟩)] w fun e w' => e = .returned (.tuple #[]) ∧ OutPost base q (pushN xs x) w w' := by
  have HB0 : Hid (Below w.heap.size w w) := Below.refl _ _
  have HH := Lib.hid h
  obtain ⟨v, q1, q2, q3⟩ := h.cell
  obtain ⟨A, c, rfl, hrow, -⟩ := owns_Row q2
  have c0 : w.cell? ⟨q, 0, none⟩ = some (.slice A xs.length c) := cell_of_row _ _ 0 _ _ _ q1
  have z0 := row_frozen q1 0
  obtain ⟨i0, hi, hz0, hz1, hz2⟩ := info_parts strInfo2
  have HCN := Lib.hid (has_any xs x A c w hrow (by omega))
  have HO := Lib.hid q2
  have HQ := Lib.hid q1
  have HN := Lib.hid q3
  have hbase := h.base_le
  clear h q1 q2 q3 hrow
  cases hc : xs.contains x
  · rw [hc] at HCN
    have HS := Lib.hid (pushN_new hc)
    clear hc
    go_enter Tryz.func35, Tryz.ntmps35
    go_wp2_with (first
      | (go_at_call 36; (with_reducible refine HCN.out.mono ?_); rintro y w1 ⟨rfl, rfl⟩)
      | (at_builtin; refine wpList_append_own_at _ rfl _ _ 35 rfl base 9 i0 _ 1 16 Tryz.underlying35 hi hz0 hz1 hz2 rfl (by decide) _ _ _ rfl (HO.out.alloc _) ⟨w1.heap.size, 0, none⟩ 1 1 [.string (mkB x)] rfl rfl ?c1 ?c2 ?c3 ?c4 ?c5 ?_))
    case c1 =>
      intro i u hu
      match i, hu with
      | 0, hu => simp at hu; subst hu; simp [Addr.add]
    case c2 => intro u hu; simp at hu; subst hu; rfl
    case c3 => unfold maxLen; omega
    case c4 => omega
    case c5 => simp; omega
    · intro v' w2 hown' hgrow _ hat
      obtain ⟨A', c', rfl⟩ := owns_slice hown'
      obtain ⟨r1, r2⟩ := out_push (x := x) HH.out HB0.out HQ.out HO.out HN.out hown' hgrow (hat.imp id fun e => ⟨_, by simp, e⟩)
      have f0 := cell_of_row _ _ 0 _ _ _ r1
      have y0 := row_frozen r1 0
      have HR := Lib.hid r2
      clear hown' hgrow hat r1 r2 c0 z0
      go_wp2_with fail
      go_end0
      exact ⟨rfl, by rw [HS.out]; exact HR.out⟩
  · rw [hc] at HCN
    have HS := Lib.hid (pushN_has hc)
    clear hc
    go_enter Tryz.func35, Tryz.ntmps35
    go_wp2_with (go_at_call 36; (with_reducible refine HCN.out.mono ?_); rintro y w1 ⟨rfl, rfl⟩)
    go_end0
    exact ⟨rfl, by rw [HS.out]; exact OutPost.below HH.out HB0.out⟩
theorem callK_step {ks : List PExpr} {k : Nat} (h : k < ks.length) (xs : List Nm) : callK (ks.drop k) xs = callK (ks.drop (k + 1)) (callE ks[k] xs) := by
  rw [List.drop_eq_getElem_cons h, callK_cons]
theorem cntK_step {ks : List PExpr} {k : Nat} (h : k < ks.length) : cntK (ks.drop k) = cntE ks[k] + cntK (ks.drop (k + 1)) := by
  rw [List.drop_eq_getElem_cons h, cntK_cons]
set_option maxHeartbeats 4000000 in
set_option maxRecDepth 100000 in
theorem calls_any (base q : Nat) : ∀ e : PExpr, SmE e → ∀ (xs : List Nm), xs.length + cntE e ≤ 10000 → ∀ (A : Option Addr) (c : Nat) (w : World), OutAt base q xs w → RdE w (fun k => k < base) e.kids A →
    Calls Tryz.prog 34 #[exprV e A c, .func (.func 35) #[] #[.pointer (some ⟨q, 0, none⟩)]] w fun r w' => r = .returned (.tuple #[]) ∧ OutPost base q (callE e xs) w w' := by
  intro e
  induction e using PExpr.ind with
  | h e ih =>
  intro hsm xs hxs A c w hw hr
  have h8 := hsm.len
  have hb0 : Below w.heap.size w (w.alloc (exprO e A c)) := grow_alloc (grow_refl _) _
  have HP0 := Lib.hid (OutPost.below hw hb0)
  have HBK := Lib.hid (heap_alloc_new w (exprO e A c))
  have hq : w.heap.size ≠ q := by have := hw.lt; omega
  have HQ := Lib.hid hq
  have IH : Hid (∀ (i : Nat) (hi : i < e.kids.length) (xs : List Nm), xs.length + cntE e.kids[i] ≤ 10000 → ∀ (A : Option Addr) (c : Nat) (w : World), OutAt base q xs w → RdE w (fun k => k < base) e.kids[i].kids A →
    Calls Tryz.prog 34 #[exprV e.kids[i] A c, .func (.func 35) #[] #[.pointer (some ⟨q, 0, none⟩)]] w fun r w' => r = .returned (.tuple #[]) ∧ OutPost base q (callE e.kids[i] xs) w w') :=
    fun i hi => ih _ (List.getElem_mem hi) (hsm.kid _ (List.getElem_mem hi))
  have HR := Lib.hid hr
  have HCE := Lib.hid (callE_eq e xs)
  have HCC := Lib.hid (cntE_eq e)
  have HX := Lib.hid hxs
  clear ih hsm hxs hw hr hb0 hq
  unfold exprV at *
  unfold exprO at *
  go_enter Tryz.func34, Tryz.ntmps34
  go_wp2_with fail
  go_loopw [5, 9] (fun _ i wr => ∃ (k : Nat) (ys : List Nm), k ≤ e.kids.length ∧ i = .int .i64 k ∧ callK e.kids xs = callK (e.kids.drop k) ys ∧ ys.length + cntK (e.kids.drop k) < 10000 ∧ OutPost base q ys w wr ∧ wr.heap[w.heap.size]? = some (exprO e A c)) (fun _ i _ => e.kids.length - (intOf i).toNat)
  case atStart => exact ⟨0, xs, Nat.zero_le _, rfl, by simp, by have := HCC.out; have := HX.out; simp; omega, HP0.out, HBK.out⟩
  case round =>
    obtain ⟨k, ys, hk, rfl, hI, hcn, hp, hbox⟩ := hrel
    have HI := Lib.hid hI
    clear hI
    unfold exprO at hbox
    by_cases hlt : k < e.kids.length
    · obtain ⟨b', off, B, d, rfl, -, hcells, hnum, hkid⟩ := (HR.out.keep (keepsLow hp.bel) (fun _ h => h)).at hlt
      obtain ⟨c0, c1, c2, c3⟩ := cells_expr hcells
      have hlt' : (k : Int) < (e.kids.length : Int) := by omega
      have HS := Lib.hid (callK_step hlt ys)
      have hcs := cntK_step hlt
      have hln := callE_len e.kids[k] ys
      have hal : Below wr.heap.size wr (wr.alloc (exprO e.kids[k] B d)) := grow_alloc (grow_refl _) _
      have hp1 := hp.trans (OutPost.below hp.out hal)
      have hcall := IH.out k hlt ys (by omega) B d _ hp1.out (hkid.keep (keepsLow (hal.mono hp.out.base_le)) (fun _ h => h))
      unfold exprO at hcall hp1
      have HC := Lib.hid hcall
      have HP1 := Lib.hid hp1
      have HBX : Hid ((wr.alloc (exprO e.kids[k] B d)).heap[w.heap.size]? = some (exprO e (some ⟨b', off, none⟩) c)) := show _ = _ from (old_block wr _ (Array.getElem?_eq_some_iff.1 hbox).1).trans hbox
      have HN := Lib.hid (And.intro hcs hln)
      unfold exprO at HBX
      clear hcells hnum hkid hcs hln hal hp hp1 hcall hbox
      go_wp2_with (go_at_call 34; (with_reducible refine HC.out.mono ?_); rintro y w1 ⟨rfl, hp2⟩)
      go_roundw
      case rel => exact ⟨k + 1, callE e.kids[k] ys, by omega, by go_num, HI.out.trans HS.out, by have := HN.out.1; have := HN.out.2; omega, HP1.out.trans hp2, hp2.kp _ _ _ _ HQ.out expr_ne_str HBX.out⟩
      case measure => simp [intOf]; omega
    · have hk' : k = e.kids.length := by omega
      subst hk'
      have hys : callK e.kids xs = ys := by rw [HI.out, List.drop_length, callK_nil]
      have hyl : ys.length ≤ 10000 := by omega
      have d0 := cell_of_row _ _ 0 _ _ _ hbox
      have d2 := cell_of_row _ _ 2 _ _ _ hbox
      have HC := Lib.hid (calls11_any base q ys hyl e.name wr hp.out)
      have HP := Lib.hid hp
      by_cases hcl : e.kind = xCall
      · have t1 : ((mkB e.kind).toList == [99, 97, 108, 108]) = true := by rw [mkB_toList, hcl]; rfl
        have HF : Hid (callE e xs = pushN ys e.name) := show _ = _ by rw [HCE.out, if_pos hcl, hys]
        clear hcl hys hyl hp hbox
        go_wp2_with (go_at_call 35; (with_reducible refine HC.out.mono ?_); rintro y w1 ⟨rfl, hp2⟩)
        go_end0
        exact ⟨rfl, by rw [HF.out]; exact HP.out.trans hp2⟩
      · have t1 : ((mkB e.kind).toList == [99, 97, 108, 108]) = false := by rw [mkB_toList]; exact beq_eq_false_iff_ne.2 hcl
        have HF : Hid (callE e xs = ys) := show _ = _ by rw [HCE.out, if_neg hcl, hys]
        clear hcl hys hyl hp hbox
        go_wp2_with fail
        go_end0
        exact ⟨rfl, by rw [HF.out]; exact HP.out⟩
set_option maxHeartbeats 2000000 in
set_option maxRecDepth 100000 in
theorem calls1_any (base q : Nat) (xs : List Nm) (s : PStmt) (hsm : SmE s.e) (hxs : xs.length + cntE s.e ≤ 10000) (X : Option Addr) (x : Nat) (T : Option Addr) (t : Nat) (L : Option Addr) (l : Nat) (w : World) (h : OutAt base q xs w) (hX : RdE w (fun k => k < base) s.e.kids X) :
    Calls Tryz.prog 33 #[stmtV s X x T t L l, .pointer (some ⟨q, 0, none⟩)] w fun e w' => e = .returned (.tuple #[]) ∧ OutPost base q (stepC s xs) w w' := by
  have hb0 : Below w.heap.size w (w.alloc (stmtO s X x T t L l)) := grow_alloc (grow_refl _) _
  have hp0 := OutPost.below h hb0
  have hc := calls_any base q s.e hsm xs hxs X x _ hp0.out (hX.keep (keepsLow hp0.bel) (fun _ h => h))
  have HP0 := Lib.hid hp0
  unfold exprV at hc
  have HC := Lib.hid hc
  clear hb0 hp0 hc h hX
  unfold stmtV
  unfold stmtO at *
  go_enter Tryz.func33, Tryz.ntmps33
  go_wp2_with (go_at_call 34; (with_reducible refine HC.out.mono ?_); rintro y w1 ⟨rfl, hp2⟩)
  go_end0
  exact ⟨rfl, HP0.out.trans hp2⟩
theorem walkS_step (σ : PStmt → List Nm → List Nm) {ss : List PStmt} {k : Nat} (h : k < ss.length) (xs : List Nm) : walkS σ (ss.drop k) xs = walkS σ (ss.drop (k + 1)) (walkS σ ss[k].el (walkS σ ss[k].th (σ ss[k] xs))) := by
  rw [List.drop_eq_getElem_cons h, walkS_cons, walkT_eq]
theorem cntS_step {ss : List PStmt} {k : Nat} (h : k < ss.length) : cntS (ss.drop k) = cntT ss[k] + cntS (ss.drop (k + 1)) := by
  rw [List.drop_eq_getElem_cons h, cntS_cons]
def WalkV (base q : Nat) (ss : List PStmt) : Prop := ∀ (xs : List Nm), xs.length + cntS ss ≤ 10000 → ∀ (A : Option Addr) (c : Nat) (w : World), OutAt base q xs w → RdS w (fun k => k < base) ss A →
  Calls Tryz.prog 30 #[.slice A ss.length c, .func (.func 31) #[] #[.pointer (some ⟨q, 0, none⟩)]] w fun r w' => r = .returned (.tuple #[]) ∧ OutPost base q (walkS stepV ss xs) w w'
def WalkC (base q : Nat) (ss : List PStmt) : Prop := ∀ (xs : List Nm), xs.length + cntS ss ≤ 10000 → ∀ (A : Option Addr) (c : Nat) (w : World), OutAt base q xs w → RdS w (fun k => k < base) ss A →
  Calls Tryz.prog 30 #[.slice A ss.length c, .func (.func 33) #[] #[.pointer (some ⟨q, 0, none⟩)]] w fun r w' => r = .returned (.tuple #[]) ∧ OutPost base q (walkS stepC ss xs) w w'
set_option maxHeartbeats 4000000 in
set_option maxRecDepth 100000 in
theorem walkV_list (base q : Nat) (ss : List PStmt) (hlen : ss.length ≤ 30) (hsm : ∀ s ∈ ss, SmS s) (ih : ∀ s ∈ ss, WalkV base q s.th ∧ WalkV base q s.el) : WalkV base q ss := by
  intro xs hxs A c w hw hr
  have HP0 : Hid (OutPost base q xs w w) := OutPost.below hw (Below.refl _ _)
  have HR := Lib.hid hr
  have IH := Lib.hid ih
  have HSM := Lib.hid hsm
  have hq : w.heap.size ≠ q := by have := hw.lt; omega
  clear hr ih hsm hw
  go_enter Tryz.func30, Tryz.ntmps30
  go_wp2_with fail
  go_loopw [5, 8] (fun _ i wr => ∃ (k : Nat) (ys : List Nm), k ≤ ss.length ∧ i = .int .i64 k ∧ walkS stepV ss xs = walkS stepV (ss.drop k) ys ∧ ys.length + cntS (ss.drop k) ≤ 10000 ∧ OutPost base q ys w wr) (fun _ i _ => ss.length - (intOf i).toNat)
  case atStart => exact ⟨0, xs, Nat.zero_le _, rfl, by simp, by simpa using hxs, HP0.out⟩
  case round =>
    obtain ⟨k, ys, hk, rfl, hI, hcn, hp⟩ := hrel
    have HI := Lib.hid hI
    clear hI
    by_cases hlt : k < ss.length
    · obtain ⟨b', off, X, x, T, t, L, l, rfl, -, hcells, hnum, hX, hT, hL⟩ := (HR.out.keep (keepsLow hp.bel) (fun _ h => h)).at hlt
      obtain ⟨c0, c1, c2, c3, c4, c5, c6, c7⟩ := cells_stmt hcells
      have hlt' : (k : Int) < (ss.length : Int) := by omega
      have hst := walkS_step stepV hlt ys
      have hcs := cntS_step hlt
      have hih := IH.out ss[k] (List.getElem_mem hlt)
      have hsm := HSM.out ss[k] (List.getElem_mem hlt)
      obtain ⟨s, hs⟩ : ∃ s, ss[k] = s := ⟨_, rfl⟩
      rw [hs] at hcells hnum hX hT hL c0 c1 c2 c3 c4 c5 c6 c7 hst hcs hih hsm
      have hct := cntT_eq s
      have hl1 := stepV_ok s ys
      have hl2 := walkB_len stepV_ok s.th (stepV s ys)
      have hl3 := walkB_len stepV_ok s.el (walkS stepV s.th (stepV s ys))
      have hal : Below wr.heap.size wr (wr.alloc (stmtO s X x T t L l)) := grow_alloc (grow_refl _) _
      have hp1 := hp.trans (OutPost.below hp.out hal)
      have hkl := keepsLow (hal.mono hp.out.base_le)
      have hqr : wr.heap.size ≠ q := by have := hp.out.lt; omega
      have HBX := Lib.hid (heap_alloc_new wr (stmtO s X x T t L l))
      have HSEE := Lib.hid (vars1_any base q ys (by omega) s X x T t L l _ hp1.out)
      have HTH : Hid (∀ w', OutPost base q (stepV s ys) (wr.alloc (stmtO s X x T t L l)) w' → Calls Tryz.prog 30 #[.slice T s.th.length t, .func (.func 31) #[] #[.pointer (some ⟨q, 0, none⟩)]] w' fun r w'' => r = .returned (.tuple #[]) ∧ OutPost base q (walkS stepV s.th (stepV s ys)) w' w'') := fun w' hb =>
        hih.1 (stepV s ys) (by omega) T t w' hb.out ((hT.keep hkl (fun _ h => h)).keep (keepsLow hb.bel) (fun _ h => h))
      have HEL : Hid (∀ w', OutPost base q (walkS stepV s.th (stepV s ys)) (wr.alloc (stmtO s X x T t L l)) w' → Calls Tryz.prog 30 #[.slice L s.el.length l, .func (.func 31) #[] #[.pointer (some ⟨q, 0, none⟩)]] w' fun r w'' => r = .returned (.tuple #[]) ∧ OutPost base q (walkS stepV s.el (walkS stepV s.th (stepV s ys))) w' w'') := fun w' hb =>
        hih.2 (walkS stepV s.th (stepV s ys)) (by omega) L l w' hb.out ((hL.keep hkl (fun _ h => h)).keep (keepsLow hb.bel) (fun _ h => h))
      have HP1 := Lib.hid hp1
      have HST := Lib.hid hst
      have HNN : Hid ((walkS stepV s.el (walkS stepV s.th (stepV s ys))).length + cntS (ss.drop (k + 1)) ≤ 10000) := show _ ≤ _ by omega
      have HQR := Lib.hid hqr
      unfold stmtV at HSEE
      unfold stmtO at *
      clear hcells hnum hX hT hL hst hcs hih hsm hs hct hl1 hl2 hl3 hal hp hp1 hkl hqr
      go_wp2_with (first
        | (go_at_call 31; (with_reducible refine HSEE.out.mono ?_); rintro y w1 ⟨rfl, hp2⟩; have HK2 := Lib.hid (hp2.kp _ _ _ _ HQR.out stmt_ne_str HBX.out); obtain ⟨d0, d1, d2, d3, d4, d5, d6, d7⟩ := row8 HK2.out; have HP2 := Lib.hid hp2; clear hp2)
        | (go_at_call 30; (with_reducible refine (HTH.out _ HP2.out).mono ?_); rintro y w2 ⟨rfl, hp3⟩; have HK3 := Lib.hid (hp3.kp _ _ _ _ HQR.out stmt_ne_str HK2.out); obtain ⟨e0, e1, e2, e3, e4, e5, e6, e7⟩ := row8 HK3.out; have HP3 := Lib.hid (HP2.out.trans hp3); clear hp3)
        | (go_at_call 30; (with_reducible refine (HEL.out _ HP3.out).mono ?_); rintro y w3 ⟨rfl, hp4⟩))
      go_roundw
      case rel => exact ⟨k + 1, _, by omega, by go_num, HI.out.trans HST.out, HNN.out, HP1.out.trans (HP3.out.trans hp4)⟩
      case measure => simp [intOf]; omega
    · have hk' : k = ss.length := by omega
      subst hk'
      have HF : Hid (walkS stepV ss xs = ys) := show _ = _ by rw [HI.out, List.drop_length, walkS_nil]
      have HP := Lib.hid hp
      clear hp
      go_wp2_with fail
      go_end0
      exact ⟨rfl, by rw [HF.out]; exact HP.out⟩
theorem walkV_any (base q : Nat) (ss : List PStmt) (hlen : ss.length ≤ 30) (hsm : ∀ s ∈ ss, SmS s) : WalkV base q ss := by
  have each : ∀ s : PStmt, SmS s → WalkV base q s.th ∧ WalkV base q s.el := by
    intro s
    induction s using PStmt.ind with
    | h s iht ihl =>
      intro h
      exact ⟨walkV_list base q s.th h.lenT h.kidT fun k hk => iht k hk (h.kidT k hk), walkV_list base q s.el h.lenL h.kidL fun k hk => ihl k hk (h.kidL k hk)⟩
  exact walkV_list base q ss hlen hsm fun s hs => each s (hsm s hs)
set_option maxHeartbeats 4000000 in
set_option maxRecDepth 100000 in
theorem walkC_list (base q : Nat) (ss : List PStmt) (hlen : ss.length ≤ 30) (hsm : ∀ s ∈ ss, SmS s) (ih : ∀ s ∈ ss, WalkC base q s.th ∧ WalkC base q s.el) : WalkC base q ss := by
  intro xs hxs A c w hw hr
  have HP0 : Hid (OutPost base q xs w w) := OutPost.below hw (Below.refl _ _)
  have HR := Lib.hid hr
  have IH := Lib.hid ih
  have HSM := Lib.hid hsm
  have hq : w.heap.size ≠ q := by have := hw.lt; omega
  clear hr ih hsm hw
  go_enter Tryz.func30, Tryz.ntmps30
  go_wp2_with fail
  go_loopw [5, 8] (fun _ i wr => ∃ (k : Nat) (ys : List Nm), k ≤ ss.length ∧ i = .int .i64 k ∧ walkS stepC ss xs = walkS stepC (ss.drop k) ys ∧ ys.length + cntS (ss.drop k) ≤ 10000 ∧ OutPost base q ys w wr) (fun _ i _ => ss.length - (intOf i).toNat)
  case atStart => exact ⟨0, xs, Nat.zero_le _, rfl, by simp, by simpa using hxs, HP0.out⟩
  case round =>
    obtain ⟨k, ys, hk, rfl, hI, hcn, hp⟩ := hrel
    have HI := Lib.hid hI
    clear hI
    by_cases hlt : k < ss.length
    · obtain ⟨b', off, X, x, T, t, L, l, rfl, -, hcells, hnum, hX, hT, hL⟩ := (HR.out.keep (keepsLow hp.bel) (fun _ h => h)).at hlt
      obtain ⟨c0, c1, c2, c3, c4, c5, c6, c7⟩ := cells_stmt hcells
      have hlt' : (k : Int) < (ss.length : Int) := by omega
      have hst := walkS_step stepC hlt ys
      have hcs := cntS_step hlt
      have hih := IH.out ss[k] (List.getElem_mem hlt)
      have hsm := HSM.out ss[k] (List.getElem_mem hlt)
      obtain ⟨s, hs⟩ : ∃ s, ss[k] = s := ⟨_, rfl⟩
      rw [hs] at hcells hnum hX hT hL c0 c1 c2 c3 c4 c5 c6 c7 hst hcs hih hsm
      have hct := cntT_eq s
      have hl1 := stepC_ok s ys
      have hl2 := walkB_len stepC_ok s.th (stepC s ys)
      have hl3 := walkB_len stepC_ok s.el (walkS stepC s.th (stepC s ys))
      have hal : Below wr.heap.size wr (wr.alloc (stmtO s X x T t L l)) := grow_alloc (grow_refl _) _
      have hp1 := hp.trans (OutPost.below hp.out hal)
      have hkl := keepsLow (hal.mono hp.out.base_le)
      have hqr : wr.heap.size ≠ q := by have := hp.out.lt; omega
      have HBX := Lib.hid (heap_alloc_new wr (stmtO s X x T t L l))
      have HSEE := Lib.hid (calls1_any base q ys s hsm.expr (by omega) X x T t L l _ hp1.out (hX.keep hkl (fun _ h => h)))
      have HTH : Hid (∀ w', OutPost base q (stepC s ys) (wr.alloc (stmtO s X x T t L l)) w' → Calls Tryz.prog 30 #[.slice T s.th.length t, .func (.func 33) #[] #[.pointer (some ⟨q, 0, none⟩)]] w' fun r w'' => r = .returned (.tuple #[]) ∧ OutPost base q (walkS stepC s.th (stepC s ys)) w' w'') := fun w' hb =>
        hih.1 (stepC s ys) (by omega) T t w' hb.out ((hT.keep hkl (fun _ h => h)).keep (keepsLow hb.bel) (fun _ h => h))
      have HEL : Hid (∀ w', OutPost base q (walkS stepC s.th (stepC s ys)) (wr.alloc (stmtO s X x T t L l)) w' → Calls Tryz.prog 30 #[.slice L s.el.length l, .func (.func 33) #[] #[.pointer (some ⟨q, 0, none⟩)]] w' fun r w'' => r = .returned (.tuple #[]) ∧ OutPost base q (walkS stepC s.el (walkS stepC s.th (stepC s ys))) w' w'') := fun w' hb =>
        hih.2 (walkS stepC s.th (stepC s ys)) (by omega) L l w' hb.out ((hL.keep hkl (fun _ h => h)).keep (keepsLow hb.bel) (fun _ h => h))
      have HP1 := Lib.hid hp1
      have HST := Lib.hid hst
      have HNN : Hid ((walkS stepC s.el (walkS stepC s.th (stepC s ys))).length + cntS (ss.drop (k + 1)) ≤ 10000) := show _ ≤ _ by omega
      have HQR := Lib.hid hqr
      unfold stmtV at HSEE
      unfold stmtO at *
      clear hcells hnum hX hT hL hst hcs hih hsm hs hct hl1 hl2 hl3 hal hp hp1 hkl hqr
      go_wp2_with (first
        | (go_at_call 33; (with_reducible refine HSEE.out.mono ?_); rintro y w1 ⟨rfl, hp2⟩; have HK2 := Lib.hid (hp2.kp _ _ _ _ HQR.out stmt_ne_str HBX.out); obtain ⟨d0, d1, d2, d3, d4, d5, d6, d7⟩ := row8 HK2.out; have HP2 := Lib.hid hp2; clear hp2)
        | (go_at_call 30; (with_reducible refine (HTH.out _ HP2.out).mono ?_); rintro y w2 ⟨rfl, hp3⟩; have HK3 := Lib.hid (hp3.kp _ _ _ _ HQR.out stmt_ne_str HK2.out); obtain ⟨e0, e1, e2, e3, e4, e5, e6, e7⟩ := row8 HK3.out; have HP3 := Lib.hid (HP2.out.trans hp3); clear hp3)
        | (go_at_call 30; (with_reducible refine (HEL.out _ HP3.out).mono ?_); rintro y w3 ⟨rfl, hp4⟩))
      go_roundw
      case rel => exact ⟨k + 1, _, by omega, by go_num, HI.out.trans HST.out, HNN.out, HP1.out.trans (HP3.out.trans hp4)⟩
      case measure => simp [intOf]; omega
    · have hk' : k = ss.length := by omega
      subst hk'
      have HF : Hid (walkS stepC ss xs = ys) := show _ = _ by rw [HI.out, List.drop_length, walkS_nil]
      have HP := Lib.hid hp
      clear hp
      go_wp2_with fail
      go_end0
      exact ⟨rfl, by rw [HF.out]; exact HP.out⟩
theorem walkC_any (base q : Nat) (ss : List PStmt) (hlen : ss.length ≤ 30) (hsm : ∀ s ∈ ss, SmS s) : WalkC base q ss := by
  have each : ∀ s : PStmt, SmS s → WalkC base q s.th ∧ WalkC base q s.el := by
    intro s
    induction s using PStmt.ind with
    | h s iht ihl =>
      intro h
      exact ⟨walkC_list base q s.th h.lenT h.kidT fun k hk => iht k hk (h.kidT k hk), walkC_list base q s.el h.lenL h.kidL fun k hk => ihl k hk (h.kidL k hk)⟩
  exact walkC_list base q ss hlen hsm fun s hs => each s (hsm s hs)
end Go.Proofs.YteifmgcbafemeaaGreatDoor
