import Derived.Test.YtidhplpidkgkdaaDoorRefText2
namespace Go.Proofs.YtidhplpidkgkdaaDoor
open Go.RowKit

/-! all numbers in range -/
inductive OkE : PExpr → Prop
  | mk (e : PExpr) (hn : okN e.num) (hk : ∀ k ∈ e.kids, OkE k) : OkE e
theorem OkE.num {e : PExpr} (h : OkE e) : okN e.num := by cases h; assumption
theorem OkE.kid {e : PExpr} (h : OkE e) : ∀ k ∈ e.kids, OkE k := by cases h; assumption
theorem RdE.ok {w : World} {S : Nat → Prop} {ks : List PExpr} {A : Option Addr} (h : RdE w S ks A) : ∀ k ∈ ks, OkE k := by
  induction h with
  | mk ks A b off B c hA hc hn hk ih =>
    intro k hm
    obtain ⟨i, hi, rfl⟩ := List.getElem_of_mem hm
    exact ⟨_, hn i hi, ih i hi⟩
theorem ExprText_any : ∀ e : PExpr, OkE e → (textE e).length ≤ 1000000 → ExprTextC e := by
  intro e
  induction e using PExpr.ind with
  | h e ih =>
    intro ho hl
    have ih' : ∀ k ∈ e.kids, (textE k).length ≤ 1000000 → ExprTextC k := fun k hk hl => ih k hk (ho.kid k hk) hl
    by_cases h0 : e.kind = xNum
    · exact rtext_num e ho.num h0
    by_cases h1 : e.kind = xName
    · exact rtext_name e h1
    by_cases h2 : e.kind = xCall
    · exact rtext_call e h2 hl ih'
    by_cases h3 : e.kind = xOne
    · exact rtext_one e h3 hl ih'
    by_cases h4 : e.kind = xTwo
    · exact rtext_two e h4 hl ih'
    exact rtext_none e h0 h1 h2 h3 h4
/-- A statement whose text is to be had, so deep. -/
inductive TxS : Nat → PStmt → Prop
  | mk (d : Nat) (s : PStmt) (hd : d ≤ 100) (hk : s.kind.length ≤ 20) (hn : s.name.length ≤ 20) (ho : OkE s.e) (he : (textE s.e).length ≤ 1000000) (ht : s.th.length ≤ 30) (hl : s.el.length ≤ 30) (hts : ∀ k ∈ s.th, TxS (d + 1) k) (hls : ∀ k ∈ s.el, TxS (d + 1) k) : TxS d s
theorem TxS.all {d : Nat} {s : PStmt} (h : TxS d s) : d ≤ 100 ∧ s.kind.length ≤ 20 ∧ s.name.length ≤ 20 ∧ OkE s.e ∧ (textE s.e).length ≤ 1000000 ∧ s.th.length ≤ 30 ∧ s.el.length ≤ 30 ∧ (∀ k ∈ s.th, TxS (d + 1) k) ∧ (∀ k ∈ s.el, TxS (d + 1) k) := by
  cases h with
  | mk _ _ a b c d e f g h i => exact ⟨a, b, c, d, e, f, g, h, i⟩
theorem textB_app (d : Nat) : ∀ (a b : List PStmt), textB (a ++ b) d = textB a d ++ textB b d := by
  intro a
  induction a with
  | nil => intro b; rw [textB_nil]; rfl
  | cons s a ih => intro b; rw [List.cons_append, textB_cons, textB_cons, ih, List.append_assoc]
theorem textB_step {ss : List PStmt} {k : Nat} (h : k < ss.length) (d : Nat) : textB (ss.take (k + 1)) d = textB (ss.take k) d ++ textS ss[k] d := by
  rw [List.take_succ_eq_append_getElem h, textB_app, textB_cons, textB_nil, List.append_nil]
theorem textB_take_len (ss : List PStmt) (k d : Nat) : (textB (ss.take k) d).length ≤ (textB ss d).length := by
  have := congrArg List.length (textB_app d (ss.take k) (ss.drop k))
  rw [List.take_append_drop, List.length_append] at this
  omega
theorem textS_len {ss : List PStmt} {s : PStmt} (h : s ∈ ss) (d : Nat) : (textS s d).length ≤ (textB ss d).length := by
  induction ss with
  | nil => cases h
  | cons x xs ih =>
    rw [textB_cons, List.length_append]
    rcases List.mem_cons.1 h with rfl | h
    · omega
    · have := ih h; omega
def tabsT (n : Nat) : List UInt8 := List.replicate n 9
set_option maxRecDepth 100000 in
theorem tabs_any (n : Nat) (hn : n ≤ 1000) (w : World) : Calls Tryd.prog 50 #[.int .i64 (n : Int)] w (Ret (strV (tabsT n)) w) := by
  unfold strV
  go_enter Tryd.func50, Tryd.ntmps50
  go_wp2_with fail
  go_loopw [3, 4] (fun v i wr => ∃ k : Nat, k ≤ n ∧ i = .int .i64 k ∧ v = .string (mkB (tabsT k)) ∧ wr = w) (fun _ i _ => n - (intOf i).toNat)
  case atStart => exact ⟨0, Nat.zero_le _, rfl, rfl, rfl⟩
  case round =>
    obtain ⟨k, hk, rfl, rfl, rfl⟩ := hrel
    have hsz : (mkB (tabsT k)).size ≤ 1000 := by rw [mkB_len]; simp [tabsT]; omega
    by_cases hlt : k < n
    · have hlt' : (k : Int) < (n : Int) := by omega
      have HV : Hid (mkB (tabsT k) ++ ⟨#[9]⟩ = mkB (tabsT (k + 1))) := show _ = _ by rw [mkB_one]; simp [tabsT, List.replicate_succ']
      go_wp2_with fail
      go_roundw
      case rel => exact ⟨k + 1, by omega, by go_num, congrArg Value.string HV.out, (by trivial)⟩
      case measure => simp [intOf]; omega
    · have hk' : k = n := by omega
      subst hk'
      go_wp2_with fail
      go_ret
      exact ⟨rfl, grow_refl _⟩
def BlockTextC (d : Nat) (ss : List PStmt) : Prop := d ≤ 101 → (textB ss d).length ≤ 1000000 → ∀ (S : Nat → Prop) (A : Option Addr) (c : Nat) (w : World), RdS w S ss A →
    Calls Tryd.prog 24 #[.slice A ss.length c, .int .i64 (d : Int)] w (Ret (strV (textB ss d)) w)
theorem box_seen {wr w' : World} {q : Nat} {v0 v1 v2 v3 v4 v5 v6 v7 : Value} {T : TypeId} (hb : Below wr.heap.size wr w') (hrow : wr.heap[q]? = some (.cells #[v0, v1, v2, v3, v4, v5, v6, v7] T (0, 0))) :
    Below wr.heap.size wr w' ∧ w'.cell? ⟨q, 0, none⟩ = some v0 ∧ w'.cell? ⟨q, 1, none⟩ = some v1 ∧ w'.cell? ⟨q, 2, none⟩ = some v2 ∧ w'.cell? ⟨q, 3, none⟩ = some v3 ∧ w'.cell? ⟨q, 4, none⟩ = some v4 ∧ w'.cell? ⟨q, 5, none⟩ = some v5 ∧ w'.cell? ⟨q, 6, none⟩ = some v6 ∧ w'.cell? ⟨q, 7, none⟩ = some v7 :=
  have hk := Keeps.of_below hb
  ⟨hb, hk _ _ (cell_of_row _ _ 0 _ _ _ hrow), hk _ _ (cell_of_row _ _ 1 _ _ _ hrow), hk _ _ (cell_of_row _ _ 2 _ _ _ hrow), hk _ _ (cell_of_row _ _ 3 _ _ _ hrow), hk _ _ (cell_of_row _ _ 4 _ _ _ hrow), hk _ _ (cell_of_row _ _ 5 _ _ _ hrow), hk _ _ (cell_of_row _ _ 6 _ _ _ hrow), hk _ _ (cell_of_row _ _ 7 _ _ _ hrow)⟩
set_option maxHeartbeats 16000000 in
set_option maxRecDepth 100000 in
theorem block_list (d : Nat) (ss : List PStmt) (htx : ∀ s ∈ ss, TxS d s) (hlen : ss.length ≤ 30) (hq : ∀ s ∈ ss, BlockTextC (d + 1) s.th ∧ BlockTextC (d + 1) s.el) : BlockTextC d ss := by
  intro hd hl S A c w hr
  have HR := Lib.hid hr
  have HQ := Lib.hid hq
  have HTX := Lib.hid htx
  have HLT : Hid (∀ k, (textB (ss.take k) d).length ≤ 1000000) := fun k => Nat.le_trans (textB_take_len ss k d) hl
  have HLS : Hid (∀ s ∈ ss, (textS s d).length ≤ 1000000) := fun s hs => Nat.le_trans (textS_len hs d) hl
  have HTB := Lib.hid (fun w => tabs_any d (by omega) w)
  unfold strV at *
  clear hq htx hr hl
  go_enter Tryd.func24, Tryd.ntmps24
  go_wp2_with fail
  go_loopw [5, 6, 7, 8, 9] (fun v i _ _ _ wr => ∃ k : Nat, k ≤ ss.length ∧ i = .int .i64 k ∧ v = .string (mkB (textB (ss.take k) d)) ∧ Below w.heap.size w wr) (fun _ i _ _ _ _ => ss.length - (intOf i).toNat)
  case atStart => exact ⟨0, Nat.zero_le _, rfl, by rw [List.take_zero, textB_nil]; rfl, grow_refl _⟩
  case round =>
    obtain ⟨k, hk, rfl, rfl, hbel⟩ := hrel
    by_cases hlt : k < ss.length
    · obtain ⟨b, off, X, x, T, t, L, l, rfl, -, hcells, hnum, hX, hT, hL⟩ := (HR.out.keep ((Keeps.of_below hbel).in S) (fun _ h => h)).at hlt
      obtain ⟨c0, c1, c2, c3, c4, c5, c6, c7⟩ := cells_stmt hcells
      have hlt' : (k : Int) < (ss.length : Int) := by omega
      have hst := textB_step hlt d
      obtain ⟨s, hs⟩ : ∃ s, ss[k] = s := ⟨_, rfl⟩
      have hsm : s ∈ ss := hs ▸ List.getElem_mem hlt
      rw [hs] at hcells hnum hX hT hL c0 c1 c2 c3 c4 c5 c6 c7 hst
      obtain ⟨hd100, hkl, hnl, hok, hel, htl, hll, -, -⟩ := (HTX.out s hsm).all
      have hlS := HLS.out s hsm
      have HZ := Lib.hid hst
      have HXE : Hid (∀ w', Below wr.heap.size wr w' → Calls Tryd.prog 51 #[exprV s.e X x] w' (Ret (.string (mkB (textE s.e))) w')) := fun w' hb => ExprText_any s.e hok hel S X x w' (hX.keep ((Keeps.of_below hb).in S) (fun _ h => h))
      have hsz1 : (mkB (textB (ss.take k) d)).size ≤ 1000000 := by rw [mkB_len]; exact HLT.out k
      have hsz2 : (mkB (tabsT d)).size ≤ 1000 := by rw [mkB_len]; simp [tabsT]; omega
      have hsz3 : (mkB (textE s.e)).size ≤ 1000000 := by rw [mkB_len]; exact hel
      have hsz4 : (mkB s.name).size ≤ 20 := by rw [mkB_len]; exact hnl
      have hsz5 : (mkB s.kind).size ≤ 20 := by rw [mkB_len]; exact hkl
      obtain ⟨O, hO⟩ : ∃ O, textB (ss.take k) d = O := ⟨_, rfl⟩
      rw [hO] at hsz1 HZ
      rw [hO]
      have hts := textS_eq s d
      unfold exprV at HXE
      by_cases h0 : s.kind = sVar
      · have hkind := h0
        have g0 : ((mkB s.kind).toList == [118, 97, 114]) = true := by rw [mkB_toList, hkind]; rfl
        have hv := hts.trans (if_pos hkind)
        have HV : Hid (mkB O ++ mkB (tabsT d) ++ mkB [118, 97, 114, 32] ++ mkB s.name ++ mkB [32, 61, 32] ++ mkB (textE s.e) ++ mkB [59, 10] = mkB (textB (ss.take (k + 1)) d)) := show _ = _ by
          rw [HZ.out, hv]; simp only [mkB_app]; congr 1; simp [lineT, tabsT, List.append_assoc]
        clear hcells hX hT hL hnum hst hts hv hkind h0 hs hO
        go_wp2_with (first
          | (go_at_call 50; (with_reducible refine (HTB.out _).mono ?_); rintro y w1 ⟨rfl, hb1⟩; obtain ⟨-, y0, y1, y2, y3, y4, y5, y6, y7⟩ := box_seen hb1 (heap_alloc_new wr (.cells #[.string (mkB s.kind), .string (mkB s.name), .string (mkB s.e.kind), .int .i64 s.e.num, .string (mkB s.e.name), .slice X s.e.kids.length x, .slice T s.th.length t, .slice L s.el.length l] 91)))
          | (go_at_call 51; (with_reducible refine (HXE.out _ (grow_trans (grow_alloc (grow_refl _) _) hb1)).mono ?_); rintro y w2 ⟨rfl, hb2⟩; obtain ⟨-, x0, x1, x2, x3, x4, x5, x6, x7⟩ := box_seen (grow_trans hb1 hb2) (heap_alloc_new wr (.cells #[.string (mkB s.kind), .string (mkB s.name), .string (mkB s.e.kind), .int .i64 s.e.num, .string (mkB s.e.name), .slice X s.e.kids.length x, .slice T s.th.length t, .slice L s.el.length l] 91))))
        go_roundw
        case rel => exact ⟨k + 1, by omega, by go_num, congrArg Value.string HV.out, grow_trans (grow_alloc hbel _) (grow_trans hb1 hb2)⟩
        case measure => simp [intOf]; omega
      by_cases h1 : s.kind = sSet
      · have hkind := h1
        have g0 : ((mkB s.kind).toList == [118, 97, 114]) = false := by rw [mkB_toList, hkind]; rfl
        have g1 : ((mkB s.kind).toList == [115, 101, 116]) = true := by rw [mkB_toList, hkind]; rfl
        have hv := hts.trans ((if_neg (by rw [hkind]; decide)).trans (if_pos hkind))
        have HV : Hid (mkB O ++ mkB (tabsT d) ++ mkB s.name ++ mkB [32, 61, 32] ++ mkB (textE s.e) ++ mkB [59, 10] = mkB (textB (ss.take (k + 1)) d)) := show _ = _ by
          rw [HZ.out, hv]; simp only [mkB_app]; congr 1; simp [lineT, tabsT, List.append_assoc]
        clear hcells hX hT hL hnum hst hts hv hkind h1 hs hO
        go_wp2_with (first
          | (go_at_call 50; (with_reducible refine (HTB.out _).mono ?_); rintro y w1 ⟨rfl, hb1⟩; obtain ⟨-, y0, y1, y2, y3, y4, y5, y6, y7⟩ := box_seen hb1 (heap_alloc_new wr (.cells #[.string (mkB s.kind), .string (mkB s.name), .string (mkB s.e.kind), .int .i64 s.e.num, .string (mkB s.e.name), .slice X s.e.kids.length x, .slice T s.th.length t, .slice L s.el.length l] 91)))
          | (go_at_call 51; (with_reducible refine (HXE.out _ (grow_trans (grow_alloc (grow_refl _) _) hb1)).mono ?_); rintro y w2 ⟨rfl, hb2⟩; obtain ⟨-, x0, x1, x2, x3, x4, x5, x6, x7⟩ := box_seen (grow_trans hb1 hb2) (heap_alloc_new wr (.cells #[.string (mkB s.kind), .string (mkB s.name), .string (mkB s.e.kind), .int .i64 s.e.num, .string (mkB s.e.name), .slice X s.e.kids.length x, .slice T s.th.length t, .slice L s.el.length l] 91))))
        go_roundw
        case rel => exact ⟨k + 1, by omega, by go_num, congrArg Value.string HV.out, grow_trans (grow_alloc hbel _) (grow_trans hb1 hb2)⟩
        case measure => simp [intOf]; omega
      by_cases h2 : s.kind = sReturn
      · have hkind := h2
        have g0 : ((mkB s.kind).toList == [118, 97, 114]) = false := by rw [mkB_toList, hkind]; rfl
        have g1 : ((mkB s.kind).toList == [115, 101, 116]) = false := by rw [mkB_toList, hkind]; rfl
        have g2 : ((mkB s.kind).toList == [114, 101, 116, 117, 114, 110]) = true := by rw [mkB_toList, hkind]; rfl
        have hv := hts.trans ((if_neg (by rw [hkind]; decide)).trans ((if_neg (by rw [hkind]; decide)).trans (if_pos (.inl hkind))))
        have HV : Hid (mkB O ++ mkB (tabsT d) ++ mkB s.kind ++ mkB [32] ++ mkB (textE s.e) ++ mkB [59, 10] = mkB (textB (ss.take (k + 1)) d)) := show _ = _ by
          rw [HZ.out, hv]; simp only [mkB_app]; congr 1; simp [lineT, tabsT, List.append_assoc]
        clear hcells hX hT hL hnum hst hts hv hkind h2 hs hO
        go_wp2_with (first
          | (go_at_call 50; (with_reducible refine (HTB.out _).mono ?_); rintro y w1 ⟨rfl, hb1⟩; obtain ⟨-, y0, y1, y2, y3, y4, y5, y6, y7⟩ := box_seen hb1 (heap_alloc_new wr (.cells #[.string (mkB s.kind), .string (mkB s.name), .string (mkB s.e.kind), .int .i64 s.e.num, .string (mkB s.e.name), .slice X s.e.kids.length x, .slice T s.th.length t, .slice L s.el.length l] 91)))
          | (go_at_call 51; (with_reducible refine (HXE.out _ (grow_trans (grow_alloc (grow_refl _) _) hb1)).mono ?_); rintro y w2 ⟨rfl, hb2⟩; obtain ⟨-, x0, x1, x2, x3, x4, x5, x6, x7⟩ := box_seen (grow_trans hb1 hb2) (heap_alloc_new wr (.cells #[.string (mkB s.kind), .string (mkB s.name), .string (mkB s.e.kind), .int .i64 s.e.num, .string (mkB s.e.name), .slice X s.e.kids.length x, .slice T s.th.length t, .slice L s.el.length l] 91))))
        go_roundw
        case rel => exact ⟨k + 1, by omega, by go_num, congrArg Value.string HV.out, grow_trans (grow_alloc hbel _) (grow_trans hb1 hb2)⟩
        case measure => simp [intOf]; omega
      by_cases h3 : s.kind = sPrint
      · have hkind := h3
        have g0 : ((mkB s.kind).toList == [118, 97, 114]) = false := by rw [mkB_toList, hkind]; rfl
        have g1 : ((mkB s.kind).toList == [115, 101, 116]) = false := by rw [mkB_toList, hkind]; rfl
        have g2 : ((mkB s.kind).toList == [114, 101, 116, 117, 114, 110]) = false := by rw [mkB_toList, hkind]; rfl
        have g3 : ((mkB s.kind).toList == [112, 114, 105, 110, 116]) = true := by rw [mkB_toList, hkind]; rfl
        have hv := hts.trans ((if_neg (by rw [hkind]; decide)).trans ((if_neg (by rw [hkind]; decide)).trans (if_pos (.inr hkind))))
        have HV : Hid (mkB O ++ mkB (tabsT d) ++ mkB s.kind ++ mkB [32] ++ mkB (textE s.e) ++ mkB [59, 10] = mkB (textB (ss.take (k + 1)) d)) := show _ = _ by
          rw [HZ.out, hv]; simp only [mkB_app]; congr 1; simp [lineT, tabsT, List.append_assoc]
        clear hcells hX hT hL hnum hst hts hv hkind h3 hs hO
        go_wp2_with (first
          | (go_at_call 50; (with_reducible refine (HTB.out _).mono ?_); rintro y w1 ⟨rfl, hb1⟩; obtain ⟨-, y0, y1, y2, y3, y4, y5, y6, y7⟩ := box_seen hb1 (heap_alloc_new wr (.cells #[.string (mkB s.kind), .string (mkB s.name), .string (mkB s.e.kind), .int .i64 s.e.num, .string (mkB s.e.name), .slice X s.e.kids.length x, .slice T s.th.length t, .slice L s.el.length l] 91)))
          | (go_at_call 51; (with_reducible refine (HXE.out _ (grow_trans (grow_alloc (grow_refl _) _) hb1)).mono ?_); rintro y w2 ⟨rfl, hb2⟩; obtain ⟨-, x0, x1, x2, x3, x4, x5, x6, x7⟩ := box_seen (grow_trans hb1 hb2) (heap_alloc_new wr (.cells #[.string (mkB s.kind), .string (mkB s.name), .string (mkB s.e.kind), .int .i64 s.e.num, .string (mkB s.e.name), .slice X s.e.kids.length x, .slice T s.th.length t, .slice L s.el.length l] 91))))
        go_roundw
        case rel => exact ⟨k + 1, by omega, by go_num, congrArg Value.string HV.out, grow_trans (grow_alloc hbel _) (grow_trans hb1 hb2)⟩
        case measure => simp [intOf]; omega
      by_cases h4 : s.kind = sIf
      · have hkind := h4
        have g0 : ((mkB s.kind).toList == [118, 97, 114]) = false := by rw [mkB_toList, hkind]; rfl
        have g1 : ((mkB s.kind).toList == [115, 101, 116]) = false := by rw [mkB_toList, hkind]; rfl
        have g2 : ((mkB s.kind).toList == [114, 101, 116, 117, 114, 110]) = false := by rw [mkB_toList, hkind]; rfl
        have g3 : ((mkB s.kind).toList == [112, 114, 105, 110, 116]) = false := by rw [mkB_toList, hkind]; rfl
        have g4 : ((mkB s.kind).toList == [105, 102]) = true := by rw [mkB_toList, hkind]; rfl
        have hv := hts.trans ((if_neg (by rw [hkind]; decide)).trans ((if_neg (by rw [hkind]; decide)).trans ((if_neg (by rw [hkind]; decide)).trans (if_pos (.inl hkind)))))
        have hlT : (textB s.th (d + 1)).length ≤ 1000000 := by rw [hv] at hlS; simp only [List.length_append] at hlS; omega
        have HTH : Hid (∀ w', Below wr.heap.size wr w' → Calls Tryd.prog 24 #[.slice T s.th.length t, .int .i64 ((d : Int) + 1)] w' (Ret (.string (mkB (textB s.th (d + 1)))) w')) := fun w' hb => by
          have := (HQ.out s hsm).1 (by omega) hlT S T t w' (hT.keep ((Keeps.of_below hb).in S) (fun _ h => h))
          rw [show ((d + 1 : Nat) : Int) = (d : Int) + 1 by omega] at this
          exact this
        have hsz6 : (mkB (textB s.th (d + 1))).size ≤ 1000000 := by rw [mkB_len]; exact hlT
        have e1 : IntKind.i64.wrap ((d : Int) + 1) = (d : Int) + 1 := IntWalk.i64_in _ (by omega)
        by_cases hz : s.el.length = 0
        · have q1 : ¬ (0 : Int) < (s.el.length : Int) := by omega
          rw [if_pos hz] at hv
          have HV : Hid (mkB O ++ mkB (tabsT d) ++ mkB s.kind ++ mkB [32] ++ mkB (textE s.e) ++ mkB [32, 123, 10] ++ mkB (textB s.th (d + 1)) ++ mkB (tabsT d) ++ mkB [125, 10] = mkB (textB (ss.take (k + 1)) d)) := show _ = _ by
            rw [HZ.out, hv]; simp only [mkB_app]; congr 1; simp [lineT, tabsT, List.append_assoc]
          have HZZ := Lib.hid hz
          clear hcells hX hT hL hnum hst hts hv hkind h4 hs hO hlT hz
          have j1 : ¬ (9223372036854775807 < (mkB O).size + (mkB (tabsT d)).size) := by omega
          have j2 : ¬ (9223372036854775807 < (mkB O).size + (mkB (tabsT d)).size + (mkB s.kind).size) := by omega
          have j3 : ¬ (9223372036854775807 < (mkB O).size + (mkB (tabsT d)).size + (mkB s.kind).size + 1) := by omega
          have j4 : ¬ (9223372036854775807 < (mkB O).size + (mkB (tabsT d)).size + (mkB s.kind).size + 1 + (mkB (textE s.e)).size) := by omega
          have j5 : ¬ (9223372036854775807 < (mkB O).size + (mkB (tabsT d)).size + (mkB s.kind).size + 1 + (mkB (textE s.e)).size + 3) := by omega
          have j6 : ¬ (9223372036854775807 < (mkB O).size + (mkB (tabsT d)).size + (mkB s.kind).size + 1 + (mkB (textE s.e)).size + 3 + (mkB (textB s.th (d + 1))).size) := by omega
          go_upto_region 18 with (first
          | (go_at_call 50; (with_reducible refine (HTB.out _).mono ?_); rintro y w1 ⟨rfl, hb1⟩; obtain ⟨-, y0, y1, y2, y3, y4, y5, y6, y7⟩ := box_seen hb1 (heap_alloc_new wr (.cells #[.string (mkB s.kind), .string (mkB s.name), .string (mkB s.e.kind), .int .i64 s.e.num, .string (mkB s.e.name), .slice X s.e.kids.length x, .slice T s.th.length t, .slice L s.el.length l] 91)))
          | (go_at_call 51; (with_reducible refine (HXE.out _ (grow_trans (grow_alloc (grow_refl _) _) hb1)).mono ?_); rintro y w2 ⟨rfl, hb2⟩; obtain ⟨-, x0, x1, x2, x3, x4, x5, x6, x7⟩ := box_seen (grow_trans hb1 hb2) (heap_alloc_new wr (.cells #[.string (mkB s.kind), .string (mkB s.name), .string (mkB s.e.kind), .int .i64 s.e.num, .string (mkB s.e.name), .slice X s.e.kids.length x, .slice T s.th.length t, .slice L s.el.length l] 91))))
          have HBX := Lib.hid (((grow_trans hb1 hb2).block _ (by simp)).trans (heap_alloc_new wr (.cells #[.string (mkB s.kind), .string (mkB s.name), .string (mkB s.e.kind), .int .i64 s.e.num, .string (mkB s.e.name), .slice X s.e.kids.length x, .slice T s.th.length t, .slice L s.el.length l] 91)))
          have HB0 := Below.refl w2.heap.size w2
          go_region_held3 (fun w' => Below w2.heap.size w2 w' ∧ w'.cell? ⟨wr.heap.size, 0, none⟩ = some (.string (mkB s.kind)) ∧ w'.cell? ⟨wr.heap.size, 1, none⟩ = some (.string (mkB s.name)) ∧ w'.cell? ⟨wr.heap.size, 2, none⟩ = some (.string (mkB s.e.kind)) ∧ w'.cell? ⟨wr.heap.size, 3, none⟩ = some (.int .i64 s.e.num) ∧
              w'.cell? ⟨wr.heap.size, 4, none⟩ = some (.string (mkB s.e.name)) ∧ w'.cell? ⟨wr.heap.size, 5, none⟩ = some (.slice X s.e.kids.length x) ∧ w'.cell? ⟨wr.heap.size, 6, none⟩ = some (.slice T s.th.length t) ∧ w'.cell? ⟨wr.heap.size, 7, none⟩ = some (.slice L s.el.length l))
            (((with_reducible refine box_seen ?_ HBX.out);
              first
                | (simp only [hB1]; done)
                | (simp only [bel_drew, HB0]; done)))
            (first
              | (go_at_call 24; (with_reducible refine (HTH.out _ (grow_trans (grow_trans (grow_alloc (grow_refl _) _) (grow_trans hb1 hb2)) (by simp only [bel_drew, HB0]))).mono ?_); rintro y w12 ⟨rfl, hbT⟩; have hB1 : Below w2.heap.size w2 w12 := grow_trans (by simp only [bel_drew, HB0]) hbT; obtain ⟨-, u0, u1, u2, u3, u4, u5, u6, u7⟩ := box_seen hB1 HBX.out))
          all_goals go_wp2_with fail
          all_goals
            go_roundw
            case rel => exact ⟨k + 1, by omega, by go_num, congrArg Value.string HV.out, grow_trans (grow_alloc hbel _) (grow_trans (grow_trans hb1 hb2) hB1)⟩
            case measure => simp [intOf]; omega
        · have q1 : 0 < s.el.length := by omega
          have hlL : (textB s.el (d + 1)).length ≤ 1000000 := by rw [hv, if_neg hz] at hlS; simp only [List.length_append] at hlS; omega
          have HEL : Hid (∀ w', Below wr.heap.size wr w' → Calls Tryd.prog 24 #[.slice L s.el.length l, .int .i64 ((d : Int) + 1)] w' (Ret (.string (mkB (textB s.el (d + 1)))) w')) := fun w' hb => by
            have := (HQ.out s hsm).2 (by omega) hlL S L l w' (hL.keep ((Keeps.of_below hb).in S) (fun _ h => h))
            rw [show ((d + 1 : Nat) : Int) = (d : Int) + 1 by omega] at this
            exact this
          have hsz7 : (mkB (textB s.el (d + 1))).size ≤ 1000000 := by rw [mkB_len]; exact hlL
          rw [if_neg hz] at hv
          have HV : Hid (mkB O ++ mkB (tabsT d) ++ mkB s.kind ++ mkB [32] ++ mkB (textE s.e) ++ mkB [32, 123, 10] ++ mkB (textB s.th (d + 1)) ++ mkB (tabsT d) ++ mkB [125, 32, 101, 108, 115, 101, 32, 123, 10] ++ mkB (textB s.el (d + 1)) ++ mkB (tabsT d) ++ mkB [125, 10] = mkB (textB (ss.take (k + 1)) d)) := show _ = _ by
            rw [HZ.out, hv]; simp only [mkB_app]; congr 1; simp [lineT, tabsT, List.append_assoc]
          clear hcells hX hT hL hnum hst hts hv hkind h4 hs hO hlT hz hlL
          have j1 : ¬ (9223372036854775807 < (mkB O).size + (mkB (tabsT d)).size) := by omega
          have j2 : ¬ (9223372036854775807 < (mkB O).size + (mkB (tabsT d)).size + (mkB s.kind).size) := by omega
          have j3 : ¬ (9223372036854775807 < (mkB O).size + (mkB (tabsT d)).size + (mkB s.kind).size + 1) := by omega
          have j4 : ¬ (9223372036854775807 < (mkB O).size + (mkB (tabsT d)).size + (mkB s.kind).size + 1 + (mkB (textE s.e)).size) := by omega
          have j5 : ¬ (9223372036854775807 < (mkB O).size + (mkB (tabsT d)).size + (mkB s.kind).size + 1 + (mkB (textE s.e)).size + 3) := by omega
          have j6 : ¬ (9223372036854775807 < (mkB O).size + (mkB (tabsT d)).size + (mkB s.kind).size + 1 + (mkB (textE s.e)).size + 3 + (mkB (textB s.th (d + 1))).size) := by omega
          go_upto_region 18 with (first
          | (go_at_call 50; (with_reducible refine (HTB.out _).mono ?_); rintro y w1 ⟨rfl, hb1⟩; obtain ⟨-, y0, y1, y2, y3, y4, y5, y6, y7⟩ := box_seen hb1 (heap_alloc_new wr (.cells #[.string (mkB s.kind), .string (mkB s.name), .string (mkB s.e.kind), .int .i64 s.e.num, .string (mkB s.e.name), .slice X s.e.kids.length x, .slice T s.th.length t, .slice L s.el.length l] 91)))
          | (go_at_call 51; (with_reducible refine (HXE.out _ (grow_trans (grow_alloc (grow_refl _) _) hb1)).mono ?_); rintro y w2 ⟨rfl, hb2⟩; obtain ⟨-, x0, x1, x2, x3, x4, x5, x6, x7⟩ := box_seen (grow_trans hb1 hb2) (heap_alloc_new wr (.cells #[.string (mkB s.kind), .string (mkB s.name), .string (mkB s.e.kind), .int .i64 s.e.num, .string (mkB s.e.name), .slice X s.e.kids.length x, .slice T s.th.length t, .slice L s.el.length l] 91))))
          have HBX := Lib.hid (((grow_trans hb1 hb2).block _ (by simp)).trans (heap_alloc_new wr (.cells #[.string (mkB s.kind), .string (mkB s.name), .string (mkB s.e.kind), .int .i64 s.e.num, .string (mkB s.e.name), .slice X s.e.kids.length x, .slice T s.th.length t, .slice L s.el.length l] 91)))
          have HB0 := Below.refl w2.heap.size w2
          go_region_held3 (fun w' => Below w2.heap.size w2 w' ∧ w'.cell? ⟨wr.heap.size, 0, none⟩ = some (.string (mkB s.kind)) ∧ w'.cell? ⟨wr.heap.size, 1, none⟩ = some (.string (mkB s.name)) ∧ w'.cell? ⟨wr.heap.size, 2, none⟩ = some (.string (mkB s.e.kind)) ∧ w'.cell? ⟨wr.heap.size, 3, none⟩ = some (.int .i64 s.e.num) ∧
              w'.cell? ⟨wr.heap.size, 4, none⟩ = some (.string (mkB s.e.name)) ∧ w'.cell? ⟨wr.heap.size, 5, none⟩ = some (.slice X s.e.kids.length x) ∧ w'.cell? ⟨wr.heap.size, 6, none⟩ = some (.slice T s.th.length t) ∧ w'.cell? ⟨wr.heap.size, 7, none⟩ = some (.slice L s.el.length l))
            (((with_reducible refine box_seen ?_ HBX.out);
              first
                | (simp only [hB1]; done)
                | (simp only [bel_drew, HB0]; done)))
            (first
              | (go_at_call 24; (with_reducible refine (HTH.out _ (grow_trans (grow_trans (grow_alloc (grow_refl _) _) (grow_trans hb1 hb2)) (by simp only [bel_drew, HB0]))).mono ?_); rintro y w12 ⟨rfl, hbT⟩; have hB1 : Below w2.heap.size w2 w12 := grow_trans (by simp only [bel_drew, HB0]) hbT; obtain ⟨-, u0, u1, u2, u3, u4, u5, u6, u7⟩ := box_seen hB1 HBX.out))
          all_goals go_wp2_with (go_at_call 24; (with_reducible refine (HEL.out _ (grow_trans (grow_trans (grow_alloc (grow_refl _) _) (grow_trans hb1 hb2)) hB1)).mono ?_); rintro y w13 ⟨rfl, hb13⟩)
          all_goals
            go_roundw
            case rel => exact ⟨k + 1, by omega, by go_num, congrArg Value.string HV.out, grow_trans (grow_trans (grow_alloc hbel _) (grow_trans (grow_trans hb1 hb2) hB1)) hb13⟩
            case measure => simp [intOf]; omega
      by_cases h5 : s.kind = sWhile
      · have hkind := h5
        have g0 : ((mkB s.kind).toList == [118, 97, 114]) = false := by rw [mkB_toList, hkind]; rfl
        have g1 : ((mkB s.kind).toList == [115, 101, 116]) = false := by rw [mkB_toList, hkind]; rfl
        have g2 : ((mkB s.kind).toList == [114, 101, 116, 117, 114, 110]) = false := by rw [mkB_toList, hkind]; rfl
        have g3 : ((mkB s.kind).toList == [112, 114, 105, 110, 116]) = false := by rw [mkB_toList, hkind]; rfl
        have g4 : ((mkB s.kind).toList == [105, 102]) = false := by rw [mkB_toList, hkind]; rfl
        have g5 : ((mkB s.kind).toList == [119, 104, 105, 108, 101]) = true := by rw [mkB_toList, hkind]; rfl
        have hv := hts.trans ((if_neg (by rw [hkind]; decide)).trans ((if_neg (by rw [hkind]; decide)).trans ((if_neg (by rw [hkind]; decide)).trans (if_pos (.inr hkind)))))
        have hlT : (textB s.th (d + 1)).length ≤ 1000000 := by rw [hv] at hlS; simp only [List.length_append] at hlS; omega
        have HTH : Hid (∀ w', Below wr.heap.size wr w' → Calls Tryd.prog 24 #[.slice T s.th.length t, .int .i64 ((d : Int) + 1)] w' (Ret (.string (mkB (textB s.th (d + 1)))) w')) := fun w' hb => by
          have := (HQ.out s hsm).1 (by omega) hlT S T t w' (hT.keep ((Keeps.of_below hb).in S) (fun _ h => h))
          rw [show ((d + 1 : Nat) : Int) = (d : Int) + 1 by omega] at this
          exact this
        have hsz6 : (mkB (textB s.th (d + 1))).size ≤ 1000000 := by rw [mkB_len]; exact hlT
        have e1 : IntKind.i64.wrap ((d : Int) + 1) = (d : Int) + 1 := IntWalk.i64_in _ (by omega)
        by_cases hz : s.el.length = 0
        · have q1 : ¬ (0 : Int) < (s.el.length : Int) := by omega
          rw [if_pos hz] at hv
          have HV : Hid (mkB O ++ mkB (tabsT d) ++ mkB s.kind ++ mkB [32] ++ mkB (textE s.e) ++ mkB [32, 123, 10] ++ mkB (textB s.th (d + 1)) ++ mkB (tabsT d) ++ mkB [125, 10] = mkB (textB (ss.take (k + 1)) d)) := show _ = _ by
            rw [HZ.out, hv]; simp only [mkB_app]; congr 1; simp [lineT, tabsT, List.append_assoc]
          have HZZ := Lib.hid hz
          clear hcells hX hT hL hnum hst hts hv hkind h5 hs hO hlT hz
          have j1 : ¬ (9223372036854775807 < (mkB O).size + (mkB (tabsT d)).size) := by omega
          have j2 : ¬ (9223372036854775807 < (mkB O).size + (mkB (tabsT d)).size + (mkB s.kind).size) := by omega
          have j3 : ¬ (9223372036854775807 < (mkB O).size + (mkB (tabsT d)).size + (mkB s.kind).size + 1) := by omega
          have j4 : ¬ (9223372036854775807 < (mkB O).size + (mkB (tabsT d)).size + (mkB s.kind).size + 1 + (mkB (textE s.e)).size) := by omega
          have j5 : ¬ (9223372036854775807 < (mkB O).size + (mkB (tabsT d)).size + (mkB s.kind).size + 1 + (mkB (textE s.e)).size + 3) := by omega
          have j6 : ¬ (9223372036854775807 < (mkB O).size + (mkB (tabsT d)).size + (mkB s.kind).size + 1 + (mkB (textE s.e)).size + 3 + (mkB (textB s.th (d + 1))).size) := by omega
          go_upto_region 18 with (first
          | (go_at_call 50; (with_reducible refine (HTB.out _).mono ?_); rintro y w1 ⟨rfl, hb1⟩; obtain ⟨-, y0, y1, y2, y3, y4, y5, y6, y7⟩ := box_seen hb1 (heap_alloc_new wr (.cells #[.string (mkB s.kind), .string (mkB s.name), .string (mkB s.e.kind), .int .i64 s.e.num, .string (mkB s.e.name), .slice X s.e.kids.length x, .slice T s.th.length t, .slice L s.el.length l] 91)))
          | (go_at_call 51; (with_reducible refine (HXE.out _ (grow_trans (grow_alloc (grow_refl _) _) hb1)).mono ?_); rintro y w2 ⟨rfl, hb2⟩; obtain ⟨-, x0, x1, x2, x3, x4, x5, x6, x7⟩ := box_seen (grow_trans hb1 hb2) (heap_alloc_new wr (.cells #[.string (mkB s.kind), .string (mkB s.name), .string (mkB s.e.kind), .int .i64 s.e.num, .string (mkB s.e.name), .slice X s.e.kids.length x, .slice T s.th.length t, .slice L s.el.length l] 91))))
          have HBX := Lib.hid (((grow_trans hb1 hb2).block _ (by simp)).trans (heap_alloc_new wr (.cells #[.string (mkB s.kind), .string (mkB s.name), .string (mkB s.e.kind), .int .i64 s.e.num, .string (mkB s.e.name), .slice X s.e.kids.length x, .slice T s.th.length t, .slice L s.el.length l] 91)))
          have HB0 := Below.refl w2.heap.size w2
          go_region_held3 (fun w' => Below w2.heap.size w2 w' ∧ w'.cell? ⟨wr.heap.size, 0, none⟩ = some (.string (mkB s.kind)) ∧ w'.cell? ⟨wr.heap.size, 1, none⟩ = some (.string (mkB s.name)) ∧ w'.cell? ⟨wr.heap.size, 2, none⟩ = some (.string (mkB s.e.kind)) ∧ w'.cell? ⟨wr.heap.size, 3, none⟩ = some (.int .i64 s.e.num) ∧
              w'.cell? ⟨wr.heap.size, 4, none⟩ = some (.string (mkB s.e.name)) ∧ w'.cell? ⟨wr.heap.size, 5, none⟩ = some (.slice X s.e.kids.length x) ∧ w'.cell? ⟨wr.heap.size, 6, none⟩ = some (.slice T s.th.length t) ∧ w'.cell? ⟨wr.heap.size, 7, none⟩ = some (.slice L s.el.length l))
            (((with_reducible refine box_seen ?_ HBX.out);
              first
                | (simp only [hB1]; done)
                | (simp only [bel_drew, HB0]; done)))
            (first
              | (go_at_call 24; (with_reducible refine (HTH.out _ (grow_trans (grow_trans (grow_alloc (grow_refl _) _) (grow_trans hb1 hb2)) (by simp only [bel_drew, HB0]))).mono ?_); rintro y w12 ⟨rfl, hbT⟩; have hB1 : Below w2.heap.size w2 w12 := grow_trans (by simp only [bel_drew, HB0]) hbT; obtain ⟨-, u0, u1, u2, u3, u4, u5, u6, u7⟩ := box_seen hB1 HBX.out))
          all_goals go_wp2_with fail
          all_goals
            go_roundw
            case rel => exact ⟨k + 1, by omega, by go_num, congrArg Value.string HV.out, grow_trans (grow_alloc hbel _) (grow_trans (grow_trans hb1 hb2) hB1)⟩
            case measure => simp [intOf]; omega
        · have q1 : 0 < s.el.length := by omega
          have hlL : (textB s.el (d + 1)).length ≤ 1000000 := by rw [hv, if_neg hz] at hlS; simp only [List.length_append] at hlS; omega
          have HEL : Hid (∀ w', Below wr.heap.size wr w' → Calls Tryd.prog 24 #[.slice L s.el.length l, .int .i64 ((d : Int) + 1)] w' (Ret (.string (mkB (textB s.el (d + 1)))) w')) := fun w' hb => by
            have := (HQ.out s hsm).2 (by omega) hlL S L l w' (hL.keep ((Keeps.of_below hb).in S) (fun _ h => h))
            rw [show ((d + 1 : Nat) : Int) = (d : Int) + 1 by omega] at this
            exact this
          have hsz7 : (mkB (textB s.el (d + 1))).size ≤ 1000000 := by rw [mkB_len]; exact hlL
          rw [if_neg hz] at hv
          have HV : Hid (mkB O ++ mkB (tabsT d) ++ mkB s.kind ++ mkB [32] ++ mkB (textE s.e) ++ mkB [32, 123, 10] ++ mkB (textB s.th (d + 1)) ++ mkB (tabsT d) ++ mkB [125, 32, 101, 108, 115, 101, 32, 123, 10] ++ mkB (textB s.el (d + 1)) ++ mkB (tabsT d) ++ mkB [125, 10] = mkB (textB (ss.take (k + 1)) d)) := show _ = _ by
            rw [HZ.out, hv]; simp only [mkB_app]; congr 1; simp [lineT, tabsT, List.append_assoc]
          clear hcells hX hT hL hnum hst hts hv hkind h5 hs hO hlT hz hlL
          have j1 : ¬ (9223372036854775807 < (mkB O).size + (mkB (tabsT d)).size) := by omega
          have j2 : ¬ (9223372036854775807 < (mkB O).size + (mkB (tabsT d)).size + (mkB s.kind).size) := by omega
          have j3 : ¬ (9223372036854775807 < (mkB O).size + (mkB (tabsT d)).size + (mkB s.kind).size + 1) := by omega
          have j4 : ¬ (9223372036854775807 < (mkB O).size + (mkB (tabsT d)).size + (mkB s.kind).size + 1 + (mkB (textE s.e)).size) := by omega
          have j5 : ¬ (9223372036854775807 < (mkB O).size + (mkB (tabsT d)).size + (mkB s.kind).size + 1 + (mkB (textE s.e)).size + 3) := by omega
          have j6 : ¬ (9223372036854775807 < (mkB O).size + (mkB (tabsT d)).size + (mkB s.kind).size + 1 + (mkB (textE s.e)).size + 3 + (mkB (textB s.th (d + 1))).size) := by omega
          go_upto_region 18 with (first
          | (go_at_call 50; (with_reducible refine (HTB.out _).mono ?_); rintro y w1 ⟨rfl, hb1⟩; obtain ⟨-, y0, y1, y2, y3, y4, y5, y6, y7⟩ := box_seen hb1 (heap_alloc_new wr (.cells #[.string (mkB s.kind), .string (mkB s.name), .string (mkB s.e.kind), .int .i64 s.e.num, .string (mkB s.e.name), .slice X s.e.kids.length x, .slice T s.th.length t, .slice L s.el.length l] 91)))
          | (go_at_call 51; (with_reducible refine (HXE.out _ (grow_trans (grow_alloc (grow_refl _) _) hb1)).mono ?_); rintro y w2 ⟨rfl, hb2⟩; obtain ⟨-, x0, x1, x2, x3, x4, x5, x6, x7⟩ := box_seen (grow_trans hb1 hb2) (heap_alloc_new wr (.cells #[.string (mkB s.kind), .string (mkB s.name), .string (mkB s.e.kind), .int .i64 s.e.num, .string (mkB s.e.name), .slice X s.e.kids.length x, .slice T s.th.length t, .slice L s.el.length l] 91))))
          have HBX := Lib.hid (((grow_trans hb1 hb2).block _ (by simp)).trans (heap_alloc_new wr (.cells #[.string (mkB s.kind), .string (mkB s.name), .string (mkB s.e.kind), .int .i64 s.e.num, .string (mkB s.e.name), .slice X s.e.kids.length x, .slice T s.th.length t, .slice L s.el.length l] 91)))
          have HB0 := Below.refl w2.heap.size w2
          go_region_held3 (fun w' => Below w2.heap.size w2 w' ∧ w'.cell? ⟨wr.heap.size, 0, none⟩ = some (.string (mkB s.kind)) ∧ w'.cell? ⟨wr.heap.size, 1, none⟩ = some (.string (mkB s.name)) ∧ w'.cell? ⟨wr.heap.size, 2, none⟩ = some (.string (mkB s.e.kind)) ∧ w'.cell? ⟨wr.heap.size, 3, none⟩ = some (.int .i64 s.e.num) ∧
              w'.cell? ⟨wr.heap.size, 4, none⟩ = some (.string (mkB s.e.name)) ∧ w'.cell? ⟨wr.heap.size, 5, none⟩ = some (.slice X s.e.kids.length x) ∧ w'.cell? ⟨wr.heap.size, 6, none⟩ = some (.slice T s.th.length t) ∧ w'.cell? ⟨wr.heap.size, 7, none⟩ = some (.slice L s.el.length l))
            (((with_reducible refine box_seen ?_ HBX.out);
              first
                | (simp only [hB1]; done)
                | (simp only [bel_drew, HB0]; done)))
            (first
              | (go_at_call 24; (with_reducible refine (HTH.out _ (grow_trans (grow_trans (grow_alloc (grow_refl _) _) (grow_trans hb1 hb2)) (by simp only [bel_drew, HB0]))).mono ?_); rintro y w12 ⟨rfl, hbT⟩; have hB1 : Below w2.heap.size w2 w12 := grow_trans (by simp only [bel_drew, HB0]) hbT; obtain ⟨-, u0, u1, u2, u3, u4, u5, u6, u7⟩ := box_seen hB1 HBX.out))
          all_goals go_wp2_with (go_at_call 24; (with_reducible refine (HEL.out _ (grow_trans (grow_trans (grow_alloc (grow_refl _) _) (grow_trans hb1 hb2)) hB1)).mono ?_); rintro y w13 ⟨rfl, hb13⟩)
          all_goals
            go_roundw
            case rel => exact ⟨k + 1, by omega, by go_num, congrArg Value.string HV.out, grow_trans (grow_trans (grow_alloc hbel _) (grow_trans (grow_trans hb1 hb2) hB1)) hb13⟩
            case measure => simp [intOf]; omega
      have hkind : s.kind ≠ sVar ∧ s.kind ≠ sSet ∧ s.kind ≠ sReturn ∧ s.kind ≠ sPrint ∧ s.kind ≠ sIf ∧ s.kind ≠ sWhile := ⟨h0, h1, h2, h3, h4, h5⟩
      have g0 : ((mkB s.kind).toList == [118, 97, 114]) = false := by rw [mkB_toList]; exact beq_eq_false_iff_ne.2 h0
      have g1 : ((mkB s.kind).toList == [115, 101, 116]) = false := by rw [mkB_toList]; exact beq_eq_false_iff_ne.2 h1
      have g2 : ((mkB s.kind).toList == [114, 101, 116, 117, 114, 110]) = false := by rw [mkB_toList]; exact beq_eq_false_iff_ne.2 h2
      have g3 : ((mkB s.kind).toList == [112, 114, 105, 110, 116]) = false := by rw [mkB_toList]; exact beq_eq_false_iff_ne.2 h3
      have g4 : ((mkB s.kind).toList == [105, 102]) = false := by rw [mkB_toList]; exact beq_eq_false_iff_ne.2 h4
      have g5 : ((mkB s.kind).toList == [119, 104, 105, 108, 101]) = false := by rw [mkB_toList]; exact beq_eq_false_iff_ne.2 h5
      have hv := hts.trans ((if_neg h0).trans ((if_neg h1).trans ((if_neg (by rintro (h | h); exact h2 h; exact h3 h)).trans (if_neg (by rintro (h | h); exact h4 h; exact h5 h)))))
      have HV : Hid (mkB O = mkB (textB (ss.take (k + 1)) d)) := show _ = _ by rw [HZ.out, hv, List.append_nil]
      clear hcells hX hT hL hnum hst hts hv hkind h0 h1 h2 h3 h4 h5 hs hO
      go_wp2_with (first
          | (go_at_call 50; (with_reducible refine (HTB.out _).mono ?_); rintro y w1 ⟨rfl, hb1⟩; obtain ⟨-, y0, y1, y2, y3, y4, y5, y6, y7⟩ := box_seen hb1 (heap_alloc_new wr (.cells #[.string (mkB s.kind), .string (mkB s.name), .string (mkB s.e.kind), .int .i64 s.e.num, .string (mkB s.e.name), .slice X s.e.kids.length x, .slice T s.th.length t, .slice L s.el.length l] 91)))
          | (go_at_call 51; (with_reducible refine (HXE.out _ (grow_trans (grow_alloc (grow_refl _) _) hb1)).mono ?_); rintro y w2 ⟨rfl, hb2⟩; obtain ⟨-, x0, x1, x2, x3, x4, x5, x6, x7⟩ := box_seen (grow_trans hb1 hb2) (heap_alloc_new wr (.cells #[.string (mkB s.kind), .string (mkB s.name), .string (mkB s.e.kind), .int .i64 s.e.num, .string (mkB s.e.name), .slice X s.e.kids.length x, .slice T s.th.length t, .slice L s.el.length l] 91))))
      go_roundw
      case rel => exact ⟨k + 1, by omega, by go_num, congrArg Value.string HV.out, grow_trans (grow_alloc hbel _) (grow_trans hb1 hb2)⟩
      case measure => simp [intOf]; omega
    · have hk' : k = ss.length := by omega
      subst hk'
      rw [List.take_length]
      go_wp2_with fail
      go_ret
      exact ⟨rfl, hbel⟩
theorem block_each : ∀ (s : PStmt) (d : Nat), TxS d s → BlockTextC (d + 1) s.th ∧ BlockTextC (d + 1) s.el := by
  intro s
  induction s using PStmt.ind with
  | h s iht ihl =>
    intro d h
    obtain ⟨hd100, hkl, hnl, hok, hel, htl, hll, hts, hls⟩ := h.all
    exact ⟨block_list _ _ hts htl fun k hk => iht k hk _ (hts k hk), block_list _ _ hls hll fun k hk => ihl k hk _ (hls k hk)⟩
theorem blockText_any (d : Nat) (ss : List PStmt) (htx : ∀ s ∈ ss, TxS d s) (hlen : ss.length ≤ 30) : BlockTextC d ss := block_list d ss htx hlen fun s hs => block_each s d (htx s hs)
end Go.Proofs.YtidhplpidkgkdaaDoor
