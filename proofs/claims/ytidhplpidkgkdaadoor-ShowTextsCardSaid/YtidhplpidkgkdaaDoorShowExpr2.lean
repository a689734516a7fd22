import Derived.Test.YtidhplpidkgkdaaDoorShowExpr
import Derived.Test.YtidhplpidkgkdaaDoorRefBlock
namespace Go.Proofs.YtidhplpidkgkdaaDoor
open Go.RowKit

set_option maxRecDepth 100000 in
theorem stext_num (e : PExpr) (hn : okN e.num) (hk : e.kind = xNum) : ShowExprC e := by
  intro S A c w ht hr
  have g0 : ((mkB e.kind).toList == [110, 117, 109]) = true := by rw [mkB_toList, hk]; rfl
  have HT : Hid (textE e = numT e.num) := textE_num hk
  have HN : Hid (∀ w', Below w.heap.size w w' → Calls Tryd.prog 39 #[.int .i64 e.num] w' (Ret (.string (mkB (numT e.num))) w')) := fun w' hb => number_any e.num hn w' (ht.keep hb)
  unfold exprV strV
  clear hk hr ht hn
  go_enter Tryd.func17, Tryd.ntmps17
  go_wp2_with (go_at_call 39; (with_reducible refine (HN.out _ (grow_alloc (grow_refl _) _)).mono ?_); rintro x w1 ⟨rfl, hb1⟩)
  go_ret
  exact ⟨by rw [HT.out]; rfl, grow_trans (grow_alloc (grow_refl _) _) hb1⟩
set_option maxRecDepth 100000 in
theorem stext_name (e : PExpr) (hk : e.kind = xName) : ShowExprC e := by
  intro S A c w ht hr
  have g0 : ((mkB e.kind).toList == [110, 117, 109]) = false := by rw [mkB_toList, hk]; rfl
  have g1 : ((mkB e.kind).toList == [110, 97, 109, 101]) = true := by rw [mkB_toList, hk]; rfl
  have HT : Hid (textE e = e.name) := textE_name hk
  unfold exprV strV
  clear hk hr ht
  go_enter Tryd.func17, Tryd.ntmps17
  go_wp2_with fail
  go_ret
  exact ⟨by rw [HT.out]; rfl, grow_alloc (grow_refl _) _⟩
set_option maxRecDepth 100000 in
theorem stext_none (e : PExpr) (h0 : e.kind ≠ xNum) (h1 : e.kind ≠ xName) (h2 : e.kind ≠ xCall) (h3 : e.kind ≠ xOne) (h4 : e.kind ≠ xTwo) : ShowExprC e := by
  intro S A c w ht hr
  have g0 : ((mkB e.kind).toList == [110, 117, 109]) = false := by rw [mkB_toList]; exact beq_eq_false_iff_ne.2 h0
  have g1 : ((mkB e.kind).toList == [110, 97, 109, 101]) = false := by rw [mkB_toList]; exact beq_eq_false_iff_ne.2 h1
  have g2 : ((mkB e.kind).toList == [99, 97, 108, 108]) = false := by rw [mkB_toList]; exact beq_eq_false_iff_ne.2 h2
  have g3 : ((mkB e.kind).toList == [111, 110, 101]) = false := by rw [mkB_toList]; exact beq_eq_false_iff_ne.2 h3
  have g4 : ((mkB e.kind).toList == [116, 119, 111]) = false := by rw [mkB_toList]; exact beq_eq_false_iff_ne.2 h4
  have HT : Hid (textE e = []) := textE_none h0 h1 h2 h3 h4
  unfold exprV strV
  clear h0 h1 h2 h3 h4 hr ht
  go_enter Tryd.func17, Tryd.ntmps17
  go_wp2_with fail
  go_ret
  exact ⟨by rw [HT.out]; rfl, grow_alloc (grow_refl _) _⟩
theorem row4_seen {wr w' : World} (hb : Below wr.heap.size wr w') {q : Nat} {v0 v1 v2 v3 : Value} {T : TypeId} {fz : Nat × Nat} (hrow : wr.heap[q]? = some (.cells #[v0, v1, v2, v3] T fz)) :
    Below wr.heap.size wr w' ∧ w'.cell? ⟨q, 0, none⟩ = some v0 ∧ w'.cell? ⟨q, 1, none⟩ = some v1 ∧ w'.cell? ⟨q, 2, none⟩ = some v2 ∧ w'.cell? ⟨q, 3, none⟩ = some v3 :=
  have hk := Keeps.of_below hb
  ⟨hb, hk _ _ (cell_of_row _ _ 0 _ _ _ hrow), hk _ _ (cell_of_row _ _ 1 _ _ _ hrow), hk _ _ (cell_of_row _ _ 2 _ _ _ hrow), hk _ _ (cell_of_row _ _ 3 _ _ _ hrow)⟩
set_option maxHeartbeats 4000000 in
set_option maxRecDepth 100000 in
theorem stext_call (e : PExpr) (hk : e.kind = xCall) (hl : (textE e).length ≤ 1000000) (ih : ∀ k ∈ e.kids, (textE k).length ≤ 1000000 → ShowExprC k) : ShowExprC e := by
  intro S A c w ht hr
  have g0 : ((mkB e.kind).toList == [110, 117, 109]) = false := by rw [mkB_toList, hk]; rfl
  have g1 : ((mkB e.kind).toList == [110, 97, 109, 101]) = false := by rw [mkB_toList, hk]; rfl
  have g2 : ((mkB e.kind).toList == [99, 97, 108, 108]) = true := by rw [mkB_toList, hk]; rfl
  have hte := textE_call hk
  have IH : ∀ k ∈ e.kids, ShowExprC k := fun k hk' => ih k hk' (kid_len hl hk' (.inl hk))
  rw [hte] at hl
  simp only [List.length_append, List.length_cons, List.length_nil] at hl
  have HJ : Hid (∀ w', Below w.heap.size w w' → Calls Tryd.prog 40 #[.slice A e.kids.length c] w' (Ret (.string (mkB (joinC (e.kids.map textE)))) w')) :=
    fun w' hb => joined_any e.kids S A c w' (ht.keep hb) (hr.keep ((Keeps.of_below hb).in _) (fun _ h => h)) (by omega) IH
  obtain ⟨J, hJ⟩ : ∃ J, joinC (e.kids.map textE) = J := ⟨_, rfl⟩
  rw [hJ] at HJ hte hl
  have hs1 : (mkB J).size ≤ 1000000 := by rw [mkB_len]; omega
  have hln : (mkB e.name).size ≤ 1000000 := by rw [mkB_len]; omega
  have HV : Hid (mkB e.name ++ ⟨#[40]⟩ ++ mkB J ++ ⟨#[41]⟩ = mkB (textE e)) := show _ = _ by rw [mkB_one, mkB_app, mkB_one, hte]
  have HBOX := Lib.hid (heap_alloc_new w (.cells #[.string (mkB e.kind), .int .i64 e.num, .string (mkB e.name), .slice A e.kids.length c] 46))
  unfold exprV strV
  clear hk hr ht ih hte hl hJ IH
  go_enter Tryd.func17, Tryd.ntmps17
  have k1 : ¬ (9223372036854775807 < (mkB e.name).size + 1) := by omega
  have k2 : ¬ (9223372036854775807 < (mkB e.name).size + 1 + (mkB J).size) := by omega
  have k3 : ¬ (9223372036854775807 < (mkB e.name).size + 1 + (mkB J).size + 1) := by omega
  go_upto_region 6 with fail
  have HB0 : Below (w.alloc (.cells #[.string (mkB e.kind), .int .i64 e.num, .string (mkB e.name), .slice A e.kids.length c] 46)).heap.size (w.alloc (.cells #[.string (mkB e.kind), .int .i64 e.num, .string (mkB e.name), .slice A e.kids.length c] 46)) (w.alloc (.cells #[.string (mkB e.kind), .int .i64 e.num, .string (mkB e.name), .slice A e.kids.length c] 46)) := Below.refl _ _
  obtain ⟨wa, hwa⟩ : ∃ wa, w.alloc (.cells #[.string (mkB e.kind), .int .i64 e.num, .string (mkB e.name), .slice A e.kids.length c] 46) = wa := ⟨_, rfl⟩
  have HBA : Hid (Below w.heap.size w wa) := show Below _ _ _ from hwa ▸ grow_alloc (grow_refl _) _
  rw [hwa] at HBOX HB0
  rw [hwa]
  clear hwa
  go_region_held3 (fun w' => Below wa.heap.size wa w' ∧ w'.cell? ⟨w.heap.size, 0, none⟩ = some (.string (mkB e.kind)) ∧ w'.cell? ⟨w.heap.size, 1, none⟩ = some (.int .i64 e.num) ∧ w'.cell? ⟨w.heap.size, 2, none⟩ = some (.string (mkB e.name)) ∧ w'.cell? ⟨w.heap.size, 3, none⟩ = some (.slice A e.kids.length c))
    (((with_reducible refine row4_seen ?_ HBOX.out);
      first
        | (simp only [hB1]; done)
        | (simp only [bel_drew, HB0]; done)))
    (first
      | (go_at_call 40; (with_reducible refine (HJ.out _ (grow_trans HBA.out (by simp only [bel_drew, HB0]))).mono ?_); rintro y w12 ⟨rfl, hbT⟩; have hB1 : Below wa.heap.size wa w12 := grow_trans (by simp only [bel_drew, HB0]) hbT))
  all_goals go_wp2_with fail
  all_goals go_ret
  all_goals exact ⟨by rw [← HV.out]; rfl, grow_trans HBA.out hB1⟩
set_option maxHeartbeats 4000000 in
set_option maxRecDepth 100000 in
theorem stext_one (e : PExpr) (hk : e.kind = xOne) (hl : (textE e).length ≤ 1000000) (ih : ∀ k ∈ e.kids, (textE k).length ≤ 1000000 → ShowExprC k) : ShowExprC e := by
  intro S A c w ht hr
  have g0 : ((mkB e.kind).toList == [110, 117, 109]) = false := by rw [mkB_toList, hk]; rfl
  have g1 : ((mkB e.kind).toList == [110, 97, 109, 101]) = false := by rw [mkB_toList, hk]; rfl
  have g2 : ((mkB e.kind).toList == [99, 97, 108, 108]) = false := by rw [mkB_toList, hk]; rfl
  have g3 : ((mkB e.kind).toList == [111, 110, 101]) = true := by rw [mkB_toList, hk]; rfl
  have g4 : ((mkB e.kind).toList == [116, 119, 111]) = false := by rw [mkB_toList, hk]; rfl
  by_cases h1 : e.kids.length = 1
  · match hh : e.kids, h1 with
    | [k], _ =>
      have hte := textE_one hk hh
      have hkl := kid_len hl (show k ∈ e.kids by rw [hh]; simp) (.inr (.inl ⟨hk, by rw [hh]; rfl⟩))
      rw [hte] at hl
      simp only [List.length_append] at hl
      have hwl : (mkB (wrapT k 8 (textE k))).size ≤ 1000000 := by rw [mkB_len]; omega
      have hln : (mkB e.name).size ≤ 1000000 := by rw [mkB_len]; omega
      have HV : Hid (mkB e.name ++ mkB (wrapT k 8 (textE k)) = mkB (textE e)) := show _ = _ by rw [mkB_app, hte]
      rw [hh] at hr
      obtain ⟨b, off, B, d, rfl, -, hcells, hnum, hkid⟩ := hr.at (i := 0) (by simp)
      simp only [Nat.zero_mul, Nat.add_zero, List.getElem_cons_zero] at hcells hkid
      have IH := ih k (by rw [hh]; simp) hkl
      have HKT : Hid (∀ w', Below w.heap.size w w' → Calls Tryd.prog 41 #[exprV k B d, .int .i64 8] w' (Ret (strV (wrapT k 8 (textE k))) w')) :=
        fun w' hb => kid_any k 8 (textE k) B d w' hkl fun w'' hb' => IH S B d w'' (ht.keep (grow_trans hb hb')) (hkid.keep ((Keeps.of_below (grow_trans hb hb')).in _) (fun _ h => h))
      obtain ⟨W, hW⟩ : ∃ W, wrapT k 8 (textE k) = W := ⟨_, rfl⟩
      rw [hW] at HKT HV hwl
      have HBOX := Lib.hid (heap_alloc_new w (.cells #[.string (mkB e.kind), .int .i64 e.num, .string (mkB e.name), .slice (some ⟨b, off, none⟩) 1 c] 46))
      have HC : Hid (CellsAt (w.alloc (.cells #[.string (mkB e.kind), .int .i64 e.num, .string (mkB e.name), .slice (some ⟨b, off, none⟩) 1 c] 46)) b off (exprL k B d)) := hcells.keep fun a v _ hv => Keeps.alloc _ _ a v hv
      unfold exprV strV at *
      rw [hh, show ([k] : List PExpr).length = 1 from rfl]
      clear hk hr ih hte hcells hkid hnum hh hW hl hkl IH ht
      go_enter Tryd.func17, Tryd.ntmps17
      have k1 : ¬ (9223372036854775807 < (mkB e.name).size + (mkB W).size) := by omega
      go_upto_region 8 with fail
      have HB0 : Below (w.alloc (.cells #[.string (mkB e.kind), .int .i64 e.num, .string (mkB e.name), .slice (some ⟨b, off, none⟩) 1 c] 46)).heap.size (w.alloc (.cells #[.string (mkB e.kind), .int .i64 e.num, .string (mkB e.name), .slice (some ⟨b, off, none⟩) 1 c] 46)) (w.alloc (.cells #[.string (mkB e.kind), .int .i64 e.num, .string (mkB e.name), .slice (some ⟨b, off, none⟩) 1 c] 46)) := Below.refl _ _
      obtain ⟨wa, hwa⟩ : ∃ wa, w.alloc (.cells #[.string (mkB e.kind), .int .i64 e.num, .string (mkB e.name), .slice (some ⟨b, off, none⟩) 1 c] 46) = wa := ⟨_, rfl⟩
      have HBA : Hid (Below w.heap.size w wa) := show Below _ _ _ from hwa ▸ grow_alloc (grow_refl _) _
      rw [hwa] at HBOX HC HB0
      rw [hwa]
      clear hwa
      go_region_held3 (fun w' => Below wa.heap.size wa w' ∧ w'.cell? ⟨w.heap.size, 0, none⟩ = some (.string (mkB e.kind)) ∧ w'.cell? ⟨w.heap.size, 1, none⟩ = some (.int .i64 e.num) ∧ w'.cell? ⟨w.heap.size, 2, none⟩ = some (.string (mkB e.name)) ∧ w'.cell? ⟨w.heap.size, 3, none⟩ = some (.slice (some ⟨b, off, none⟩) 1 c) ∧
          w'.cell? ⟨b, off, none⟩ = some (.string (mkB k.kind)) ∧ w'.cell? ⟨b, off + 1, none⟩ = some (.int .i64 k.num) ∧ w'.cell? ⟨b, off + 2, none⟩ = some (.string (mkB k.name)) ∧ w'.cell? ⟨b, off + 3, none⟩ = some (.slice B k.kids.length d))
        (((with_reducible refine one_seen ?_ HBOX.out HC.out);
          first
            | (simp only [hB2]; done)
            | (simp only [hB1]; done)
            | (simp only [bel_drew, HB0]; done)))
        (first
          | (go_at_call 42; (with_reducible refine (Levels_any _).mono ?_); rintro y w11 ⟨LA, rfl, -, hbL⟩; have hB1 : Below wa.heap.size wa w11 := grow_trans (by simp only [bel_drew, HB0]) hbL)
          | (go_at_call 41; (with_reducible refine (HKT.out _ (grow_trans HBA.out hB1)).mono ?_); rintro y w12 ⟨rfl, hbT⟩; have hB2 : Below wa.heap.size wa w12 := grow_trans hB1 hbT))
      all_goals go_wp2_with fail
      all_goals go_ret
      all_goals exact ⟨by rw [← HV.out]; rfl, grow_trans HBA.out hB2⟩
  · have HT : Hid (textE e = []) := textE_one_no hk h1
    have q1 : ((e.kids.length : Int) == 1) = false := by rw [beq_eq_false_iff_ne]; omega
    unfold exprV strV
    clear hk hr ih hl h1 ht
    go_enter Tryd.func17, Tryd.ntmps17
    go_wp2_with fail
    go_ret
    exact ⟨by rw [HT.out]; rfl, grow_alloc (grow_refl _) _⟩
set_option maxHeartbeats 4000000 in
set_option maxRecDepth 100000 in
theorem stext_two (e : PExpr) (hk : e.kind = xTwo) (hl : (textE e).length ≤ 1000000) (ih : ∀ k ∈ e.kids, (textE k).length ≤ 1000000 → ShowExprC k) : ShowExprC e := by
  intro S A c w ht hr
  have g0 : ((mkB e.kind).toList == [110, 117, 109]) = false := by rw [mkB_toList, hk]; rfl
  have g1 : ((mkB e.kind).toList == [110, 97, 109, 101]) = false := by rw [mkB_toList, hk]; rfl
  have g2 : ((mkB e.kind).toList == [99, 97, 108, 108]) = false := by rw [mkB_toList, hk]; rfl
  have g3 : ((mkB e.kind).toList == [111, 110, 101]) = false := by rw [mkB_toList, hk]; rfl
  have g4 : ((mkB e.kind).toList == [116, 119, 111]) = true := by rw [mkB_toList, hk]; rfl
  by_cases h1 : e.kids.length = 2
  · match hh : e.kids, h1 with
    | [k, m], _ =>
      have hte := textE_two hk hh
      have hkl := kid_len hl (show k ∈ e.kids by rw [hh]; simp) (.inr (.inr ⟨hk, by rw [hh]; rfl⟩))
      have hml := kid_len hl (show m ∈ e.kids by rw [hh]; simp) (.inr (.inr ⟨hk, by rw [hh]; rfl⟩))
      have hrg := levelP_range e.name
      obtain ⟨L, hL⟩ : ∃ L, levelP e.name = L := ⟨_, rfl⟩
      rw [hL] at hte hrg
      have HLV : Hid (∀ w, Calls Tryd.prog 43 #[.string (mkB e.name)] w (Ret (.int .i64 L) w)) := fun w => hL ▸ level_any e.name w
      rw [hte] at hl
      simp only [List.length_append, List.length_cons, List.length_nil] at hl
      have hwl : (mkB (wrapT k L (textE k))).size ≤ 1000000 := by rw [mkB_len]; omega
      have hwm : (mkB (wrapT m (L + 1) (textE m))).size ≤ 1000000 := by rw [mkB_len]; omega
      have hln : (mkB e.name).size ≤ 1000000 := by rw [mkB_len]; omega
      have HV : Hid (mkB (wrapT k L (textE k)) ++ ⟨#[32]⟩ ++ mkB e.name ++ ⟨#[32]⟩ ++ mkB (wrapT m (L + 1) (textE m)) = mkB (textE e)) := show _ = _ by rw [mkB_one, mkB_app, mkB_one, mkB_app, hte]
      rw [hh] at hr
      obtain ⟨b, off, B, d, rfl, -, hcells, hnum, hkid⟩ := hr.at (i := 0) (by simp)
      simp only [Nat.zero_mul, Nat.add_zero, List.getElem_cons_zero] at hcells hkid
      obtain ⟨b', off', B2, d2, hbb, -, hcells2, hnum2, hkid2⟩ := hr.at (i := 1) (by simp)
      simp only [Option.some.injEq, Addr.mk.injEq, and_true] at hbb
      obtain ⟨rfl, rfl⟩ := hbb
      simp only [Nat.one_mul, List.getElem_cons_succ, List.getElem_cons_zero] at hcells2 hkid2
      have IH := ih k (by rw [hh]; simp) hkl
      have IM := ih m (by rw [hh]; simp) hml
      have HKT : Hid (∀ w', Below w.heap.size w w' → Calls Tryd.prog 41 #[exprV k B d, .int .i64 L] w' (Ret (strV (wrapT k L (textE k))) w')) :=
        fun w' hb => kid_any k L (textE k) B d w' hkl fun w'' hb' => IH S B d w'' (ht.keep (grow_trans hb hb')) (hkid.keep ((Keeps.of_below (grow_trans hb hb')).in _) (fun _ h => h))
      have HMT : Hid (∀ w', Below w.heap.size w w' → Calls Tryd.prog 41 #[exprV m B2 d2, .int .i64 (L + 1)] w' (Ret (strV (wrapT m (L + 1) (textE m))) w')) :=
        fun w' hb => kid_any m (L + 1) (textE m) B2 d2 w' hml fun w'' hb' => IM S B2 d2 w'' (ht.keep (grow_trans hb hb')) (hkid2.keep ((Keeps.of_below (grow_trans hb hb')).in _) (fun _ h => h))
      obtain ⟨W, hW⟩ : ∃ W, wrapT k L (textE k) = W := ⟨_, rfl⟩
      obtain ⟨V, hV⟩ : ∃ V, wrapT m (L + 1) (textE m) = V := ⟨_, rfl⟩
      rw [hW] at HKT HV hwl
      rw [hV] at HMT HV hwm
      have e1 : IntKind.i64.wrap (L + 1) = L + 1 := IntWalk.i64_in _ (by omega)
      have hbox := heap_alloc_new w (.cells #[.string (mkB e.kind), .int .i64 e.num, .string (mkB e.name), .slice (some ⟨b, off, none⟩) 2 c] 46)
      have HBX := Lib.hid hbox
      have HCW := Lib.hid hcells
      have HCW2 := Lib.hid hcells2
      have HRG := Lib.hid hrg
      unfold exprV strV at *
      rw [hh, show ([k, m] : List PExpr).length = 2 from rfl]
      clear hk hr ih hte hcells hkid hnum hh hW hl hkl IH hbox hcells2 hkid2 hnum2 hV hml IM hL hrg ht
      go_enter Tryd.func17, Tryd.ntmps17
      have k1 : ¬ (9223372036854775807 < (mkB W).size + 1) := by omega
      have k2 : ¬ (9223372036854775807 < (mkB W).size + 1 + (mkB e.name).size) := by omega
      have k3 : ¬ (9223372036854775807 < (mkB W).size + 1 + (mkB e.name).size + 1) := by omega
      have k4 : ¬ (9223372036854775807 < (mkB W).size + 1 + (mkB e.name).size + 1 + (mkB V).size) := by omega
      go_upto_region 11 with (go_at_call 43; (with_reducible refine (HLV.out _).mono ?_); rintro y wa ⟨rfl, hba⟩; obtain ⟨-, x0, x1, x2, x3⟩ := row4_seen hba HBX.out)
      have HBA : Hid (Below w.heap.size w wa) := show Below _ _ _ from grow_trans (grow_alloc (grow_refl _) _) hba
      have HBOX := Lib.hid ((hba.block w.heap.size (by simp)).trans HBX.out)
      have HC : Hid (CellsAt wa b off (exprL k B d)) := HCW.out.keep fun a v _ hv => Keeps.of_below HBA.out a v hv
      have HC2 : Hid (CellsAt wa b (off + 4) (exprL m B2 d2)) := HCW2.out.keep fun a v _ hv => Keeps.of_below HBA.out a v hv
      have HB0 := Below.refl wa.heap.size wa
      clear hba x0 x1 x2 x3
      go_region_held3 (fun w' => Below wa.heap.size wa w' ∧ w'.cell? ⟨w.heap.size, 0, none⟩ = some (.string (mkB e.kind)) ∧ w'.cell? ⟨w.heap.size, 1, none⟩ = some (.int .i64 e.num) ∧ w'.cell? ⟨w.heap.size, 2, none⟩ = some (.string (mkB e.name)) ∧ w'.cell? ⟨w.heap.size, 3, none⟩ = some (.slice (some ⟨b, off, none⟩) 2 c) ∧
          w'.cell? ⟨b, off, none⟩ = some (.string (mkB k.kind)) ∧ w'.cell? ⟨b, off + 1, none⟩ = some (.int .i64 k.num) ∧ w'.cell? ⟨b, off + 2, none⟩ = some (.string (mkB k.name)) ∧ w'.cell? ⟨b, off + 3, none⟩ = some (.slice B k.kids.length d) ∧
          w'.cell? ⟨b, off + 4, none⟩ = some (.string (mkB m.kind)) ∧ w'.cell? ⟨b, off + 4 + 1, none⟩ = some (.int .i64 m.num) ∧ w'.cell? ⟨b, off + 4 + 2, none⟩ = some (.string (mkB m.name)) ∧ w'.cell? ⟨b, off + 4 + 3, none⟩ = some (.slice B2 m.kids.length d2))
        (((with_reducible refine two_seen ?_ HBOX.out HC.out HC2.out);
          first
            | (simp only [hB2]; done)
            | (simp only [hB1]; done)
            | (simp only [bel_drew, HB0]; done)))
        (first
          | (go_at_call 41; (with_reducible refine (HKT.out _ (grow_trans HBA.out (by simp only [bel_drew, HB0]))).mono ?_); rintro y w12 ⟨rfl, hbT⟩; have hB1 : Below wa.heap.size wa w12 := grow_trans (by simp only [bel_drew, HB0]) hbT)
          | (go_at_call 41; (with_reducible refine (HMT.out _ (grow_trans HBA.out hB1)).mono ?_); rintro y w12 ⟨rfl, hbT⟩; have hB2 : Below wa.heap.size wa w12 := grow_trans hB1 hbT))
      all_goals go_wp2_with fail
      all_goals go_ret
      all_goals exact ⟨by rw [← HV.out]; rfl, grow_trans HBA.out hB2⟩
  · have HT : Hid (textE e = []) := textE_two_no hk h1
    have q1 : ((e.kids.length : Int) == 2) = false := by rw [beq_eq_false_iff_ne]; omega
    unfold exprV strV
    clear hk hr ih hl h1 ht
    go_enter Tryd.func17, Tryd.ntmps17
    go_wp2_with fail
    go_ret
    exact ⟨by rw [HT.out]; rfl, grow_alloc (grow_refl _) _⟩
theorem ShowExpr_any : ∀ e : PExpr, OkE e → (textE e).length ≤ 1000000 → ShowExprC e := by
  intro e
  induction e using PExpr.ind with
  | h e ih =>
    intro ho hl
    have ih' : ∀ k ∈ e.kids, (textE k).length ≤ 1000000 → ShowExprC k := fun k hk hl => ih k hk (ho.kid k hk) hl
    by_cases h0 : e.kind = xNum
    · exact stext_num e ho.num h0
    by_cases h1 : e.kind = xName
    · exact stext_name e h1
    by_cases h2 : e.kind = xCall
    · exact stext_call e h2 hl ih'
    by_cases h3 : e.kind = xOne
    · exact stext_one e h3 hl ih'
    by_cases h4 : e.kind = xTwo
    · exact stext_two e h4 hl ih'
    exact stext_none e h0 h1 h2 h3 h4
end Go.Proofs.YtidhplpidkgkdaaDoor
