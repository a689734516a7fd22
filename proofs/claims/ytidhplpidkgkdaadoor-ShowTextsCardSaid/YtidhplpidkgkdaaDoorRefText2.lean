import Derived.Test.YtidhplpidkgkdaaDoorRefText
namespace Go.Proofs.YtidhplpidkgkdaaDoor
open Go.RowKit

theorem one_seen {wr w' : World} (hb : Below wr.heap.size wr w') {q : Nat} {v0 v1 v2 v3 : Value} {T : TypeId} {fz : Nat × Nat} (hrow : wr.heap[q]? = some (.cells #[v0, v1, v2, v3] T fz)) {b o : Nat} {k : PExpr} {B : Option Addr} {c : Nat} (h1 : CellsAt wr b o (exprL k B c)) :
    Below wr.heap.size wr w' ∧ w'.cell? ⟨q, 0, none⟩ = some v0 ∧ w'.cell? ⟨q, 1, none⟩ = some v1 ∧ w'.cell? ⟨q, 2, none⟩ = some v2 ∧ w'.cell? ⟨q, 3, none⟩ = some v3 ∧
      w'.cell? ⟨b, o, none⟩ = some (.string (mkB k.kind)) ∧ w'.cell? ⟨b, o + 1, none⟩ = some (.int .i64 k.num) ∧ w'.cell? ⟨b, o + 2, none⟩ = some (.string (mkB k.name)) ∧ w'.cell? ⟨b, o + 3, none⟩ = some (.slice B k.kids.length c) :=
  have hk := Keeps.of_below hb
  ⟨hb, hk _ _ (cell_of_row _ _ 0 _ _ _ hrow), hk _ _ (cell_of_row _ _ 1 _ _ _ hrow), hk _ _ (cell_of_row _ _ 2 _ _ _ hrow), hk _ _ (cell_of_row _ _ 3 _ _ _ hrow), cells_expr (h1.keep fun a v _ hv => hk a v hv)⟩
theorem two_seen {wr w' : World} (hb : Below wr.heap.size wr w') {q : Nat} {v0 v1 v2 v3 : Value} {T : TypeId} {fz : Nat × Nat} (hrow : wr.heap[q]? = some (.cells #[v0, v1, v2, v3] T fz)) {b o : Nat} {k : PExpr} {B : Option Addr} {c : Nat} (h1 : CellsAt wr b o (exprL k B c)) {k2 : PExpr} {B2 : Option Addr} {c2 : Nat} (h2 : CellsAt wr b (o + 4) (exprL k2 B2 c2)) :
    Below wr.heap.size wr w' ∧ w'.cell? ⟨q, 0, none⟩ = some v0 ∧ w'.cell? ⟨q, 1, none⟩ = some v1 ∧ w'.cell? ⟨q, 2, none⟩ = some v2 ∧ w'.cell? ⟨q, 3, none⟩ = some v3 ∧
      w'.cell? ⟨b, o, none⟩ = some (.string (mkB k.kind)) ∧ w'.cell? ⟨b, o + 1, none⟩ = some (.int .i64 k.num) ∧ w'.cell? ⟨b, o + 2, none⟩ = some (.string (mkB k.name)) ∧ w'.cell? ⟨b, o + 3, none⟩ = some (.slice B k.kids.length c) ∧
      w'.cell? ⟨b, o + 4, none⟩ = some (.string (mkB k2.kind)) ∧ w'.cell? ⟨b, o + 4 + 1, none⟩ = some (.int .i64 k2.num) ∧ w'.cell? ⟨b, o + 4 + 2, none⟩ = some (.string (mkB k2.name)) ∧ w'.cell? ⟨b, o + 4 + 3, none⟩ = some (.slice B2 k2.kids.length c2) :=
  have hk := Keeps.of_below hb
  have h := one_seen hb hrow h1
  ⟨h.1, h.2.1, h.2.2.1, h.2.2.2.1, h.2.2.2.2.1, h.2.2.2.2.2.1, h.2.2.2.2.2.2.1, h.2.2.2.2.2.2.2.1, h.2.2.2.2.2.2.2.2, cells_expr (h2.keep fun a v _ hv => hk a v hv)⟩
set_option maxHeartbeats 2000000 in
set_option maxRecDepth 100000 in
theorem rtext_one (e : PExpr) (hk : e.kind = xOne) (hl : (textE e).length ≤ 1000000) (ih : ∀ k ∈ e.kids, (textE k).length ≤ 1000000 → ExprTextC k) : ExprTextC e := by
  intro S A c w hr
  have g0 : ((mkB e.kind).toList == [110, 117, 109]) = false := by rw [mkB_toList, hk]; rfl
  have g1 : ((mkB e.kind).toList == [110, 97, 109, 101]) = false := by rw [mkB_toList, hk]; rfl
  have g2 : ((mkB e.kind).toList == [99, 97, 108, 108]) = false := by rw [mkB_toList, hk]; rfl
  have g3 : ((mkB e.kind).toList == [111, 110, 101]) = true := by rw [mkB_toList, hk]; rfl
  have g4 : ((mkB e.kind).toList == [116, 119, 111]) = false := by rw [mkB_toList, hk]; rfl
  by_cases h1 : e.kids.length = 1
  · match hh : e.kids, h1 with
    | [k], _ =>
      have hte := textE_one hk hh
      have hkl := kid_len hl (show k ∈ e.kids by rw [hh]; simp) (.inr (.inl ⟨hk, by rw [hh]; rfl⟩))
      have HT : Hid (textE e = e.name ++ wrapT k 8 (textE k)) := hte
      rw [hte] at hl
      simp only [List.length_append] at hl
      have hwl : (mkB (wrapT k 8 (textE k))).size ≤ 1000000 := by rw [mkB_len]; omega
      have hln : (mkB e.name).size ≤ 1000000 := by rw [mkB_len]; omega
      have HV : Hid (mkB e.name ++ mkB (wrapT k 8 (textE k)) = mkB (textE e)) := show _ = _ by rw [mkB_app, hte]
      rw [hh] at hr
      obtain ⟨b, off, B, d, rfl, -, hcells, hnum, hkid⟩ := hr.at (i := 0) (by simp)
      simp only [Nat.zero_mul, Nat.add_zero, List.getElem_cons_zero] at hcells hkid
      have IH := ih k (by rw [hh]; simp) hkl
      have HKT : Hid (∀ w', Below w.heap.size w w' → Calls Tryd.prog 70 #[exprV k B d, .int .i64 8] w' (Ret (strV (wrapT k 8 (textE k))) w')) :=
        fun w' hb => kidText_any k 8 (textE k) B d w' hkl fun w'' hb' => IH S B d w'' (hkid.keep ((Keeps.of_below (grow_trans hb hb')).in _) (fun _ h => h))
      obtain ⟨W, hW⟩ : ∃ W, wrapT k 8 (textE k) = W := ⟨_, rfl⟩
      rw [hW] at HKT HV hwl
      have hbox := heap_alloc_new w (.cells #[.string (mkB e.kind), .int .i64 e.num, .string (mkB e.name), .slice (some ⟨b, off, none⟩) 1 c] 89)
      have hc1 : CellsAt (w.alloc (.cells #[.string (mkB e.kind), .int .i64 e.num, .string (mkB e.name), .slice (some ⟨b, off, none⟩) 1 c] 89)) b off (exprL k B d) := hcells.keep fun a v _ hv => Keeps.alloc _ _ a v hv
      have HBOX := Lib.hid hbox
      have HC := Lib.hid hc1
      unfold exprV strV at *
      rw [hh, show ([k] : List PExpr).length = 1 from rfl]
      clear hk hr ih hte hcells hkid hnum hh hW hl hkl IH hbox hc1
      have HB0 : Below (w.alloc (.cells #[.string (mkB e.kind), .int .i64 e.num, .string (mkB e.name), .slice (some ⟨b, off, none⟩) 1 c] 89)).heap.size (w.alloc (.cells #[.string (mkB e.kind), .int .i64 e.num, .string (mkB e.name), .slice (some ⟨b, off, none⟩) 1 c] 89)) (w.alloc (.cells #[.string (mkB e.kind), .int .i64 e.num, .string (mkB e.name), .slice (some ⟨b, off, none⟩) 1 c] 89)) := Below.refl _ _
      go_enter Tryd.func51, Tryd.ntmps51
      have k1 : ¬ (9223372036854775807 < (mkB e.name).size + (mkB W).size) := by omega
      go_upto_region 21 with fail
      obtain ⟨wa, hwa⟩ : ∃ wa, w.alloc (.cells #[.string (mkB e.kind), .int .i64 e.num, .string (mkB e.name), .slice (some ⟨b, off, none⟩) 1 c] 89) = wa := ⟨_, rfl⟩
      have HBA : Hid (Below w.heap.size w wa) := show Below _ _ _ from hwa ▸ grow_alloc (grow_refl _) _
      rw [hwa] at HBOX HC HB0
      rw [hwa]
      clear hwa
      go_region_held3 (fun w' => Below wa.heap.size wa w' ∧ w'.cell? ⟨w.heap.size, 0, none⟩ = some (.string (mkB e.kind)) ∧ w'.cell? ⟨w.heap.size, 1, none⟩ = some (.int .i64 e.num) ∧ w'.cell? ⟨w.heap.size, 2, none⟩ = some (.string (mkB e.name)) ∧ w'.cell? ⟨w.heap.size, 3, none⟩ = some (.slice (some ⟨b, off, none⟩) 1 c) ∧
          w'.cell? ⟨b, off, none⟩ = some (.string (mkB k.kind)) ∧ w'.cell? ⟨b, off + 1, none⟩ = some (.int .i64 k.num) ∧ w'.cell? ⟨b, off + 2, none⟩ = some (.string (mkB k.name)) ∧ w'.cell? ⟨b, off + 3, none⟩ = some (.slice B k.kids.length d))
        (((with_reducible refine one_seen ?_ HBOX.out HC.out);
          first
            | (simp only [hB1]; done)
            | (simp only [bel_drew, HB0]; done)))
        (first
          | (go_at_call 70; (with_reducible refine (HKT.out _ (grow_trans HBA.out (by simp only [bel_drew, HB0]))).mono ?_); rintro y w12 ⟨rfl, hbT⟩; have hB1 : Below wa.heap.size wa w12 := grow_trans (by simp only [bel_drew, HB0]) hbT))
      all_goals go_wp2_with fail
      all_goals go_ret
      all_goals exact ⟨by rw [← HV.out]; rfl, grow_trans HBA.out hB1⟩
  · have HT : Hid (textE e = []) := textE_one_no hk h1
    have q1 : ((e.kids.length : Int) == 1) = false := by rw [beq_eq_false_iff_ne]; omega
    unfold exprV strV
    clear hk hr ih hl h1
    go_enter Tryd.func51, Tryd.ntmps51
    go_wp2_with fail
    go_ret
    exact ⟨by rw [HT.out]; rfl, grow_alloc (grow_refl _) _⟩
set_option maxHeartbeats 4000000 in
set_option maxRecDepth 100000 in
theorem rtext_two (e : PExpr) (hk : e.kind = xTwo) (hl : (textE e).length ≤ 1000000) (ih : ∀ k ∈ e.kids, (textE k).length ≤ 1000000 → ExprTextC k) : ExprTextC e := by
  intro S A c w hr
  have g0 : ((mkB e.kind).toList == [110, 117, 109]) = false := by rw [mkB_toList, hk]; rfl
  have g1 : ((mkB e.kind).toList == [110, 97, 109, 101]) = false := by rw [mkB_toList, hk]; rfl
  have g2 : ((mkB e.kind).toList == [99, 97, 108, 108]) = false := by rw [mkB_toList, hk]; rfl
  have g3 : ((mkB e.kind).toList == [111, 110, 101]) = false := by rw [mkB_toList, hk]; rfl
  have g4 : ((mkB e.kind).toList == [116, 119, 111]) = true := by rw [mkB_toList, hk]; rfl
  by_cases h1 : e.kids.length = 2
  · match hh : e.kids, h1 with
    | [k, m], _ =>
      have hte := textE_two hk hh
      have hkl := kid_len hl (show k ∈ e.kids by rw [hh]; simp) (.inr (.inr ⟨hk, by rw [hh]; rfl⟩))
      have hml := kid_len hl (show m ∈ e.kids by rw [hh]; simp) (.inr (.inr ⟨hk, by rw [hh]; rfl⟩))
      have hrg := levelP_range e.name
      obtain ⟨L, hL⟩ : ∃ L, levelP e.name = L := ⟨_, rfl⟩
      rw [hL] at hte hrg
      have HLV : Hid (∀ w, Calls Tryd.prog 71 #[.string (mkB e.name)] w fun e w' => e = .returned (.int .i64 L) ∧ w = w') := fun w => hL ▸ LevelOf_any e.name w
      rw [hte] at hl
      simp only [List.length_append, List.length_cons, List.length_nil] at hl
      have hwl : (mkB (wrapT k L (textE k))).size ≤ 1000000 := by rw [mkB_len]; omega
      have hwm : (mkB (wrapT m (L + 1) (textE m))).size ≤ 1000000 := by rw [mkB_len]; omega
      have hln : (mkB e.name).size ≤ 1000000 := by rw [mkB_len]; omega
      have HV : Hid (mkB (wrapT k L (textE k)) ++ ⟨#[32]⟩ ++ mkB e.name ++ ⟨#[32]⟩ ++ mkB (wrapT m (L + 1) (textE m)) = mkB (textE e)) := show _ = _ by rw [mkB_one, mkB_app, mkB_one, mkB_app, hte]
      rw [hh] at hr
      obtain ⟨b, off, B, d, rfl, -, hcells, hnum, hkid⟩ := hr.at (i := 0) (by simp)
      simp only [Nat.zero_mul, Nat.add_zero, List.getElem_cons_zero] at hcells hkid
      obtain ⟨b', off', B2, d2, hbb, -, hcells2, hnum2, hkid2⟩ := hr.at (i := 1) (by simp)
      simp only [Option.some.injEq, Addr.mk.injEq, and_true] at hbb
      obtain ⟨rfl, rfl⟩ := hbb
      simp only [Nat.one_mul, List.getElem_cons_succ, List.getElem_cons_zero] at hcells2 hkid2
      have IH := ih k (by rw [hh]; simp) hkl
      have IM := ih m (by rw [hh]; simp) hml
      have HKT : Hid (∀ w', Below w.heap.size w w' → Calls Tryd.prog 70 #[exprV k B d, .int .i64 L] w' (Ret (strV (wrapT k L (textE k))) w')) :=
        fun w' hb => kidText_any k L (textE k) B d w' hkl fun w'' hb' => IH S B d w'' (hkid.keep ((Keeps.of_below (grow_trans hb hb')).in _) (fun _ h => h))
      have HMT : Hid (∀ w', Below w.heap.size w w' → Calls Tryd.prog 70 #[exprV m B2 d2, .int .i64 (L + 1)] w' (Ret (strV (wrapT m (L + 1) (textE m))) w')) :=
        fun w' hb => kidText_any m (L + 1) (textE m) B2 d2 w' hml fun w'' hb' => IM S B2 d2 w'' (hkid2.keep ((Keeps.of_below (grow_trans hb hb')).in _) (fun _ h => h))
      obtain ⟨W, hW⟩ : ∃ W, wrapT k L (textE k) = W := ⟨_, rfl⟩
      obtain ⟨V, hV⟩ : ∃ V, wrapT m (L + 1) (textE m) = V := ⟨_, rfl⟩
      rw [hW] at HKT HV hwl
      rw [hV] at HMT HV hwm
      have e1 : IntKind.i64.wrap (L + 1) = L + 1 := IntWalk.i64_in _ (by omega)
      have hbox := heap_alloc_new w (.cells #[.string (mkB e.kind), .int .i64 e.num, .string (mkB e.name), .slice (some ⟨b, off, none⟩) 2 c] 89)
      have hc1 : CellsAt (w.alloc (.cells #[.string (mkB e.kind), .int .i64 e.num, .string (mkB e.name), .slice (some ⟨b, off, none⟩) 2 c] 89)) b off (exprL k B d) := hcells.keep fun a v _ hv => Keeps.alloc _ _ a v hv
      have hc2 : CellsAt (w.alloc (.cells #[.string (mkB e.kind), .int .i64 e.num, .string (mkB e.name), .slice (some ⟨b, off, none⟩) 2 c] 89)) b (off + 4) (exprL m B2 d2) := hcells2.keep fun a v _ hv => Keeps.alloc _ _ a v hv
      have HBOX := Lib.hid hbox
      have HC := Lib.hid hc1
      have HC2 := Lib.hid hc2
      have HRG := Lib.hid hrg
      unfold exprV strV at *
      rw [hh, show ([k, m] : List PExpr).length = 2 from rfl]
      clear hk hr ih hte hcells hkid hnum hh hW hl hkl IH hbox hc1 hc2 hcells2 hkid2 hnum2 hV hml IM hL hrg
      have HB0 : Below (w.alloc (.cells #[.string (mkB e.kind), .int .i64 e.num, .string (mkB e.name), .slice (some ⟨b, off, none⟩) 2 c] 89)).heap.size (w.alloc (.cells #[.string (mkB e.kind), .int .i64 e.num, .string (mkB e.name), .slice (some ⟨b, off, none⟩) 2 c] 89)) (w.alloc (.cells #[.string (mkB e.kind), .int .i64 e.num, .string (mkB e.name), .slice (some ⟨b, off, none⟩) 2 c] 89)) := Below.refl _ _
      go_enter Tryd.func51, Tryd.ntmps51
      have k1 : ¬ (9223372036854775807 < (mkB W).size + 1) := by omega
      have k2 : ¬ (9223372036854775807 < (mkB W).size + 1 + (mkB e.name).size) := by omega
      have k3 : ¬ (9223372036854775807 < (mkB W).size + 1 + (mkB e.name).size + 1) := by omega
      have k4 : ¬ (9223372036854775807 < (mkB W).size + 1 + (mkB e.name).size + 1 + (mkB V).size) := by omega
      go_upto_region 25 with (go_at_call 71; (with_reducible refine (HLV.out _).mono ?_); rintro y w11 ⟨rfl, rfl⟩)
      obtain ⟨wa, hwa⟩ : ∃ wa, w.alloc (.cells #[.string (mkB e.kind), .int .i64 e.num, .string (mkB e.name), .slice (some ⟨b, off, none⟩) 2 c] 89) = wa := ⟨_, rfl⟩
      have HBA : Hid (Below w.heap.size w wa) := show Below _ _ _ from hwa ▸ grow_alloc (grow_refl _) _
      rw [hwa] at HBOX HC HC2 HB0
      rw [hwa]
      clear hwa
      go_region_held3 (fun w' => Below wa.heap.size wa w' ∧ w'.cell? ⟨w.heap.size, 0, none⟩ = some (.string (mkB e.kind)) ∧ w'.cell? ⟨w.heap.size, 1, none⟩ = some (.int .i64 e.num) ∧ w'.cell? ⟨w.heap.size, 2, none⟩ = some (.string (mkB e.name)) ∧ w'.cell? ⟨w.heap.size, 3, none⟩ = some (.slice (some ⟨b, off, none⟩) 2 c) ∧
          w'.cell? ⟨b, off, none⟩ = some (.string (mkB k.kind)) ∧ w'.cell? ⟨b, off + 1, none⟩ = some (.int .i64 k.num) ∧ w'.cell? ⟨b, off + 2, none⟩ = some (.string (mkB k.name)) ∧ w'.cell? ⟨b, off + 3, none⟩ = some (.slice B k.kids.length d) ∧
          w'.cell? ⟨b, off + 4, none⟩ = some (.string (mkB m.kind)) ∧ w'.cell? ⟨b, off + 4 + 1, none⟩ = some (.int .i64 m.num) ∧ w'.cell? ⟨b, off + 4 + 2, none⟩ = some (.string (mkB m.name)) ∧ w'.cell? ⟨b, off + 4 + 3, none⟩ = some (.slice B2 m.kids.length d2))
        (((with_reducible refine two_seen ?_ HBOX.out HC.out HC2.out);
          first
            | (simp only [hB2]; done)
            | (simp only [hB1]; done)
            | (simp only [bel_drew, HB0]; done)))
        (first
          | (go_at_call 70; (with_reducible refine (HKT.out _ (grow_trans HBA.out (by simp only [bel_drew, HB0]))).mono ?_); rintro y w12 ⟨rfl, hbT⟩; have hB1 : Below wa.heap.size wa w12 := grow_trans (by simp only [bel_drew, HB0]) hbT)
          | (go_at_call 70; (with_reducible refine (HMT.out _ (grow_trans HBA.out hB1)).mono ?_); rintro y w12 ⟨rfl, hbT⟩; have hB2 : Below wa.heap.size wa w12 := grow_trans hB1 hbT))
      all_goals go_wp2_with fail
      all_goals go_ret
      all_goals exact ⟨by rw [← HV.out]; rfl, grow_trans HBA.out hB2⟩
  · have HT : Hid (textE e = []) := textE_two_no hk h1
    have q1 : ((e.kids.length : Int) == 2) = false := by rw [beq_eq_false_iff_ne]; omega
    unfold exprV strV
    clear hk hr ih hl h1
    go_enter Tryd.func51, Tryd.ntmps51
    go_wp2_with fail
    go_ret
    exact ⟨by rw [HT.out]; rfl, grow_alloc (grow_refl _) _⟩
end Go.Proofs.YtidhplpidkgkdaaDoor
