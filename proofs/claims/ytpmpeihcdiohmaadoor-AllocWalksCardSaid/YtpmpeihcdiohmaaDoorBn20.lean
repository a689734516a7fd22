import Derived.Test.YtpmpeihcdiohmaaDoorBn19
set_option linter.unusedVariables false
set_option linter.unusedSimpArgs false
namespace Go.Proofs.YtpmpeihcdiohmaaDoor
open Go.RowKit

/-! the walker: a call (printed by gen_alca.py) -/
theorem callInfo : (Tryd.prog.info? 76).map (fun i => (i.zero, i.size, i.bytes)) = some (some (.agg #[.string ⟨#[]⟩, .slice none 0 0]), 2, 40) := by kernel_rfl
section
variable {c : PCd} {A : Option Addr} {ca : Nat} {X : Option Addr} {args : List Int} {xc : Nat} {Y : Option Addr} {ans : List Int} {yc : Nat} {T : Int} {w0 : World} {mb sb : Nat} {F : Nat → Array Value → Prop} {s : ASt} {h : List UInt8} {v : Int} {vO vC : Value} {ts : List CC} {w w' : World}

/-- Behind an append to the calls told of. -/
theorem WkAt.putC {w4 : World} {o : Obj} {t : CC} {g cap : Nat} (H : WkAt c A ca X args xc Y ans yc T w0 mb sb F s h v vO vC ts w) (hown : w4.ownsRow w0.heap.size 76 2 (.slice (some ⟨g, 0, none⟩) (s.calls.length + 1) cap) (s.calls.length + 1) (ts.flatMap CC.cells ++ t.cells))
    (hg : (w.alloc o).grownBy w4 vC.ownBlock) (hat : vC.ownBlock = some g ∨ g = w.heap.size + 1) (hrow : Row w t.X (intVs t.p.2)) (hfar : FarOf t w0.heap.size mb sb vO vC) :
    w4.heap[mb]? = w.heap[mb]? ∧ WkAt c A ca X args xc Y ans yc T w0 mb sb F { s with calls := s.calls ++ [t.p] } h v vO (.slice (some ⟨g, 0, none⟩) (s.calls.length + 1) cap) (ts ++ [t]) (w4.setCell ⟨mb, 11, none⟩ (.slice (some ⟨g, 0, none⟩) (s.calls.length + 1) cap)) := by
  have hm : ∀ k, k < w.heap.size → vC.ownBlock ≠ some k → w4.heap[k]? = w.heap[k]? := fun k hk hne => by rw [hg.block k (by simp; omega) (fun e => hne e.symm)]; exact old_block _ _ hk
  have hmb := hm mb H.ltM H.nC
  have hgm : g ≠ mb := fun e => own_else hown (hmb.trans H.blk) (fun cs e => by injection e with _ e _; exact absurd e (by decide)) (by rw [e]; rfl)
  have hs2 : ∀ k, k ≠ mb → (w4.setCell ⟨mb, 11, none⟩ (.slice (some ⟨g, 0, none⟩) (s.calls.length + 1) cap)).heap[k]? = w4.heap[k]? := fun k hk => Below.heap_setCell _ _ _ _ hk
  have hall : ∀ t' ∈ ts ++ [t], Row w t'.X (intVs t'.p.2) ∧ FarOf t' w0.heap.size mb sb vO vC := fun t' ht => by
    rcases List.mem_append.1 ht with ht | ht
    · exact ⟨H.rows _ ht, H.far _ ht⟩
    · rw [List.mem_singleton.1 ht]; exact ⟨hrow, hfar⟩
  refine ⟨hmb, ?_⟩
  refine { bel := H.bel.trans ((Below.grown ((Below.refl w0.heap.size w).alloc H.bel.size o) hg (by simp; have := H.bel.size; omega) (fun q hq => (own_lt H.calls hq).1)).setCell H.lowM _), lowM := H.lowM, lowS := H.lowS, blk := row_set (j := 11) _ (hmb.trans H.blk) ?_, slots := (hs2 _ (Ne.symm H.ne)).trans ((hm sb H.ltS H.nCs).trans H.slots), out := ?_, one := H.one, calls := ?_, map := ?_, rows := fun t' ht => ?_, far := fun t' ht hl a ha => ?_, fr := fun q cs hq => (hs2 _ (H.frM hq)).trans ((hm _ (H.frL hq) (H.frC hq)).trans (H.fr q cs hq)) }
  · unfold wkH wkT; simp
  · refine own_same H.out fun j hj => ?_
    have h1 := own_lt H.out hj
    have h2 := own_ne H.out H.calls (by decide) hj
    exact (hs2 j (fun e => H.nO (by rw [hj, e]))).trans (hm j h1.2 h2)
  · show World.ownsRow _ _ _ _ _ (s.calls ++ [t.p]).length ((ts ++ [t]).flatMap CC.cells)
    rw [List.length_append, List.length_singleton, List.flatMap_append, List.flatMap_singleton]
    exact own_same hown fun j hj => hs2 j (fun e => hgm (by injection hj with hj; exact (show g = j from hj).trans e))
  · show (ts ++ [t]).map (·.p) = s.calls ++ [t.p]
    rw [List.map_append, H.map]; rfl
  · refine row_by (hall t' ht).1 fun hl a ha => ?_
    have hf := (hall t' ht).2 hl a ha
    exact (hs2 _ hf.1).trans (hm _ (row_lt (hall t' ht).1 hl a ha) hf.2.2.2.1)
  · have hf := (hall t' ht).2 hl a ha
    refine ⟨hf.1, hf.2.1, hf.2.2.1, ?_, hf.2.2.2.2⟩
    intro e
    injection e with e
    have e2 : g = a.block := e
    rcases hat with h1 | h1
    · exact hf.2.2.2.1 (by rw [h1, e2])
    · have := row_lt (hall t' ht).1 hl a ha; omega
/-- The next arguments are wiped. -/
theorem WkAt.wipe (H : WkAt c A ca X args xc Y ans yc T w0 mb sb F s h v vO vC ts w) (h8 : s.r.length = 8) (h4 : s.next.length = 4) : WkAt c A ca X args xc Y ans yc T w0 mb sb F { s with next := next0 } h v vO vC ts ((((w.setCell ⟨mb, 21, none⟩ (.int .i64 0)).setCell ⟨mb, 22, none⟩ (.int .i64 0)).setCell ⟨mb, 23, none⟩ (.int .i64 0)).setCell ⟨mb, 24, none⟩ (.int .i64 0)) := by
  have h1 := (((H.setN h8 (d := 0) 0).setN h8 (d := 1) 0).setN h8 (d := 2) 0).setN h8 (d := 3) 0
  have e : (((s.next.set 0 0).set 1 0).set 2 0).set 3 0 = next0 := by
    match s.next, h4 with
    | [a, b, c, d], _ => rfl
  dsimp only at h1
  rw [e] at h1
  exact h1
/-- What a copy of the next arguments is. -/
def CloneP (l : List Int) (k B : Nat) (w : World) : Ending → World → Prop := fun e w' => ∃ X' c', e = .returned (.slice X' k c') ∧ (Row w' X' (intVs l) ∧ (l ≠ [] → ∀ a, X' = some a → B ≤ a.block)) ∧ Below w.heap.size w w'
theorem cloneP_any (ys : List Int) (hl : ys.length ≤ 1000) (b off c : Nat) (w : World) (hr : Row w (some ⟨b, off, none⟩) (intVs ys)) :
    Calls Tryd.prog 59 #[.slice (some ⟨b, off, none⟩) ys.length c] w (CloneP ys ys.length w.heap.size w) := by
  refine (clone_any ys hl b off c w hr).mono ?_
  rintro e w' ⟨v', rfl, ho, hb⟩
  obtain ⟨A, cap, rfl, -, hrow⟩ := owns_rowA ho
  refine ⟨A, cap, rfl, ⟨hrow, fun hne a ha => ?_⟩, hb⟩
  rcases ho.2 with ⟨q, h0⟩ | ⟨g, cap', cur, q1, q2, -⟩
  · exact absurd (List.eq_nil_of_length_eq_zero h0) hne
  · injection q1 with q1 _ _
    rw [q1] at ha
    injection ha with ha
    rw [← ha]; exact q2

set_option maxHeartbeats 8000000 in
set_option maxRecDepth 100000 in
theorem do_call_no (H : WkAt c A ca X args xc Y ans yc T w0 mb sb F s h v vO vC ts w) (h8 : s.r.length = 8) (d a b n : Int) (nm : List UInt8) (hC : (ans.length : Int) ≤ (s.calls.length : Int)) :
    Calls Tryd.prog 42 #[.pointer (some ⟨mb, 0, none⟩), .agg #[.string ⟨#[99, 97, 108, 108]⟩, .int .i64 d, .int .i64 a, .int .i64 b, .int .i64 n, .string (mkB nm)]] w (fun e w' => e = .returned (.bool false) ∧ WkAt c A ca X args xc Y ans yc T w0 mb sb F s h v vO vC ts w') := by
  obtain ⟨bx, hbx⟩ : ∃ bx, w.alloc (.cells #[.string ⟨#[99, 97, 108, 108]⟩, .int .i64 d, .int .i64 a, .int .i64 b, .int .i64 n, .string (mkB nm)] 52) = bx := ⟨_, rfl⟩
  have hb := grow_alloc (grow_refl w) (.cells #[.string ⟨#[99, 97, 108, 108]⟩, .int .i64 d, .int .i64 a, .int .i64 b, .int .i64 n, .string (mkB nm)] 52)
  have hn := heap_alloc_new w (.cells #[.string ⟨#[99, 97, 108, 108]⟩, .int .i64 d, .int .i64 a, .int .i64 b, .int .i64 n, .string (mkB nm)] 52)
  rw [hbx] at hb hn
  have h2 := H.below hb
  have HBX := Lib.hid hbx
  have e0 := cell_of_row _ _ 0 _ _ _ hn
  have e1 := cell_of_row _ _ 1 _ _ _ hn
  have e2 := cell_of_row _ _ 2 _ _ _ hn
  have e3 := cell_of_row _ _ 3 _ _ _ hn
  have e4 := cell_of_row _ _ 4 _ _ _ hn
  have e5 := cell_of_row _ _ 5 _ _ _ hn
  obtain ⟨AC, cC, hvC⟩ := own_slice h2.calls
  have o1 : bx.cell? ⟨mb, 11, none⟩ = some vC := h2.cellH rfl
  have y1 : bx.cell? ⟨mb, 5, none⟩ = some (.slice Y ans.length yc) := h2.cellH rfl
  rw [hvC] at o1
  have HH := Lib.hid h2
  clear H h2 hb hbx hn h8
  go_enter Tryd.func42, Tryd.ntmps42
  go_upto_region 1 with fail
  change Code.wp _ _ _ _ (w.alloc (.cells #[.string ⟨#[99, 97, 108, 108]⟩, .int .i64 d, .int .i64 a, .int .i64 b, .int .i64 n, .string (mkB nm)] 52))
  rw [HBX.out]
  go_wp2_with fail
  go_ret
  exact ⟨rfl, HH.out⟩
set_option maxHeartbeats 8000000 in
set_option maxRecDepth 100000 in
theorem do_call_go (H : WkAt c A ca X args xc Y ans yc T w0 mb sb F s h v vO vC ts w) (h8 : s.r.length = 8) (d : Nat) (hd : d < 8) (a b : Int) (n : Nat) (hn4 : n ≤ 4) (nm : List UInt8) (h4 : s.next.length = 4) (hY : Row w0 Y (intVs ans)) (hC : s.calls.length < ans.length) (hCm : s.calls.length ≤ 1000) :
    Calls Tryd.prog 42 #[.pointer (some ⟨mb, 0, none⟩), .agg #[.string ⟨#[99, 97, 108, 108]⟩, .int .i64 d, .int .i64 a, .int .i64 b, .int .i64 (n : Nat), .string (mkB nm)]] w (fun e w' => e = .returned (.bool true) ∧ ∃ vC' ts', WkAt c A ca X args xc Y ans yc T w0 mb sb F { s with r := s.r.set d (ans.getD s.calls.length 0), calls := s.calls ++ [(nm, s.next.take n)], next := next0 } h v vO vC' ts' w') := by
  obtain ⟨bx, hbx⟩ : ∃ bx, w.alloc (.cells #[.string ⟨#[99, 97, 108, 108]⟩, .int .i64 d, .int .i64 a, .int .i64 b, .int .i64 (n : Nat), .string (mkB nm)] 52) = bx := ⟨_, rfl⟩
  have hb := grow_alloc (grow_refl w) (.cells #[.string ⟨#[99, 97, 108, 108]⟩, .int .i64 d, .int .i64 a, .int .i64 b, .int .i64 (n : Nat), .string (mkB nm)] 52)
  have hn := heap_alloc_new w (.cells #[.string ⟨#[99, 97, 108, 108]⟩, .int .i64 d, .int .i64 a, .int .i64 b, .int .i64 (n : Nat), .string (mkB nm)] 52)
  rw [hbx] at hb hn
  have h2 := H.below hb
  have HBX := Lib.hid hbx
  have e0 := cell_of_row _ _ 0 _ _ _ hn
  have e1 := cell_of_row _ _ 1 _ _ _ hn
  have e2 := cell_of_row _ _ 2 _ _ _ hn
  have e3 := cell_of_row _ _ 3 _ _ _ hn
  have e4 := cell_of_row _ _ 4 _ _ _ hn
  have e5 := cell_of_row _ _ 5 _ _ _ hn
  obtain ⟨AC, cC, hvC⟩ := own_slice h2.calls
  have o1 : bx.cell? ⟨mb, 11, none⟩ = some vC := h2.cellH rfl
  have y1 : bx.cell? ⟨mb, 5, none⟩ = some (.slice Y ans.length yc) := h2.cellH rfl
  rw [hvC] at o1
  obtain ⟨vv, hvv⟩ : ∃ z, ans.getD s.calls.length 0 = z := ⟨_, rfl⟩
  rw [hvv]
  have HVV := Lib.hid hvv
  clear hvv
  have hC1 : ¬ (ans.length : Int) ≤ (s.calls.length : Int) := by omega
  have hC2 : (s.calls.length : Int) < (ans.length : Int) := by omega
  have hC0 : (0 : Int) ≤ (s.calls.length : Int) := by omega
  have hn0 : (0 : Int) ≤ (n : Nat) := by omega
  have hn1 : ((n : Nat) : Int) ≤ 4 := by omega
  have hd0 : (0 : Int) ≤ d := by omega
  have hd1 : (d : Int) < 8 := by omega
  have hlen : (s.next.take n).length = n := by rw [List.length_take, h4]; omega
  have HH := Lib.hid h2
  have H48 : Hid (s.next.length = 4 ∧ s.r.length = 8) := ⟨h4, h8⟩
  have hrN : Row bx (some ⟨mb, 21, none⟩) (intVs (s.next.take n)) := fun j u hj => by
    have hj1 : j < (s.next.take n).length := by
      have := (List.getElem?_eq_some_iff.1 hj).1; rwa [intVs_len] at this
    rw [intVs_get hj1] at hj
    injection hj with hj
    subst hj
    have hj4 : j < 4 := by omega
    have := h2.cellT (wkT_n h8 h4 hj4)
    refine ⟨mb, 21, rfl, ?_⟩
    rw [show 21 + j = 12 + (9 + j) by omega, this, List.getElem_take, List.getD_eq_getElem?_getD, List.getElem?_eq_getElem (by omega : j < s.next.length)]
    rfl
  have HCL : Hid (∀ w', Below bx.heap.size bx w' → Calls Tryd.prog 59 #[.slice (some ⟨mb, 21, none⟩) n 4] w' (CloneP (s.next.take n) n w'.heap.size w')) := fun w' hb' => by
    have := cloneP_any (s.next.take n) (by omega) mb 21 4 w' (hrN.keep (Keeps.of_below hb'))
    rwa [hlen] at this
  have HFC : Hid (∀ (w1 : World) (X1 : Option Addr) (c1 : Nat), Below bx.drew.heap.size bx.drew w1 → (Row w1 X1 (intVs (s.next.take n)) ∧ (s.next.take n ≠ [] → ∀ a, X1 = some a → bx.drew.heap.size ≤ a.block)) →
      Hid (WkAt c A ca X args xc Y ans yc T w0 mb sb F s h v vO (.slice AC s.calls.length cC) ts w1) ∧ Hid (w1.ownsRow w0.heap.size 76 2 (.slice AC s.calls.length cC) s.calls.length (ts.flatMap CC.cells)) ∧ Hid (Row w1 X1 (intVs (s.next.take n)) ∧ FarOf ⟨(nm, s.next.take n), X1, c1⟩ w0.heap.size mb sb vO (.slice AC s.calls.length cC)) ∧
      Hid (∀ w9, (w1.alloc (.cells #[.string (mkB nm), .slice X1 n c1] 76)).grownBy w9 (Value.slice AC s.calls.length cC).ownBlock → (w9.heap[w.heap.size]? = some (.cells #[.string ⟨#[99, 97, 108, 108]⟩, .int .i64 d, .int .i64 a, .int .i64 b, .int .i64 (n : Nat), .string (mkB nm)] 52 (0, 0)) ∧ w.heap.size ≠ mb)) ∧ w0.heap.size ≤ w1.heap.size ∧
      (w1.cell? ⟨mb, 11, none⟩ = some (.slice AC s.calls.length cC) ∧ w1.cell? ⟨w.heap.size, 4, none⟩ = some (.int .i64 (n : Nat)) ∧ w1.cell? ⟨w.heap.size, 5, none⟩ = some (.string (mkB nm))) ∧
      (w1.alloc (.cells #[.string (mkB nm), .slice X1 n c1] 76)).cell? ⟨mb, 11, none⟩ = some (.slice AC s.calls.length cC) ∧ (w1.alloc (.cells #[.string (mkB nm), .slice X1 n c1] 76)).cell? ⟨w.heap.size, 4, none⟩ = some (.int .i64 (n : Nat)) ∧ (w1.alloc (.cells #[.string (mkB nm), .slice X1 n c1] 76)).cell? ⟨w.heap.size, 5, none⟩ = some (.string (mkB nm))) := fun w1 X1 c1 hb1 hr1 => by
    have hb2 : Below bx.heap.size bx w1 := grow_trans (grow_drew (grow_refl _) 1) hb1
    have ha := h2.below hb2
    rw [hvC] at ha
    have hk := (hb2.block w.heap.size (Array.getElem?_eq_some_iff.1 hn).1).trans hn
    have hkn : (Value.slice AC s.calls.length cC).ownBlock ≠ some w.heap.size := own_else ha.calls hk fun cs e => by injection e with _ e _; exact absurd e (by decide)
    have hkl : w.heap.size < w1.heap.size := (Array.getElem?_eq_some_iff.1 hk).1
    refine ⟨ha, ha.calls, ⟨hr1.1, fun hl a ha' => ?_⟩, fun w9 hg => ⟨?_, fun e => ?_⟩, ha.bel.size, ⟨ha.cellH rfl, cell_of_row _ _ 4 _ _ _ hk, cell_of_row _ _ 5 _ _ _ hk⟩, Keeps.alloc _ _ _ _ (ha.cellH rfl), Keeps.alloc _ _ _ _ (cell_of_row _ _ 4 _ _ _ hk), Keeps.alloc _ _ _ _ (cell_of_row _ _ 5 _ _ _ hk)⟩
    · have h9 : bx.heap.size ≤ a.block := hr1.2 hl a ha'
      have hm := h2.ltM
      have hs := h2.ltS
      have hw9 := h2.bel.size
      refine ⟨by omega, by omega, fun e => ?_, fun e => ?_, by omega⟩
      · have := (own_lt h2.out e).2; omega
      · have := (own_lt h2.calls (hvC ▸ e)).2; omega
    · rw [hg.block w.heap.size (by simp; omega) (fun e => hkn e.symm)]; exact (old_block _ _ hkl).trans hk
    · have hm := ha.blk
      rw [← e, hk] at hm
      injection hm with hm
      injection hm with _ hm _
      exact absurd hm (by decide)
  have HLEN : Hid ((s.next.take n).length = n) := hlen
  have HROW := Lib.hid hn
  clear hlen hrN
  clear H h2 hb hbx hn h8
  go_enter Tryd.func42, Tryd.ntmps42
  go_upto_region 1 with fail
  change Code.wp _ _ _ _ (w.alloc (.cells #[.string ⟨#[99, 97, 108, 108]⟩, .int .i64 d, .int .i64 a, .int .i64 b, .int .i64 (n : Nat), .string (mkB nm)] 52))
  rw [HBX.out]
  go_upto_region 19 with fail
  go_cut [] from 105 to 125 (fun wx => ∃ vC' ts', WkAt c A ca X args xc Y ans yc T w0 mb sb F { s with calls := s.calls ++ [(nm, s.next.take n)] } h v vO vC' ts' wx ∧ wx.heap[w.heap.size]? = some (.cells #[.string ⟨#[99, 97, 108, 108]⟩, .int .i64 d, .int .i64 a, .int .i64 b, .int .i64 (n : Nat), .string (mkB nm)] 52 (0, 0)))
  case first =>
    obtain ⟨i0, hi, hz0, hz1, hz2⟩ := info_parts callInfo
    go_region_law? (first
      | (go_simp; have QQ := HCL.out bx.drew (grow_drew (grow_refl bx) 1); (with_reducible refine QQ.mono ?_); intro e9 w1 h9; obtain ⟨X1, c1, he, hr1, hb1⟩ := h9; subst he; clear QQ; obtain ⟨HA, HO, HR1, HBK, hw01, ⟨o1, e4, e5⟩, o2, e24, e25⟩ := HFC.out w1 X1 c1 hb1 hr1)
      | (refine step_append_lies _ rfl _ _ 46 rfl w0.heap.size 76 i0 _ 2 40 Tryd.underlying46 hi hz0 hz1 hz2 rfl (by decide) _ s.calls.length (ts.flatMap CC.cells) rfl (World.ownsRow.alloc HO.out _) ⟨w1.heap.size, 0, none⟩ 1 1 [.string (mkB nm), .slice X1 n c1] rfl rfl (World.news_of_block (heap_alloc_new w1 _)) (fun u hu => by simp at hu; rcases hu with rfl | rfl <;> rfl) (by decide) (by unfold maxLen; omega) (by omega) (by simp; omega) _ rfl ?_; intro g cap w9 hown hgrow hat hlt9; obtain ⟨j1, j2⟩ := HA.out.putC (o := .cells #[.string (mkB nm), .slice X1 n c1] 76) (t := ⟨(nm, s.next.take n), X1, c1⟩) (by rw [CC.cells, HLEN.out]; exact hown) ⟨hgrow.os, hgrow.tape, hgrow.output, hgrow.size, hgrow.block⟩ (hat.imp id fun e => e.trans (by simp)) HR1.out.1 HR1.out.2; have jb := HBK.out w9 ⟨hgrow.os, hgrow.tape, hgrow.output, hgrow.size, hgrow.block⟩; have o1 : w9.cell? ⟨mb, 11, none⟩ = some (.slice AC s.calls.length cC) := (World.cell?_of_block j1).trans (HA.out.cellH rfl); have z1 := row_frozen (j1.trans HA.out.blk) 11; have H9 := Lib.hid j2; have HK9 := Lib.hid jb; clear j1 j2 jb hown hgrow hat))
    all_goals (
      go_wp2_with fail
      go_meet
      exact ⟨_, _, H9.out, (Below.heap_setCell _ _ _ _ HK9.out.2).trans HK9.out.1⟩)
  case rest =>
    obtain ⟨vC', ts', H9, hk9⟩ := hcut
    obtain ⟨h4, h8⟩ := H48.out
    have hqm : w.heap.size ≠ mb := fun e => by
      have hm := HH.out.blk
      rw [← e, HROW.out] at hm
      injection hm with hm
      injection hm with _ hm _
      exact absurd hm (by decide)
    have c21 := H9.cellT (wkT_n h8 h4 (j := 0) (by omega))
    have c22 := H9.cellT (wkT_n h8 h4 (j := 1) (by omega))
    have c23 := H9.cellT (wkT_n h8 h4 (j := 2) (by omega))
    have c24 := H9.cellT (wkT_n h8 h4 (j := 3) (by omega))
    have k21 := H9.frozen 21
    have k22 := H9.frozen 22
    have k23 := H9.frozen 23
    have k24 := H9.frozen 24
    go_upto_region 21 with fail
    have H10 : WkAt c A ca X args xc Y ans yc T w0 mb sb F ⟨s.r, s.slots, next0, s.out, s.calls ++ [(nm, s.next.take n)], s.ticks⟩ h v vO vC' ts' _ := H9.wipe h8 h4
    have hk10 : ((((wc.setCell ⟨mb, 21, none⟩ (.int .i64 0)).setCell ⟨mb, 22, none⟩ (.int .i64 0)).setCell ⟨mb, 23, none⟩ (.int .i64 0)).setCell ⟨mb, 24, none⟩ (.int .i64 0)).heap[w.heap.size]? = _ := (Below.heap_setCell _ _ _ _ hqm).trans ((Below.heap_setCell _ _ _ _ hqm).trans ((Below.heap_setCell _ _ _ _ hqm).trans ((Below.heap_setCell _ _ _ _ hqm).trans hk9)))
    obtain ⟨wW, hwW⟩ : ∃ x, ((((wc.setCell ⟨mb, 21, none⟩ (.int .i64 0)).setCell ⟨mb, 22, none⟩ (.int .i64 0)).setCell ⟨mb, 23, none⟩ (.int .i64 0)).setCell ⟨mb, 24, none⟩ (.int .i64 0)) = x := ⟨_, rfl⟩
    rw [hwW] at H10 hk10
    have HWW := Lib.hid hwW
    clear e0 e1 e2 e3 e4 e5 o1 y1 c21 c22 c23 c24 k21 k22 k23 k24 hwW H9 hk9 HFC HCL
    have e1 := cell_of_row _ _ 1 _ _ _ hk10
    have y1 : wW.cell? ⟨mb, 5, none⟩ = some (.slice Y ans.length yc) := H10.cellH rfl
    obtain ⟨yb, yo, rfl, y2⟩ := (hY.keep (Keeps.of_below H10.bel)) s.calls.length _ (intVs_get hC)
    have hv : ans.getD s.calls.length 0 = ans[s.calls.length] := by rw [List.getD_eq_getElem?_getD, List.getElem?_eq_getElem hC]; rfl
    rw [← hv, HVV.out] at y2
    have r1 := H10.cellT (wkT_r (s := ⟨s.r, s.slots, next0, s.out, s.calls ++ [(nm, s.next.take n)], s.ticks⟩) h8 hd)
    have z1 := H10.frozen (12 + d)
    have HST := Lib.hid (fun j9 => (H10.drewN j9).setR h8 hd vv)
    have HS0 := Lib.hid (H10.setR h8 hd vv)
    clear hv H10 hk10 hY
    rw [HWW.out]
    go_region
    go_wp2_with fail
    go_ret
    first
      | exact ⟨rfl, _, _, HST.out _⟩
      | exact ⟨rfl, _, _, HS0.out.drewN 1⟩
end
end Go.Proofs.YtpmpeihcdiohmaaDoor
