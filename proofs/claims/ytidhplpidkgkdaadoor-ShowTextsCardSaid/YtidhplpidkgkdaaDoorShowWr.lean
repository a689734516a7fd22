import Derived.Test.YtidhplpidkgkdaaDoorShowExpr2
import Derived.Shelf.RegionOpenPlain
import Derived.Lib.Builder
import Derived.Lib.AppendStr
import Derived.Lib.UnsafeStr
import Derived.Laws.Externs
namespace Go.Proofs.YtidhplpidkgkdaaDoor
open Go.RowKit

/-! the writer of package show -/
/-- The writer at block p holds these bytes, so deep; its memory is from base on. -/
def WrAt (base p : Nat) (bs : List UInt8) (d : Nat) (w : World) : Prop :=
  base ≤ p ∧ ∃ q v, (q = .pointer none ∨ q = .pointer (some ⟨p, 0, none⟩)) ∧ w.heap[p]? = some (.cells #[q, v, .int .i64 (d : Int)] 55 (0, 0)) ∧ w.ownsRow base 5 1 v bs.length (Lib.byteCells bs) ∧ (bs = [] → v = .slice none 0 0)
/-- Blocks that hold no bytes, and are not p, are as they were. -/
def WrKeep (p : Nat) (w w' : World) : Prop := ∀ k cs T fz, k ≠ p → T ≠ 5 → w.heap[k]? = some (.cells cs T fz) → w'.heap[k]? = some (.cells cs T fz)
theorem WrKeep.refl (p : Nat) (w : World) : WrKeep p w w := fun _ _ _ _ _ _ h => h
theorem WrKeep.trans {p : Nat} {a b c : World} (h : WrKeep p a b) (k : WrKeep p b c) : WrKeep p a c := fun i cs T fz h1 h2 h3 => k i cs T fz h1 h2 (h i cs T fz h1 h2 h3)
theorem WrKeep.below {p : Nat} {w w' : World} (h : Below w.heap.size w w') : WrKeep p w w' := fun k _ _ _ _ _ h3 => (h.block k (Array.getElem?_eq_some_iff.1 h3).1).trans h3
theorem WrAt.below {base p : Nat} {bs : List UInt8} {d : Nat} {w w' : World} (h : WrAt base p bs d w) (hb : Below w.heap.size w w') : WrAt base p bs d w' := by
  obtain ⟨h1, q, v, h2, h3, h4, h5⟩ := h
  exact ⟨h1, q, v, h2, (hb.block _ (Array.getElem?_eq_some_iff.1 h3).1).trans h3, ownsRow_below h4 hb, h5⟩
theorem WrAt.lt {base p : Nat} {bs : List UInt8} {d : Nat} {w : World} (h : WrAt base p bs d w) : p < w.heap.size := by
  obtain ⟨h1, q, v, h2, h3, h4, h5⟩ := h
  exact (Array.getElem?_eq_some_iff.1 h3).1
theorem WrAt.deep {base p : Nat} {bs : List UInt8} {d : Nat} {w : World} (h : WrAt base p bs d w) : w.cell? ⟨p, 2, none⟩ = some (.int .i64 (d : Int)) := by
  obtain ⟨h1, q, v, h2, h3, h4, h5⟩ := h
  exact cell_of_row _ _ 2 _ _ _ h3
theorem WrAt.frozen {base p : Nat} {bs : List UInt8} {d : Nat} {w : World} (h : WrAt base p bs d w) : w.frozen? ⟨p, 2, none⟩ = false := by
  obtain ⟨h1, q, v, h2, h3, h4, h5⟩ := h
  exact row_frozen h3 2
theorem writer_byte : (55 : TypeId) ≠ 5 := by decide
theorem own_ne {w : World} {base p : Nat} {v : Value} {n : Nat} {xs : List Value} {cs : Array Value} {T : TypeId} {fz : Nat × Nat} (hT : T ≠ 5) (ho : w.ownsRow base 5 1 v n xs) (h : w.heap[p]? = some (.cells cs T fz)) : v.ownBlock ≠ some p := Lib.ownBlock_ne ho h hT
/-- A store into the writer's depth. -/
theorem WrAt.set {base p : Nat} {bs : List UInt8} {d : Nat} {w : World} (h : WrAt base p bs d w) (n : Nat) : WrAt base p bs n (w.setCell ⟨p, 2, none⟩ (.int .i64 (n : Int))) ∧ Below base w (w.setCell ⟨p, 2, none⟩ (.int .i64 (n : Int))) ∧ WrKeep p w (w.setCell ⟨p, 2, none⟩ (.int .i64 (n : Int))) := by
  obtain ⟨h1, q, v, h2, h3, h4, h5⟩ := h
  refine ⟨⟨h1, q, v, h2, row_set _ h3 (by simp), ?_, h5⟩, (Below.refl _ _).setCell h1 _, fun k cs T fz hk _ hc => (Below.heap_setCell _ _ _ _ hk).trans hc⟩
  exact h4.kept (row := some p) ⟨rfl, rfl, rfl, by simp [World.setCell], fun k _ hk => Below.heap_setCell _ _ _ _ (fun e => hk (by simp [e]))⟩ (.inr (own_ne writer_byte h4 h3))
theorem builderSize : (Tryd.prog.info? 53).map (·.size) = some 2 := by kernel_rfl
theorem byteInfo : (Tryd.prog.info? 5).map (fun i => (i.zero, i.size, i.bytes)) = some (some (.int .u8 0), 1, 1) := by kernel_rfl
theorem writerLies : liesAt Tryd.prog Tryd.prog.depth 55 (3 / Tryd.prog.cellsOf 55) 0 53 1 = true := by kernel_rfl
set_option maxRecDepth 100000 in
theorem wcheck_used (p : Nat) (w : World) (h0 : w.cell? ⟨p, 0, none⟩ = some (.pointer (some ⟨p, 0, none⟩))) :
    Calls Tryd.prog 63 #[.pointer (some ⟨p, 0, none⟩)] w fun e w' => e = .returned (.tuple #[]) ∧ w' = w := by
  obtain ⟨j, hj, _⟩ := Option.map_eq_some_iff.1 builderSize
  go_enter Tryd.func63, Tryd.ntmps63
  go_wp2
  rw [Lib.run_neq_ptr_same w _ Tryd.underlying50 hj]
  go_wp2
  go_end0
  exact ⟨rfl, rfl⟩
set_option maxRecDepth 100000 in
theorem wcheck_fresh (p : Nat) (w : World) (h0 : w.cell? ⟨p, 0, none⟩ = some (.pointer none)) (hsh : w.shape? p = some (55, 3)) (hfz : w.frozen? ⟨p, 0, none⟩ = false) :
    Calls Tryd.prog 63 #[.pointer (some ⟨p, 0, none⟩)] w fun e w' => e = .returned (.tuple #[]) ∧ w' = w.setCell ⟨p, 0, none⟩ (.pointer (some ⟨p, 0, none⟩)) := by
  obtain ⟨j, hj, hjs⟩ := Option.map_eq_some_iff.1 builderSize
  go_enter Tryd.func63, Tryd.ntmps63
  go_wp2
  rw [Lib.run_to_unsafe w ⟨p, 0, none⟩ Tryd.underlying50 Tryd.underlying127 hj (by rw [hjs]; decide) hsh (Nat.zero_lt_succ 2)]
  simp only [Result.andThen]
  rw [Oper.upon_value]
  go_wp2
  rw [run_callFunc_extern Tryd.func81 (by kernel_rfl) (by kernel_rfl) (by kernel_rfl) (e := Extern.AbiNoEscape.same) (by kernel_rfl)]
  rw [Lib.run_noEscape]
  simp only [Result.andThen]
  rw [Oper.upon_value]
  go_wp2
  rw [Lib.run_from_unsafe w ⟨p, 0, none⟩ Tryd.underlying127 Tryd.underlying50 hj hsh writerLies]
  simp only [Result.andThen]
  rw [Oper.upon_value]
  go_wp2
  go_end0
  exact ⟨rfl, rfl⟩
theorem wcheck (base p : Nat) (bs : List UInt8) (d : Nat) (w : World) (h : WrAt base p bs d w) :
    Calls Tryd.prog 63 #[.pointer (some ⟨p, 0, none⟩)] w fun e w' => e = .returned (.tuple #[]) ∧ (∃ v, w'.heap[p]? = some (.cells #[.pointer (some ⟨p, 0, none⟩), v, .int .i64 (d : Int)] 55 (0, 0)) ∧ w'.ownsRow base 5 1 v bs.length (Lib.byteCells bs)) ∧ Below base w w' ∧ WrKeep p w w' := by
  obtain ⟨h1, q, v, h2, h3, h4, h5⟩ := h
  rcases h2 with rfl | rfl
  · refine (wcheck_fresh p w (cell_of_row _ _ 0 _ _ _ h3) (by simp [World.shape?, h3]) (row_frozen h3 0)).mono ?_
    rintro e w' ⟨rfl, rfl⟩
    refine ⟨rfl, ⟨v, row_set _ h3 (by simp), ?_⟩, (Below.refl _ _).setCell h1 _, fun k cs T fz hk _ hc => (Below.heap_setCell _ _ _ _ hk).trans hc⟩
    exact h4.kept (row := some p) ⟨rfl, rfl, rfl, by simp [World.setCell], fun k _ hk => Below.heap_setCell _ _ _ _ (fun e => hk (by simp [e]))⟩ (.inr (own_ne writer_byte h4 h3))
  · refine (wcheck_used p w (cell_of_row _ _ 0 _ _ _ h3)).mono ?_
    rintro e w' ⟨rfl, rfl⟩
    exact ⟨rfl, ⟨v, h3, h4⟩, Below.refl _ _, WrKeep.refl _ _⟩
theorem strCells_mkB (t : List UInt8) : Lib.strCells (mkB t) = Lib.byteCells t := by
  rw [Lib.strCells_eq]; simp [mkB]
theorem byteCells_app (a b : List UInt8) : Lib.byteCells (a ++ b) = Lib.byteCells a ++ Lib.byteCells b := by simp [Lib.byteCells]
def WrPost (base p : Nat) (bs : List UInt8) (d : Nat) (w w' : World) : Prop := WrAt base p bs d w' ∧ Below base w w' ∧ WrKeep p w w'
set_option maxHeartbeats 1000000 in
set_option maxRecDepth 100000 in
theorem wwrite (base p : Nat) (bs : List UInt8) (d : Nat) (w : World) (t : List UInt8) (h : WrAt base p bs d w) (hl : bs.length + t.length ≤ 100000000) (h0 : t ≠ []) :
    Calls Tryd.prog 45 #[.pointer (some ⟨p, 0, none⟩), .string (mkB t)] w fun e w' => e = .returned (.tuple #[.int .i64 (t.length : Int), .nilIface]) ∧ WrPost base p (bs ++ t) d w w' := by
  obtain ⟨ti, hi, hz0, hz1, hz2⟩ := info_parts byteInfo
  have HC := Lib.hid (wcheck base p bs d w h)
  have hB : base ≤ p := h.1
  have hlt0 := h.lt
  clear h
  go_enter Tryd.func45, Tryd.ntmps45
  go_wp2_with (go_at_call 63; (with_reducible refine HC.out.mono ?_))
  rintro e w1 ⟨rfl, ⟨v, hbk, hown⟩, hb1, hk1⟩
  have hlt : p < w1.heap.size := (Array.getElem?_eq_some_iff.1 hbk).1
  have c0 : w1.cell? ⟨p, 0, none⟩ = some (.pointer (some ⟨p, 0, none⟩)) := cell_of_row _ _ 0 _ _ _ hbk
  have c1 : w1.cell? ⟨p, 1, none⟩ = some v := cell_of_row _ _ 1 _ _ _ hbk
  go_wp2_with (at_builtin; refine Lib.wpList_append_own_string _ rfl _ _ 51 9 rfl base 5 ti Tryd.underlying51 Tryd.underlying9 hi hz0 hz1 hz2 _ _ _ rfl hown (mkB t) rfl ?c3 ?c4 ?c5 ?_)
  case c3 => rw [mkB_len]; unfold maxLen; omega
  case c4 => rw [mkB_len]; omega
  case c5 => omega
  intro v' w2 hown' hgrow _
  have hne := own_ne writer_byte hown hbk
  have hb2 : w2.heap[p]? = some (.cells #[.pointer (some ⟨p, 0, none⟩), v, .int .i64 (d : Int)] 55 (0, 0)) := by
    rw [hgrow.block p hlt (fun e => hne e.symm)]
    exact hbk
  have d0 : w2.cell? ⟨p, 0, none⟩ = some (.pointer (some ⟨p, 0, none⟩)) := cell_of_row _ _ 0 _ _ _ hb2
  have d1 : w2.cell? ⟨p, 1, none⟩ = some v := cell_of_row _ _ 1 _ _ _ hb2
  have f1 : w2.frozen? ⟨p, 1, none⟩ = false := row_frozen hb2 1
  rw [strCells_mkB, mkB_len] at hown'
  obtain ⟨ao, cap, rfl⟩ := owns_slice hown'
  have HX : Hid (WrPost base p (bs ++ t) d w (w2.setCell ⟨p, 1, none⟩ (.slice ao (bs.length + t.length) cap))) := by
    refine ⟨⟨hB, .pointer (some ⟨p, 0, none⟩), .slice ao (bs.length + t.length) cap, .inr rfl, row_set _ hb2 (by simp), ?_, fun e => ?_⟩, (hb1.grown hgrow (by omega) (fun k hk => (hown.lt k hk).1)).setCell (p := ⟨p, 1, none⟩) hB _, fun k cs T fz hk hT hc => ?_⟩
    · rw [List.length_append, byteCells_app]
      exact hown'.kept (row := some p) ⟨rfl, rfl, rfl, by simp [World.setCell], fun k _ hk => Below.heap_setCell _ _ _ _ (fun e => hk (by simp [e]))⟩ (.inr (own_ne writer_byte hown' hb2))
    · exact absurd (List.append_eq_nil_iff.1 e).2 h0
    · have q1 := hk1 k cs T fz hk hT hc
      exact (Below.heap_setCell _ _ _ _ hk).trans ((hgrow.block k (Array.getElem?_eq_some_iff.1 q1).1 (fun e => own_ne hT hown q1 e.symm)).trans q1)
  have HL := Lib.hid (mkB_len t)
  clear hown' hgrow hb2 hbk hown hk1 hb1
  go_wp2
  go_ret2
  exact ⟨by rw [← HL.out]; rfl, HX.out⟩
set_option maxHeartbeats 2000000 in
set_option maxRecDepth 100000 in
theorem wstring (base p : Nat) (bs : List UInt8) (d : Nat) (w : World) (h : WrAt base p bs d w) :
    Calls Tryd.prog 22 #[.pointer (some ⟨p, 0, none⟩)] w fun e w' => e = .returned (.string (mkB bs)) ∧ Below base w w' := by
  obtain ⟨h1, q, v, h2, h3, h4, h5⟩ := h
  by_cases h0 : bs = []
  · obtain rfl := h5 h0
    subst h0
    have hUS : ∀ (W : World) (q : Option Addr), (Builtin.unsafeString_ #[97, 3] 9 #[.pointer q, .int .i64 0]).run Tryd.prog W = .ok (.string .empty) W := fun W q => Lib.run_unsafeString_none W _ _ _ q
    have c1 : w.drew.cell? ⟨p, 1, none⟩ = some (.slice none 0 0) := cell_of_row _ _ 1 _ _ _ h3
    have hSD : (Builtin.unsafeSliceData_ #[51] 97 #[.slice none 0 0]).run Tryd.prog w.drew = .ok (.pointer none) w.drew := rfl
    clear h4 h5 h3 h2
    have mixed : Tryd.prog.follows Departure.mixedOrders = true := by kernel_rfl
    go_enter Tryd.func22, Tryd.ntmps22
    go_wp2
    go_region_o
    all_goals (go_wp2; go_ret; exact ⟨rfl, Below.drew (Below.refl base w)⟩)
  · have hl0 : bs.length ≠ 0 := by simpa using h0
    obtain ⟨g, cap, cur, rfl, hbg, hg, hnc, hcm, hcs, htake⟩ : ∃ g cap cur, v = .slice (some ⟨g, 0, none⟩) bs.length cap ∧ base ≤ g ∧ w.heap[g]? = some (.cells cur 5 (0, 0)) ∧ bs.length ≤ cap ∧ cap ≤ maxLen ∧ cur.size = cap * 1 ∧ cur.toList.take (bs.length * 1) = Lib.byteCells bs := by
      rcases h4.2 with ⟨_, hz⟩ | ⟨g, cap, cur, hv, r⟩
      · exact absurd hz hl0
      · exact ⟨g, cap, cur, hv, r⟩
    have c1 : w.drew.cell? ⟨p, 1, none⟩ = some (.slice (some ⟨g, 0, none⟩) bs.length cap) := cell_of_row _ _ 1 _ _ _ h3
    have hSD : (Builtin.unsafeSliceData_ #[51] 97 #[.slice (some ⟨g, 0, none⟩) bs.length cap]).run Tryd.prog w.drew = .ok (.pointer (some ⟨g, 0, none⟩)) w.drew :=
      Lib.run_unsafeSliceData_row _ _ _ _ _ _ (by omega)
    have hUS : (Builtin.unsafeString_ #[97, 3] 9 #[.pointer (some ⟨g, 0, none⟩), .int .i64 bs.length]).run Tryd.prog w.drew = .ok (.string (mkB bs)) (w.drew.freeze ⟨g, 0, none⟩ bs.length) := by
      refine Lib.run_unsafeString_row w.drew 97 3 9 5 Tryd.underlying97 (by kernel_rfl) g cur.size (by have hg' : w.drew.heap[g]? = some (.cells cur 5 (0, 0)) := hg; simp [World.shape?, hg']) bs h0 (by omega) (by unfold maxLen at hcm; omega) ?_
      intro j x hx
      exact h4.cells (g := g) rfl j (.int .u8 x.toNat) (by simp [Lib.byteCells, hx])
    clear h4 h5 h3 h2 htake hcs hcm hnc hg hl0
    have mixed : Tryd.prog.follows Departure.mixedOrders = true := by kernel_rfl
    go_enter Tryd.func22, Tryd.ntmps22
    go_wp2
    go_region_o
    all_goals (go_wp2; go_ret; exact ⟨rfl, Lib.below_freeze (Below.drew (Below.refl base w)) (p := ⟨g, 0, none⟩) hbg _⟩)
end Go.Proofs.YtidhplpidkgkdaaDoor
