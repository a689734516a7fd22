import Derived.StillTailTactics
import Derived.Deep.RegionLaw
import Derived.BigRegion
import Derived.Deep.QuietTactic
import Derived.BigQuiet
import Derived.Maps.OwnOps
import Derived.Maps.OwnSet
import Derived.Test.YtonnhechjbdenaaGreatDoorBn21
import Derived.Test.YtonnhechjbdenaaGreatDoorBn2
import Derived.Test.YtonnhechjbdenaaGreatDoorBn7
import Derived.Test.YtonnhechjbdenaaGreatDoorBn22
import Derived.Test.YtonnhechjbdenaaGreatDoorBn9
import Derived.Test.YtonnhechjbdenaaGreatDoorBn17
import Derived.Test.YtonnhechjbdenaaGreatDoorBn18
set_option linter.unusedVariables false
set_option linter.unusedSimpArgs false
namespace Go.Proofs.YtonnhechjbdenaaGreatDoor
open Go.RowKit

/-! emit.Check -/
/-- The error of a number (0: none). -/
def mE (E : Nat → Addr) (n : Nat) : Value := if n = 0 then .nilIface else esV (E (n - 1))
theorem mE_zero (E : Nat → Addr) : mE E 0 = .nilIface := rfl
theorem mE_pos (E : Nat → Addr) {n : Nat} (h : n ≠ 0) : mE E n = esV (E (n - 1)) := by unfold mE; rw [if_neg h]
theorem mFault_is (E : Nat → Addr) (W : World) {z : Nat} (k : Int) (hz : z ≠ 0) (h10 : z ≤ 10) : ErrIs E (W.alloc (.cells #[.int .i64 k, esV (E (z - 1))] 83)) (ftV ⟨W.heap.size, 0, none⟩) z k :=
  .inr (.inr ⟨z - 1, W.heap.size, 0, by omega, rfl, cell_of_row _ _ 0 _ _ _ (heap_alloc_new W _), cell_of_row _ _ 1 _ _ _ (heap_alloc_new W _), by omega⟩)
def firstPF (n : Txt) : List PFn → Nat → Int
  | [], _ => -1
  | g :: gs, k => if g.name == n then (k : Int) else firstPF n gs (k + 1)
theorem firstPF_drop {n : Txt} {gs : List PFn} {k : Nat} (h : k < gs.length) : firstPF n (gs.drop k) k = if gs[k].name == n then (k : Int) else firstPF n (gs.drop (k + 1)) (k + 1) := by
  rw [List.drop_eq_getElem_cons h, firstPF]
theorem firstPF_any (n : Txt) : ∀ (gs : List PFn) (k : Nat), decide (firstPF n gs k ≥ 0) = gs.any fun g => g.name == n := by
  intro gs
  induction gs with
  | nil => intro k; simp [firstPF]
  | cons g gs ih =>
    intro k
    unfold firstPF
    rw [List.any_cons]
    cases h : (g.name == n)
    · rw [if_neg (by simp), ih]; simp
    · simp

theorem efun_one (g : PFn) (q : Nat) (n : Txt) (w : World) (h : w.cell? ⟨q, 0, none⟩ = some (.string (mkB n))) :
    Calls Tryz.prog 64 #[.agg #[.string (mkB g.name), .int .i64 g.params, .int .i64 g.slots, .int .i64 g.entry], .pointer (some ⟨q, 0, none⟩)] w (Ret (.bool (g.name == n)) w) := by
  have h1 : (w.alloc (.cells #[.string (mkB g.name), .int .i64 g.params, .int .i64 g.slots, .int .i64 g.entry] 52)).cell? ⟨q, 0, none⟩ = some (.string (mkB n)) := Keeps.alloc _ _ _ _ h
  have HE : Hid (((mkB g.name).toList == (mkB n).toList) = (g.name == n)) := show _ = _ by rw [mkB_toList, mkB_toList]
  clear h
  go_enter Tryz.func64, Tryz.ntmps64
  go_wp2_with fail
  go_ret
  exact ⟨by rw [← HE.out]; rfl, grow_alloc (grow_refl _) _⟩
set_option maxRecDepth 100000 in
theorem efun_idx (n : Txt) (gs : List PFn) (hl : gs.length ≤ 1000) (q : Nat) (A : Option Addr) (c : Nat) (w : World) (hr : Row w A (gs.flatMap fnL)) (h : w.cell? ⟨q, 0, none⟩ = some (.string (mkB n))) :
    Calls Tryz.prog 85 #[.slice A gs.length c, .func (.func 64) #[] #[.pointer (some ⟨q, 0, none⟩)]] w (Ret (.int .i64 (firstPF n gs 0)) w) := by
  have HR := Lib.hid hr
  have HQ := Lib.hid h
  clear hr h
  go_enter Tryz.func85, Tryz.ntmps85
  go_wp2_with fail
  go_loopw [5, 8] (fun _ i wr => ∃ k : Nat, k ≤ gs.length ∧ i = .int .i64 k ∧ firstPF n gs 0 = firstPF n (gs.drop k) k ∧ Below w.heap.size w wr) (fun _ i _ => gs.length - (intOf i).toNat)
  case atStart => exact ⟨0, Nat.zero_le _, rfl, by simp, grow_refl _⟩
  case round =>
    obtain ⟨k, hk, rfl, hI, hbel⟩ := hrel
    have HI := Lib.hid hI
    clear hI
    by_cases hlt : k < gs.length
    · obtain ⟨b, off, rfl, c0, c1, c2, c3⟩ := fn_cells (HR.out.keep (Keeps.of_below hbel)) hlt
      have hlt' : (k : Int) < (gs.length : Int) := by omega
      have HS := Lib.hid (firstPF_drop (n := n) hlt)
      have h1 := efun_one gs[k] q n wr (Keeps.of_below hbel _ _ HQ.out)
      have HN := Lib.hid h1
      clear h1
      cases hn : (gs[k].name == n)
      · rw [hn] at HN HS
        have HF : Hid (firstPF n gs 0 = firstPF n (gs.drop (k + 1)) (k + 1)) := show _ = _ from HI.out.trans HS.out
        clear hn
        go_wp2_with (go_at_call 64; (with_reducible refine HN.out.mono ?_); rintro y w1 ⟨rfl, hb1⟩)
        go_roundw
        case rel => exact ⟨k + 1, by omega, by go_num, HF.out, grow_trans hbel hb1⟩
        case measure => simp [intOf]; omega
      · rw [hn] at HN HS
        have HF : Hid (firstPF n gs 0 = (k : Int)) := show _ = _ from HI.out.trans HS.out
        clear hn
        go_wp2_with (go_at_call 64; (with_reducible refine HN.out.mono ?_); rintro y w1 ⟨rfl, hb1⟩)
        go_ret
        exact ⟨by rw [HF.out]; rfl, grow_trans hbel hb1⟩
    · have hk' : k = gs.length := by omega
      subst hk'
      go_wp2_with fail
      go_ret
      exact ⟨by rw [HI.out, List.drop_length]; rfl, hbel⟩

set_option maxRecDepth 100000 in
theorem eany (n : Txt) (gs : List PFn) (hl : gs.length ≤ 1000) (q : Nat) (A : Option Addr) (c : Nat) (w : World) (hr : Row w A (gs.flatMap fnL)) (h : w.cell? ⟨q, 0, none⟩ = some (.string (mkB n))) :
    Calls Tryz.prog 63 #[.slice A gs.length c, .func (.func 64) #[] #[.pointer (some ⟨q, 0, none⟩)]] w (Ret (.bool (gs.any fun g => g.name == n)) w) := by
  have HI := Lib.hid (efun_idx n gs hl q A c w hr h)
  have HB := Lib.hid (firstPF_any n gs 0)
  clear hr h
  go_enter Tryz.func63, Tryz.ntmps63
  go_wp2_with (go_at_call 85; (with_reducible refine HI.out.mono ?_); rintro y w1 ⟨rfl, hb1⟩)
  go_ret
  exact ⟨by rw [← HB.out]; rfl, hb1⟩
theorem fns_take {w : World} {A : Option Addr} {l : List PFn} (h : Row w A (l.flatMap fnL)) (k : Nat) : Row w A ((l.take k).flatMap fnL) := fun j u hj => h j u (by
  have hl : j < ((l.take k).flatMap fnL).length := (List.getElem?_eq_some_iff.1 hj).1
  have e : l.flatMap fnL = (l.take k).flatMap fnL ++ (l.drop k).flatMap fnL := by rw [← List.flatMap_append, List.take_append_drop]
  rw [e, List.getElem?_append_left hl]
  exact hj)
theorem row2m {w : World} {T : TypeId} {fz : Nat × Nat} {v0 v1 : Value} {q : Nat} (hrow : w.heap[q]? = some (.cells #[v0, v1] T fz)) : w.cell? ⟨q, 0, none⟩ = some v0 ∧ w.cell? ⟨q, 1, none⟩ = some v1 :=
  ⟨cell_of_row _ _ 0 _ _ _ hrow, cell_of_row _ _ 1 _ _ _ hrow⟩
theorem row4e {w : World} {T : TypeId} {fz : Nat × Nat} {v0 v1 v2 v3 : Value} {q : Nat} (hrow : w.heap[q]? = some (.cells #[v0, v1, v2, v3] T fz)) :
    w.cell? ⟨q, 0, none⟩ = some v0 ∧ w.cell? ⟨q, 1, none⟩ = some v1 ∧ w.cell? ⟨q, 2, none⟩ = some v2 ∧ w.cell? ⟨q, 3, none⟩ = some v3 :=
  ⟨cell_of_row _ _ 0 _ _ _ hrow, cell_of_row _ _ 1 _ _ _ hrow, cell_of_row _ _ 2 _ _ _ hrow, cell_of_row _ _ 3 _ _ _ hrow⟩
theorem fnC_name {nw : Nat} {l : List PFn} {f : PFn} (h : fnameB l f = true) : fnC nw l f = 5 := by unfold fnC; rw [if_pos h]
theorem fnC_args {nw : Nat} {l : List PFn} {f : PFn} (h : fnameB l f = false) (h1 : f.params < 0 ∨ 4 < f.params) : fnC nw l f = 9 := by unfold fnC; rw [if_neg (by rw [h]; decide), if_pos h1]
theorem fnC_bound {nw : Nat} {l : List PFn} {f : PFn} (h : fnameB l f = false) (h1 : ¬ (f.params < 0 ∨ 4 < f.params)) (h2 : f.slots < 0 ∨ 1000 < f.slots ∨ f.entry < 0 ∨ (nw : Int) ≤ f.entry) : fnC nw l f = 2 := by unfold fnC; rw [if_neg (by rw [h]; decide), if_neg h1, if_pos h2]
theorem fnC_fine {nw : Nat} {l : List PFn} {f : PFn} (h : fnameB l f = false) (h1 : ¬ (f.params < 0 ∨ 4 < f.params)) (h2 : ¬ (f.slots < 0 ∨ 1000 < f.slots ∨ f.entry < 0 ∨ (nw : Int) ≤ f.entry)) : fnC nw l f = 0 := by unfold fnC; rw [if_neg (by rw [h]; decide), if_neg h1, if_neg h2]
theorem empty_mkB2 (n : Txt) : ((mkB n).toList == []) = n.isEmpty := by rw [mkB_toList]; cases n <;> rfl
set_option maxHeartbeats 4000000 in
set_option maxRecDepth 100000 in
theorem efun_any (E : Nat → Addr) (m : PImg) (h12 : m.funs.length ≤ 100) (A B : Option Addr) (cf cw : Nat) (hcf : m.funs.length ≤ cf) (k : Nat) (hk : k < m.funs.length) (w : World) (hE : Laid7 E w) (hA : Row w A (m.funs.flatMap fnL)) :
    Calls Tryz.prog 36 #[.agg #[.slice A m.funs.length cf, .slice B m.words.length cw], .int .i64 k] w (Ret (mE E (fnC m.words.length (m.funs.take k) m.funs[k])) w) := by
  obtain ⟨b, off, rfl, f0, f1, f2, f3⟩ := fn_cells hA hk
  obtain ⟨f, hf⟩ : ∃ f, m.funs[k] = f := ⟨_, rfl⟩
  rw [hf] at f0 f1 f2 f3
  rw [hf]
  have f0 := Keeps.alloc w (.cells #[.slice (some ⟨b, off, none⟩) m.funs.length cf, .slice B m.words.length cw] 37) _ _ f0
  have f1 := Keeps.alloc w (.cells #[.slice (some ⟨b, off, none⟩) m.funs.length cf, .slice B m.words.length cw] 37) _ _ f1
  have f2 := Keeps.alloc w (.cells #[.slice (some ⟨b, off, none⟩) m.funs.length cf, .slice B m.words.length cw] 37) _ _ f2
  have f3 := Keeps.alloc w (.cells #[.slice (some ⟨b, off, none⟩) m.funs.length cf, .slice B m.words.length cw] 37) _ _ f3
  have hk0 : (0 : Int) ≤ k := by omega
  have hk1 : (k : Int) < (m.funs.length : Int) := by omega
  have hkc : (k : Int) ≤ (cf : Int) := by omega
  have hkn : ((k : Int)).toNat = k := by omega
  obtain ⟨w2, hw2⟩ : ∃ w2, (w.alloc (.cells #[.slice (some ⟨b, off, none⟩) m.funs.length cf, .slice B m.words.length cw] 37)).alloc (.cells #[.string (mkB f.name), .int .i64 f.params, .int .i64 f.slots, .int .i64 f.entry] 52) = w2 := ⟨_, rfl⟩
  have hb2 : Below w.heap.size w w2 := by rw [← hw2]; exact grow_alloc (grow_alloc (grow_refl _) _) _
  have hm2 : w2.heap[w.heap.size]? = some (.cells #[.slice (some ⟨b, off, none⟩) m.funs.length cf, .slice B m.words.length cw] 37 (0, 0)) := by rw [← hw2]; exact (old_block _ _ (by simp)).trans (heap_alloc_new w _)
  have hf2 : w2.heap[w.heap.size + 1]? = some (.cells #[.string (mkB f.name), .int .i64 f.params, .int .i64 f.slots, .int .i64 f.entry] 52 (0, 0)) := by rw [← hw2]; exact new_block _ _ (by simp)
  have HX : Hid (∀ w', Below w2.heap.size w2 w' → (w'.cell? ⟨w.heap.size, 0, none⟩ = some (.slice (some ⟨b, off, none⟩) m.funs.length cf) ∧ w'.cell? ⟨w.heap.size, 1, none⟩ = some (.slice B m.words.length cw)) ∧ (w'.cell? ⟨w.heap.size + 1, 0, none⟩ = some (.string (mkB f.name)) ∧ w'.cell? ⟨w.heap.size + 1, 1, none⟩ = some (.int .i64 f.params) ∧ w'.cell? ⟨w.heap.size + 1, 2, none⟩ = some (.int .i64 f.slots) ∧ w'.cell? ⟨w.heap.size + 1, 3, none⟩ = some (.int .i64 f.entry)) ∧ (w'.cell? ⟨2, 0, none⟩ = some (esV (E 4)) ∧ w'.cell? ⟨4, 0, none⟩ = some (esV (E 8)) ∧ w'.cell? ⟨7, 0, none⟩ = some (esV (E 1)))) := fun w' hb =>
    ⟨row2m ((hb.block _ (Array.getElem?_eq_some_iff.1 hm2).1).trans hm2), row4e ((hb.block _ (Array.getElem?_eq_some_iff.1 hf2).1).trans hf2), (hE.keep (grow_trans hb2 hb)).c4, (hE.keep (grow_trans hb2 hb)).c8, (hE.keep (grow_trans hb2 hb)).c1⟩
  have HC : Hid (Calls Tryz.prog 63 #[.slice (some ⟨b, off, none⟩) k cf, .func (.func 64) #[] #[.pointer (some ⟨w.heap.size + 1, 0, none⟩)]] w2 (Ret (.bool ((m.funs.take k).any fun g => g.name == f.name)) w2)) := by
    have := eany f.name (m.funs.take k) (by rw [List.length_take]; omega) (w.heap.size + 1) (some ⟨b, off, none⟩) cf w2 (fns_take (hA.keep (Keeps.of_below hb2)) k) (row4e hf2).1
    rwa [List.length_take, Nat.min_eq_left (by omega)] at this
  obtain ⟨⟨i0, i1⟩, ⟨g0, g1, g2, g3⟩, x4, x8, x1⟩ := HX.out w2 (grow_refl _)
  have HB2 := Lib.hid hb2
  have HW2 := Lib.hid hw2
  obtain ⟨nm, hnm⟩ : ∃ nm, fnameB (m.funs.take k) f = nm := ⟨_, rfl⟩
  clear hA hE hf hk h12 hcf hm2 hf2 hb2 hw2
  go_enter Tryz.func36, Tryz.ntmps36
  go_upto_region 2 with fail
  change Code.wp _ _ _ _ ((w.alloc (.cells #[.slice (some ⟨b, off, none⟩) m.funs.length cf, .slice B m.words.length cw] 37)).alloc (.cells #[.string (mkB f.name), .int .i64 f.params, .int .i64 f.slots, .int .i64 f.entry] 52))
  rw [HW2.out]
  cases hem : ((mkB f.name).toList == [])
  · have hem' : f.name.isEmpty = false := by rw [← empty_mkB2]; exact hem
    cases hdup : (m.funs.take k).any fun g => g.name == f.name
    · have hfb : fnameB (m.funs.take k) f = false := by unfold fnameB; rw [hem', hdup]; rfl
      rw [hdup] at HC
      clear hdup hem' hnm f0 f1 f2 f3
      by_cases hp : f.params < 0 ∨ 4 < f.params
      · have HF := Lib.hid (fnC_args (nw := m.words.length) hfb hp)
        clear hfb
        by_cases hp1 : f.params < 0
        · clear hp
          go_wp2_with (go_at_call 63; (with_reducible refine HC.out.mono ?_); rintro y w3 ⟨rfl, hb3⟩; obtain ⟨⟨i0, i1⟩, ⟨g0, g1, g2, g3⟩, x4, x8, x1⟩ := HX.out w3 hb3)
          go_ret
          exact ⟨by rw [HF.out]; rfl, grow_trans HB2.out hb3⟩
        · have hp2 : 4 < f.params := by omega
          clear hp
          go_wp2_with (go_at_call 63; (with_reducible refine HC.out.mono ?_); rintro y w3 ⟨rfl, hb3⟩; obtain ⟨⟨i0, i1⟩, ⟨g0, g1, g2, g3⟩, x4, x8, x1⟩ := HX.out w3 hb3)
          go_ret
          exact ⟨by rw [HF.out]; rfl, grow_trans HB2.out hb3⟩
      · have hp1 : ¬ f.params < 0 := fun h => hp (.inl h)
        have hp2 : ¬ 4 < f.params := fun h => hp (.inr h)
        by_cases hs : f.slots < 0 ∨ 1000 < f.slots ∨ f.entry < 0 ∨ (m.words.length : Int) ≤ f.entry
        · have HF := Lib.hid (fnC_bound hfb hp hs)
          clear hfb hp
          by_cases hs1 : f.slots < 0
          · clear hs
            go_wp2_with (go_at_call 63; (with_reducible refine HC.out.mono ?_); rintro y w3 ⟨rfl, hb3⟩; obtain ⟨⟨i0, i1⟩, ⟨g0, g1, g2, g3⟩, x4, x8, x1⟩ := HX.out w3 hb3)
            go_ret
            exact ⟨by rw [HF.out]; rfl, grow_trans HB2.out hb3⟩
          · by_cases hs2 : 1000 < f.slots
            · clear hs
              go_wp2_with (go_at_call 63; (with_reducible refine HC.out.mono ?_); rintro y w3 ⟨rfl, hb3⟩; obtain ⟨⟨i0, i1⟩, ⟨g0, g1, g2, g3⟩, x4, x8, x1⟩ := HX.out w3 hb3)
              go_ret
              exact ⟨by rw [HF.out]; rfl, grow_trans HB2.out hb3⟩
            · by_cases hs3 : f.entry < 0
              · clear hs
                go_wp2_with (go_at_call 63; (with_reducible refine HC.out.mono ?_); rintro y w3 ⟨rfl, hb3⟩; obtain ⟨⟨i0, i1⟩, ⟨g0, g1, g2, g3⟩, x4, x8, x1⟩ := HX.out w3 hb3)
                go_ret
                exact ⟨by rw [HF.out]; rfl, grow_trans HB2.out hb3⟩
              · have hs4 : (m.words.length : Int) ≤ f.entry := by omega
                clear hs
                go_wp2_with (go_at_call 63; (with_reducible refine HC.out.mono ?_); rintro y w3 ⟨rfl, hb3⟩; obtain ⟨⟨i0, i1⟩, ⟨g0, g1, g2, g3⟩, x4, x8, x1⟩ := HX.out w3 hb3)
                go_ret
                exact ⟨by rw [HF.out]; rfl, grow_trans HB2.out hb3⟩
        · have HF := Lib.hid (fnC_fine hfb hp hs)
          have hs1 : ¬ f.slots < 0 := fun h => hs (.inl h)
          have hs2 : ¬ 1000 < f.slots := fun h => hs (.inr (.inl h))
          have hs3 : ¬ f.entry < 0 := fun h => hs (.inr (.inr (.inl h)))
          have hs4 : ¬ (m.words.length : Int) ≤ f.entry := fun h => hs (.inr (.inr (.inr h)))
          clear hs hfb hp
          go_wp2_with (go_at_call 63; (with_reducible refine HC.out.mono ?_); rintro y w3 ⟨rfl, hb3⟩; obtain ⟨⟨i0, i1⟩, ⟨g0, g1, g2, g3⟩, x4, x8, x1⟩ := HX.out w3 hb3)
          go_ret
          exact ⟨by rw [HF.out]; rfl, grow_trans HB2.out hb3⟩
    · have HF := Lib.hid (fnC_name (nw := m.words.length) (show fnameB (m.funs.take k) f = true by unfold fnameB; rw [hdup]; simp))
      rw [hdup] at HC
      clear hdup hem' hnm f0 f1 f2 f3
      go_wp2_with (go_at_call 63; (with_reducible refine HC.out.mono ?_); rintro y w3 ⟨rfl, hb3⟩; obtain ⟨⟨i0, i1⟩, ⟨g0, g1, g2, g3⟩, x4, x8, x1⟩ := HX.out w3 hb3)
      go_ret
      exact ⟨by rw [HF.out]; rfl, grow_trans HB2.out hb3⟩
  · have hem' : f.name.isEmpty = true := by rw [← empty_mkB2]; exact hem
    have HF := Lib.hid (fnC_name (nw := m.words.length) (show fnameB (m.funs.take k) f = true by unfold fnameB; rw [hem']; rfl))
    clear hem' hnm f0 f1 f2 f3
    go_wp2_with fail
    go_ret
    exact ⟨by rw [HF.out]; rfl, HB2.out⟩
end Go.Proofs.YtonnhechjbdenaaGreatDoor

namespace Go.Proofs.YtonnhechjbdenaaGreatDoor
open Go.RowKit

/-! emit.Check: a word -/
def litF (nw nf : Nat) : List UInt8 → Option Value := putF (putF (putF (putF (putF (putF (putF (fun _ => none) [106, 117, 109, 112] (.int .i64 nw)) [105, 102] (.int .i64 nw)) [99, 97, 108, 108] (.int .i64 nf)) [108, 111, 97, 100] (.int .i64 1000)) [115, 116, 111, 114, 101] (.int .i64 1000)) [112, 97, 114, 97, 109] (.int .i64 4)) [97, 114, 103] (.int .i64 4)
theorem litF_eq (nw nf : Nat) (op : Txt) : litF nw nf op = if 0 ≤ mostW nw nf op then some (.int .i64 (mostW nw nf op)) else none := by
  by_cases h1 : op = jumpT
  · subst h1; simp [litF, putF, mostW, jumpT]
  by_cases h2 : op = ifT
  · subst h2; simp [litF, putF, mostW, jumpT, ifT]
  by_cases h3 : op = callT
  · subst h3; simp [litF, putF, mostW, jumpT, ifT, callT]
  by_cases h4 : op = loadT
  · subst h4; simp [litF, putF, mostW, jumpT, ifT, callT, loadT]
  by_cases h5 : op = storeT
  · subst h5; simp [litF, putF, mostW, jumpT, ifT, callT, loadT, storeT]
  by_cases h6 : op = paramT
  · subst h6; simp [litF, putF, mostW, jumpT, ifT, callT, loadT, storeT, paramT]
  by_cases h7 : op = argT
  · subst h7; simp [litF, putF, mostW, jumpT, ifT, callT, loadT, storeT, paramT, argT]
  have e : mostW nw nf op = -1 := by unfold mostW; simp [h1, h2, h3, h4, h5, h6, h7]
  rw [e]
  unfold jumpT at h1; unfold ifT at h2; unfold callT at h3; unfold loadT at h4; unfold storeT at h5; unfold paramT at h6; unfold argT at h7
  simp [litF, putF, h1, h2, h3, h4, h5, h6, h7]
theorem mE_errV (E : Nat → Addr) (n : Nat) (h : n = 0 ∨ n = 2 ∨ n = 3 ∨ n = 4) : errV (E 1) (E 2) (E 3) n = mE E n := by
  rcases h with rfl | rfl | rfl | rfl <;> rfl
theorem row5e {w : World} {T : TypeId} {fz : Nat × Nat} {v0 v1 v2 v3 v4 : Value} {q : Nat} (hrow : w.heap[q]? = some (.cells #[v0, v1, v2, v3, v4] T fz)) :
    w.cell? ⟨q, 0, none⟩ = some v0 ∧ w.cell? ⟨q, 1, none⟩ = some v1 ∧ w.cell? ⟨q, 2, none⟩ = some v2 ∧ w.cell? ⟨q, 3, none⟩ = some v3 ∧ w.cell? ⟨q, 4, none⟩ = some v4 :=
  ⟨cell_of_row _ _ 0 _ _ _ hrow, cell_of_row _ _ 1 _ _ _ hrow, cell_of_row _ _ 2 _ _ _ hrow, cell_of_row _ _ 3 _ _ _ hrow, cell_of_row _ _ 4 _ _ _ hrow⟩
theorem errW_op {v : Int} (h : errW v = 0) : (insP v).op.length ≤ 20 := by
  unfold errW at h
  split at h
  · cases h
  · rename_i h1
    have : (insP v).op = nameOf ((v / 72057594037927936).toNat - 1) := rfl
    rw [this]
    have hk : (v / 72057594037927936).toNat - 1 < 29 := by omega
    generalize (v / 72057594037927936).toNat - 1 = k at hk
    have : ∀ j, j < 29 → (nameOf j).length ≤ 20 := by decide
    exact this k hk
set_option maxHeartbeats 4000000 in
set_option maxRecDepth 100000 in
theorem eword_any (E : Nat → Addr) (nf nw : Nat) (A B : Option Addr) (cf cw : Nat) (v : Int) (h0 : 0 ≤ v) (h1 : v < 18446744073709551616) (w : World) (hE : Laid7 E w) :
    Calls Tryz.prog 37 #[.agg #[.slice A nf cf, .slice B nw cw], .int .u64 v] w (Ret (mE E (wordC nw nf v)) w) := by
  obtain ⟨wA, hwA⟩ : ∃ wA, w.alloc (.cells #[.slice A nf cf, .slice B nw cw] 37) = wA := ⟨_, rfl⟩
  have hbA : Below w.heap.size w wA := by rw [← hwA]; exact grow_alloc (grow_refl _) _
  have hmA : wA.heap[w.heap.size]? = some (.cells #[.slice A nf cf, .slice B nw cw] 37 (0, 0)) := by rw [← hwA]; exact heap_alloc_new w _
  have hEA := hE.keep hbA
  have HD : Hid (Calls Tryz.prog 38 #[.int .u64 v] wA (Ret (.tuple #[if errW v = 0 then insV (insP v) else noIns, mE E (errW v)]) wA)) := by
    have := Decode_any v h0 h1 (E 1) (E 2) (E 3) wA hEA.c1 hEA.c2 hEA.c3
    unfold decV at this
    rw [mE_errV E _ (errW_cases v)] at this
    exact this
  have HBA := Lib.hid hbA
  have HMA := Lib.hid hmA
  have HWA := Lib.hid hwA
  have HEE : Hid (∀ w', Below wA.heap.size wA w' → Laid7 E w') := fun w' hb => hEA.keep hb
  have hlA : w.heap.size < wA.heap.size := (Array.getElem?_eq_some_iff.1 hmA).1
  clear hE hEA hbA hmA hwA
  by_cases he : errW v = 0
  · have HOP := Lib.hid (errW_op he)
    obtain ⟨i, hi⟩ : ∃ i, insP v = i := ⟨_, rfl⟩
    have HWC : Hid (wordC nw nf v = if farW nw nf i then 2 else 0) := by
      show wordC nw nf v = _
      unfold wordC; rw [if_neg (by simpa using he), hi]
    rw [hi] at HD HOP
    rw [if_pos he, he, mE_zero] at HD
    unfold insV at HD
    clear he hi
    go_enter Tryz.func37, Tryz.ntmps37
    go_upto_region 1 with fail
    change Code.wp _ _ _ _ (w.alloc (.cells #[.slice A nf cf, .slice B nw cw] 37))
    rw [HWA.out]
    go_upto_region 4 with (go_at_call 38; (with_reducible refine HD.out.mono ?_); rintro y w1 ⟨rfl, hb1⟩)
    obtain ⟨wS, hwS⟩ : ∃ wS, w1.alloc (.cells #[.string (mkB i.op), .int .i64 i.d, .int .i64 i.a, .int .i64 i.b, .int .i64 i.imm] 90) = wS := ⟨_, rfl⟩
    have hbS : Below wA.heap.size wA wS := by rw [← hwS]; exact grow_alloc hb1 _
    have hnS : wS.heap[w1.heap.size]? = some (.cells #[.string (mkB i.op), .int .i64 i.d, .int .i64 i.a, .int .i64 i.b, .int .i64 i.imm] 90 (0, 0)) := by rw [← hwS]; exact heap_alloc_new w1 _
    have hmS := (hbS.block _ hlA).trans HMA.out
    obtain ⟨q, hq⟩ : ∃ q, w1.heap.size = q := ⟨_, rfl⟩
    rw [hq] at hnS
    rw [hwS, hq]
    have hmap : MapAt (wS.alloc (.map #[] 0)) wS.heap.size 0 fun _ => none := MapAt.made wS
    have HX : Hid (∀ w', Below wS.heap.size wS w' → (w'.cell? ⟨w.heap.size, 0, none⟩ = some (.slice A nf cf) ∧ w'.cell? ⟨w.heap.size, 1, none⟩ = some (.slice B nw cw)) ∧ (w'.cell? ⟨q, 0, none⟩ = some (.string (mkB i.op)) ∧ w'.cell? ⟨q, 1, none⟩ = some (.int .i64 i.d) ∧ w'.cell? ⟨q, 2, none⟩ = some (.int .i64 i.a) ∧ w'.cell? ⟨q, 3, none⟩ = some (.int .i64 i.b) ∧ w'.cell? ⟨q, 4, none⟩ = some (.int .i64 i.imm)) ∧ w'.cell? ⟨7, 0, none⟩ = some (esV (E 1))) := fun w' hb =>
      ⟨row2m ((hb.block _ (Array.getElem?_eq_some_iff.1 hmS).1).trans hmS), row5e ((hb.block _ (Array.getElem?_eq_some_iff.1 hnS).1).trans hnS), (HEE.out _ (grow_trans hbS hb)).c1⟩
    obtain ⟨⟨i0, i1⟩, -, -⟩ := HX.out _ (grow_alloc (grow_refl wS) (.map #[] 0))
    have hM := Lib.hid hmap
    have hW := Lib.hid (grow_alloc (grow_refl wS) (.map #[] 0))
    have hmm := @run_makeMap Tryz.prog
    have HBS := Lib.hid hbS
    clear hbS hnS hmS hq hmap hb1 hwS
    go_upto_region 5 with (first
      | (refine wpList_insert_map rfl (.tmp 18) _ _ _ rfl 3 Tryz.underlying145 _ _ _ hM.out (by decide) rfl [106, 117, 109, 112] (by decide) rfl (.int .i64 nw) rfl ?_; intro w5 hm5 hg5; have hb5 := Below.grown hW.out hg5 hW.out.size (fun q hq => by simp at hq; omega); obtain ⟨⟨i0, i1⟩, -, -⟩ := HX.out _ hb5; have hM := Lib.hid hm5; have hW := Lib.hid hb5; clear hm5 hg5 hb5)
      | (refine wpList_insert_map rfl (.tmp 18) _ _ _ rfl 3 Tryz.underlying145 _ _ _ hM.out (by decide) rfl [105, 102] (by decide) rfl (.int .i64 nw) rfl ?_; intro w5 hm5 hg5; have hb5 := Below.grown hW.out hg5 hW.out.size (fun q hq => by simp at hq; omega); obtain ⟨⟨i0, i1⟩, -, -⟩ := HX.out _ hb5; have hM := Lib.hid hm5; have hW := Lib.hid hb5; clear hm5 hg5 hb5)
      | (refine wpList_insert_map rfl (.tmp 18) _ _ _ rfl 3 Tryz.underlying145 _ _ _ hM.out (by decide) rfl [99, 97, 108, 108] (by decide) rfl (.int .i64 nf) rfl ?_; intro w5 hm5 hg5; have hb5 := Below.grown hW.out hg5 hW.out.size (fun q hq => by simp at hq; omega); obtain ⟨⟨i0, i1⟩, -, -⟩ := HX.out _ hb5; have hM := Lib.hid hm5; have hW := Lib.hid hb5; clear hm5 hg5 hb5)
      | (refine wpList_insert_map rfl (.tmp 18) _ _ _ rfl 3 Tryz.underlying145 _ _ _ hM.out (by decide) rfl [108, 111, 97, 100] (by decide) rfl (.int .i64 1000) rfl ?_; intro w5 hm5 hg5; have hb5 := Below.grown hW.out hg5 hW.out.size (fun q hq => by simp at hq; omega); obtain ⟨⟨i0, i1⟩, -, -⟩ := HX.out _ hb5; have hM := Lib.hid hm5; have hW := Lib.hid hb5; clear hm5 hg5 hb5)
      | (refine wpList_insert_map rfl (.tmp 18) _ _ _ rfl 3 Tryz.underlying145 _ _ _ hM.out (by decide) rfl [115, 116, 111, 114, 101] (by decide) rfl (.int .i64 1000) rfl ?_; intro w5 hm5 hg5; have hb5 := Below.grown hW.out hg5 hW.out.size (fun q hq => by simp at hq; omega); obtain ⟨⟨i0, i1⟩, -, -⟩ := HX.out _ hb5; have hM := Lib.hid hm5; have hW := Lib.hid hb5; clear hm5 hg5 hb5)
      | (refine wpList_insert_map rfl (.tmp 18) _ _ _ rfl 3 Tryz.underlying145 _ _ _ hM.out (by decide) rfl [112, 97, 114, 97, 109] (by decide) rfl (.int .i64 4) rfl ?_; intro w5 hm5 hg5; have hb5 := Below.grown hW.out hg5 hW.out.size (fun q hq => by simp at hq; omega); obtain ⟨⟨i0, i1⟩, -, -⟩ := HX.out _ hb5; have hM := Lib.hid hm5; have hW := Lib.hid hb5; clear hm5 hg5 hb5)
      | (refine wpList_insert_map rfl (.tmp 18) _ _ _ rfl 3 Tryz.underlying145 _ _ _ hM.out (by decide) rfl [97, 114, 103] (by decide) rfl (.int .i64 4) rfl ?_; intro w5 hm5 hg5; have hb5 := Below.grown hW.out hg5 hW.out.size (fun q hq => by simp at hq; omega); obtain ⟨⟨i0, i1⟩, -, -⟩ := HX.out _ hb5; have hM := Lib.hid hm5; have hW := Lib.hid hb5; clear hm5 hg5 hb5))
    have hw12 := hW.out
    have look := hM.out.look Tryz.underlying145 (zeroIntM _) i.op (by have := HOP.out; omega)
    have hlit : putF (putF (putF (putF (putF (putF (putF (fun _ => none) [106, 117, 109, 112] (.int .i64 nw)) [105, 102] (.int .i64 nw)) [99, 97, 108, 108] (.int .i64 nf)) [108, 111, 97, 100] (.int .i64 1000)) [115, 116, 111, 114, 101] (.int .i64 1000)) [112, 97, 114, 97, 109] (.int .i64 4)) [97, 114, 103] (.int .i64 4) i.op = if 0 ≤ mostW nw nf i.op then some (.int .i64 (mostW nw nf i.op)) else none := litF_eq nw nf i.op
    rw [hlit, show ({ data := i.op.toArray } : ByteArray) = mkB i.op from rfl] at look
    obtain ⟨⟨i0, i1⟩, ⟨e0, e1, e2, e3, e4⟩, x1⟩ := HX.out _ hw12
    have HBE := Lib.hid (grow_trans HBA.out (grow_trans HBS.out hw12))
    obtain ⟨mo, hmo⟩ : ∃ mo, mostW nw nf i.op = mo := ⟨_, rfl⟩
    rw [hmo] at look
    have HFR : Hid (farW nw nf i = (decide (0 ≤ mo) && (decide (i.imm < 0) || decide (mo ≤ i.imm)))) := show farW nw nf i = _ by unfold farW; rw [hmo]
    clear hlit hmo hw12 hM hW hmm
    by_cases hmo0 : 0 ≤ mo
    · rw [if_pos hmo0] at look
      simp only [Option.getD_some, Option.isSome_some] at look
      by_cases hi0 : i.imm < 0
      · have HZ : Hid (wordC nw nf v = 2) := show _ = _ by rw [HWC.out, HFR.out]; simp [hmo0, hi0]
        go_wp2_with fail
        go_ret
        exact ⟨by rw [HZ.out]; rfl, HBE.out⟩
      · by_cases hi1 : mo ≤ i.imm
        · have HZ : Hid (wordC nw nf v = 2) := show _ = _ by rw [HWC.out, HFR.out]; simp [hmo0, hi1]
          go_wp2_with fail
          go_ret
          exact ⟨by rw [HZ.out]; rfl, HBE.out⟩
        · have HZ : Hid (wordC nw nf v = 0) := show _ = _ by rw [HWC.out, HFR.out]; simp [hi0, hi1]
          go_wp2_with fail
          go_ret
          exact ⟨by rw [HZ.out]; rfl, HBE.out⟩
    · rw [if_neg hmo0] at look
      simp only [Option.getD_none, Option.isSome_none] at look
      have HZ : Hid (wordC nw nf v = 0) := show _ = _ by rw [HWC.out, HFR.out]; simp [hmo0]
      go_wp2_with fail
      go_ret
      exact ⟨by rw [HZ.out]; rfl, HBE.out⟩
  · have HWC : Hid (wordC nw nf v = errW v) := by
      show wordC nw nf v = _
      unfold wordC; rw [if_pos he]
    rw [if_neg he, mE_pos E he] at HD
    rw [← mE_pos E he] at HD
    have HN := Lib.hid (mE_pos E he)
    rw [HN.out] at HD
    unfold esV at HD
    unfold noIns at HD
    clear he
    go_enter Tryz.func37, Tryz.ntmps37
    go_upto_region 1 with fail
    change Code.wp _ _ _ _ (w.alloc (.cells #[.slice A nf cf, .slice B nw cw] 37))
    rw [HWA.out]
    go_wp2_with (go_at_call 38; (with_reducible refine HD.out.mono ?_); rintro y w1 ⟨rfl, hb1⟩)
    go_ret
    exact ⟨by rw [HWC.out, HN.out]; rfl, grow_alloc (grow_trans HBA.out hb1) _⟩
end Go.Proofs.YtonnhechjbdenaaGreatDoor

namespace Go.Proofs.YtonnhechjbdenaaGreatDoor
open Go.RowKit

/-! emit.Check -/
theorem firstBad_step {c : Nat → Nat} {n k : Nat} (h : k < n) : firstBad c n (n - k) k = if c k ≠ 0 then (c k, (k : Int)) else firstBad c n (n - (k + 1)) (k + 1) := by
  rw [show n - k = (n - (k + 1)) + 1 by omega, firstBad]
theorem firstBad_end {c : Nat → Nat} {n : Nat} : firstBad c n (n - n) n = (0, -1) := by rw [Nat.sub_self]; rfl
def funCk (m : PImg) (k : Nat) : Nat := match m.funs[k]? with | some f => fnC m.words.length (m.funs.take k) f | none => 0
def wordCk (m : PImg) (k : Nat) : Nat := match m.words[k]? with | some v => wordC m.words.length m.funs.length v | none => 0
theorem funCk_at {m : PImg} {k : Nat} (h : k < m.funs.length) : funCk m k = fnC m.words.length (m.funs.take k) m.funs[k] := by unfold funCk; rw [List.getElem?_eq_getElem h]
theorem wordCk_at {m : PImg} {k : Nat} (h : k < m.words.length) : wordCk m k = wordC m.words.length m.funs.length m.words[k] := by unfold wordCk; rw [List.getElem?_eq_getElem h]
theorem fnC_le (nw : Nat) (l : List PFn) (f : PFn) : fnC nw l f ≤ 10 := by unfold fnC; repeat (first | omega | split)
theorem wordC_le (nw nf : Nat) (v : Int) : wordC nw nf v ≤ 10 := by
  unfold wordC
  have := errW_cases v
  repeat (first | omega | split)
def ImgPost (E : Nat → Addr) (m : PImg) (w : World) : Ending → World → Prop := fun e w' => ∃ v, e = .returned v ∧ ErrIs E w' v ((imgC m).1 : Nat) (imgC m).2 ∧ Below w.heap.size w w' ∧ (v = .nilIface ↔ (imgC m).1 = 0)
theorem img_done {E : Nat → Addr} {m : PImg} {w w' : World} {z : Nat} {at' : Int} {v : Value} {e : Ending} (h : imgC m = (z, at')) (he : e = .returned v) (h1 : ErrIs E w' v z at') (hb : Below w.heap.size w w') (hv : v = .nilIface ↔ z = 0) : ImgPost E m w e w' := by
  unfold ImgPost; rw [h]; exact ⟨v, he, h1, hb, hv⟩
set_option maxHeartbeats 4000000 in
set_option maxRecDepth 100000 in
theorem echeck_any (E : Nat → Addr) (m : PImg) (hnf : m.funs.length ≤ 100) (hnw : m.words.length ≤ 100000) (A B : Option Addr) (cf cw : Nat) (hcf : m.funs.length ≤ cf) (h64 : ∀ n ∈ m.words, 0 ≤ n ∧ n < 18446744073709551616) (w : World) (hE : Laid7 E w) (hA : Row w A (m.funs.flatMap fnL)) (hB : Row w B (u64Vs m.words)) :
    Calls Tryz.prog 18 #[.agg #[.slice A m.funs.length cf, .slice B m.words.length cw]] w (ImgPost E m w) := by
  obtain ⟨wA, hwA⟩ : ∃ wA, w.alloc (.cells #[.slice A m.funs.length cf, .slice B m.words.length cw] 37) = wA := ⟨_, rfl⟩
  have hbA : Below w.heap.size w wA := by rw [← hwA]; exact grow_alloc (grow_refl _) _
  have hmA : wA.heap[w.heap.size]? = some (.cells #[.slice A m.funs.length cf, .slice B m.words.length cw] 37 (0, 0)) := by rw [← hwA]; exact heap_alloc_new w _
  have hlA : w.heap.size < wA.heap.size := (Array.getElem?_eq_some_iff.1 hmA).1
  have HX : Hid (∀ w', Below wA.heap.size wA w' → (w'.cell? ⟨w.heap.size, 0, none⟩ = some (.slice A m.funs.length cf) ∧ w'.cell? ⟨w.heap.size, 1, none⟩ = some (.slice B m.words.length cw)) ∧ Laid7 E w' ∧ Row w' A (m.funs.flatMap fnL) ∧ Row w' B (u64Vs m.words) ∧ Below w.heap.size w w') := fun w' hb =>
    ⟨row2m ((hb.block _ hlA).trans hmA), (hE.keep hbA).keep hb, (hA.keep (Keeps.of_below hbA)).keep (Keeps.of_below hb), (hB.keep (Keeps.of_below hbA)).keep (Keeps.of_below hb), grow_trans hbA hb⟩
  have HWA := Lib.hid hwA
  obtain ⟨⟨i0, i1⟩, hLA, -, -, -⟩ := HX.out wA (grow_refl _)
  have g7 := hLA.c7
  have H64 := Lib.hid h64
  obtain ⟨Q, hQ⟩ : ∃ Q, ImgPost E m w = Q := ⟨_, rfl⟩
  have HQ := Lib.hid hQ
  rw [hQ]
  clear hA hB hE hbA hmA hwA hLA h64 hQ hlA
  by_cases hbig : 8 < m.funs.length ∨ 8000 < m.words.length
  · have HP : Hid (imgC m = (8, -1)) := show _ = _ by unfold imgC; rw [if_pos hbig]
    by_cases h1 : 8 < m.funs.length
    · have q1 : (8 : Int) < (m.funs.length : Int) := by omega
      clear hbig h1
      go_enter Tryz.func18, Tryz.ntmps18
      go_upto_region 1 with fail
      change Code.wp _ _ _ _ (w.alloc (.cells #[.slice A m.funs.length cf, .slice B m.words.length cw] 37))
      rw [HWA.out]
      go_wp2_with fail
      rw [← HQ.out]
      exact img_done HP.out rfl (.es (i := 7) (by omega)) (HX.out _ (grow_refl _)).2.2.2.2 (by simp)
    · have q1 : ¬ (8 : Int) < (m.funs.length : Int) := by omega
      have q2 : (8000 : Int) < (m.words.length : Int) := by omega
      clear hbig h1
      go_enter Tryz.func18, Tryz.ntmps18
      go_upto_region 1 with fail
      change Code.wp _ _ _ _ (w.alloc (.cells #[.slice A m.funs.length cf, .slice B m.words.length cw] 37))
      rw [HWA.out]
      go_wp2_with fail
      rw [← HQ.out]
      exact img_done HP.out rfl (.es (i := 7) (by omega)) (HX.out _ (grow_refl _)).2.2.2.2 (by simp)
  · have HP : Hid (imgC m = if (firstBad (funCk m) m.funs.length (m.funs.length - 0) 0).1 ≠ 0 then firstBad (funCk m) m.funs.length (m.funs.length - 0) 0 else firstBad (wordCk m) m.words.length (m.words.length - 0) 0) := show _ = _ by unfold imgC; rw [if_neg hbig]; rfl
    have q1 : ¬ (8 : Int) < (m.funs.length : Int) := by omega
    have q2 : ¬ (8000 : Int) < (m.words.length : Int) := by omega
    clear hbig
    go_enter Tryz.func18, Tryz.ntmps18
    go_upto_region 1 with fail
    change Code.wp _ _ _ _ (w.alloc (.cells #[.slice A m.funs.length cf, .slice B m.words.length cw] 37))
    rw [HWA.out]
    go_wp2_with fail
    go_loopw [3, 4, 22] (fun _ _ i wr => ∃ k : Nat, k ≤ m.funs.length ∧ i = .int .i64 k ∧ firstBad (funCk m) m.funs.length (m.funs.length - 0) 0 = firstBad (funCk m) m.funs.length (m.funs.length - k) k ∧ Below wA.heap.size wA wr) (fun _ _ i _ => m.funs.length - (intOf i).toNat)
    case atStart => exact ⟨0, Nat.zero_le _, rfl, rfl, grow_refl _⟩
    case round =>
      obtain ⟨k, hk, rfl, hI, hbel⟩ := hrel
      have HI := Lib.hid hI
      clear hI
      by_cases hlt : k < m.funs.length
      · obtain ⟨⟨i0, i1⟩, hLr, hAr, -, hbw⟩ := HX.out wr hbel
        have hlt' : (k : Int) < (m.funs.length : Int) := by omega
        have HN := Lib.hid (efun_any E m hnf A B cf cw hcf k hlt wr hLr hAr)
        have HS := Lib.hid (firstBad_step (c := funCk m) hlt)
        have hck := funCk_at hlt
        have hle := fnC_le m.words.length (m.funs.take k) m.funs[k]
        obtain ⟨z, hz⟩ : ∃ z, fnC m.words.length (m.funs.take k) m.funs[k] = z := ⟨_, rfl⟩
        rw [hz] at HN hck hle
        rw [hck] at HS
        have HBW := Lib.hid hbw
        clear hLr hAr hz hck hbw
        by_cases hz0 : z = 0
        · subst hz0
          have HF : Hid (firstBad (funCk m) m.funs.length (m.funs.length - 0) 0 = firstBad (funCk m) m.funs.length (m.funs.length - (k + 1)) (k + 1)) := show _ = _ by rw [HI.out, HS.out]; rfl
          rw [mE_zero] at HN
          go_wp2_with (go_at_call 36; (with_reducible refine HN.out.mono ?_); rintro y w1 ⟨rfl, hb1⟩)
          go_roundw
          case rel => exact ⟨k + 1, by omega, by go_num, HF.out, grow_trans hbel hb1⟩
          case measure => simp [intOf]; omega
        · have HF : Hid (imgC m = (z, (k : Int))) := show _ = _ by
            have e : firstBad (funCk m) m.funs.length (m.funs.length - 0) 0 = (z, (k : Int)) := by rw [HI.out, HS.out, if_pos hz0]
            rw [HP.out, e, if_pos hz0]
          rw [mE_pos E hz0] at HN
          have HZ0 := Lib.hid hz0
          have HLE := Lib.hid hle
          unfold esV at HN
          clear hz0 hle
          go_wp2_with (go_at_call 36; (with_reducible refine HN.out.mono ?_); rintro y w1 ⟨rfl, hb1⟩)
          rw [← HQ.out]
          exact img_done HF.out rfl (mFault_is E w1 k HZ0.out HLE.out) (grow_alloc (grow_trans HBW.out hb1) _) ⟨fun h => (by cases h), fun h => absurd h HZ0.out⟩
      · have hk' : k = m.funs.length := by omega
        subst hk'
        have HP2 : Hid (imgC m = firstBad (wordCk m) m.words.length (m.words.length - 0) 0) := show _ = _ by rw [HP.out, HI.out, firstBad_end]; rfl
        obtain ⟨⟨i0, i1⟩, -, -, -, -⟩ := HX.out wr hbel
        have HBR := Lib.hid hbel
        clear hbel hk hlt
        go_wp2_with fail
        go_loopw [5, 6, 7, 39] (fun _ _ _ i wr2 => ∃ k : Nat, k ≤ m.words.length ∧ i = .int .i64 k ∧ firstBad (wordCk m) m.words.length (m.words.length - 0) 0 = firstBad (wordCk m) m.words.length (m.words.length - k) k ∧ Below wr.heap.size wr wr2) (fun _ _ _ i _ => m.words.length - (intOf i).toNat)
        case atStart => exact ⟨0, Nat.zero_le _, rfl, rfl, grow_refl _⟩
        case round =>
          obtain ⟨k, hk, rfl, hI, hbel⟩ := hrel
          have HI := Lib.hid hI
          clear hI
          by_cases hlt : k < m.words.length
          · obtain ⟨⟨i0, i1⟩, hLr, -, hBr, hbw⟩ := HX.out wr (grow_trans HBR.out hbel)
            have hlt' : (k : Int) < (m.words.length : Int) := by omega
            obtain ⟨b, off, rfl, cw0⟩ := hBr k _ (u64_get hlt)
            have hv := H64.out m.words[k] (List.getElem_mem hlt)
            have HN := Lib.hid (eword_any E m.funs.length m.words.length A (some ⟨b, off, none⟩) cf cw m.words[k] hv.1 hv.2 wr hLr)
            have HS := Lib.hid (firstBad_step (c := wordCk m) hlt)
            have hck := wordCk_at hlt
            have hle := wordC_le m.words.length m.funs.length m.words[k]
            obtain ⟨z, hz⟩ : ∃ z, wordC m.words.length m.funs.length m.words[k] = z := ⟨_, rfl⟩
            rw [hz] at HN hck hle
            rw [hck] at HS
            have HBW := Lib.hid hbw
            clear hLr hBr hz hck hbw hv
            by_cases hz0 : z = 0
            · subst hz0
              have HF : Hid (firstBad (wordCk m) m.words.length (m.words.length - 0) 0 = firstBad (wordCk m) m.words.length (m.words.length - (k + 1)) (k + 1)) := show _ = _ by rw [HI.out, HS.out]; rfl
              rw [mE_zero] at HN
              go_wp2_with (go_at_call 37; (with_reducible refine HN.out.mono ?_); rintro y w1 ⟨rfl, hb1⟩)
              go_roundw
              case rel => exact ⟨k + 1, by omega, by go_num, HF.out, grow_trans hbel hb1⟩
              case measure => simp [intOf]; omega
            · have HF : Hid (imgC m = (z, (k : Int))) := show _ = _ by rw [HP2.out, HI.out, HS.out, if_pos hz0]
              rw [mE_pos E hz0] at HN
              have HZ0 := Lib.hid hz0
              have HLE := Lib.hid hle
              unfold esV at HN
              clear hz0 hle
              go_wp2_with (go_at_call 37; (with_reducible refine HN.out.mono ?_); rintro y w1 ⟨rfl, hb1⟩)
              rw [← HQ.out]
              exact img_done HF.out rfl (mFault_is E w1 k HZ0.out HLE.out) (grow_alloc (grow_trans HBW.out hb1) _) ⟨fun h => (by cases h), fun h => absurd h HZ0.out⟩
          · have hk' : k = m.words.length := by omega
            subst hk'
            have HP3 : Hid (imgC m = (0, -1)) := show _ = _ by rw [HP2.out, HI.out, firstBad_end]
            go_wp2_with fail
            rw [← HQ.out]
            exact img_done HP3.out rfl .nil_ (HX.out _ (grow_trans HBR.out hbel)).2.2.2.2 (by simp)
end Go.Proofs.YtonnhechjbdenaaGreatDoor
