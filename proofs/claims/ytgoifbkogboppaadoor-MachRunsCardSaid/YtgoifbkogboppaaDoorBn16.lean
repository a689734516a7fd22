import Derived.Test.YtgoifbkogboppaaDoorBn14
set_option linter.unusedVariables false
set_option linter.unusedSimpArgs false
namespace Go.Proofs.YtgoifbkogboppaaDoor
open Go.RowKit

/-! the machine: back -/
theorem own_cut {w : World} {base g n cap : Nat} {e : TypeId} {xs : List Value} (h : w.ownsRow base e 1 (.slice (some ⟨g, 0, none⟩) (n + 1) cap) (n + 1) xs) : w.ownsRow base e 1 (.slice (some ⟨g, 0, none⟩) n cap) n (xs.take n) := by
  have hl := h.1
  refine ⟨by rw [List.length_take]; omega, .inr ?_⟩
  rcases h.2 with ⟨q, _⟩ | ⟨g', cap', cur, q1, q2, q3, q4, q5, q6, q7⟩
  · cases q
  · injection q1 with q1 _ q8
    injection q1 with q1
    injection q1 with q1
    subst q1; subst q8
    refine ⟨g, cap, cur, rfl, q2, q3, by omega, q5, q6, ?_⟩
    rw [← q7, List.take_take]
    congr 1
    omega
theorem own_some {w : World} {base n : Nat} {e : TypeId} {u : Value} {xs : List Value} (h : w.ownsRow base e 1 u (n + 1) xs) : ∃ g cap, u = .slice (some ⟨g, 0, none⟩) (n + 1) cap ∧ n + 1 ≤ cap ∧ ∀ j z, xs[j]? = some z → w.cell? ⟨g, j, none⟩ = some z := by
  rcases h.2 with ⟨_, q⟩ | ⟨g, cap, cur, q1, q2, q3, q4, q5, q6, q7⟩
  · omega
  · refine ⟨g, cap, q1, q4, fun j z hj => ?_⟩
    rw [← q7, List.getElem?_take] at hj
    split at hj
    · rw [cell_of_row _ _ j _ _ _ q3, ← Array.getElem?_toList]; exact hj
    · cases hj
section
variable {m : PImg} {A : Option Addr} {cf : Nat} {B : Option Addr} {cw : Nat} {C : Value} {mb T : Nat} {s : PMs} {v u : Value} {ps : List (Nat × Nat)} {p : Nat × Nat} {cs : List PFr} {x y : PFr} {w w' : World}
theorem MaAt.pop {g cap : Nat} (h : MaAt m A cf B cw C mb T s v (.slice (some ⟨g, 0, none⟩) (cs.length + 1) cap) (ps ++ [p]) w) (hs : s.calls = cs ++ [x]) :
    MaAt m A cf B cw C mb T { s with calls := cs } v (.slice (some ⟨g, 0, none⟩) cs.length cap) ps (w.setCell ⟨mb, 8, none⟩ (.slice (some ⟨g, 0, none⟩) cs.length cap)) ∧ Below mb w (w.setCell ⟨mb, 8, none⟩ (.slice (some ⟨g, 0, none⟩) cs.length cap)) := by
  obtain ⟨n1, n2, n3, n4⟩ := h.mbne
  obtain ⟨ht, hl⟩ := h.top_at hs
  have hk : ∀ k, k ≠ mb → (w.setCell ⟨mb, 8, none⟩ (.slice (some ⟨g, 0, none⟩) cs.length cap)).heap[k]? = w.heap[k]? := fun k hk => Below.heap_setCell _ _ _ _ hk
  refine ⟨⟨row_set (j := 8) _ h.blk (by unfold maL; simp), fun i z hi => ?_, h.far, own_same h.code fun k q => hk k (fun e => n1 (by rw [q, e])), own_same h.out fun k q => hk k (fun e => n2 (by rw [q, e])), ?_, hl, fun k h1 h2 => ?_, ?_, ?_, fun q hq => h.ne q (by simp [hq]), h.ticks⟩, below_store _⟩
  · obtain ⟨b, off, e, hc⟩ := h.funs i z hi
    exact ⟨b, off, e, (World.cell?_of_block (hk b (Nat.ne_of_lt (h.far _ e)))).trans hc⟩
  · have hc := h.calls
    rw [hs, List.length_append, List.length_singleton] at hc
    have hcut := own_cut hc
    have e : (ptrVs (ps ++ [p])).take cs.length = ptrVs ps := by unfold ptrVs; rw [List.map_append, ← hl, List.take_append_of_le_length (by simp), List.take_of_length_le (by simp)]
    rw [e] at hcut
    exact own_same hcut fun k q => hk k (fun e => n3 (by rw [← e]; exact q))
  · have hf := h.fr k (by simp; omega) (by rw [hs]; simp; omega)
    have e1 : (ps ++ [p])[k]'(by simp; omega) = ps[k] := List.getElem_append_left h1
    have e2 : s.calls[k]'(by rw [hs]; simp; omega) = cs[k] := by simp [hs, List.getElem_append_left h2]
    rw [e1, e2] at hf
    have := n4 ps[k] (by simp)
    exact ⟨hf.low, (hk _ this.1).trans hf.blk, (hk _ this.2).trans hf.slots⟩
  · have := h.nd1
    rw [List.map_append, List.nodup_append] at this
    exact this.1
  · have := h.nd2
    rw [List.map_append, List.nodup_append] at this
    exact this.1
theorem MaAt.ptr (h : MaAt m A cf B cw C mb T s v u (ps ++ [p]) w) (hs : s.calls = cs ++ [x]) : ∃ g cap, u = .slice (some ⟨g, 0, none⟩) (cs.length + 1) cap ∧ cs.length + 1 ≤ cap ∧ w.cell? ⟨g, cs.length, none⟩ = some (.pointer (some ⟨p.1, 0, none⟩)) := by
  have hc := h.calls
  obtain ⟨ht, hl⟩ := h.top_at hs
  rw [hs, List.length_append, List.length_singleton] at hc
  obtain ⟨g, cap, e, hle, hcell⟩ := own_some hc
  refine ⟨g, cap, e, hle, hcell _ _ ?_⟩
  unfold ptrVs
  rw [List.map_append, ← hl, List.getElem?_append_right (by simp)]
  simp
set_option maxHeartbeats 2000000 in
set_option maxRecDepth 100000 in
theorem back_one (h : MaAt m A cf B cw C mb T s v u [p] w) (hs : s.calls = [x]) (hx : FrLen x) (n : Int) :
    Calls Tryd.prog 55 #[.pointer (some ⟨mb, 0, none⟩), .int .i64 n] w fun e w' => e = .returned (.tuple #[]) ∧ ∃ u' fbs, MaAt m A cf B cw C mb T (backM n s) v u' fbs w' ∧ Below mb w w' := by
  have hs' : s.calls = [] ++ [x] := hs
  obtain ⟨g, cap, rfl, hle, hp⟩ := MaAt.ptr (ps := []) h hs'
  have hpop := fun k => (h.drewN k).pop (ps := []) (cs := []) hs'
  obtain ⟨ht, -⟩ := MaAt.top_at (ps := []) h hs'
  simp only [List.length_nil, Nat.zero_add] at hp hle hpop h
  have r1 := ht.cell (frL_pc hx).2.1
  obtain ⟨c0, c1, c2, c3, c4, c5, c6, c7, c8⟩ := row9m h.blk
  have z8 := row_frozen h.blk 8
  have hbk : backM n s = { s with calls := [], how := doneT, val := n } := by unfold backM; rw [hs]; rfl
  rw [hbk]
  have HPOP := Lib.hid hpop
  have hd8 : (0 : Int) ≤ x.d := by omega
  clear h hs hs' ht hbk hx hpop
  go_enter Tryd.func55, Tryd.ntmps55
  go_wp2_with fail
  go_quiet (fail)
  go_wp2_with fail
  go_region
  go_upto_region 2 with fail
  have hq := HPOP.out (nq + 1)
  obtain ⟨w2, hw2⟩ : ∃ w2, (w.drewN (nq + 1)).setCell ⟨mb, 8, none⟩ (.slice (some ⟨g, 0, none⟩) 0 cap) = w2 := ⟨_, rfl⟩
  have hq' : MaAt m A cf B cw C mb T { s with calls := [] } v (.slice (some ⟨g, 0, none⟩) 0 cap) [] w2 ∧ Below mb w w2 := by rw [← hw2]; exact ⟨hq.1, (below_drewN (Below.refl _ _) _).trans hq.2⟩
  rw [hw2]
  obtain ⟨h2, hb2⟩ := hq'
  obtain ⟨c0, c1, c2, c3, c4, c5, c6, c7, c8⟩ := row9m h2.blk
  have HEND : Hid (Calls Tryd.prog 27 #[.pointer (some ⟨mb, 0, none⟩), .string ⟨#[100, 111, 110, 101]⟩] w2 fun e w' => e = .returned (.tuple #[]) ∧ MaAt m A cf B cw C mb T (endM doneT { s with calls := [] }) v (.slice (some ⟨g, 0, none⟩) 0 cap) [] w' ∧ Below mb w2 w' ∧ Only mb w2 w') := end_any h2 doneT
  have HB2 := Lib.hid hb2
  clear hq h2 hb2 hw2 z8 hp r1
  go_wp2_with (go_at_call 27; (with_reducible refine HEND.out.mono ?_); rintro e w3 ⟨rfl, h3, hb3, -⟩; obtain ⟨c0, c1, c2, c3, c4, c5, c6, c7, c8⟩ := row9m h3.blk; have z4 := row_frozen h3.blk 4; have H3 := Lib.hid (And.intro h3 hb3); clear h3 hb3)
  go_returns
  exact ⟨rfl, _, _, H3.out.1.store (.int .i64 n) (by unfold maL endM; simp) rfl rfl H3.out.1.ticks, HB2.out.trans (H3.out.2.trans (below_store _))⟩
set_option maxHeartbeats 2000000 in
set_option maxRecDepth 100000 in
theorem back_two {q : Nat × Nat} (h : MaAt m A cf B cw C mb T s v u ((ps ++ [q]) ++ [p]) w) (hs : s.calls = (cs ++ [y]) ++ [x]) (hx : FrLen x) (hy : FrLen y) (hd : x.d < 8) (hdeep : s.calls.length ≤ 40) (n : Int) :
    Calls Tryd.prog 55 #[.pointer (some ⟨mb, 0, none⟩), .int .i64 n] w fun e w' => e = .returned (.tuple #[]) ∧ ∃ u' fbs, MaAt m A cf B cw C mb T (backM n s) v u' fbs w' ∧ Below mb w w' := by
  obtain ⟨g, cap, rfl, hle, hp⟩ := h.ptr hs
  have hpop := fun k => (h.drewN k).pop hs
  obtain ⟨ht, hl⟩ := h.top_at hs
  have r1 := ht.cell (frL_pc hx).2.1
  obtain ⟨c0, c1, c2, c3, c4, c5, c6, c7, c8⟩ := row9m h.blk
  have z8 := row_frozen h.blk 8
  obtain ⟨L, hL⟩ : ∃ L, (cs ++ [y]).length = L := ⟨_, rfl⟩
  have hL1 : L = cs.length + 1 := by rw [← hL]; simp
  have hbk : backM n s = topM { y with r := y.r.set x.d n } { s with calls := cs ++ [y] } := by
    unfold backM
    have e1 : s.calls.dropLast = cs ++ [y] := by rw [hs]; simp
    have e2 : s.top = x := by unfold PMs.top; rw [hs]; simp
    rw [e1, e2, if_neg (by simp)]
    unfold topM
    simp
  rw [hbk]
  rw [hL] at hp hle hpop c8
  have HPOP := Lib.hid hpop
  have HL1 := Lib.hid hL1
  have hd8 : (0 : Int) ≤ x.d := by omega
  have hd9 : (x.d : Int) < 8 := by omega
  have hLm : L ≤ 41 := by rw [hs] at hdeep; simp at hdeep; omega
  have hL0 : 1 ≤ L := by omega
  have HY := Lib.hid hy
  have hlt1 : ((L : Int) + 1 - 1).toNat = L := by omega
  clear h hs ht hbk hx hpop hy hL hL1 hl hdeep
  go_enter Tryd.func55, Tryd.ntmps55
  go_wp2_with fail
  go_quiet (fail)
  go_wp2_with fail
  go_region
  go_upto_region 2 with fail
  have hq := HPOP.out (nq + 1)
  obtain ⟨w2, hw2⟩ : ∃ w2, (w.drewN (nq + 1)).setCell ⟨mb, 8, none⟩ (.slice (some ⟨g, 0, none⟩) L cap) = w2 := ⟨_, rfl⟩
  have hq' : MaAt m A cf B cw C mb T { s with calls := cs ++ [y] } v (.slice (some ⟨g, 0, none⟩) L cap) (ps ++ [q]) w2 ∧ Below mb w w2 := by rw [← hw2]; exact ⟨hq.1, (below_drewN (Below.refl _ _) _).trans hq.2⟩
  rw [hw2]
  obtain ⟨h2, hb2⟩ := hq'
  obtain ⟨c0, c1, c2, c3, c4, c5, c6, c7, c8⟩ := row9m h2.blk
  obtain ⟨g2, cap2, e2, hle2, hp2⟩ := h2.ptr (cs := cs) (x := y) rfl
  injection e2 with e2 _ e3
  injection e2 with e2
  injection e2 with e2
  subst e2; subst e3
  obtain ⟨ht2, -⟩ := h2.top_at (cs := cs) (x := y) rfl
  have r2 := ht2.cell (frL_r HY.out hd)
  have z2 := row_frozen ht2.blk (4 + x.d)
  have hst := fun k => (h2.drewN k).frStore (cs := cs) (x := y) rfl (y := { y with r := y.r.set x.d n }) (.int .i64 n) (frL_setR HY.out hd n) rfl
  have HST := Lib.hid hst
  have hL9 : ((L : Int) == 0) = false := beq_eq_false_iff_ne.2 (by omega)
  have hsub : (0 : Int) ≤ (L : Int) - 1 := by omega
  have HB2 := Lib.hid hb2
  clear hq h2 hb2 hw2 z8 hp r1 ht2 hst hle2
  go_wp2_with fail
  go_region
  go_wp2_with fail
  go_end0
  exact ⟨rfl, _, _, (HST.out 1).1, HB2.out.trans ((below_drewN (Below.refl _ _) 1).trans (HST.out 1).2)⟩
end
end Go.Proofs.YtgoifbkogboppaaDoor
