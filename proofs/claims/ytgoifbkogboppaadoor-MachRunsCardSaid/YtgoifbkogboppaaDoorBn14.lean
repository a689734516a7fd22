import Derived.Test.YtgoifbkogboppaaDoorBn11
import Derived.Test.YtgoifbkogboppaaDoorBn9
set_option linter.unusedVariables false
set_option linter.unusedSimpArgs false
namespace Go.Proofs.YtgoifbkogboppaaDoor
open Go.RowKit

/-! the machine: end, tick, print -/
section
variable {m : PImg} {A : Option Addr} {cf : Nat} {B : Option Addr} {cw : Nat} {C : Value} {mb T : Nat} {s : PMs} {v u : Value} {fbs : List (Nat × Nat)} {w w' : World}
theorem MaAt.end_ (h : MaAt m A cf B cw C mb T s v u fbs w) (how : Txt) : MaAt m A cf B cw C mb T (endM how s) v u fbs (w.setCell ⟨mb, 3, none⟩ (.string (mkB how))) :=
  h.store _ (by unfold maL Go.Proofs.YtgoifbkogboppaaDoor.endM; simp) rfl rfl h.ticks
/-- No other block is touched. -/
def Only (mb : Nat) (w w' : World) : Prop := w'.heap.size = w.heap.size ∧ ∀ k, k ≠ mb → w'.heap[k]? = w.heap[k]?
theorem Only.trans {w1 w2 w3 : World} (h : Only mb w1 w2) (k : Only mb w2 w3) : Only mb w1 w3 := ⟨k.1.trans h.1, fun i hi => (k.2 i hi).trans (h.2 i hi)⟩
theorem only_store {j : Nat} (y : Value) : Only mb w (w.setCell ⟨mb, j, none⟩ y) := ⟨by simp [World.setCell], fun k hk => Below.heap_setCell _ _ _ _ hk⟩
theorem below_store {j : Nat} (y : Value) : Below mb w (w.setCell ⟨mb, j, none⟩ y) := (Below.refl mb w).setCell (p := ⟨mb, j, none⟩) (Nat.le_refl _) _
theorem end_any (h : MaAt m A cf B cw C mb T s v u fbs w) (how : Txt) :
    Calls Tryd.prog 27 #[.pointer (some ⟨mb, 0, none⟩), .string (mkB how)] w fun e w' => e = .returned (.tuple #[]) ∧ MaAt m A cf B cw C mb T (endM how s) v u fbs w' ∧ Below mb w w' ∧ Only mb w w' := by
  obtain ⟨c0, c1, c2, c3, c4, c5, c6, c7, c8⟩ := row9m h.blk
  have z3 := row_frozen h.blk 3
  have HE := Lib.hid (h.end_ how)
  clear h
  go_enter Tryd.func27, Tryd.ntmps27
  go_wp2_with fail
  go_end0
  exact ⟨rfl, HE.out, below_store _, only_store _⟩
theorem tick_any (h : MaAt m A cf B cw C mb T s v u fbs w) (hT : T ≤ 5000) :
    Calls Tryd.prog 41 #[.pointer (some ⟨mb, 0, none⟩)] w fun e w' => e = .returned (.bool (decide (s.ticks < T))) ∧ MaAt m A cf B cw C mb T (tickM T s) v u fbs w' ∧ Below mb w w' ∧ Only mb w w' := by
  obtain ⟨c0, c1, c2, c3, c4, c5, c6, c7, c8⟩ := row9m h.blk
  have z6 := row_frozen h.blk 6
  have z7 := row_frozen h.blk 7
  have ht := h.ticks
  by_cases hl : s.ticks < T
  · have hd : decide (s.ticks < T) = true := decide_eq_true hl
    rw [hd]
    have hst : tickM T s = { s with ticks := s.ticks + 1 } := by unfold tickM; rw [if_pos hl]
    rw [hst]
    obtain ⟨L, hL⟩ : ∃ L : Nat, T - s.ticks = L := ⟨_, rfl⟩
    have hL0 : 1 ≤ L := by omega
    have hne : ((L : Int) == 0) = false := beq_eq_false_iff_ne.2 (by omega)
    have hLe : (L : Int) ≤ 5000 := by omega
    have hL1 : (1 : Int) ≤ L := by omega
    have ht5 : (s.ticks : Int) ≤ 5000 := by omega
    have ht0 : (0 : Int) ≤ s.ticks := by omega
    have hh : MaAt m A cf B cw C mb T { s with ticks := s.ticks + 1 } v u fbs ((w.setCell ⟨mb, 7, none⟩ (.int .i64 (L - 1))).setCell ⟨mb, 6, none⟩ (.int .i64 (s.ticks + 1))) := by
      obtain ⟨n1, n2, n3, n4⟩ := h.mbne
      have hk : ∀ k, k ≠ mb → ((w.setCell ⟨mb, 7, none⟩ (.int .i64 (L - 1))).setCell ⟨mb, 6, none⟩ (.int .i64 (s.ticks + 1))).heap[k]? = w.heap[k]? := fun k hk => (Below.heap_setCell _ _ _ _ hk).trans (Below.heap_setCell _ _ _ _ hk)
      refine ⟨row_set (j := 6) _ (row_set (j := 7) _ h.blk rfl) ?_, fun i z hi => ?_, h.far, own_same h.code fun k q => hk k (fun e => n1 (by rw [q, e])), own_same h.out fun k q => hk k (fun e => n2 (by rw [q, e])), own_same h.calls fun k q => hk k (fun e => n3 (by rw [q, e])), h.len, fun k h1 h2 => ?_, h.nd1, h.nd2, h.ne, by simp; omega⟩
      · unfold maL
        have e : ((T - (s.ticks + 1) : Nat) : Int) = (L : Int) - 1 := by omega
        simp [e]
      · obtain ⟨b, off, e, hc⟩ := h.funs i z hi
        exact ⟨b, off, e, (World.cell?_of_block (hk b (Nat.ne_of_lt (h.far _ e)))).trans hc⟩
      · have hf := h.fr k h1 h2
        have := n4 _ (List.getElem_mem h1)
        exact ⟨hf.low, (hk _ this.1).trans hf.blk, (hk _ this.2).trans hf.slots⟩
    rw [hL] at c7
    have HH := Lib.hid hh
    clear hh h hd hst hl hL
    go_enter Tryd.func41, Tryd.ntmps41
    go_wp2_with fail
    go_ret
    exact ⟨rfl, HH.out, (below_store _).trans (below_store _), (only_store _).trans (only_store _)⟩
  · have hd : decide (s.ticks < T) = false := decide_eq_false hl
    rw [hd]
    have hst : tickM T s = endM tiredT s := by unfold tickM; rw [if_neg hl]
    rw [hst]
    have h0 : T - s.ticks = 0 := by omega
    rw [h0] at c7
    have HE : Hid (Calls Tryd.prog 27 #[.pointer (some ⟨mb, 0, none⟩), .string ⟨#[116, 105, 114, 101, 100]⟩] w fun e w' => e = .returned (.tuple #[]) ∧ MaAt m A cf B cw C mb T (endM tiredT s) v u fbs w' ∧ Below mb w w' ∧ Only mb w w') := end_any h tiredT
    clear h hd hst hl h0
    go_enter Tryd.func41, Tryd.ntmps41
    go_wp2_with (go_at_call 27; (with_reducible refine HE.out.mono ?_); rintro e w1 ⟨rfl, h1, h2, h3⟩; have H1 := Lib.hid h1; have H3 := Lib.hid h3; clear h1 h3)
    go_ret
    exact ⟨rfl, H1.out, h2, H3.out⟩
theorem own_slice {base : Nat} {e : TypeId} {size : Nat} {v : Value} {n : Nat} {xs : List Value} (h : w.ownsRow base e size v n xs) : ∃ A c, v = .slice A n c := by
  rcases h.2 with ⟨rfl, rfl⟩ | ⟨g, cap, cur, rfl, _⟩
  · exact ⟨none, 0, rfl⟩
  · exact ⟨_, _, rfl⟩
/-- Behind an append to what was printed. -/
theorem MaAt.put {v' : Value} {o : Obj} {n : Int} (h : MaAt m A cf B cw C mb T s v u fbs w) (hl : ¬ 1000 ≤ s.out.length) (hown : w'.ownsRow mb 3 1 v' (s.out.length + 1) (intVs s.out ++ [.int .i64 n])) (hg : (w.alloc o).grownBy w' v.ownBlock)
    (hat : v'.ownBlock = v.ownBlock ∨ v'.ownBlock = some (w.heap.size + 1)) : w'.heap[mb]? = w.heap[mb]? ∧ MaAt m A cf B cw C mb T (printM n s) v' u fbs (w'.setCell ⟨mb, 5, none⟩ v') ∧ Below mb w (w'.setCell ⟨mb, 5, none⟩ v') := by
  have hp : printM n s = { s with out := s.out ++ [n] } := by unfold printM; rw [if_neg hl]
  rw [hp]
  obtain ⟨n1, n2, n3, n4⟩ := h.mbne
  have hold : ∀ k, k < w.heap.size → v.ownBlock ≠ some k → w'.heap[k]? = w.heap[k]? := fun k hk hn => by
    have := hg.block k (by simp; omega) (fun e => hn e.symm)
    rw [this]
    exact old_block w o hk
  have hbel : Below mb w w' := Below.grown ((Below.refl mb w).alloc (Nat.le_of_lt h.lt) o) hg (by have := h.lt; simp; omega) (fun k hk => (own_lt h.out hk).1)
  have hm := hold mb h.lt n2
  have hvlt : ∀ k, v'.ownBlock = some k → v.ownBlock = some k ∨ w.heap.size < k := fun k hk => by
    rcases hat with e | e
    · rw [e] at hk; exact .inl hk
    · rw [e] at hk; have := Option.some.inj hk; omega
  have hne : ∀ k, k < w.heap.size → v.ownBlock ≠ some k → v'.ownBlock ≠ some k := fun k hk hn e => by
    rcases hvlt k e with q | q
    · exact hn q
    · omega
  have hs : ∀ k, k ≠ mb → (w'.setCell ⟨mb, 5, none⟩ v').heap[k]? = w'.heap[k]? := fun k hk => Below.heap_setCell _ _ _ _ hk
  have hks : ∀ k, k < w.heap.size → k ≠ mb → v.ownBlock ≠ some k → (w'.setCell ⟨mb, 5, none⟩ v').heap[k]? = w.heap[k]? := fun k h1 h2 h3 => (hs k h2).trans (hold k h1 h3)
  have hall : Below mb w (w'.setCell ⟨mb, 5, none⟩ v') := hbel.trans ((Below.refl mb w').setCell (p := ⟨mb, 5, none⟩) (Nat.le_refl _) _)
  refine ⟨hm, ⟨row_set (j := 5) v' (hm.trans h.blk) (by unfold maL; simp), fun i z hi => ?_, h.far, own_same h.code fun k q => hks k (own_lt h.code q).2 (fun e => n1 (by rw [q, e])) (own_ne h.code h.out (by decide) q), ?_,
    own_same h.calls fun k q => hks k (own_lt h.calls q).2 (fun e => n3 (by rw [q, e])) (own_ne h.calls h.out (by decide) q), h.len, fun k h1 h2 => ?_, h.nd1, h.nd2, fun p hp => ?_, h.ticks⟩, hall⟩
  · obtain ⟨b, off, e, hc⟩ := h.funs i z hi
    exact ⟨b, off, e, (World.cell?_of_block (hall.block b (h.far _ e))).trans hc⟩
  · show World.ownsRow _ _ _ _ _ (s.out ++ [n]).length (intVs (s.out ++ [n]))
    rw [intVs_snoc, List.length_append]
    exact own_same hown fun k q => hs k (fun e => hne mb h.lt n2 (by rw [q, e]))
  · have hf := h.fr k h1 h2
    have hn := n4 _ (List.getElem_mem h1)
    have hv1 : v.ownBlock ≠ some fbs[k].1 := own_else h.out hf.blk fun cs e => by injection e with _ e _; exact absurd e (by decide)
    exact ⟨hf.low, (hks _ (Array.getElem?_eq_some_iff.1 hf.blk).1 hn.1 hv1).trans hf.blk, (hks _ (Array.getElem?_eq_some_iff.1 hf.slots).1 hn.2 (h.ne _ (List.getElem_mem h1))).trans hf.slots⟩
  · obtain ⟨x, -, hx⟩ := h.frk hp
    exact hne _ (Array.getElem?_eq_some_iff.1 hx.slots).1 (h.ne p hp)
set_option maxHeartbeats 1000000 in
set_option maxRecDepth 100000 in
theorem print_any (h : MaAt m A cf B cw C mb T s v u fbs w) (ho : s.out.length ≤ 1000) (n : Int) :
    Calls Tryd.prog 54 #[.pointer (some ⟨mb, 0, none⟩), .int .i64 n] w fun e w' => e = .returned (.tuple #[]) ∧ ∃ v', MaAt m A cf B cw C mb T (printM n s) v' u fbs w' ∧ Below mb w w' := by
  obtain ⟨c0, c1, c2, c3, c4, c5, c6, c7, c8⟩ := row9m h.blk
  have z5 := row_frozen h.blk 5
  obtain ⟨i0, hi, hz0, hz1, hz2⟩ := info_parts intInfo
  by_cases hl : 1000 ≤ s.out.length
  · have hl0 : s.out.length = 1000 := by omega
    have hl1 : ((s.out.length : Int) == 1000) = true := by rw [hl0]; rfl
    have hp : printM n s = endM loudT s := by unfold printM; rw [if_pos hl]
    rw [hp]
    obtain ⟨A5, a5, rfl⟩ : ∃ A5 a5, v = .slice A5 s.out.length a5 := by
      rcases h.out.2 with ⟨q, q0⟩ | ⟨g, cap, cur, q, _⟩
      · exact ⟨none, 0, by rw [q, q0]⟩
      · exact ⟨_, _, q⟩
    have HE : Hid (Calls Tryd.prog 27 #[.pointer (some ⟨mb, 0, none⟩), .string ⟨#[108, 111, 117, 100]⟩] w fun e w' => e = .returned (.tuple #[]) ∧ MaAt m A cf B cw C mb T (endM loudT s) (.slice A5 s.out.length a5) u fbs w' ∧ Below mb w w' ∧ Only mb w w') := end_any h loudT
    clear h hp hl ho hl0
    go_enter Tryd.func54, Tryd.ntmps54
    go_wp2_with (go_at_call 27; (with_reducible refine HE.out.mono ?_); rintro e w1 ⟨rfl, h1, h2, h3⟩; have H1 := Lib.hid h1; clear h1)
    go_returns
    exact ⟨rfl, _, H1.out, h2⟩
  · have hl1 : ((s.out.length : Int) == 1000) = false := beq_eq_false_iff_ne.2 (by omega)
    obtain ⟨A5, a5, rfl⟩ : ∃ A5 a5, v = .slice A5 s.out.length a5 := by
      rcases h.out.2 with ⟨q, q0⟩ | ⟨g, cap, cur, q, _⟩
      · exact ⟨none, 0, by rw [q, q0]⟩
      · exact ⟨_, _, q⟩
    have HM := Lib.hid h
    have HL := Lib.hid hl
    have hlt := h.lt
    clear h hl
    go_enter Tryd.func54, Tryd.ntmps54
    go_wp2_with (at_builtin; go_loud (refine wpList_append_own_at _ rfl (.tmp 18) (.tmp 20) 26 rfl mb 3 i0 _ 1 8 Tryd.underlying26 hi hz0 hz1 hz2 rfl (by decide) _ s.out.length (intVs s.out) rfl (HM.out.out.alloc _) ⟨w.heap.size, 0, none⟩ 1 1 [.int .i64 n] rfl rfl (cell_one_new _ _ _) (fun u hu => by simp at hu; subst hu; rfl) (by unfold maxLen; omega) (by omega) (by simp; omega) ?_; intro v' w4 hown' hgrow _ hat; obtain ⟨A6, a6, rfl⟩ := own_slice hown'; obtain ⟨j1, j2, j3⟩ := HM.out.put HL.out hown' hgrow (hat.elim (fun e => .inl e) (fun e => .inr (e.trans (by simp)))); obtain ⟨c0, c1, c2, c3, c4, c5, c6, c7, c8⟩ := row9m (j1.trans HM.out.blk); have z5 := row_frozen (j1.trans HM.out.blk) 5; have H2 := Lib.hid (And.intro j2 j3); clear j1 j2 j3 hown' hgrow hat))
    go_end0
    exact ⟨rfl, _, H2.out.1, H2.out.2⟩
end
end Go.Proofs.YtgoifbkogboppaaDoor

namespace Go.Proofs.YtgoifbkogboppaaDoor
open Go.RowKit

/-! the machine: its top frame -/
theorem len4 {α : Type} {l : List α} (h : l.length = 4) : ∃ a b c d, l = [a, b, c, d] := by
  match l, h with
  | [a, b, c, d], _ => exact ⟨a, b, c, d, rfl⟩
theorem len8 {α : Type} {l : List α} (h : l.length = 8) : ∃ a b c d e f g i, l = [a, b, c, d, e, f, g, i] := by
  match l, h with
  | [a, b, c, d, e, f, g, i], _ => exact ⟨a, b, c, d, e, f, g, i, rfl⟩
/-- The lengths of a frame. -/
structure FrLen (x : PFr) : Prop where
  r : x.r.length = 8
  args : x.args.length = 4
  next : x.next.length = 4
theorem FrOk.len {m : PImg} {x : PFr} (h : FrOk m x) : FrLen x := ⟨h.r, h.args, h.next⟩
section
variable {x : PFr} {sb : Nat}
theorem frL_r (h : FrLen x) {j : Nat} (hj : j < 8) : (frL x sb)[4 + j]? = some (.int .i64 (x.r.getD j 0)) := by
  obtain ⟨f, r, sl, ar, nx, pc, d⟩ := x
  obtain ⟨h1, h2, h3⟩ := h
  obtain ⟨a, b, c, e, k, l, n, o, rfl⟩ := len8 h1
  match j, hj with
  | 0, _ => rfl
  | 1, _ => rfl
  | 2, _ => rfl
  | 3, _ => rfl
  | 4, _ => rfl
  | 5, _ => rfl
  | 6, _ => rfl
  | 7, _ => rfl
theorem frL_slots (h : FrLen x) : (frL x sb)[12]? = some (.slice (some ⟨sb, 0, none⟩) x.slots.length x.slots.length) := by
  obtain ⟨f, r, sl, ar, nx, pc, d⟩ := x
  obtain ⟨h1, h2, h3⟩ := h
  obtain ⟨a, b, c, e, k, l, n, o, rfl⟩ := len8 h1
  rfl
theorem frL_args (h : FrLen x) {j : Nat} (hj : j < 4) : (frL x sb)[13 + j]? = some (.int .i64 (x.args.getD j 0)) := by
  obtain ⟨f, r, sl, ar, nx, pc, d⟩ := x
  obtain ⟨h1, h2, h3⟩ := h
  obtain ⟨a, b, c, e, k, l, n, o, rfl⟩ := len8 h1
  obtain ⟨a1, a2, a3, a4, rfl⟩ := len4 h2
  match j, hj with
  | 0, _ => rfl
  | 1, _ => rfl
  | 2, _ => rfl
  | 3, _ => rfl
theorem frL_next (h : FrLen x) {j : Nat} (hj : j < 4) : (frL x sb)[17 + j]? = some (.int .i64 (x.next.getD j 0)) := by
  obtain ⟨f, r, sl, ar, nx, pc, d⟩ := x
  obtain ⟨h1, h2, h3⟩ := h
  obtain ⟨a, b, c, e, k, l, n, o, rfl⟩ := len8 h1
  obtain ⟨a1, a2, a3, a4, rfl⟩ := len4 h2
  obtain ⟨b1, b2, b3, b4, rfl⟩ := len4 h3
  match j, hj with
  | 0, _ => rfl
  | 1, _ => rfl
  | 2, _ => rfl
  | 3, _ => rfl
theorem frL_pc (h : FrLen x) : (frL x sb)[21]? = some (.int .i64 (x.pc : Nat)) ∧ (frL x sb)[22]? = some (.int .i64 (x.d : Nat)) ∧ (frL x sb).length = 23 := by
  obtain ⟨f, r, sl, ar, nx, pc, d⟩ := x
  obtain ⟨h1, h2, h3⟩ := h
  obtain ⟨a, b, c, e, k, l, n, o, rfl⟩ := len8 h1
  obtain ⟨a1, a2, a3, a4, rfl⟩ := len4 h2
  obtain ⟨b1, b2, b3, b4, rfl⟩ := len4 h3
  exact ⟨rfl, rfl, rfl⟩
theorem frL_setR (h : FrLen x) {j : Nat} (hj : j < 8) (n : Int) : (frL x sb).set (4 + j) (.int .i64 n) = frL { x with r := x.r.set j n } sb := by
  obtain ⟨f, r, sl, ar, nx, pc, d⟩ := x
  obtain ⟨h1, h2, h3⟩ := h
  obtain ⟨a, b, c, e, k, l, n, o, rfl⟩ := len8 h1
  match j, hj with
  | 0, _ => rfl
  | 1, _ => rfl
  | 2, _ => rfl
  | 3, _ => rfl
  | 4, _ => rfl
  | 5, _ => rfl
  | 6, _ => rfl
  | 7, _ => rfl
theorem frL_setN (h : FrLen x) {j : Nat} (hj : j < 4) (n : Int) : (frL x sb).set (17 + j) (.int .i64 n) = frL { x with next := x.next.set j n } sb := by
  obtain ⟨f, r, sl, ar, nx, pc, d⟩ := x
  obtain ⟨h1, h2, h3⟩ := h
  obtain ⟨a, b, c, e, k, l, n, o, rfl⟩ := len8 h1
  obtain ⟨a1, a2, a3, a4, rfl⟩ := len4 h2
  obtain ⟨b1, b2, b3, b4, rfl⟩ := len4 h3
  match j, hj with
  | 0, _ => rfl
  | 1, _ => rfl
  | 2, _ => rfl
  | 3, _ => rfl
theorem frL_setPc (h : FrLen x) (n : Nat) : (frL x sb).set 21 (.int .i64 (n : Nat)) = frL { x with pc := n } sb := by
  obtain ⟨f, r, sl, ar, nx, pc, d⟩ := x
  obtain ⟨h1, h2, h3⟩ := h
  obtain ⟨a, b, c, e, k, l, n, o, rfl⟩ := len8 h1
  obtain ⟨a1, a2, a3, a4, rfl⟩ := len4 h2
  obtain ⟨b1, b2, b3, b4, rfl⟩ := len4 h3
  rfl
theorem frL_zeroN (h : FrLen x) : ((((frL x sb).set 17 (.int .i64 0)).set 18 (.int .i64 0)).set 19 (.int .i64 0)).set 20 (.int .i64 0) = frL { x with next := zero4 } sb := by
  obtain ⟨f, r, sl, ar, nx, pc, d⟩ := x
  obtain ⟨h1, h2, h3⟩ := h
  obtain ⟨a, b, c, e, k, l, n, o, rfl⟩ := len8 h1
  obtain ⟨a1, a2, a3, a4, rfl⟩ := len4 h2
  obtain ⟨b1, b2, b3, b4, rfl⟩ := len4 h3
  rfl
end
section
variable {m : PImg} {A : Option Addr} {cf : Nat} {B : Option Addr} {cw : Nat} {C : Value} {mb T : Nat} {s : PMs} {v u : Value} {ps : List (Nat × Nat)} {p : Nat × Nat} {cs : List PFr} {x y : PFr} {w w' : World}
theorem FrAt.cell (h : FrAt mb p x w) {j : Nat} {z : Value} (hj : (frL x p.2)[j]? = some z) : w.cell? ⟨p.1, j, none⟩ = some z := by
  rw [cell_of_row _ _ j _ _ _ h.blk, List.getElem?_toArray]; exact hj
theorem FrAt.slot (h : FrAt mb p x w) {j : Nat} (hj : j < x.slots.length) : w.cell? ⟨p.2, j, none⟩ = some (.int .i64 (x.slots.getD j 0)) := by
  rw [cell_of_row _ _ j _ _ _ h.slots, List.getElem?_toArray, intVs_get hj, List.getD_eq_getElem?_getD, List.getElem?_eq_getElem hj]; rfl
theorem MaAt.top_at (h : MaAt m A cf B cw C mb T s v u (ps ++ [p]) w) (hs : s.calls = cs ++ [x]) : FrAt mb p x w ∧ ps.length = cs.length := by
  have hl := h.len
  rw [hs] at hl
  simp only [List.length_append, List.length_singleton] at hl
  have hl' : ps.length = cs.length := by omega
  have := h.fr ps.length (by simp) (by rw [hs]; simp [hl'])
  have e1 : (ps ++ [p])[ps.length]'(by simp) = p := by simp
  have e2 : s.calls[ps.length]'(by rw [hs]; simp [hl']) = x := by simp [hs, hl']
  rw [e1, e2] at this
  exact ⟨this, hl'⟩
theorem MaAt.drewN {fbs : List (Nat × Nat)} (h : MaAt m A cf B cw C mb T s v u fbs w) (n : Nat) : MaAt m A cf B cw C mb T s v u fbs (w.drewN n) := h.same (below_drewN (Below.refl _ _) n) fun _ _ => rfl
theorem frL_params {sb : Nat} : (frL x sb)[1]? = some (.int .i64 x.f.params) := rfl
theorem frL_fslots {sb : Nat} : (frL x sb)[2]? = some (.int .i64 x.f.slots) := rfl
/-- The top frame is turned. -/
theorem MaAt.turn (h : MaAt m A cf B cw C mb T s v u (ps ++ [p]) w) (hs : s.calls = cs ++ [x]) (hb : Below mb w w') (hk : ∀ k, k ≠ p.1 → k ≠ p.2 → w'.heap[k]? = w.heap[k]?) (hf : FrAt mb p y w') : MaAt m A cf B cw C mb T (topM y s) v u (ps ++ [p]) w' := by
  obtain ⟨ht, hl⟩ := h.top_at hs
  obtain ⟨n1, n2, n3, n4⟩ := h.mbne
  have hp := n4 p (by simp)
  have out : ∀ {e : TypeId} {sz : Nat} {z : Value} {n : Nat} {l : List Value}, w.ownsRow mb e sz z n l → e ≠ 102 → (∀ k, z.ownBlock = some k → k ≠ p.2) → w'.ownsRow mb e sz z n l := fun hz hT hn => own_same hz fun k q => hk k (fun e => own_else hz ht.blk (fun cs e => by injection e with _ e _; exact hT e.symm) (by rw [q, e])) (hn k q)
  have ht2 : (topM y s).calls = cs ++ [y] := by unfold topM; rw [hs]; simp
  refine ⟨(hk mb (fun e => hp.1 e.symm) (fun e => hp.2 e.symm)).trans h.blk, fun j z hj => ?_, h.far, out h.code (by decide) (fun k q e => own_else h.code ht.slots (fun cs e => by injection e with _ e _; exact absurd e (by decide)) (by rw [q, e])), out h.out (by decide) (fun k q e => h.ne p (by simp) (by rw [q, e])), ?_, by rw [ht2, List.length_append, List.length_append, hl]; rfl, fun k h1 h2 => ?_, h.nd1, h.nd2, h.ne, h.ticks⟩
  · obtain ⟨b, off, e, hc⟩ := h.funs j z hj
    exact ⟨b, off, e, (World.cell?_of_block (hb.block b (h.far _ e))).trans hc⟩
  · have e : (topM y s).calls.length = s.calls.length := by rw [ht2, hs]; simp
    rw [e]
    exact out h.calls (by decide) (fun k q e => own_else h.calls ht.slots (fun cs e => by injection e with _ e _; exact absurd e (by decide)) (by rw [q, e]))
  · simp only [List.length_append, List.length_singleton] at h1
    by_cases hlast : k = ps.length
    · subst hlast
      have e1 : (ps ++ [p])[ps.length]'(by simp) = p := by simp
      have e2 : (topM y s).calls[ps.length]'(by rw [ht2]; simp [hl]) = y := by simp [ht2, hl]
      rw [e1, e2]
      exact hf
    · have hkp : k < ps.length := by omega
      have hkc : k < cs.length := by omega
      have e1 : (ps ++ [p])[k]'(by simp; omega) = ps[k] := List.getElem_append_left hkp
      have e2 : (topM y s).calls[k]'(by rw [ht2]; simp; omega) = s.calls[k]'(by rw [hs]; simp; omega) := by simp [ht2, hs, List.getElem_append_left hkc]
      have hfk := h.fr k (by simp; omega) (by rw [hs]; simp; omega)
      rw [e2]
      rw [e1] at hfk ⊢
      have d1 := h.nd1
      have d2 := h.nd2
      rw [List.map_append, List.nodup_append] at d1 d2
      have m1 : ps[k].1 ≠ p.1 := d1.2.2 _ (List.mem_map_of_mem (List.getElem_mem hkp)) _ (by simp)
      have m2 : ps[k].2 ≠ p.2 := d2.2.2 _ (List.mem_map_of_mem (List.getElem_mem hkp)) _ (by simp)
      have t1 : ps[k].1 ≠ p.2 := fun e => by
        have := hfk.blk
        rw [e, ht.slots] at this
        injection this with this; injection this with _ this _; exact absurd this (by decide)
      have t2 : ps[k].2 ≠ p.1 := fun e => by
        have := hfk.slots
        rw [e, ht.blk] at this
        injection this with this; injection this with _ this _; exact absurd this (by decide)
      exact ⟨hfk.low, (hk _ m1 t1).trans hfk.blk, (hk _ t2 m2).trans hfk.slots⟩
/-- A cell of the top frame is stored. -/
theorem MaAt.frStore (h : MaAt m A cf B cw C mb T s v u (ps ++ [p]) w) (hs : s.calls = cs ++ [x]) {j : Nat} (z : Value) (hz : (frL x p.2).set j z = frL y p.2) (hsl : y.slots = x.slots) : MaAt m A cf B cw C mb T (topM y s) v u (ps ++ [p]) (w.setCell ⟨p.1, j, none⟩ z) ∧ Below mb w (w.setCell ⟨p.1, j, none⟩ z) := by
  obtain ⟨ht, hl⟩ := h.top_at hs
  have hb : Below mb w (w.setCell ⟨p.1, j, none⟩ z) := (Below.refl mb w).setCell (p := ⟨p.1, j, none⟩) (Nat.le_of_lt ht.low.1) _
  have hne : p.2 ≠ p.1 := fun e => by
    have := ht.slots
    rw [e, ht.blk] at this
    injection this with this; injection this with _ this _; exact absurd this (by decide)
  refine ⟨h.turn hs hb (fun k h1 _ => Below.heap_setCell _ _ _ _ h1) ⟨ht.low, row_set (j := j) z ht.blk ?_, ?_⟩, hb⟩
  · rw [← hz]; simp
  · rw [hsl]; exact (Below.heap_setCell _ _ _ _ hne).trans ht.slots
/-- A slot of the top frame is stored. -/
theorem MaAt.slStore (h : MaAt m A cf B cw C mb T s v u (ps ++ [p]) w) (hs : s.calls = cs ++ [x]) {j : Nat} (n : Int) : MaAt m A cf B cw C mb T (topM { x with slots := x.slots.set j n } s) v u (ps ++ [p]) (w.setCell ⟨p.2, j, none⟩ (.int .i64 n)) ∧ Below mb w (w.setCell ⟨p.2, j, none⟩ (.int .i64 n)) := by
  obtain ⟨ht, hl⟩ := h.top_at hs
  have hb : Below mb w (w.setCell ⟨p.2, j, none⟩ (.int .i64 n)) := (Below.refl mb w).setCell (p := ⟨p.2, j, none⟩) (Nat.le_of_lt ht.low.2) _
  have hne : p.1 ≠ p.2 := fun e => by
    have := ht.slots
    rw [← e, ht.blk] at this
    injection this with this; injection this with _ this _; exact absurd this (by decide)
  refine ⟨h.turn hs hb (fun k _ h2 => Below.heap_setCell _ _ _ _ h2) ⟨ht.low, ?_, row_set (j := j) (.int .i64 n) ht.slots ?_⟩, hb⟩
  · refine (Below.heap_setCell _ _ _ _ hne).trans (ht.blk.trans ?_)
    simp [frL]
  · simp [intVs_set]
end
end Go.Proofs.YtgoifbkogboppaaDoor
