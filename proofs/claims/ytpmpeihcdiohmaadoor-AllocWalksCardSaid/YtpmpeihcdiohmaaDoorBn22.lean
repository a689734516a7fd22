import Derived.Test.YtpmpeihcdiohmaaDoorBn21
set_option linter.unusedVariables false
set_option linter.unusedSimpArgs false
namespace Go.Proofs.YtpmpeihcdiohmaaDoor
open Go.RowKit

/-! how the reference's walk of registers ends (printed by gen_aor.py) -/
/-- How the reference's walk ended. -/
def doneV (D : DTup) (AO : Option Addr) (cO : Nat) (AC : Option Addr) (cC : Nat) : Value := .agg #[.string (mkB D.1), .int .i64 D.2.1, .slice AO D.2.2.2.1.length cO, .int .i64 D.2.2.1, .slice AC D.2.2.2.2.length cC]
/-- Its rows lie above. -/
structure DnUp (lo : Nat) (D : DTup) (AO AC : Option Addr) (ts : List CC) : Prop where
  out : D.2.2.2.1 ≠ [] → ∀ a, AO = some a → lo ≤ a.block
  calls : D.2.2.2.2 ≠ [] → ∀ a, AC = some a → lo ≤ a.block
  rows : ∀ t ∈ ts, t.p.2 ≠ [] → ∀ a, t.X = some a → lo ≤ a.block
theorem row_up {w w' : World} {A : Option Addr} {l : List Value} {lo : Nat} (h : Row w A l) (hu : l ≠ [] → ∀ a, A = some a → lo ≤ a.block) (hs : ∀ k, lo ≤ k → w'.heap[k]? = w.heap[k]?) : Row w' A l := fun j u hj => by
  obtain ⟨b, off, e, hc⟩ := h j u hj
  have hl : l ≠ [] := fun e => by subst e; cases hj
  exact ⟨b, off, e, (World.cell?_of_block (show w'.heap[(⟨b, off + j, none⟩ : Addr).block]? = w.heap[(⟨b, off + j, none⟩ : Addr).block]? from hs _ (hu hl ⟨b, off, none⟩ e))).trans hc⟩
theorem DnAt.up {w w' : World} {D : DTup} {AO AC : Option Addr} {ts : List CC} {lo : Nat} (h : DnAt w D AO AC ts) (hu : DnUp lo D AO AC ts) (hs : ∀ k, lo ≤ k → w'.heap[k]? = w.heap[k]?) : DnAt w' D AO AC ts :=
  ⟨row_up h.out (fun hn => hu.out (fun e => hn (by rw [e]; rfl))) hs, row_up h.calls (fun hn => hu.calls (fun e => hn (by have := h.map; rw [e] at this; rw [List.map_eq_nil_iff.1 this]; rfl))) hs, h.map, fun t ht => row_up (h.rows t ht) (fun hn => hu.rows t ht (fun e => hn (by rw [e]; rfl))) hs⟩
def RoPost (c : PCd) (T : Int) (args ans : List Int) (most : Nat) (w : World) : Ending → World → Prop := fun e w' =>
  ∃ (D : DTup) (AO : Option Addr) (cO : Nat) (AC : Option Addr) (cC : Nat) (ts : List CC), e = .returned (doneV D AO cO AC cC) ∧ DnAt w' D AO AC ts ∧ Below w.heap.size w w' ∧ DSm D ∧ DnUp w.heap.size D AO AC ts ∧ (match runA c T args ans most 0 (ASt0 c) with | some z => D = tupD z | none => D.1 = hLong)
theorem RoAt.done {w0 : World} {mb : Nat} {R : List (Nat × List Int)} {F : Nat → Array Value → Prop} {s : ASt} {h : List UInt8} {v : Int} {vO vC : Value} {ts : List CC} {w w' : World}
    (H : RoAt w0 mb R F s h v vO vC ts w) (hs : ∀ k, w0.heap.size ≤ k → w'.heap[k]? = w.heap[k]?) : ∃ AO cO AC cC, vO = .slice AO s.out.length cO ∧ vC = .slice AC s.calls.length cC ∧ DnAt w' (tupD (h, v, s)) AO AC ts ∧ DnUp w0.heap.size (tupD (h, v, s)) AO AC ts := by
  have hO9 := H.out
  have hC9 := H.calls
  obtain ⟨AO, cO, rfl, -, hO⟩ := owns_rowG (own_same (w' := w') H.out fun k hk => hs k (own_lt H.out hk).1)
  obtain ⟨AC, cC, rfl, -, hC⟩ := owns_rowG (own_same (w' := w') H.calls fun k hk => hs k (own_lt H.calls hk).1)
  exact ⟨AO, cO, AC, cC, rfl, rfl, ⟨hO, hC, H.map, fun t ht => row_by (H.rows t ht) fun hl a ha => hs _ (H.far t ht hl a ha).2.2.2.2⟩, ⟨fun _ a ha => (own_lt hO9 (k := a.block) (by rw [ha]; rfl)).1, fun _ a ha => (own_lt hC9 (k := a.block) (by rw [ha]; rfl)).1, fun t ht hl a ha => (H.far t ht hl a ha).2.2.2.2⟩⟩
/-- The end is stored as the result. -/
theorem ro_done {c : PCd} {T : Int} {args ans : List Int} {most : Nat} {wv w0 : World} {mb rb : Nat} {R : List (Nat × List Int)} {F : Nat → Array Value → Prop} {s : ASt} {h : List UInt8} {v : Int} {AO AC : Option Addr} {cO cC : Nat} {ts : List CC} {w : World}
    (H : RoAt w0 mb R F s h v (.slice AO s.out.length cO) (.slice AC s.calls.length cC) ts w) (hok : AOk c T ans s) (han : ans.length ≤ 1000) (h0 : Below wv.heap.size wv w0) (hrb : wv.heap.size ≤ rb ∧ rb < w0.heap.size) (hP : (match runA c T args ans most 0 (ASt0 c) with | some z => tupD (h, v, s) = tupD z | none => h = hLong)) :
    RoPost c T args ans most wv (.returned (.agg #[.string (mkB h), .int .i64 v, .slice AO s.out.length cO, .int .i64 s.ticks, .slice AC s.calls.length cC])) (((((w.setCell ⟨rb, 0, none⟩ (.string (mkB h))).setCell ⟨rb, 1, none⟩ (.int .i64 v)).setCell ⟨rb, 2, none⟩ (.slice AO s.out.length cO)).setCell ⟨rb, 3, none⟩ (.int .i64 s.ticks)).setCell ⟨rb, 4, none⟩ (.slice AC s.calls.length cC)) := by
  obtain ⟨AO', cO', AC', cC', e1, e2, hdn, hup⟩ := H.done (w' := ((((w.setCell ⟨rb, 0, none⟩ (.string (mkB h))).setCell ⟨rb, 1, none⟩ (.int .i64 v)).setCell ⟨rb, 2, none⟩ (.slice AO s.out.length cO)).setCell ⟨rb, 3, none⟩ (.int .i64 s.ticks)).setCell ⟨rb, 4, none⟩ (.slice AC s.calls.length cC)) (fun k hk => far5A k (by omega))
  injection e1 with e1 _ e3
  injection e2 with e2 _ e4
  subst e1; subst e2; subst e3; subst e4
  refine ⟨(h, v, s.ticks, s.out, s.calls), AO, cO, AC, cC, ts, rfl, hdn, below5A (h0.trans (H.bel.mono h0.size)) hrb.1, ⟨hok.out, by have := hok.calls; show s.calls.length ≤ 1000; omega, hok.c6⟩, ⟨fun hn a ha => Nat.le_trans h0.size (hup.out hn a ha), fun hn a ha => Nat.le_trans h0.size (hup.calls hn a ha), fun t ht hn a ha => Nat.le_trans h0.size (hup.rows t ht hn a ha)⟩, ?_⟩
  cases hr : runA c T args ans most 0 (ASt0 c) with
  | none => rw [hr] at hP; exact hP
  | some z => rw [hr] at hP; exact hP
end Go.Proofs.YtpmpeihcdiohmaaDoor
