import Derived.Test.YtdilakpipbkokaaDoorProg
import Derived.LaidLaws
import Derived.LaidHandle
import Derived.LaidMore
import Derived.MakeChecks
import Derived.Stop.LaidErr
import Derived.WalkKit
set_option linter.unusedVariables false
set_option linter.unusedSimpArgs false
namespace Go.Proofs.YtdilakpipbkokaaDoor
open Go.RowKit Go.ChangeShapes

/-- A sentinel of errors.New, read. -/
def errD (text : List UInt8) : DataW Unit := .iface "*errors.errorString" (.ptr (.agg [.lit (.string text)]))

theorem errs_of_vars {P : Program} {W : World} {ti tp te ts : TypeId} {ms : Array (String × TypeId)} {f : Field}
    (hi : P.underlying ti = some (.interface ms)) (hrow : ∀ u, P.typeName? 3 u = some "*errors.errorString" → u = tp)
    (hp : P.underlying tp = some (.pointer te)) (he : P.underlying te = some (.struct #[f])) (hft : f.type = ts) (hfo : f.offset = 0) (hs : P.underlying ts = some .string) (hc : P.cellsOf te = 1) (hcs : P.cellsOf ts = 1) :
    ∀ (l : List (String × Nat × List UInt8)) (ps : List MemPlace), (∀ x ∈ l, P.globalNamed x.1 = some x.2.1 ∧ (P.globals[x.2.1]?).map (·.type) = some ti) →
      DataW.LaidVars P W (l.map fun x => (x.1, errD x.2.2)) ps →
      (∀ b off, MemPlace.cell b off ∈ ps → (∃ c t, W.heap[b]? = some (.cells c t (0, 0))) ∧ ∀ u v, W.cell? ⟨b, off, none⟩ = some (.iface u v) → Value.okWide P W .any 0 u v) →
      ∃ L : List Addr, L.length = l.length ∧ List.Sublist (L.map fun a => MemPlace.cell a.block a.off) ps ∧
        ∀ (i g : Nat) (a : Addr), (l.map (·.2.1))[i]? = some g → L[i]? = some a → W.cell? ⟨g, 0, none⟩ = some (.iface tp (.pointer (some a))) ∧ (∃ c t, W.heap[a.block]? = some (.cells c t (0, 0))) ∧ ∃ s, W.cell? a = some (.string s) := by
  intro l
  induction l with
  | nil => intro ps _ _ _; exact ⟨[], rfl, by simp, fun i g a h => by simp at h⟩
  | cons x l ih =>
    intro ps hl hv hrows
    obtain ⟨n, g, text⟩ := x
    obtain ⟨hg, ht⟩ := hl _ (List.mem_cons_self)
    obtain ⟨g0, t0, cs0, f0, p0, q0, hg0, ht0, hv0, hd0, hq, rfl⟩ := hv
    simp only at hg ht hg0 hv0
    obtain rfl := Option.some.inj (hg.symm.trans hg0)
    obtain rfl := Option.some.inj (ht.symm.trans ht0)
    obtain ⟨l0⟩ := cs0
    have ok0 : ∀ u v, l0 = [.iface u v] → Value.okWide P W .any 0 u v := fun u v e => by
      subst e
      exact (hrows g 0 (by simp [MemPlace.row])).2 u v (by simpa using World.var?_cell hg0 hv0 0)
    obtain ⟨a0, s0, rfl, hc0, hs0, hz0, rfl⟩ := errorString_of_trod hi hrow hp he hft hfo hs hc hcs hd0 ok0
    obtain ⟨L, hlen, hsub, hall⟩ := ih q0 (fun x hx => hl x (List.mem_cons_of_mem _ hx)) hq (fun b off hm => hrows b off (List.mem_append_right _ hm))
    refine ⟨a0 :: L, by simp [hlen], ?_, ?_⟩
    · have h2 : List.Sublist ([MemPlace.cell a0.block a0.off] ++ (L.map fun a => MemPlace.cell a.block a.off)) (MemPlace.row a0 1 ++ q0) := List.Sublist.append (by simp [MemPlace.row]) hsub
      rw [List.append_assoc]
      exact List.Sublist.trans h2 (List.sublist_append_right _ _)
    · intro i g' a hi' ha'
      cases i with
      | zero =>
        simp at hi' ha'
        subst hi'; subst ha'
        exact ⟨by simpa using World.var?_cell hg0 hv0 0, (hrows a0.block a0.off (by simp [MemPlace.row])).1, s0, hc0⟩
      | succ i =>
        simp only [List.map_cons, List.getElem?_cons_succ] at hi' ha'
        exact hall i g' a hi' ha'

/-- What a list of sentinels gives: each variable's cell holds a pointer, the pointers are unlike. -/
theorem errs_of_laid {P : Program} {W : World} {ti tp te ts : TypeId} {ms : Array (String × TypeId)} {f : Field}
    (hi : P.underlying ti = some (.interface ms)) (hrow : ∀ u, P.typeName? 3 u = some "*errors.errorString" → u = tp)
    (hp : P.underlying tp = some (.pointer te)) (he : P.underlying te = some (.struct #[f])) (hft : f.type = ts) (hfo : f.offset = 0) (hs : P.underlying ts = some .string) (hc : P.cellsOf te = 1) (hcs : P.cellsOf ts = 1)
    (l : List (String × Nat × List UInt8)) (hl : ∀ x ∈ l, P.globalNamed x.1 = some x.2.1 ∧ (P.globals[x.2.1]?).map (·.type) = some ti)
    (h : laidMet P (l.map fun x => (x.1, errD x.2.2)) W) :
    ∃ L : List Addr, L.length = l.length ∧ L.Nodup ∧
        ∀ (i g : Nat) (a : Addr), (l.map (·.2.1))[i]? = some g → L[i]? = some a → W.cell? ⟨g, 0, none⟩ = some (.iface tp (.pointer (some a))) ∧ (∃ c t, W.heap[a.block]? = some (.cells c t (0, 0))) ∧ ∃ s, W.cell? a = some (.string s) := by
  obtain ⟨ps, hv, hnd, hrows⟩ := h
  obtain ⟨L, h1, h2, h3⟩ := errs_of_vars hi hrow hp he hft hfo hs hc hcs l ps hl hv hrows
  refine ⟨L, h1, ?_, h3⟩
  have := List.Nodup.sublist h2 hnd
  exact List.Pairwise.of_map _ (fun a b hab e => hab (by rw [e])) this
end Go.Proofs.YtdilakpipbkokaaDoor
