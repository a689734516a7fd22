import Derived.Test.YtonnhechjbdenaaGreatDoorProg
import Derived.LaidLaws
import Derived.LaidHandle
import Derived.LaidMore
import Derived.MakeChecks
import Derived.Stop.LaidErr
import Derived.WalkKit
import Derived.Test.YtonnhechjbdenaaGreatDoorRows
import Derived.Test.YtonnhechjbdenaaGreatDoorTie
import Derived.Test.YtonnhechjbdenaaGreatDoorCards
import Derived.ProofKit
import Derived.LaidOnce
import Derived.OpenShut
import Derived.ShutString
import Derived.Stop.Joined
import Derived.SevenTiedAt
import Derived.WalkLawsBesides
import Derived.WalkSpells
import Derived.Handy
import Derived.Deep.QuietTactic
import Derived.BigQuiet
import Derived.Laws.EntriesVeiled
import Derived.Lib.Hide
set_option linter.unusedVariables false
set_option linter.unusedSimpArgs false
namespace Go.Proofs.YtonnhechjbdenaaGreatDoor
open Go.RowKit Go.ChangeShapes

/-- A sentinel of errors.New, read. -/
def errD (text : List UInt8) : DataW Unit := .iface "*errors.errorString" (.ptr (.agg [.lit (.string text)]))

theorem errs_of_vars {P : Program} {W : World} {ti tp te ts : TypeId} {ms : Array (String × TypeId)} {f : Field}
    (hi : P.underlying ti = some (.interface ms)) (hrow : ∀ u, P.typeName? 3 u = some "*errors.errorString" → u = tp)
    (hp : P.underlying tp = some (.pointer te)) (he : P.underlying te = some (.struct #[f])) (hft : f.type = ts) (hfo : f.offset = 0) (hs : P.underlying ts = some .string) (hc : P.cellsOf te = 1) (hcs : P.cellsOf ts = 1) :
    ∀ (l : List (String × Nat × List UInt8)) (ps : List MemPlace), (∀ x ∈ l, P.globalNamed x.1 = some x.2.1 ∧ (P.globals[x.2.1]?).map (·.type) = some ti) →
      DataW.LaidVars P W (l.map fun x => (x.1, errD x.2.2)) ps →
      (∀ b off, MemPlace.cell b off ∈ ps → (∃ c t, W.heap[b]? = some (.cells c t (0, 0))) ∧ ∀ u v, W.cell? ⟨b, off, none⟩ = some (.iface u v) → Value.okWide P W .any 0 u v) →
      ∃ L : List Addr, L.length = l.length ∧ List.Sublist (L.map fun a => MemPlace.cell a.block a.off) ps ∧
        ∀ (i g : Nat) (a : Addr), (l.map (·.2.1))[i]? = some g → L[i]? = some a → W.cell? ⟨g, 0, none⟩ = some (.iface tp (.pointer (some a))) ∧ (∃ c t, W.heap[a.block]? = some (.cells c t (0, 0))) ∧ ∃ s, W.cell? a = some (.string s) := by
  intro l
  induction l with
  | nil => intro ps _ _ _; exact ⟨[], rfl, by simp, fun i g a h => by simp at h⟩
  | cons x l ih =>
    intro ps hl hv hrows
    obtain ⟨n, g, text⟩ := x
    obtain ⟨hg, ht⟩ := hl _ (List.mem_cons_self)
    obtain ⟨g0, t0, cs0, f0, p0, q0, hg0, ht0, hv0, hd0, hq, rfl⟩ := hv
    simp only at hg ht hg0 hv0
    obtain rfl := Option.some.inj (hg.symm.trans hg0)
    obtain rfl := Option.some.inj (ht.symm.trans ht0)
    obtain ⟨l0⟩ := cs0
    have ok0 : ∀ u v, l0 = [.iface u v] → Value.okWide P W .any 0 u v := fun u v e => by
      subst e
      exact (hrows g 0 (by simp [MemPlace.row])).2 u v (by simpa using World.var?_cell hg0 hv0 0)
    obtain ⟨a0, s0, rfl, hc0, hs0, hz0, rfl⟩ := errorString_of_trod hi hrow hp he hft hfo hs hc hcs hd0 ok0
    obtain ⟨L, hlen, hsub, hall⟩ := ih q0 (fun x hx => hl x (List.mem_cons_of_mem _ hx)) hq (fun b off hm => hrows b off (List.mem_append_right _ hm))
    refine ⟨a0 :: L, by simp [hlen], ?_, ?_⟩
    · have h2 : List.Sublist ([MemPlace.cell a0.block a0.off] ++ (L.map fun a => MemPlace.cell a.block a.off)) (MemPlace.row a0 1 ++ q0) := List.Sublist.append (by simp [MemPlace.row]) hsub
      rw [List.append_assoc]
      exact List.Sublist.trans h2 (List.sublist_append_right _ _)
    · intro i g' a hi' ha'
      cases i with
      | zero =>
        simp at hi' ha'
        subst hi'; subst ha'
        exact ⟨by simpa using World.var?_cell hg0 hv0 0, (hrows a0.block a0.off (by simp [MemPlace.row])).1, s0, hc0⟩
      | succ i =>
        simp only [List.map_cons, List.getElem?_cons_succ] at hi' ha'
        exact hall i g' a hi' ha'

/-- What a list of sentinels gives: each variable's cell holds a pointer, the pointers are unlike. -/
theorem errs_of_laid {P : Program} {W : World} {ti tp te ts : TypeId} {ms : Array (String × TypeId)} {f : Field}
    (hi : P.underlying ti = some (.interface ms)) (hrow : ∀ u, P.typeName? 3 u = some "*errors.errorString" → u = tp)
    (hp : P.underlying tp = some (.pointer te)) (he : P.underlying te = some (.struct #[f])) (hft : f.type = ts) (hfo : f.offset = 0) (hs : P.underlying ts = some .string) (hc : P.cellsOf te = 1) (hcs : P.cellsOf ts = 1)
    (l : List (String × Nat × List UInt8)) (hl : ∀ x ∈ l, P.globalNamed x.1 = some x.2.1 ∧ (P.globals[x.2.1]?).map (·.type) = some ti)
    (h : laidMet P (l.map fun x => (x.1, errD x.2.2)) W) :
    ∃ L : List Addr, L.length = l.length ∧ L.Nodup ∧
        ∀ (i g : Nat) (a : Addr), (l.map (·.2.1))[i]? = some g → L[i]? = some a → W.cell? ⟨g, 0, none⟩ = some (.iface tp (.pointer (some a))) ∧ (∃ c t, W.heap[a.block]? = some (.cells c t (0, 0))) ∧ ∃ s, W.cell? a = some (.string s) := by
  obtain ⟨ps, hv, hnd, hrows⟩ := h
  obtain ⟨L, h1, h2, h3⟩ := errs_of_vars hi hrow hp he hft hfo hs hc hcs l ps hl hv hrows
  refine ⟨L, h1, ?_, h3⟩
  have := List.Nodup.sublist h2 hnd
  exact List.Pairwise.of_map _ (fun a b hab e => hab (by rw [e])) this
end Go.Proofs.YtonnhechjbdenaaGreatDoor

namespace Go.Proofs.YtonnhechjbdenaaGreatDoor
open Go.ChangeShapes Go.WideShapes Go.ChangeAt Go.RowKit

theorem own : ownKnob Tryz.prog.godebug = none := by kernel_rfl
theorem laidOut : laidOutB Tryz.prog = true := by kernel_rfl
theorem star : "*" ++ "errors.errorString" = "*errors.errorString" := by decide
theorem rowErr (u : TypeId) (h : Tryz.prog.typeName? 3 u = some "*errors.errorString") : u = 220 :=
  typeName_ptr_named (nm := "errors.errorString") (by rw [star]; kernel_rfl) (by kernel_rfl) (by decide) u (by rw [star]; exact h)
theorem cellsErr : Tryz.prog.cellsOf 241 = 1 := by kernel_rfl
theorem cellsStr : Tryz.prog.cellsOf 9 = 1 := by kernel_rfl
/-- A list of sentinels that reads as laid: what each variable's cell holds. -/
theorem errs_at {W : World} (l : List (String × Nat × List UInt8)) (hl : ∀ x ∈ l, Tryz.prog.globalNamed x.1 = some x.2.1 ∧ (Tryz.prog.globals[x.2.1]?).map (·.type) = some 39)
    (h : laidMet Tryz.prog (l.map fun x => (x.1, errD x.2.2)) W) :
    ∃ L : List Addr, L.length = l.length ∧ L.Nodup ∧
        ∀ (i g : Nat) (a : Addr), (l.map (·.2.1))[i]? = some g → L[i]? = some a → W.cell? ⟨g, 0, none⟩ = some (.iface 220 (.pointer (some a))) ∧ (∃ c t, W.heap[a.block]? = some (.cells c t (0, 0))) ∧ ∃ s, W.cell? a = some (.string s) :=
  errs_of_laid Tryz.underlying39 rowErr Tryz.underlying220 Tryz.underlying241 rfl rfl Tryz.underlying9 cellsErr cellsStr l hl h
end Go.Proofs.YtonnhechjbdenaaGreatDoor

namespace Go.Proofs.YtonnhechjbdenaaGreatDoor
open Go.RowKit

/-- The call returns v; the world is as it was, but for draws. -/
def Quiet (v : Value) (w : World) : Ending → World → Prop := fun e w' => e = .returned v ∧ ∃ n, w' = w.drewN n
theorem Quiet.same {v : Value} {w : World} : Quiet v w (.returned v) w := ⟨rfl, 0, rfl⟩
theorem Quiet.drew {v : Value} {w : World} (n : Nat) : Quiet v w (.returned v) (w.drewN n) := ⟨rfl, n, rfl⟩
theorem Quiet.same_of {v u : Value} {w : World} (h : v = u) : Quiet v w (.returned u) w := h ▸ Quiet.same
theorem Quiet.drew_of {v u : Value} {w : World} (n : Nat) (h : v = u) : Quiet v w (.returned u) (w.drewN n) := h ▸ Quiet.drew n
theorem below_drewN {B : Nat} {a w : World} (h : Below B a w) (n : Nat) : Below B a (w.drewN n) := ⟨h.os, h.tape, h.output, h.size, h.block⟩
theorem grow_refl (w : World) : Below w.heap.size w w := Below.refl _ _
theorem grow_alloc {a w : World} (h : Below a.heap.size a w) (o : Obj) : Below a.heap.size a (w.alloc o) := h.alloc h.size o
theorem grow_drew {a w : World} (h : Below a.heap.size a w) (n : Nat) : Below a.heap.size a (w.drewN n) := below_drewN h n
theorem grow_trans {a w w' : World} (h : Below a.heap.size a w) (k : Below w.heap.size w w') : Below a.heap.size a w' := h.trans (k.mono h.size)

/-- A cell that reads in w reads so in w'. -/
def Keeps (w w' : World) : Prop := ∀ a v, w.cell? a = some v → w'.cell? a = some v
theorem Keeps.refl (w : World) : Keeps w w := fun _ _ h => h
theorem Keeps.trans {a b c : World} (h : Keeps a b) (k : Keeps b c) : Keeps a c := fun x v hx => k x v (h x v hx)
theorem Keeps.of_below {w w' : World} (h : Below w.heap.size w w') : Keeps w w' := fun a v hv => (h.cell (World.block_lt_of_cell? w a hv)).trans hv
theorem Keeps.alloc (w : World) (o : Obj) : Keeps w (w.alloc o) := .of_below ((Below.refl _ _).alloc (Nat.le_refl _) _)
theorem Keeps.drewN (w : World) (n : Nat) : Keeps w (w.drewN n) := fun _ _ h => h

/-- The cells at a slice's address hold these values; nothing is said of the address where there are none. -/
def Row (w : World) (A : Option Addr) (vs : List Value) : Prop := ∀ (j : Nat) (u : Value), vs[j]? = some u → ∃ b off, A = some ⟨b, off, none⟩ ∧ w.cell? ⟨b, off + j, none⟩ = some u
theorem Row.nil (w : World) (A : Option Addr) : Row w A [] := fun j u h => by simp at h
theorem Row.keep {w w' : World} {A : Option Addr} {vs : List Value} (h : Row w A vs) (k : Keeps w w') : Row w' A vs := fun j u hj => by
  obtain ⟨b, off, e, hc⟩ := h j u hj
  exact ⟨b, off, e, k _ _ hc⟩
theorem Row.block {w : World} {b : Nat} {cs : Array Value} {t : TypeId} {fz : Nat × Nat} (h : w.heap[b]? = some (.cells cs t fz)) : Row w (some ⟨b, 0, none⟩) cs.toList := fun j u hj =>
  ⟨b, 0, rfl, by rw [cell_of_row w b (0 + j) cs t fz h]; simpa using hj⟩
theorem Row.new (w : World) (cs : Array Value) (t : TypeId) : Row (w.alloc (.cells cs t)) (some ⟨w.heap.size, 0, none⟩) cs.toList := Row.block (heap_alloc_new w _)
/-! strings among strings -/
/-- The place of the first text that is s, counted from k; -1: none. -/
def idxV (s : ByteArray) : List ByteArray → Nat → Int
  | [], _ => -1
  | x :: xs, k => if (s.toList == x.toList) = true then k else idxV s xs (k + 1)
theorem idxV_drop {s : ByteArray} {xs : List ByteArray} {k : Nat} (h : k < xs.length) : idxV s (xs.drop k) k = if (s.toList == xs[k].toList) = true then (k : Int) else idxV s (xs.drop (k + 1)) (k + 1) := by
  rw [List.drop_eq_getElem_cons h]; rfl
theorem idxV_ge (s : ByteArray) : ∀ (xs : List ByteArray) (k : Nat), -1 ≤ idxV s xs k ∧ idxV s xs k ≤ k + xs.length := by
  intro xs
  induction xs with
  | nil => intro k; simp [idxV]
  | cons x xs ih =>
    intro k
    unfold idxV
    have := ih (k + 1)
    simp only [List.length_cons]
    split <;> omega
def mkB (l : List UInt8) : ByteArray := ⟨l.toArray⟩
theorem mkB_toList (l : List UInt8) : (mkB l).toList = l := ByteArray.toList_mk l
theorem strs_get {xs : List ByteArray} {k : Nat} (h : k < xs.length) : (xs.map Value.string)[k]? = some (.string xs[k]) := by simp [h]
end Go.Proofs.YtonnhechjbdenaaGreatDoor
