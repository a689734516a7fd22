import Derived.Test.YtdilakpipbkokaaDoorProg
import Derived.WalkKit
import Derived.WalkLawsBesides
import Derived.WalkSpells
import Derived.Handy
import Derived.Deep.QuietTactic
import Derived.BigQuiet
import Derived.Laws.EntriesVeiled
import Derived.Lib.Hide
set_option linter.unusedVariables false
set_option linter.unusedSimpArgs false
namespace Go.Proofs.YtdilakpipbkokaaDoor
open Go.RowKit

/-- The call returns v; the world is as it was, but for draws. -/
def Quiet (v : Value) (w : World) : Ending → World → Prop := fun e w' => e = .returned v ∧ ∃ n, w' = w.drewN n
theorem Quiet.same {v : Value} {w : World} : Quiet v w (.returned v) w := ⟨rfl, 0, rfl⟩
theorem Quiet.drew {v : Value} {w : World} (n : Nat) : Quiet v w (.returned v) (w.drewN n) := ⟨rfl, n, rfl⟩
theorem Quiet.same_of {v u : Value} {w : World} (h : v = u) : Quiet v w (.returned u) w := h ▸ Quiet.same
theorem Quiet.drew_of {v u : Value} {w : World} (n : Nat) (h : v = u) : Quiet v w (.returned u) (w.drewN n) := h ▸ Quiet.drew n
theorem below_drewN {B : Nat} {a w : World} (h : Below B a w) (n : Nat) : Below B a (w.drewN n) := ⟨h.os, h.tape, h.output, h.size, h.block⟩
theorem quiet_add {P : Program} {f : FuncId} {args : Array Value} {w : World} {a n : Nat} {v : Value} (h : Calls P f args (w.drewN (a + n)) (Quiet v (w.drewN (a + n)))) :
    Calls P f args (w.drewN (a + n)) fun e w'' => e = .returned v ∧ ∃ m, w'' = w.drewN (a + m) :=
  h.mono fun _ _ ⟨he, m, hm⟩ => ⟨he, n + m, by rw [hm, World.drewN_drewN, Nat.add_assoc]⟩
theorem quiet_zero {P : Program} {f : FuncId} {args : Array Value} {w : World} {n : Nat} {v : Value} (h : Calls P f args (w.drewN n) (Quiet v (w.drewN n))) :
    Calls P f args (w.drewN n) fun e w'' => e = .returned v ∧ ∃ m, w'' = w.drewN m :=
  h.mono fun _ _ ⟨he, m, hm⟩ => ⟨he, n + m, by rw [hm, World.drewN_drewN]⟩

theorem grow_refl (w : World) : Below w.heap.size w w := Below.refl _ _
theorem grow_alloc {a w : World} (h : Below a.heap.size a w) (o : Obj) : Below a.heap.size a (w.alloc o) := h.alloc h.size o
theorem grow_drew {a w : World} (h : Below a.heap.size a w) (n : Nat) : Below a.heap.size a (w.drewN n) := below_drewN h n
theorem grow_trans {a w w' : World} (h : Below a.heap.size a w) (k : Below w.heap.size w w') : Below a.heap.size a w' := h.trans (k.mono h.size)

/-- A cell that reads in w reads so in w'. -/
def Keeps (w w' : World) : Prop := ∀ a v, w.cell? a = some v → w'.cell? a = some v
theorem Keeps.refl (w : World) : Keeps w w := fun _ _ h => h
theorem Keeps.trans {a b c : World} (h : Keeps a b) (k : Keeps b c) : Keeps a c := fun x v hx => k x v (h x v hx)
theorem Keeps.of_below {w w' : World} (h : Below w.heap.size w w') : Keeps w w' := fun a v hv => (h.cell (World.block_lt_of_cell? w a hv)).trans hv
theorem Keeps.alloc (w : World) (o : Obj) : Keeps w (w.alloc o) := .of_below ((Below.refl _ _).alloc (Nat.le_refl _) _)
theorem Keeps.drewN (w : World) (n : Nat) : Keeps w (w.drewN n) := fun _ _ h => h

/-- The cells at a slice's address hold these values; nothing is said of the address where there are none. -/
def Row (w : World) (A : Option Addr) (vs : List Value) : Prop := ∀ (j : Nat) (u : Value), vs[j]? = some u → ∃ b off, A = some ⟨b, off, none⟩ ∧ w.cell? ⟨b, off + j, none⟩ = some u
theorem Row.nil (w : World) (A : Option Addr) : Row w A [] := fun j u h => by simp at h
theorem Row.keep {w w' : World} {A : Option Addr} {vs : List Value} (h : Row w A vs) (k : Keeps w w') : Row w' A vs := fun j u hj => by
  obtain ⟨b, off, e, hc⟩ := h j u hj
  exact ⟨b, off, e, k _ _ hc⟩
theorem Row.block {w : World} {b : Nat} {cs : Array Value} {t : TypeId} {fz : Nat × Nat} (h : w.heap[b]? = some (.cells cs t fz)) : Row w (some ⟨b, 0, none⟩) cs.toList := fun j u hj =>
  ⟨b, 0, rfl, by rw [cell_of_row w b (0 + j) cs t fz h]; simpa using hj⟩
theorem Row.new (w : World) (cs : Array Value) (t : TypeId) : Row (w.alloc (.cells cs t)) (some ⟨w.heap.size, 0, none⟩) cs.toList := Row.block (heap_alloc_new w _)
theorem Row.of_eq {w : World} {A : Option Addr} {vs us : List Value} (h : Row w A vs) (e : vs = us) : Row w A us := e ▸ h

/-! strings among strings -/
def sEq (x y : ByteArray) : Bool := x.toList == y.toList
def isIn (s : ByteArray) (xs : List ByteArray) : Bool := xs.any fun x => x.toList == s.toList
/-- The place of the first text that is s, counted from k; -1: none. -/
def idxV (s : ByteArray) : List ByteArray → Nat → Int
  | [], _ => -1
  | x :: xs, k => if (s.toList == x.toList) = true then k else idxV s xs (k + 1)
theorem idxV_drop {s : ByteArray} {xs : List ByteArray} {k : Nat} (h : k < xs.length) : idxV s (xs.drop k) k = if (s.toList == xs[k].toList) = true then (k : Int) else idxV s (xs.drop (k + 1)) (k + 1) := by
  rw [List.drop_eq_getElem_cons h]; rfl
theorem idxV_isIn (s : ByteArray) : ∀ (xs : List ByteArray) (k : Nat), decide (idxV s xs k ≥ 0) = isIn s xs := by
  intro xs
  induction xs with
  | nil => intro k; simp [idxV, isIn]
  | cons x xs ih =>
    intro k
    unfold idxV
    by_cases h : (s.toList == x.toList) = true
    · rw [if_pos h]
      have h' : (x.toList == s.toList) = true := by simp at h ⊢; exact h.symm
      simp [isIn, h']
    · rw [if_neg h, ih]
      have h' : (x.toList == s.toList) = false := by simp at h ⊢; exact fun e => h e.symm
      simp [isIn, h']
theorem idxV_ge (s : ByteArray) : ∀ (xs : List ByteArray) (k : Nat), -1 ≤ idxV s xs k ∧ idxV s xs k ≤ k + xs.length := by
  intro xs
  induction xs with
  | nil => intro k; simp [idxV]
  | cons x xs ih =>
    intro k
    unfold idxV
    have := ih (k + 1)
    simp only [List.length_cons]
    split <;> omega
/-- Are two lists of texts the same? -/
def sameS (xs ys : List ByteArray) : Bool := xs.map (·.toList) == ys.map (·.toList)
def mkB (l : List UInt8) : ByteArray := ⟨l.toArray⟩
theorem mkB_toList (l : List UInt8) : (mkB l).toList = l := ByteArray.toList_mk l
theorem isIn_mkB (s : ByteArray) (B : List (List UInt8)) : isIn s (B.map mkB) = B.any (fun x => x == s.toList) := by
  unfold isIn
  rw [List.any_map]
  congr 1
  funext x
  simp only [Function.comp, mkB_toList]
theorem strs_get {xs : List ByteArray} {k : Nat} (h : k < xs.length) : (xs.map Value.string)[k]? = some (.string xs[k]) := by simp [h]
theorem isIn_drop {s : ByteArray} {xs : List ByteArray} {k : Nat} (h : k < xs.length) : isIn s (xs.drop k) = ((xs[k].toList == s.toList) || isIn s (xs.drop (k + 1))) := by
  unfold isIn; rw [List.drop_eq_getElem_cons h, List.any_cons]
end Go.Proofs.YtdilakpipbkokaaDoor
