import Derived.Test.YtgmkdoiehobfeaaDoorCode
namespace Go.Proofs.YtgmkdoiehobfeaaDoor
open Go.RowKit

/-- What an error value says: its number and its place. -/
def ErrIs (E : Nat → Addr) (w : World) (v : Value) (c a : Int) : Prop :=
  (v = .nilIface ∧ c = 0 ∧ a = -1) ∨ (∃ i : Nat, i < 10 ∧ v = esV (E i) ∧ c = i + 1 ∧ a = -1) ∨
  ∃ (i fb fo : Nat), i < 10 ∧ v = ftV ⟨fb, fo, none⟩ ∧ w.cell? ⟨fb, fo, none⟩ = some (.int .i64 a) ∧ w.cell? ⟨fb, fo + 1, none⟩ = some (esV (E i)) ∧ c = i + 1
theorem ErrIs.keep {E : Nat → Addr} {w w' : World} {v : Value} {c a : Int} (h : ErrIs E w v c a) (k : Keeps w w') : ErrIs E w' v c a := by
  rcases h with h | h | ⟨i, fb, fo, h1, h2, h3, h4, h5⟩
  · exact .inl h
  · exact .inr (.inl h)
  · exact .inr (.inr ⟨i, fb, fo, h1, h2, k _ _ h3, k _ _ h4, h5⟩)
theorem ErrIs.nil_ {E : Nat → Addr} {w : World} : ErrIs E w .nilIface 0 (-1) := .inl ⟨rfl, rfl, rfl⟩
theorem ErrIs.es {E : Nat → Addr} {w : World} {i : Nat} (h : i < 10) : ErrIs E w (esV (E i)) (i + 1) (-1) := .inr (.inl ⟨i, h, rfl, rfl, rfl⟩)
theorem Code_any (E : Nat → Addr) (w : World) (h : Laid E w) (v : Value) (c a : Int) (hv : ErrIs E w v c a) :
    Calls Tryd.prog 23 #[v] w (Ret (.tuple #[.int .i64 c, .int .i64 a]) w) := by
  rcases hv with ⟨rfl, rfl, rfl⟩ | ⟨i, hi, rfl, rfl, rfl⟩ | ⟨i, fb, fo, hi, rfl, h0, h1, rfl⟩
  · refine (Code_nil w).mono ?_
    rintro e w' ⟨rfl, n, rfl⟩
    exact ⟨rfl, below_drewN (Below.refl _ _) _⟩
  · exact Code_es E i hi w h
  · exact Code_ft E i hi fb fo a w h h0 h1

end Go.Proofs.YtgmkdoiehobfeaaDoor
