import Derived.Test.YteifmgcbafemeaaGreatDoorCode
namespace Go.Proofs.YteifmgcbafemeaaGreatDoor
open Go.RowKit

/-- What an error value says: its number and its place. -/
def ErrIs (E : Nat → Addr) (w : World) (v : Value) (c a : Int) : Prop :=
  (v = .nilIface ∧ c = 0 ∧ a = -1) ∨ (∃ i : Nat, i < 10 ∧ v = esV (E i) ∧ c = i + 1 ∧ a = -1) ∨
  ∃ (i fb fo : Nat), i < 10 ∧ v = ftV ⟨fb, fo, none⟩ ∧ w.cell? ⟨fb, fo, none⟩ = some (.int .i64 a) ∧ w.cell? ⟨fb, fo + 1, none⟩ = some (esV (E i)) ∧ c = i + 1
theorem ErrIs.keep {E : Nat → Addr} {w w' : World} {v : Value} {c a : Int} (h : ErrIs E w v c a) (k : Keeps w w') : ErrIs E w' v c a := by
  rcases h with h | h | ⟨i, fb, fo, h1, h2, h3, h4, h5⟩
  · exact .inl h
  · exact .inr (.inl h)
  · exact .inr (.inr ⟨i, fb, fo, h1, h2, k _ _ h3, k _ _ h4, h5⟩)
theorem ErrIs.nil_ {E : Nat → Addr} {w : World} : ErrIs E w .nilIface 0 (-1) := .inl ⟨rfl, rfl, rfl⟩
theorem ErrIs.es {E : Nat → Addr} {w : World} {i : Nat} (h : i < 10) : ErrIs E w (esV (E i)) (i + 1) (-1) := .inr (.inl ⟨i, h, rfl, rfl, rfl⟩)
theorem Code_any (E : Nat → Addr) (w : World) (h : Laid E w) (v : Value) (c a : Int) (hv : ErrIs E w v c a) :
    Calls Tryz.prog 24 #[v] w (Ret (.tuple #[.int .i64 c, .int .i64 a]) w) := by
  rcases hv with ⟨rfl, rfl, rfl⟩ | ⟨i, hi, rfl, rfl, rfl⟩ | ⟨i, fb, fo, hi, rfl, h0, h1, rfl⟩
  · refine (Code_nil w).mono ?_
    rintro e w' ⟨rfl, n, rfl⟩
    exact ⟨rfl, below_drewN (Below.refl _ _) _⟩
  · exact Code_es E i hi w h
  · exact Code_ft E i hi fb fo a w h h0 h1

theorem coded_any (E : Nat → Addr) (w : World) (h : Laid E w) (v : Value) (c a code : Int) (hv : ErrIs E w v c a) :
    Calls Tryz.prog 21 #[v, .int .i64 code] w (Ret (.bool ((c == code) && (a == -1))) w) := by
  have HV := Lib.hid hv
  have HL := Lib.hid h
  clear hv h
  go_enter Tryz.func21, Tryz.ntmps21
  cases hc : (c == code) <;> cases ha : (a == -1)
  all_goals
    go_wp2_with (go_at_call 24; refine (Code_any E _ HL.out _ _ _ HV.out).mono ?_; rintro e w' ⟨rfl, hb⟩)
    go_ret
    exact ⟨rfl, by assumption⟩
theorem coded_true (E : Nat → Addr) (w w0 : World) (h : Laid E w0) (hb : Below w0.heap.size w0 w) (i : Nat) (hi : i < 10) (code : Int) (hc : code = i + 1) :
    Calls Tryz.prog 21 #[esV (E i), .int .i64 code] w fun e w' => e = .returned (.bool true) ∧ Below w.heap.size w w' ∧ Laid E w' := by
  subst hc
  have hl := h.keep hb
  refine (coded_any E w hl _ _ _ _ (ErrIs.es hi)).mono ?_
  rintro e w' ⟨rfl, h2⟩
  exact ⟨by simp, h2, hl.keep h2⟩
theorem faulted_any (E : Nat → Addr) (w : World) (h : Laid E w) (v : Value) (c a fc fa : Int) (hv : ErrIs E w v c a) :
    Calls Tryz.prog 8 #[v, .agg #[.int .i64 fc, .int .i64 fa]] w (Ret (.bool ((c == fc) && ((c == 0) || (a == fa)))) w) := by
  have hB : Below w.heap.size w (w.alloc (.cells #[.int .i64 fc, .int .i64 fa] 32)) := (Below.refl _ _).alloc (Nat.le_refl _) _
  have HV := Lib.hid (hv.keep (Keeps.of_below hB))
  have HL := Lib.hid (h.keep hB)
  have HB := Lib.hid hB
  clear hv h hB
  have hcl : (w.alloc (.cells #[.int .i64 fc, .int .i64 fa] 32)).cell? ⟨w.heap.size, 0, none⟩ = some (.int .i64 fc) := by simp
  have hcm : (w.alloc (.cells #[.int .i64 fc, .int .i64 fa] 32)).cell? ⟨w.heap.size, 1, none⟩ = some (.int .i64 fa) := by simp
  have H0 := Lib.hid hcl
  have H1 := Lib.hid hcm
  clear hcl hcm
  go_enter Tryz.func8, Tryz.ntmps8
  cases hc : (c == fc) <;> cases h0 : (c == 0) <;> cases ha : (a == fa)
  all_goals
    go_wp2_with (go_at_call 24; refine (Code_any E _ HL.out _ _ _ HV.out).mono ?_; rintro e w' ⟨rfl, hb⟩; have k0 := Keeps.of_below hb _ _ H0.out; have k1 := Keeps.of_below hb _ _ H1.out)
    go_ret
    refine ⟨rfl, HB.out.trans (hb.mono (by simp))⟩
end Go.Proofs.YteifmgcbafemeaaGreatDoor
