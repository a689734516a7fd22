import Derived.Lib.Strings
import Derived.Test.YtdilakpipbkokaaDoorBn22
import Derived.Test.YtdilakpipbkokaaDoorBn6
set_option linter.unusedVariables false
set_option linter.unusedSimpArgs false
namespace Go.Proofs.YtdilakpipbkokaaDoor
open Go.ChangeShapes Go.WideShapes Go.ChangeAt Go.RowKit Go.Joins Go.Deep

section
variable {H : Type} {enc : TypeId × Value → H} {W : World} {base : Nat} {sp : Nat → Bool} {hd : Bool}
theorem bytes_idL (s : ByteArray) : mkB s.toList = s := by
  rw [Lib.toList_data]; cases s; rfl
theorem tcInt : Tryd.prog.cellsOf 3 = 1 := by kernel_rfl
set_option maxRecDepth 100000 in
/-- The argument: numbers. -/
theorem open_nums {v : Value} {d : DataW H} {p : List MemPlace} {r : Reach} {b0 : Nat} (hv : Value.okWide Tryd.prog W r b0 25 v) (h : DataW.Trod enc Tryd.prog W base sp hd 25 v d p) :
    ∃ xs A c, v = .slice A xs.length c ∧ xs.length ≤ maxLen ∧ Row W A (intVs xs) := by
  obtain ⟨fuel, hf⟩ := h
  obtain ⟨a0, l0, c0, rfl⟩ := okWide_slice Tryd.underlying25 hv
  rw [show (Value.slice a0 l0 c0).cells.toList = [Value.slice a0 l0 c0] from rfl] at hf
  rcases open_ints Tryd.underlying25 Tryd.underlying3 tcInt hf with ⟨hc, _⟩ | ⟨a, len, cap, zs, hc, _, hlc, hcm, hz, _, hcell, _⟩
  · simp only [List.cons.injEq, and_true] at hc
    exact ⟨[], none, 0, hc, by simp, Row.nil _ _⟩
  · simp only [List.cons.injEq, and_true] at hc
    have hle : len ≤ zs.length := by rw [hz]; split <;> omega
    refine ⟨zs.take len, some a, cap, by rw [hc, List.length_take, Nat.min_eq_left hle], by rw [List.length_take]; omega, fun j u hj => ?_⟩
    have hjl : j < len := by
      have := (List.getElem?_eq_some_iff.1 hj).1
      simp [intVs] at this
      omega
    have hg := hcell j (by omega)
    have hs := World.cell?_spot (hcell 0 (by omega))
    obtain ⟨ab, ao, asp⟩ := a
    have hs' : asp = none := by simpa [Addr.add] using hs
    subst hs'
    refine ⟨ab, ao, rfl, ?_⟩
    have e2 : (⟨ab, ao, none⟩ : Addr).add j = ⟨ab, ao + j, none⟩ := by unfold Addr.add; split <;> simp_all
    rw [e2] at hg
    rw [hg]
    unfold intVs at hj
    rw [List.getElem?_map, List.getElem?_take, if_pos hjl] at hj
    rw [List.getD_eq_getElem?_getD]
    cases hq : zs[j]? with
    | none => rw [hq] at hj; cases hj
    | some z => rw [hq] at hj; simpa using hj
end
end Go.Proofs.YtdilakpipbkokaaDoor

namespace Go.Proofs.YtdilakpipbkokaaDoor
open Go.ChangeShapes Go.WideShapes Go.ChangeAt Go.RowKit Go.Joins Go.Deep

section
variable {H : Type} {enc : TypeId × Value → H} {W : World} {base : Nat} {sp : Nat → Bool} {hd : Bool}
/-- A row that holds something lies in the heap. -/
theorem row_there {w : World} {X : Option Addr} {l : List Int} (h : Row w X (intVs l)) (hne : l ≠ []) (a : Addr) (ha : X = some a) : a.block < w.heap.size := by
  cases l with
  | nil => exact absurd rfl hne
  | cons x xs =>
    obtain ⟨b, off, e, hc⟩ := h 0 _ rfl
    rw [ha] at e
    injection e with e
    subst e
    unfold World.cell? at hc
    cases hb : w.heap[b]? with
    | none => simp [hb] at hc
    | some o => exact (Array.getElem?_eq_some_iff.1 hb).1
set_option maxRecDepth 100000 in
/-- The argument: numbers, each within 64 bits. -/
theorem open_nums6 {v : Value} {d : DataW H} {p : List MemPlace} {r : Reach} {b0 : Nat} (hv : Value.okWide Tryd.prog W r b0 25 v) (h : DataW.Trod enc Tryd.prog W base sp hd 25 v d p) :
    ∃ xs A c, v = .slice A xs.length c ∧ xs.length ≤ maxLen ∧ Row W A (intVs xs) ∧ ∀ n ∈ xs, I64 n := by
  obtain ⟨xs, A, c, hv', hm, hr⟩ := open_nums hv h
  refine ⟨xs, A, c, hv', hm, hr, ?_⟩
  obtain ⟨fuel, hf⟩ := h
  subst hv'
  rw [show (Value.slice A xs.length c).cells.toList = [Value.slice A xs.length c] from rfl] at hf
  rcases open_ints Tryd.underlying25 Tryd.underlying3 tcInt hf with ⟨hc, _⟩ | ⟨a, len, cap, zs, hc, _, hlc, hcm, hz, _, hcell, hwf⟩
  · simp only [List.cons.injEq, and_true, Value.slice.injEq] at hc
    have : xs = [] := List.length_eq_zero_iff.1 hc.2.1
    subst this
    intro n hn; cases hn
  · simp only [List.cons.injEq, and_true, Value.slice.injEq] at hc
    obtain ⟨rfl, hlen, rfl⟩ := hc
    have hle : len ≤ zs.length := by rw [hz]; split <;> omega
    intro n hn
    obtain ⟨j, hj, rfl⟩ := List.mem_iff_getElem.1 hn
    have hg := hcell j (by omega)
    obtain ⟨b, off, e, hc⟩ := hr j (.int .i64 xs[j]) (by simp [intVs, hj])
    injection e with e
    subst e
    have e2 : (⟨b, off, none⟩ : Addr).add j = ⟨b, off + j, none⟩ := by unfold Addr.add; split <;> simp_all
    rw [e2, hc] at hg
    have hjz : j < zs.length := by omega
    have e3 : xs[j] = zs[j] := by
      injection hg with hg
      injection hg with _ hg
      rw [List.getD_eq_getElem?_getD, List.getElem?_eq_getElem hjz] at hg
      simpa using hg
    rw [e3]
    have := hwf _ (List.getElem_mem hjz)
    simp [Lit.wf] at this
    exact ⟨this.1, this.2⟩
end
end Go.Proofs.YtdilakpipbkokaaDoor
