import Derived.Test.YtgmkdoiehobfeaaDoorSeat
import Derived.Test.YtgmkdoiehobfeaaDoorCodeX
import Derived.Lib.SmallJoins
namespace Go.Proofs.YtgmkdoiehobfeaaDoor
open Go.ChangeShapes Go.WideShapes Go.ChangeAt Go.RowKit Go.Joins

theorem cellsInt : Tryd.prog.cellsOf 3 = 1 := by kernel_rfl
theorem cellsIns : Tryd.prog.cellsOf 24 = 5 := by kernel_rfl
theorem string_mk {H : Type} {enc : TypeId × Value → H} {W : World} {base : Nat} {sp : Nat → Bool} {hd : Bool} (n : Nat) (s : ByteArray) (hs : s.size ≤ maxLen) : DataW.trod enc Tryd.prog W base sp hd (n + 1) 9 [.string s] = some (.lit (.string s.data.toList), []) := by
  simp [DataW.trod, Tryd.underlying9, hs]
theorem bytes_id (s : ByteArray) : mkB s.toList = s := by
  rw [toList_data]; cases s; rfl
set_option maxRecDepth 100000 in
/-- An instruction that came in, opened: plain data, which read so in any world. -/
theorem open_ins {H : Type} {enc : TypeId × Value → H} {W : World} {base b0 : Nat} {r : Reach} {sp : Nat → Bool} {hd : Bool} {v : Value} {d : DataW H} {p : List MemPlace}
    (hv : Value.okWide Tryd.prog W r b0 24 v) (h : DataW.Trod enc Tryd.prog W base sp hd 24 v d p) :
    ∃ i : PIns, v = insV i ∧ p = [] ∧ ∀ (W2 : World) (base2 : Nat) (sp2 : Nat → Bool) (hd2 : Bool), DataW.Trod enc Tryd.prog W2 base2 sp2 hd2 24 v d [] := by
  obtain ⟨cs, rfl, hsz⟩ := okWide_struct Tryd.underlying24 hv
  obtain ⟨l⟩ := cs
  have hl5 : l.length = 5 := hsz.trans cellsIns
  clear hsz
  match l, hl5 with
  | [c0, c1, c2, c3, c4], _ =>
    obtain ⟨fuel, hf⟩ := h
    obtain ⟨xs, n, _, hx, hl, hlen, hg⟩ := DataW.trod_struct Tryd.underlying24 hf
    match xs, hlen with
    | [z0, z1, z2, z3, z4], _ =>
      have g0 : DataW.trod enc Tryd.prog W base sp hd n 9 (([c0, c1, c2, c3, c4].drop 0).take (Tryd.prog.cellsOf 9)) = some z0 := hg 0 _ rfl
      rw [cellsStr, show ([c0, c1, c2, c3, c4].drop 0).take 1 = [c0] from rfl] at g0
      have g1 : DataW.trod enc Tryd.prog W base sp hd n 3 (([c0, c1, c2, c3, c4].drop 1).take (Tryd.prog.cellsOf 3)) = some z1 := hg 1 _ rfl
      rw [cellsInt, show ([c0, c1, c2, c3, c4].drop 1).take 1 = [c1] from rfl] at g1
      have g2 : DataW.trod enc Tryd.prog W base sp hd n 3 (([c0, c1, c2, c3, c4].drop 2).take (Tryd.prog.cellsOf 3)) = some z2 := hg 2 _ rfl
      rw [cellsInt, show ([c0, c1, c2, c3, c4].drop 2).take 1 = [c2] from rfl] at g2
      have g3 : DataW.trod enc Tryd.prog W base sp hd n 3 (([c0, c1, c2, c3, c4].drop 3).take (Tryd.prog.cellsOf 3)) = some z3 := hg 3 _ rfl
      rw [cellsInt, show ([c0, c1, c2, c3, c4].drop 3).take 1 = [c3] from rfl] at g3
      have g4 : DataW.trod enc Tryd.prog W base sp hd n 3 (([c0, c1, c2, c3, c4].drop 4).take (Tryd.prog.cellsOf 3)) = some z4 := hg 4 _ rfl
      rw [cellsInt, show ([c0, c1, c2, c3, c4].drop 4).take 1 = [c4] from rfl] at g4
      obtain ⟨s, e0, rfl, hs⟩ := DataW.trod_string Tryd.underlying9 g0
      obtain ⟨n1, e1, rfl, w1⟩ := DataW.trod_int Tryd.underlying3 g1
      obtain ⟨n2, e2, rfl, w2⟩ := DataW.trod_int Tryd.underlying3 g2
      obtain ⟨n3, e3, rfl, w3⟩ := DataW.trod_int Tryd.underlying3 g3
      obtain ⟨n4, e4, rfl, w4⟩ := DataW.trod_int Tryd.underlying3 g4
      simp only [List.cons.injEq, and_true] at e0 e1 e2 e3 e4
      subst e0; subst e1; subst e2; subst e3; subst e4
      have hsm : mkB s.toList = s := bytes_id s
      simp only [Prod.mk.injEq] at hx
      obtain ⟨rfl, rfl⟩ := hx
      refine ⟨⟨s.toList, n1, n2, n3, n4⟩, by unfold insV; simp only; rw [hsm], rfl, fun W2 base2 sp2 hd2 => ⟨2, ?_⟩⟩
      have := trod_struct_mk (enc := enc) (w := W2) (base := base2) (spare := sp2) (held := hd2) (n := 1) (cs := [.string s, .int .i64 n1, .int .i64 n2, .int .i64 n3, .int .i64 n4])
        (xs := [(.lit (.string s.data.toList), []), (.lit (.int .i64 n1), []), (.lit (.int .i64 n2), []), (.lit (.int .i64 n3), []), (.lit (.int .i64 n4), [])]) Tryd.underlying24 cellsIns.symm
        (by simp [cellsStr, cellsInt, string_mk 0 s hs, trod_int_mk 0 Tryd.underlying3 w1, trod_int_mk 0 Tryd.underlying3 w2, trod_int_mk 0 Tryd.underlying3 w3, trod_int_mk 0 Tryd.underlying3 w4])
      simpa [Value.cells] using this
end Go.Proofs.YtgmkdoiehobfeaaDoor
