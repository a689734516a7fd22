import Derived.Test.YtdilakpipbkokaaDoorBn11
import Derived.Test.YtdilakpipbkokaaDoorBn5
import Derived.Test.YtdilakpipbkokaaDoorBn4
set_option linter.unusedVariables false
set_option linter.unusedSimpArgs false
namespace Go.Proofs.YtdilakpipbkokaaDoor
open Go.RowKit

/-! kinds of an Ins (printed by gen_pla.py) -/
theorem mkB_eq (k l : List UInt8) : ((mkB k).toList == l) = (k == l) := by rw [mkB_toList]
theorem kindW_none {k : List UInt8} (hkParam : k ≠ kParam) (hkConst : k ≠ kConst) (hkOne : k ≠ kOne) (hkTwo : k ≠ kTwo) (hkCall : k ≠ kCall) (hkTick : k ≠ kTick) (hkPrint : k ≠ kPrint) : kindW k = 0 := by
  unfold kindW
  simp [hkParam, hkConst, hkOne, hkTwo, hkCall, hkTick, hkPrint]
set_option maxRecDepth 100000 in
theorem many_any (k : List UInt8) (w : World) : Calls Tryd.prog 51 #[.string (mkB k)] w fun e w' => e = .returned (.tuple #[.int .i64 (manyW (kindW k)), .bool (kindW k != 0)]) ∧ w' = w := by
  by_cases hkParam : k = kParam
  · have hk : k = kParam := hkParam
    have hK : manyW (kindW k) = 0 ∧ (kindW k != 0) = true := by rw [hk]; decide
    have qkParam : ((mkB k).toList == [112, 97, 114, 97, 109]) = true := by rw [mkB_eq, hk]; rfl
    have qkConst : ((mkB k).toList == [99, 111, 110, 115, 116]) = false := by rw [mkB_eq, hk]; rfl
    have qkOne : ((mkB k).toList == [111, 110, 101]) = false := by rw [mkB_eq, hk]; rfl
    have qkTwo : ((mkB k).toList == [116, 119, 111]) = false := by rw [mkB_eq, hk]; rfl
    have qkCall : ((mkB k).toList == [99, 97, 108, 108]) = false := by rw [mkB_eq, hk]; rfl
    have qkTick : ((mkB k).toList == [116, 105, 99, 107]) = false := by rw [mkB_eq, hk]; rfl
    have qkPrint : ((mkB k).toList == [112, 114, 105, 110, 116]) = false := by rw [mkB_eq, hk]; rfl
    rw [hK.1, hK.2]
    clear hK hk hkParam
    go_enter Tryd.func51, Tryd.ntmps51
    go_wp2_with fail
    go_ret2
    exact ⟨rfl, rfl⟩
  by_cases hkConst : k = kConst
  · have hk : k = kConst := hkConst
    have hK : manyW (kindW k) = 0 ∧ (kindW k != 0) = true := by rw [hk]; decide
    have qkParam : ((mkB k).toList == [112, 97, 114, 97, 109]) = false := by rw [mkB_eq, hk]; rfl
    have qkConst : ((mkB k).toList == [99, 111, 110, 115, 116]) = true := by rw [mkB_eq, hk]; rfl
    have qkOne : ((mkB k).toList == [111, 110, 101]) = false := by rw [mkB_eq, hk]; rfl
    have qkTwo : ((mkB k).toList == [116, 119, 111]) = false := by rw [mkB_eq, hk]; rfl
    have qkCall : ((mkB k).toList == [99, 97, 108, 108]) = false := by rw [mkB_eq, hk]; rfl
    have qkTick : ((mkB k).toList == [116, 105, 99, 107]) = false := by rw [mkB_eq, hk]; rfl
    have qkPrint : ((mkB k).toList == [112, 114, 105, 110, 116]) = false := by rw [mkB_eq, hk]; rfl
    rw [hK.1, hK.2]
    clear hK hk hkConst
    go_enter Tryd.func51, Tryd.ntmps51
    go_wp2_with fail
    go_ret2
    exact ⟨rfl, rfl⟩
  by_cases hkOne : k = kOne
  · have hk : k = kOne := hkOne
    have hK : manyW (kindW k) = 1 ∧ (kindW k != 0) = true := by rw [hk]; decide
    have qkParam : ((mkB k).toList == [112, 97, 114, 97, 109]) = false := by rw [mkB_eq, hk]; rfl
    have qkConst : ((mkB k).toList == [99, 111, 110, 115, 116]) = false := by rw [mkB_eq, hk]; rfl
    have qkOne : ((mkB k).toList == [111, 110, 101]) = true := by rw [mkB_eq, hk]; rfl
    have qkTwo : ((mkB k).toList == [116, 119, 111]) = false := by rw [mkB_eq, hk]; rfl
    have qkCall : ((mkB k).toList == [99, 97, 108, 108]) = false := by rw [mkB_eq, hk]; rfl
    have qkTick : ((mkB k).toList == [116, 105, 99, 107]) = false := by rw [mkB_eq, hk]; rfl
    have qkPrint : ((mkB k).toList == [112, 114, 105, 110, 116]) = false := by rw [mkB_eq, hk]; rfl
    rw [hK.1, hK.2]
    clear hK hk hkOne
    go_enter Tryd.func51, Tryd.ntmps51
    go_wp2_with fail
    go_ret2
    exact ⟨rfl, rfl⟩
  by_cases hkTwo : k = kTwo
  · have hk : k = kTwo := hkTwo
    have hK : manyW (kindW k) = 2 ∧ (kindW k != 0) = true := by rw [hk]; decide
    have qkParam : ((mkB k).toList == [112, 97, 114, 97, 109]) = false := by rw [mkB_eq, hk]; rfl
    have qkConst : ((mkB k).toList == [99, 111, 110, 115, 116]) = false := by rw [mkB_eq, hk]; rfl
    have qkOne : ((mkB k).toList == [111, 110, 101]) = false := by rw [mkB_eq, hk]; rfl
    have qkTwo : ((mkB k).toList == [116, 119, 111]) = true := by rw [mkB_eq, hk]; rfl
    have qkCall : ((mkB k).toList == [99, 97, 108, 108]) = false := by rw [mkB_eq, hk]; rfl
    have qkTick : ((mkB k).toList == [116, 105, 99, 107]) = false := by rw [mkB_eq, hk]; rfl
    have qkPrint : ((mkB k).toList == [112, 114, 105, 110, 116]) = false := by rw [mkB_eq, hk]; rfl
    rw [hK.1, hK.2]
    clear hK hk hkTwo
    go_enter Tryd.func51, Tryd.ntmps51
    go_wp2_with fail
    go_ret2
    exact ⟨rfl, rfl⟩
  by_cases hkCall : k = kCall
  · have hk : k = kCall := hkCall
    have hK : manyW (kindW k) = -1 ∧ (kindW k != 0) = true := by rw [hk]; decide
    have qkParam : ((mkB k).toList == [112, 97, 114, 97, 109]) = false := by rw [mkB_eq, hk]; rfl
    have qkConst : ((mkB k).toList == [99, 111, 110, 115, 116]) = false := by rw [mkB_eq, hk]; rfl
    have qkOne : ((mkB k).toList == [111, 110, 101]) = false := by rw [mkB_eq, hk]; rfl
    have qkTwo : ((mkB k).toList == [116, 119, 111]) = false := by rw [mkB_eq, hk]; rfl
    have qkCall : ((mkB k).toList == [99, 97, 108, 108]) = true := by rw [mkB_eq, hk]; rfl
    have qkTick : ((mkB k).toList == [116, 105, 99, 107]) = false := by rw [mkB_eq, hk]; rfl
    have qkPrint : ((mkB k).toList == [112, 114, 105, 110, 116]) = false := by rw [mkB_eq, hk]; rfl
    rw [hK.1, hK.2]
    clear hK hk hkCall
    go_enter Tryd.func51, Tryd.ntmps51
    go_wp2_with fail
    go_ret2
    exact ⟨rfl, rfl⟩
  by_cases hkTick : k = kTick
  · have hk : k = kTick := hkTick
    have hK : manyW (kindW k) = 0 ∧ (kindW k != 0) = true := by rw [hk]; decide
    have qkParam : ((mkB k).toList == [112, 97, 114, 97, 109]) = false := by rw [mkB_eq, hk]; rfl
    have qkConst : ((mkB k).toList == [99, 111, 110, 115, 116]) = false := by rw [mkB_eq, hk]; rfl
    have qkOne : ((mkB k).toList == [111, 110, 101]) = false := by rw [mkB_eq, hk]; rfl
    have qkTwo : ((mkB k).toList == [116, 119, 111]) = false := by rw [mkB_eq, hk]; rfl
    have qkCall : ((mkB k).toList == [99, 97, 108, 108]) = false := by rw [mkB_eq, hk]; rfl
    have qkTick : ((mkB k).toList == [116, 105, 99, 107]) = true := by rw [mkB_eq, hk]; rfl
    have qkPrint : ((mkB k).toList == [112, 114, 105, 110, 116]) = false := by rw [mkB_eq, hk]; rfl
    rw [hK.1, hK.2]
    clear hK hk hkTick
    go_enter Tryd.func51, Tryd.ntmps51
    go_wp2_with fail
    go_ret2
    exact ⟨rfl, rfl⟩
  by_cases hkPrint : k = kPrint
  · have hk : k = kPrint := hkPrint
    have hK : manyW (kindW k) = 1 ∧ (kindW k != 0) = true := by rw [hk]; decide
    have qkParam : ((mkB k).toList == [112, 97, 114, 97, 109]) = false := by rw [mkB_eq, hk]; rfl
    have qkConst : ((mkB k).toList == [99, 111, 110, 115, 116]) = false := by rw [mkB_eq, hk]; rfl
    have qkOne : ((mkB k).toList == [111, 110, 101]) = false := by rw [mkB_eq, hk]; rfl
    have qkTwo : ((mkB k).toList == [116, 119, 111]) = false := by rw [mkB_eq, hk]; rfl
    have qkCall : ((mkB k).toList == [99, 97, 108, 108]) = false := by rw [mkB_eq, hk]; rfl
    have qkTick : ((mkB k).toList == [116, 105, 99, 107]) = false := by rw [mkB_eq, hk]; rfl
    have qkPrint : ((mkB k).toList == [112, 114, 105, 110, 116]) = true := by rw [mkB_eq, hk]; rfl
    rw [hK.1, hK.2]
    clear hK hk hkPrint
    go_enter Tryd.func51, Tryd.ntmps51
    go_wp2_with fail
    go_ret2
    exact ⟨rfl, rfl⟩
  have hK : manyW (kindW k) = 0 ∧ (kindW k != 0) = false := by rw [kindW_none hkParam hkConst hkOne hkTwo hkCall hkTick hkPrint]; decide
  have qkParam : ((mkB k).toList == [112, 97, 114, 97, 109]) = false := by rw [mkB_eq]; exact beq_eq_false_iff_ne.2 hkParam
  have qkConst : ((mkB k).toList == [99, 111, 110, 115, 116]) = false := by rw [mkB_eq]; exact beq_eq_false_iff_ne.2 hkConst
  have qkOne : ((mkB k).toList == [111, 110, 101]) = false := by rw [mkB_eq]; exact beq_eq_false_iff_ne.2 hkOne
  have qkTwo : ((mkB k).toList == [116, 119, 111]) = false := by rw [mkB_eq]; exact beq_eq_false_iff_ne.2 hkTwo
  have qkCall : ((mkB k).toList == [99, 97, 108, 108]) = false := by rw [mkB_eq]; exact beq_eq_false_iff_ne.2 hkCall
  have qkTick : ((mkB k).toList == [116, 105, 99, 107]) = false := by rw [mkB_eq]; exact beq_eq_false_iff_ne.2 hkTick
  have qkPrint : ((mkB k).toList == [112, 114, 105, 110, 116]) = false := by rw [mkB_eq]; exact beq_eq_false_iff_ne.2 hkPrint
  rw [hK.1, hK.2]
  clear hK
  go_enter Tryd.func51, Tryd.ntmps51
  go_wp2_with fail
  go_ret2
  exact ⟨rfl, rfl⟩
set_option maxRecDepth 100000 in
theorem made_any (k : List UInt8) (w : World) : Calls Tryd.prog 57 #[.string (mkB k)] w fun e w' => e = .returned (.bool (madeW k)) ∧ w' = w := by
  by_cases hkTick : k = kTick
  · have hk : k = kTick := hkTick
    have hK : madeW k = false := by rw [hk]; decide
    have qkTick : ((mkB k).toList == [116, 105, 99, 107]) = true := by rw [mkB_eq, hk]; rfl
    have qkPrint : ((mkB k).toList == [112, 114, 105, 110, 116]) = false := by rw [mkB_eq, hk]; rfl
    rw [hK]
    clear hK hk hkTick
    go_enter Tryd.func57, Tryd.ntmps57
    go_wp2_with fail
    go_ret
    exact ⟨rfl, rfl⟩
  by_cases hkPrint : k = kPrint
  · have hk : k = kPrint := hkPrint
    have hK : madeW k = false := by rw [hk]; decide
    have qkTick : ((mkB k).toList == [116, 105, 99, 107]) = false := by rw [mkB_eq, hk]; rfl
    have qkPrint : ((mkB k).toList == [112, 114, 105, 110, 116]) = true := by rw [mkB_eq, hk]; rfl
    rw [hK]
    clear hK hk hkPrint
    go_enter Tryd.func57, Tryd.ntmps57
    go_wp2_with fail
    go_ret
    exact ⟨rfl, rfl⟩
  have hK : madeW k = true := by unfold madeW; simp [hkTick, hkPrint]
  have qkTick : ((mkB k).toList == [116, 105, 99, 107]) = false := by rw [mkB_eq]; exact beq_eq_false_iff_ne.2 hkTick
  have qkPrint : ((mkB k).toList == [112, 114, 105, 110, 116]) = false := by rw [mkB_eq]; exact beq_eq_false_iff_ne.2 hkPrint
  rw [hK]
  clear hK
  go_enter Tryd.func57, Tryd.ntmps57
  go_wp2_with fail
  go_ret
  exact ⟨rfl, rfl⟩
/-- An Ins as a value. -/
def inV (x : PIn) (A : Option Addr) (c : Nat) : Value := .agg #[.string (mkB x.kind), .int .i64 x.d, .slice A x.args.length c, .int .i64 x.num, .string (mkB x.name)]
def insO (x : PIn) (A : Option Addr) (c : Nat) : Obj := .cells #[.string (mkB x.kind), .int .i64 x.d, .slice A x.args.length c, .int .i64 x.num, .string (mkB x.name)] 52
theorem row5P {w : World} {q : Nat} {v0 v1 v2 v3 v4 : Value} {T : TypeId} {fz : Nat × Nat} (hrow : w.heap[q]? = some (.cells #[v0, v1, v2, v3, v4] T fz)) :
    w.cell? ⟨q, 0, none⟩ = some v0 ∧ w.cell? ⟨q, 1, none⟩ = some v1 ∧ w.cell? ⟨q, 2, none⟩ = some v2 ∧ w.cell? ⟨q, 3, none⟩ = some v3 ∧ w.cell? ⟨q, 4, none⟩ = some v4 :=
  ⟨cell_of_row _ _ 0 _ _ _ hrow, cell_of_row _ _ 1 _ _ _ hrow, cell_of_row _ _ 2 _ _ _ hrow, cell_of_row _ _ 3 _ _ _ hrow, cell_of_row _ _ 4 _ _ _ hrow⟩
set_option maxRecDepth 100000 in
theorem op_any (E : Nat → Addr) (x : PIn) (A : Option Addr) (c : Nat) (w : World) (hE : Laid E w) : Calls Tryd.prog 52 #[inV x A c] w (Ret (.bool (opW x)) w) := by
  have hb : Below w.heap.size w (w.alloc (insO x A c)) := grow_alloc (grow_refl _) _
  have H1 := Lib.hid (One_any (mkB x.name) 0 (esV (E 3)) (w.alloc (insO x A c)) (hE.keep hb).c3)
  have H2 := Lib.hid (Do_any (mkB x.name) 0 0 (esV (E 3)) (w.alloc (insO x A c)) (hE.keep hb).c3)
  have HB := Lib.hid hb
  rw [mkB_toList] at H1 H2
  unfold inV
  unfold insO at H1 H2 HB
  clear hE hb
  by_cases h1 : x.kind = kOne
  · have q1 : ((mkB x.kind).toList == [111, 110, 101]) = true := by rw [mkB_eq, h1]; rfl
    have HO : Hid (opW x = (oneV x.name 0).isSome) := show _ = _ by unfold opW; rw [h1, if_pos (by decide)]
    clear H2 h1
    cases hv : oneV x.name 0 with
    | none =>
      rw [hv] at H1 HO
      unfold errOf esV at H1
      rw [HO.out]
      go_enter Tryd.func52, Tryd.ntmps52
      go_wp2_with (go_at_call 70; (with_reducible refine H1.out.mono ?_); rintro y w1 ⟨rfl, n, rfl⟩)
      go_ret
      exact ⟨rfl, below_drewN HB.out n⟩
    | some z =>
      rw [hv] at H1 HO
      unfold errOf at H1
      rw [HO.out]
      go_enter Tryd.func52, Tryd.ntmps52
      go_wp2_with (go_at_call 70; (with_reducible refine H1.out.mono ?_); rintro y w1 ⟨rfl, n, rfl⟩)
      go_ret
      exact ⟨rfl, below_drewN HB.out n⟩
  · have q1 : ((mkB x.kind).toList == [111, 110, 101]) = false := by rw [mkB_eq]; exact beq_eq_false_iff_ne.2 h1
    by_cases h2 : x.kind = kTwo
    · have q2 : ((mkB x.kind).toList == [116, 119, 111]) = true := by rw [mkB_eq, h2]; rfl
      have HO : Hid (opW x = (doV x.name 0 0).isSome) := show _ = _ by unfold opW; rw [h2, if_neg (by decide), if_pos (by decide)]
      clear H1 h1 h2
      cases hv : doV x.name 0 0 with
      | none =>
        rw [hv] at H2 HO
        unfold errOf esV at H2
        rw [HO.out]
        go_enter Tryd.func52, Tryd.ntmps52
        go_wp2_with (go_at_call 71; (with_reducible refine H2.out.mono ?_); rintro y w1 ⟨rfl, n, rfl⟩)
        go_ret
        exact ⟨rfl, below_drewN HB.out n⟩
      | some z =>
        rw [hv] at H2 HO
        unfold errOf at H2
        rw [HO.out]
        go_enter Tryd.func52, Tryd.ntmps52
        go_wp2_with (go_at_call 71; (with_reducible refine H2.out.mono ?_); rintro y w1 ⟨rfl, n, rfl⟩)
        go_ret
        exact ⟨rfl, below_drewN HB.out n⟩
    · have q2 : ((mkB x.kind).toList == [116, 119, 111]) = false := by rw [mkB_eq]; exact beq_eq_false_iff_ne.2 h2
      have HO : Hid (opW x = true) := show _ = _ by
        have e1 := beq_eq_false_iff_ne.2 h1
        have e2 := beq_eq_false_iff_ne.2 h2
        have k3 : kindW x.kind ≠ 3 := by unfold kindW; simp only [e1, e2, Bool.false_eq_true, if_false]; (repeat' split) <;> omega
        have k4 : kindW x.kind ≠ 4 := by unfold kindW; simp only [e1, e2, Bool.false_eq_true, if_false]; (repeat' split) <;> omega
        unfold opW; rw [if_neg k3, if_neg k4]
      clear H1 H2 h1 h2
      rw [HO.out]
      go_enter Tryd.func52, Tryd.ntmps52
      go_wp2_with fail
      go_ret
      exact ⟨rfl, HB.out⟩

end Go.Proofs.YtdilakpipbkokaaDoor

namespace Go.Proofs.YtdilakpipbkokaaDoor
open Go.RowKit

/-! kinds of a block -/
set_option maxRecDepth 100000 in
theorem kinds1_any (E : Nat → Addr) (x : PIn) (A : Option Addr) (c : Nat) (w : World) (hE : Laid E w) : Calls Tryd.prog 50 #[inV x A c] w (Ret (.bool (!inKnown x)) w) := by
  have hb : Below w.heap.size w (w.alloc (insO x A c)) := grow_alloc (grow_refl _) _
  have HM := Lib.hid (fun w' => many_any x.kind w')
  have HO := Lib.hid (op_any E x A c (w.alloc (insO x A c)) (hE.keep hb))
  have HB := Lib.hid hb
  have HK : Hid (inKnown x = ((kindW x.kind != 0) && opW x)) := show _ = _ from rfl
  unfold inV at HO ⊢
  unfold insO at HO HB
  clear hE hb
  obtain ⟨m, hm⟩ : ∃ m, manyW (kindW x.kind) = m := ⟨_, rfl⟩
  obtain ⟨b1, hb1⟩ : ∃ b, (kindW x.kind != 0) = b := ⟨_, rfl⟩
  obtain ⟨b2, hb2⟩ : ∃ b, opW x = b := ⟨_, rfl⟩
  have HM1 : Hid (∀ w', Calls Tryd.prog 51 #[.string (mkB x.kind)] w' fun e w'' => e = .returned (.tuple #[.int .i64 m, .bool b1]) ∧ w'' = w') := fun w' => by
    have := HM.out w'
    rw [hm, hb1] at this
    exact this
  rw [hb2] at HO
  rw [HK.out, hb1, hb2]
  clear hm hb1 hb2 HM HK
  cases b1 with
  | false =>
    go_enter Tryd.func50, Tryd.ntmps50
    go_wp2_with (go_at_call 51; (with_reducible refine (HM1.out _).mono ?_); rintro y w1 ⟨rfl, rfl⟩)
    go_ret
    exact ⟨rfl, HB.out⟩
  | true =>
    go_enter Tryd.func50, Tryd.ntmps50
    go_wp2_with (first
      | (go_at_call 51; (with_reducible refine (HM1.out _).mono ?_); rintro y w1 ⟨rfl, rfl⟩)
      | (go_at_call 52; (with_reducible refine HO.out.mono ?_); rintro y w2 ⟨rfl, hb2⟩))
    go_ret
    exact ⟨by cases b2 <;> rfl, grow_trans HB.out hb2⟩
end Go.Proofs.YtdilakpipbkokaaDoor

namespace Go.Proofs.YtdilakpipbkokaaDoor
open Go.RowKit

/-! slices.ContainsFunc over Ins (printed by gen_plc.py) -/
/-- The first one that is not so, from k on (-1: none). -/
def firstBad {α : Type} (P : α → Bool) : List α → Nat → Int
  | [], _ => -1
  | x :: l, k => if !P x then (k : Int) else firstBad P l (k + 1)
theorem firstBad_all {α : Type} (P : α → Bool) : ∀ (l : List α) (k : Nat), decide (0 ≤ firstBad P l k) = !l.all P := by
  intro l
  induction l with
  | nil => intro k; rfl
  | cons x l ih =>
    intro k
    unfold firstBad
    rw [List.all_cons]
    cases h : P x
    · simp
    · rw [if_neg (by simp), ih]; simp
theorem firstBad_drop {α : Type} {P : α → Bool} {l : List α} {k : Nat} (h : k < l.length) : firstBad P (l.drop k) k = if !P l[k] then (k : Int) else firstBad P (l.drop (k + 1)) (k + 1) := by
  rw [List.drop_eq_getElem_cons h]; rfl
set_option maxRecDepth 100000 in
theorem idxKn (l : List PIn) (hl : l.length ≤ 100000) (I : Option Addr) (ic : Nat) (w : World) (hr : RdL 5 GoodI w l I) (HC : ∀ x ∈ l, ∀ A c w', Below w.heap.size w w' → Calls Tryd.prog 50 #[inV x A c] w' (Ret (.bool (!inKnown x)) w')) :
    Calls Tryd.prog 69 #[.slice I l.length ic, .func (.func 50) #[] #[]] w (Ret (.int .i64 (firstBad inKnown l 0)) w) := by
  have HR := Lib.hid hr
  have HH := Lib.hid HC
  clear hr HC
  go_enter Tryd.func69, Tryd.ntmps69
  go_wp2_with fail
  go_loopw [5, 8] (fun _ i wr => ∃ k : Nat, k ≤ l.length ∧ i = .int .i64 k ∧ firstBad inKnown l 0 = firstBad inKnown (l.drop k) k ∧ Below w.heap.size w wr) (fun _ i _ => l.length - (intOf i).toNat)
  case atStart => exact ⟨0, Nat.zero_le _, rfl, rfl, grow_refl _⟩
  case round =>
    obtain ⟨k, hk, rfl, hI, hbel⟩ := hrel
    have HI := Lib.hid hI
    clear hI
    by_cases hlt : k < l.length
    · obtain ⟨b, off, A, c, rfl, hx⟩ := ins_at (HR.out.keep (Keeps.of_below hbel) fun _ _ => GoodI.keep (Keeps.of_below hbel)) hlt
      obtain ⟨c0, c1, c2, c3, c4, -⟩ := hx
      have hlt' : (k : Int) < (l.length : Int) := by omega
      have HS := Lib.hid (firstBad_drop (P := inKnown) hlt)
      have h1 := HH.out _ (List.getElem_mem hlt) A c wr hbel
      unfold inV at h1
      have HN := Lib.hid h1
      clear h1
      cases hn : inKnown l[k]
      · rw [hn] at HN HS
        have HF : Hid (firstBad inKnown l 0 = (k : Int)) := show _ = _ from HI.out.trans HS.out
        clear hn
        go_wp2_with (go_at_call 50; (with_reducible refine HN.out.mono ?_); rintro y w1 ⟨rfl, hb1⟩)
        go_ret
        exact ⟨by rw [HF.out]; rfl, grow_trans hbel hb1⟩
      · rw [hn] at HN HS
        have HF : Hid (firstBad inKnown l 0 = firstBad inKnown (l.drop (k + 1)) (k + 1)) := show _ = _ from HI.out.trans HS.out
        clear hn
        go_wp2_with (go_at_call 50; (with_reducible refine HN.out.mono ?_); rintro y w1 ⟨rfl, hb1⟩)
        go_roundw
        case rel => exact ⟨k + 1, by omega, by go_num, HF.out, grow_trans hbel hb1⟩
        case measure => simp [intOf]; omega
    · have hk' : k = l.length := by omega
      have HF : Hid (firstBad inKnown l 0 = -1) := show _ = _ by rw [HI.out, hk', List.drop_length]; rfl
      subst hk'
      go_wp2_with fail
      go_ret
      exact ⟨by rw [HF.out]; rfl, hbel⟩
set_option maxRecDepth 100000 in
theorem hasKn (l : List PIn) (hl : l.length ≤ 100000) (I : Option Addr) (ic : Nat) (w : World) (hr : RdL 5 GoodI w l I) (HC : ∀ x ∈ l, ∀ A c w', Below w.heap.size w w' → Calls Tryd.prog 50 #[inV x A c] w' (Ret (.bool (!inKnown x)) w')) :
    Calls Tryd.prog 49 #[.slice I l.length ic, .func (.func 50) #[] #[]] w (Ret (.bool (!l.all inKnown)) w) := by
  have HI := Lib.hid (idxKn l hl I ic w hr HC)
  have HA : Hid (decide (0 ≤ firstBad inKnown l 0) = !l.all inKnown) := show _ = _ from firstBad_all _ l 0
  clear HC hr
  go_enter Tryd.func49, Tryd.ntmps49
  go_wp2_with (go_at_call 69; (with_reducible refine HI.out.mono ?_); rintro y w1 ⟨rfl, hb1⟩)
  go_ret
  exact ⟨by rw [← HA.out]; rfl, hb1⟩
end Go.Proofs.YtdilakpipbkokaaDoor
