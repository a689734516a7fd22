import Derived.Test.YtonnhechjbdenaaGreatDoorBn9
import Derived.Test.YtonnhechjbdenaaGreatDoorBn10
import Derived.Test.YtonnhechjbdenaaGreatDoorBn3
set_option linter.unusedVariables false
set_option linter.unusedSimpArgs false
namespace Go.Proofs.YtonnhechjbdenaaGreatDoor
open Go.RowKit

/-! the machine's op of two numbers; a number into a register -/
theorem idx_opsB (nm : List UInt8) : ∀ (l : List (List UInt8)) (k : Nat), idxV (mkB nm) (l.map mkB) k = match l.findIdx? (fun r => r == nm) with | some j => ((k + j : Nat) : Int) | none => -1 := by
  intro l
  induction l with
  | nil => intro k; rfl
  | cons a l ih =>
    intro k
    rw [List.map_cons, List.findIdx?_cons]
    unfold idxV
    rw [mkB_toList, mkB_toList]
    by_cases h : nm = a
    · subst h; simp
    · have h1 : (nm == a) = false := beq_eq_false_iff_ne.2 h
      have h2 : (a == nm) = false := beq_eq_false_iff_ne.2 (Ne.symm h)
      rw [h1, h2, ih]
      simp only [Bool.false_eq_true, if_false]
      cases l.findIdx? (fun r => r == nm) with
      | none => rfl
      | some j => simp only [Option.map_some]; show ((k + 1 + j : Nat) : Int) = ((k + (j + 1) : Nat) : Int); congr 1; omega
set_option maxHeartbeats 4000000 in
set_option maxRecDepth 100000 in
theorem Of_any (nm : List UInt8) (k : Nat) (hk : opsB.findIdx? (fun z => z == nm) = some k) (w : World) :
    Calls Tryz.prog 72 #[.string (mkB nm)] w (Ret (.string (mkB (twoOp nm))) w) := by
  have hk14 : k < 14 := (List.findIdx?_eq_some_iff_getElem.1 hk).1
  have HT : Hid (twoOp nm = nameOf (15 + k)) := show _ = _ by unfold twoOp; rw [hk]
  have HI : Hid (idxV (mkB nm) opsL 0 = (k : Int)) := show idxV (mkB nm) (opsB.map mkB) 0 = _ by
    rw [idx_opsB nm opsB 0, hk]
    simp
  have HIX : Hid (Calls Tryz.prog 96 #[.slice (some ⟨w.heap.size, 0, none⟩) 14 14, .string (mkB nm)] (w.alloc (.cells #[.string ⟨#[43]⟩, .string ⟨#[45]⟩, .string ⟨#[42]⟩, .string ⟨#[47]⟩, .string ⟨#[37]⟩, .string ⟨#[38]⟩, .string ⟨#[124]⟩, .string ⟨#[94]⟩, .string ⟨#[60, 60]⟩, .string ⟨#[62, 62]⟩, .string ⟨#[60]⟩, .string ⟨#[60, 61]⟩, .string ⟨#[61, 61]⟩, .string ⟨#[33, 61]⟩] 9)) fun e w' => e = .returned (.int .i64 k) ∧ w' = w.alloc opsO) := by
    have := Index_any (mkB nm) (some ⟨w.heap.size, 0, none⟩) opsL 14 (w.alloc opsO) (Row.new w _ _) (by decide)
    rw [HI.out] at this
    exact this
  have HTB : Hid (∀ w', Calls Tryz.prog 52 #[] w' fun e w'' => e = .returned (.slice (some ⟨w'.heap.size, 0, none⟩) 29 29) ∧ w'' = w'.alloc (.cells (opsT.flatMap rowC).toArray 130)) := fun w' => table_any w'
  have HFD : Hid (∀ w', Calls Tryz.prog 50 #[.string ⟨#[97, 100, 100]⟩] w' (Ret (.int .i64 16) w')) := fun w' => by
    have := find_any (mkB (nameOf 15)) w'
    rw [mkB_toList] at this
    exact this
  have hk0 : ¬ ((k : Int) < 0) := by omega
  have hk1 : (0 : Int) ≤ 15 + k := by omega
  have hk2 : (15 + k : Int) < 29 := by omega
  have hcast : (15 + (k : Int)).toNat = 15 + k := by omega
  clear hk
  go_enter Tryz.func72, Tryz.ntmps72
  go_upto_region 2 with (go_at_call 96; (with_reducible refine HIX.out.mono ?_); rintro z w1 ⟨rfl, rfl⟩)
  obtain ⟨wO, hwO⟩ : ∃ wO, w.alloc opsO = wO := ⟨_, rfl⟩
  have hbO : Below w.heap.size w wO := by rw [← hwO]; exact grow_alloc (grow_refl _) _
  rw [hwO]
  have hc := (has_cell wO (15 + k) (by omega)).1
  obtain ⟨wT, hwT⟩ : ∃ wT, wO.alloc (.cells (opsT.flatMap rowC).toArray 130) = wT := ⟨_, rfl⟩
  have hbT : Below wO.heap.size wO wT := by rw [← hwT]; exact grow_alloc (grow_refl _) _
  rw [hwT] at hc
  obtain ⟨op, hop⟩ : ∃ op, mkB (nameOf (15 + k)) = op := ⟨_, rfl⟩
  rw [hop] at hc
  have HC := Lib.hid hc
  have HOP := Lib.hid hop
  have HWT := Lib.hid hwT
  have HBT := Lib.hid (grow_trans hbO hbT)
  clear hc hop hwT hbT hbO hwO
  go_wp2_with (first
    | (go_at_call 52; (with_reducible refine (HTB.out _).mono ?_); rintro z w3 ⟨rfl, rfl⟩; rw [HWT.out])
    | (go_at_call 50; (with_reducible refine (HFD.out _).mono ?_); rintro z w4 ⟨rfl, hb4⟩; have hc := Keeps.of_below hb4 _ _ HC.out; have HB4 := Lib.hid hb4; clear hb4))
  go_ret
  exact ⟨by rw [HT.out, HOP.out]; rfl, grow_trans HBT.out HB4.out⟩
section
variable {base eb : Nat} {vL vO : Value} {os : List PIns} {w : World}
theorem const_small (h : EmAt base eb vL os vO w) (hl : os.length ≤ 100000) (d n : Int) (h1 : -2147483648 ≤ n) (h2 : n ≤ 2147483647) :
    Calls Tryz.prog 71 #[.pointer (some ⟨eb, 0, none⟩), .int .i64 d, .int .i64 n] w (fun e w' => e = .returned (.tuple #[]) ∧ ∃ vO', EmAt base eb vL (os ++ [⟨constT, d, 0, 0, n⟩]) vO' w' ∧ EmMv base eb vO vO' w w') := by
  have HA : Hid (Calls Tryz.prog 49 #[.pointer (some ⟨eb, 0, none⟩), .agg #[.string ⟨#[99, 111, 110, 115, 116]⟩, .int .i64 d, .int .i64 0, .int .i64 0, .int .i64 n]] w _) := add_any h hl ⟨constT, d, 0, 0, n⟩
  clear h
  go_enter Tryz.func71, Tryz.ntmps71
  go_wp2_with (go_at_call 49; (with_reducible refine HA.out.mono ?_); rintro z w1 ⟨rfl, h9⟩)
  go_returns
  exact ⟨rfl, h9⟩
theorem const_big (h : EmAt base eb vL os vO w) (hl : os.length ≤ 90000) (d n : Int) (h6 : I64 n) (hn : ¬ (-2147483648 ≤ n ∧ n ≤ 2147483647)) :
    Calls Tryz.prog 71 #[.pointer (some ⟨eb, 0, none⟩), .int .i64 d, .int .i64 n] w (fun e w' => e = .returned (.tuple #[]) ∧ ∃ vO', EmAt base eb vL (os ++ [⟨constT, d, 0, 0, n / 4294967296⟩, ⟨highT, d, 0, 0, wrap32 n⟩]) vO' w' ∧ EmMv base eb vO vO' w w') := by
  have HA : Hid (Calls Tryz.prog 49 #[.pointer (some ⟨eb, 0, none⟩), .agg #[.string ⟨#[99, 111, 110, 115, 116]⟩, .int .i64 d, .int .i64 0, .int .i64 0, .int .i64 (n / 4294967296)]] w _) := add_any h (by omega) ⟨constT, d, 0, 0, n / 4294967296⟩
  have HB : Hid (∀ vO1 w1, EmAt base eb vL (os ++ [⟨constT, d, 0, 0, n / 4294967296⟩]) vO1 w1 → Calls Tryz.prog 49 #[.pointer (some ⟨eb, 0, none⟩), .agg #[.string ⟨#[104, 105, 103, 104]⟩, .int .i64 d, .int .i64 0, .int .i64 0, .int .i64 (wrap64 (wrap32 n))]] w1 (fun e w' => e = .returned (.tuple #[]) ∧ ∃ vO', EmAt base eb vL ((os ++ [⟨constT, d, 0, 0, n / 4294967296⟩]) ++ [⟨highT, d, 0, 0, wrap32 n⟩]) vO' w' ∧ EmMv base eb vO1 vO' w1 w')) := fun vO1 w1 h1 => by
    rw [show wrap64 (wrap32 n) = wrap32 n by unfold wrap64 wrap32; omega]
    exact add_any h1 (by simp; omega) ⟨highT, d, 0, 0, wrap32 n⟩
  clear h
  have hdec : (decide (-2147483648 ≤ n) && decide (n ≤ 2147483647)) = false := by
    simp only [Bool.and_eq_false_iff, decide_eq_false_iff_not]; omega
  have HE : Hid (os ++ [(⟨constT, d, 0, 0, n / 4294967296⟩ : PIns), ⟨highT, d, 0, 0, wrap32 n⟩] = (os ++ [⟨constT, d, 0, 0, n / 4294967296⟩]) ++ [⟨highT, d, 0, 0, wrap32 n⟩]) := show _ = _ by simp
  rw [HE.out]
  by_cases hlo : -2147483648 ≤ n
  · have hhi : ¬ n ≤ 2147483647 := fun e => hn ⟨hlo, e⟩
    clear hn
    go_enter Tryz.func71, Tryz.ntmps71
    go_wp2_with (first
      | (go_at_call 49; (with_reducible refine HA.out.mono ?_); rintro z w1 ⟨rfl, vO1, h1, m1⟩; have HC := Lib.hid (HB.out vO1 w1 h1); have HM := Lib.hid m1; clear h1 m1)
      | (go_at_call 49; go_loud ((with_reducible refine HC.out.mono ?_); rintro z w2 ⟨rfl, vO2, h2, m2⟩)))
    go_returns
    exact ⟨rfl, vO2, h2, HM.out.trans m2⟩
  · clear hn
    go_enter Tryz.func71, Tryz.ntmps71
    go_wp2_with (first
      | (go_at_call 49; (with_reducible refine HA.out.mono ?_); rintro z w1 ⟨rfl, vO1, h1, m1⟩; have HC := Lib.hid (HB.out vO1 w1 h1); have HM := Lib.hid m1; clear h1 m1)
      | (go_at_call 49; go_loud ((with_reducible refine HC.out.mono ?_); rintro z w2 ⟨rfl, vO2, h2, m2⟩)))
    go_returns
    exact ⟨rfl, vO2, h2, HM.out.trans m2⟩
end
end Go.Proofs.YtonnhechjbdenaaGreatDoor

namespace Go.Proofs.YtonnhechjbdenaaGreatDoor
open Go.RowKit

/-! a Low as words (printed by gen_emh.py) -/
theorem drewE {n : Nat} {a w : World} (h : Below n a w) : Below n a w.drew := below_drewN h 1
theorem row6E {w : World} {q : Nat} {v0 v1 v2 v3 v4 v5 : Value} {T : TypeId} {fz : Nat × Nat} (h : w.heap[q]? = some (.cells #[v0, v1, v2, v3, v4, v5] T fz)) :
    w.cell? ⟨q, 0, none⟩ = some v0 ∧ w.cell? ⟨q, 1, none⟩ = some v1 ∧ w.cell? ⟨q, 2, none⟩ = some v2 ∧ w.cell? ⟨q, 3, none⟩ = some v3 ∧ w.cell? ⟨q, 4, none⟩ = some v4 ∧ w.cell? ⟨q, 5, none⟩ = some v5 :=
  ⟨cell_of_row _ _ 0 _ _ _ h, cell_of_row _ _ 1 _ _ _ h, cell_of_row _ _ 2 _ _ _ h, cell_of_row _ _ 3 _ _ _ h, cell_of_row _ _ 4 _ _ _ h, cell_of_row _ _ 5 _ _ _ h⟩
/-- What comes behind. -/
def EmPost (base eb : Nat) (vL : Value) (os : List PIns) (vO : Value) (w : World) : Ending → World → Prop := fun e w' => e = .returned (.tuple #[]) ∧ ∃ vO', EmAt base eb vL os vO' w' ∧ EmMv base eb vO vO' w w'
section
variable {base eb : Nat} {A : Option Addr} {l : List PCd} {cl : Nat} {vO : Value} {os : List PIns} {w : World} {c : PCd}

set_option maxHeartbeats 4000000 in
set_option maxRecDepth 100000 in
theorem low_rest (h : EmAt base eb (.slice A l.length cl) os vO w) (hl : os.length ≤ 80000) (kd : List UInt8) (n1 : kd ≠ kConst) (n2 : kd ≠ kOne) (n3 : kd ≠ kTwo) (n4 : kd ≠ kCall) (d a b n : Int) (nm : List UInt8) :
    Calls Tryz.prog 48 #[.pointer (some ⟨eb, 0, none⟩), .agg #[.string (mkB kd), .int .i64 d, .int .i64 a, .int .i64 b, .int .i64 n, .string (mkB nm)]] w (EmPost base eb (.slice A l.length cl) (os ++ [⟨kd, d, a, 0, n⟩]) vO w) := by
  have k1 : ((mkB kd).toList == [99, 111, 110, 115, 116]) = false := by rw [mkB_toList]; exact beq_eq_false_iff_ne.2 n1
  have k2 : ((mkB kd).toList == [111, 110, 101]) = false := by rw [mkB_toList]; exact beq_eq_false_iff_ne.2 n2
  have k3 : ((mkB kd).toList == [116, 119, 111]) = false := by rw [mkB_toList]; exact beq_eq_false_iff_ne.2 n3
  have k4 : ((mkB kd).toList == [99, 97, 108, 108]) = false := by rw [mkB_toList]; exact beq_eq_false_iff_ne.2 n4
  obtain ⟨q, hq⟩ : ∃ q, w.heap.size = q := ⟨_, rfl⟩
  obtain ⟨bx, hbx⟩ : ∃ bx, w.alloc (.cells #[.string (mkB kd), .int .i64 d, .int .i64 a, .int .i64 b, .int .i64 n, .string (mkB nm)] 71) = bx := ⟨_, rfl⟩
  have hb : Below w.heap.size w bx := by rw [← hbx]; exact grow_alloc (grow_refl _) _
  have hn : bx.heap[q]? = some (.cells #[.string (mkB kd), .int .i64 d, .int .i64 a, .int .i64 b, .int .i64 n, .string (mkB nm)] 71 (0, 0)) := by rw [← hbx, ← hq]; exact heap_alloc_new w _
  have h2 := h.below hb
  have hmv : EmMv base eb vO vO w bx := EmMv.of_below hb h.base_le
  have hbl := h2.base_le
  obtain ⟨e0, e1, e2, e3, e4, e5⟩ := row6E hn
  have hqe : q ≠ eb := by have := h.lt; omega
  have hqo : vO.ownBlock ≠ some q := fun e => by have := (own_lt h.out e).2; omega
  have HN := Lib.hid hn
  have HBX := Lib.hid hbx
  have HQ := Lib.hid hq
  have HMV := Lib.hid hmv
  have HH := Lib.hid h2
  have HA : Hid (Calls Tryz.prog 49 #[.pointer (some ⟨eb, 0, none⟩), .agg #[.string (mkB kd), .int .i64 d, .int .i64 a, .int .i64 0, .int .i64 n]] bx _) := add_any h2 (by omega) ⟨kd, d, a, 0, n⟩
  clear h h2 hb hn hbx hq hmv n1 n2 n3 n4
  go_enter Tryz.func48, Tryz.ntmps48
  go_upto_region 1 with fail
  change Code.wp _ _ _ _ (w.alloc (.cells #[.string (mkB kd), .int .i64 d, .int .i64 a, .int .i64 b, .int .i64 n, .string (mkB nm)] 71))
  rw [HBX.out, HQ.out]
  go_wp2_with (go_at_call 49; (with_reducible refine HA.out.mono ?_); rintro z w1 ⟨rfl, vO1, h1, m1⟩)
  go_returns
  exact ⟨rfl, vO1, h1, HMV.out.trans m1⟩
set_option maxHeartbeats 4000000 in
set_option maxRecDepth 100000 in
theorem low_const_s (h : EmAt base eb (.slice A l.length cl) os vO w) (hl : os.length ≤ 80000) (d a b n : Int) (nm : List UInt8) (h1 : -2147483648 ≤ n ∧ n ≤ 2147483647) :
    Calls Tryz.prog 48 #[.pointer (some ⟨eb, 0, none⟩), .agg #[.string ⟨#[99, 111, 110, 115, 116]⟩, .int .i64 d, .int .i64 a, .int .i64 b, .int .i64 n, .string (mkB nm)]] w (EmPost base eb (.slice A l.length cl) (os ++ [⟨constT, d, 0, 0, n⟩]) vO w) := by
  obtain ⟨q, hq⟩ : ∃ q, w.heap.size = q := ⟨_, rfl⟩
  obtain ⟨bx, hbx⟩ : ∃ bx, w.alloc (.cells #[.string ⟨#[99, 111, 110, 115, 116]⟩, .int .i64 d, .int .i64 a, .int .i64 b, .int .i64 n, .string (mkB nm)] 71) = bx := ⟨_, rfl⟩
  have hb : Below w.heap.size w bx := by rw [← hbx]; exact grow_alloc (grow_refl _) _
  have hn : bx.heap[q]? = some (.cells #[.string ⟨#[99, 111, 110, 115, 116]⟩, .int .i64 d, .int .i64 a, .int .i64 b, .int .i64 n, .string (mkB nm)] 71 (0, 0)) := by rw [← hbx, ← hq]; exact heap_alloc_new w _
  have h2 := h.below hb
  have hmv : EmMv base eb vO vO w bx := EmMv.of_below hb h.base_le
  have hbl := h2.base_le
  obtain ⟨e0, e1, e2, e3, e4, e5⟩ := row6E hn
  have hqe : q ≠ eb := by have := h.lt; omega
  have hqo : vO.ownBlock ≠ some q := fun e => by have := (own_lt h.out e).2; omega
  have HN := Lib.hid hn
  have HBX := Lib.hid hbx
  have HQ := Lib.hid hq
  have HMV := Lib.hid hmv
  have HH := Lib.hid h2
  have HA : Hid (Calls Tryz.prog 71 #[.pointer (some ⟨eb, 0, none⟩), .int .i64 d, .int .i64 n] bx _) := const_small h2 (by omega) d n h1.1 h1.2
  clear h h2 hb hn hbx hq hmv h1
  go_enter Tryz.func48, Tryz.ntmps48
  go_upto_region 1 with fail
  change Code.wp _ _ _ _ (w.alloc (.cells #[.string ⟨#[99, 111, 110, 115, 116]⟩, .int .i64 d, .int .i64 a, .int .i64 b, .int .i64 n, .string (mkB nm)] 71))
  rw [HBX.out, HQ.out]
  go_wp2_with (go_at_call 71; (with_reducible refine HA.out.mono ?_); rintro z w1 ⟨rfl, vO1, h1, m1⟩)
  go_returns
  exact ⟨rfl, vO1, h1, HMV.out.trans m1⟩
set_option maxHeartbeats 4000000 in
set_option maxRecDepth 100000 in
theorem low_const_b (h : EmAt base eb (.slice A l.length cl) os vO w) (hl : os.length ≤ 80000) (d a b n : Int) (nm : List UInt8) (h6 : I64 n) (h1 : ¬ (-2147483648 ≤ n ∧ n ≤ 2147483647)) :
    Calls Tryz.prog 48 #[.pointer (some ⟨eb, 0, none⟩), .agg #[.string ⟨#[99, 111, 110, 115, 116]⟩, .int .i64 d, .int .i64 a, .int .i64 b, .int .i64 n, .string (mkB nm)]] w (EmPost base eb (.slice A l.length cl) (os ++ [⟨constT, d, 0, 0, n / 4294967296⟩, ⟨highT, d, 0, 0, wrap32 n⟩]) vO w) := by
  obtain ⟨q, hq⟩ : ∃ q, w.heap.size = q := ⟨_, rfl⟩
  obtain ⟨bx, hbx⟩ : ∃ bx, w.alloc (.cells #[.string ⟨#[99, 111, 110, 115, 116]⟩, .int .i64 d, .int .i64 a, .int .i64 b, .int .i64 n, .string (mkB nm)] 71) = bx := ⟨_, rfl⟩
  have hb : Below w.heap.size w bx := by rw [← hbx]; exact grow_alloc (grow_refl _) _
  have hn : bx.heap[q]? = some (.cells #[.string ⟨#[99, 111, 110, 115, 116]⟩, .int .i64 d, .int .i64 a, .int .i64 b, .int .i64 n, .string (mkB nm)] 71 (0, 0)) := by rw [← hbx, ← hq]; exact heap_alloc_new w _
  have h2 := h.below hb
  have hmv : EmMv base eb vO vO w bx := EmMv.of_below hb h.base_le
  have hbl := h2.base_le
  obtain ⟨e0, e1, e2, e3, e4, e5⟩ := row6E hn
  have hqe : q ≠ eb := by have := h.lt; omega
  have hqo : vO.ownBlock ≠ some q := fun e => by have := (own_lt h.out e).2; omega
  have HN := Lib.hid hn
  have HBX := Lib.hid hbx
  have HQ := Lib.hid hq
  have HMV := Lib.hid hmv
  have HH := Lib.hid h2
  have HA : Hid (Calls Tryz.prog 71 #[.pointer (some ⟨eb, 0, none⟩), .int .i64 d, .int .i64 n] bx _) := const_big h2 (by omega) d n h6 h1
  clear h h2 hb hn hbx hq hmv h1
  go_enter Tryz.func48, Tryz.ntmps48
  go_upto_region 1 with fail
  change Code.wp _ _ _ _ (w.alloc (.cells #[.string ⟨#[99, 111, 110, 115, 116]⟩, .int .i64 d, .int .i64 a, .int .i64 b, .int .i64 n, .string (mkB nm)] 71))
  rw [HBX.out, HQ.out]
  go_wp2_with (go_at_call 71; (with_reducible refine HA.out.mono ?_); rintro z w1 ⟨rfl, vO1, h1, m1⟩)
  go_returns
  exact ⟨rfl, vO1, h1, HMV.out.trans m1⟩
set_option maxHeartbeats 4000000 in
set_option maxRecDepth 100000 in
theorem low_not (h : EmAt base eb (.slice A l.length cl) os vO w) (hl : os.length ≤ 80000) (d a b n : Int) (nm : List UInt8) (h1 : (nm == [33]) = true) :
    Calls Tryz.prog 48 #[.pointer (some ⟨eb, 0, none⟩), .agg #[.string ⟨#[111, 110, 101]⟩, .int .i64 d, .int .i64 a, .int .i64 b, .int .i64 n, .string (mkB nm)]] w (EmPost base eb (.slice A l.length cl) (os ++ [⟨notT, d, a, 0, 0⟩]) vO w) := by
  have k1 : ((mkB nm).toList == [33]) = true := by rw [mkB_toList]; exact h1
  obtain ⟨q, hq⟩ : ∃ q, w.heap.size = q := ⟨_, rfl⟩
  obtain ⟨bx, hbx⟩ : ∃ bx, w.alloc (.cells #[.string ⟨#[111, 110, 101]⟩, .int .i64 d, .int .i64 a, .int .i64 b, .int .i64 n, .string (mkB nm)] 71) = bx := ⟨_, rfl⟩
  have hb : Below w.heap.size w bx := by rw [← hbx]; exact grow_alloc (grow_refl _) _
  have hn : bx.heap[q]? = some (.cells #[.string ⟨#[111, 110, 101]⟩, .int .i64 d, .int .i64 a, .int .i64 b, .int .i64 n, .string (mkB nm)] 71 (0, 0)) := by rw [← hbx, ← hq]; exact heap_alloc_new w _
  have h2 := h.below hb
  have hmv : EmMv base eb vO vO w bx := EmMv.of_below hb h.base_le
  have hbl := h2.base_le
  obtain ⟨e0, e1, e2, e3, e4, e5⟩ := row6E hn
  have hqe : q ≠ eb := by have := h.lt; omega
  have hqo : vO.ownBlock ≠ some q := fun e => by have := (own_lt h.out e).2; omega
  have HN := Lib.hid hn
  have HBX := Lib.hid hbx
  have HQ := Lib.hid hq
  have HMV := Lib.hid hmv
  have HH := Lib.hid h2
  have HA : Hid (Calls Tryz.prog 49 #[.pointer (some ⟨eb, 0, none⟩), .agg #[.string ⟨#[110, 111, 116]⟩, .int .i64 d, .int .i64 a, .int .i64 0, .int .i64 0]] bx _) := add_any h2 (by omega) ⟨notT, d, a, 0, 0⟩
  clear h h2 hb hn hbx hq hmv h1
  go_enter Tryz.func48, Tryz.ntmps48
  go_upto_region 1 with fail
  change Code.wp _ _ _ _ (w.alloc (.cells #[.string ⟨#[111, 110, 101]⟩, .int .i64 d, .int .i64 a, .int .i64 b, .int .i64 n, .string (mkB nm)] 71))
  rw [HBX.out, HQ.out]
  go_wp2_with (go_at_call 49; (with_reducible refine HA.out.mono ?_); rintro z w1 ⟨rfl, vO1, h1, m1⟩)
  go_returns
  exact ⟨rfl, vO1, h1, HMV.out.trans m1⟩
set_option maxHeartbeats 4000000 in
set_option maxRecDepth 100000 in
theorem low_neg (h : EmAt base eb (.slice A l.length cl) os vO w) (hl : os.length ≤ 80000) (d a b n : Int) (nm : List UInt8) (h1 : (nm == [33]) = false) :
    Calls Tryz.prog 48 #[.pointer (some ⟨eb, 0, none⟩), .agg #[.string ⟨#[111, 110, 101]⟩, .int .i64 d, .int .i64 a, .int .i64 b, .int .i64 n, .string (mkB nm)]] w (EmPost base eb (.slice A l.length cl) (os ++ [⟨negT, d, a, 0, 0⟩]) vO w) := by
  have k1 : ((mkB nm).toList == [33]) = false := by rw [mkB_toList]; exact h1
  obtain ⟨q, hq⟩ : ∃ q, w.heap.size = q := ⟨_, rfl⟩
  obtain ⟨bx, hbx⟩ : ∃ bx, w.alloc (.cells #[.string ⟨#[111, 110, 101]⟩, .int .i64 d, .int .i64 a, .int .i64 b, .int .i64 n, .string (mkB nm)] 71) = bx := ⟨_, rfl⟩
  have hb : Below w.heap.size w bx := by rw [← hbx]; exact grow_alloc (grow_refl _) _
  have hn : bx.heap[q]? = some (.cells #[.string ⟨#[111, 110, 101]⟩, .int .i64 d, .int .i64 a, .int .i64 b, .int .i64 n, .string (mkB nm)] 71 (0, 0)) := by rw [← hbx, ← hq]; exact heap_alloc_new w _
  have h2 := h.below hb
  have hmv : EmMv base eb vO vO w bx := EmMv.of_below hb h.base_le
  have hbl := h2.base_le
  obtain ⟨e0, e1, e2, e3, e4, e5⟩ := row6E hn
  have hqe : q ≠ eb := by have := h.lt; omega
  have hqo : vO.ownBlock ≠ some q := fun e => by have := (own_lt h.out e).2; omega
  have HN := Lib.hid hn
  have HBX := Lib.hid hbx
  have HQ := Lib.hid hq
  have HMV := Lib.hid hmv
  have HH := Lib.hid h2
  have HA : Hid (Calls Tryz.prog 49 #[.pointer (some ⟨eb, 0, none⟩), .agg #[.string ⟨#[110, 101, 103]⟩, .int .i64 d, .int .i64 a, .int .i64 0, .int .i64 0]] bx _) := add_any h2 (by omega) ⟨negT, d, a, 0, 0⟩
  clear h h2 hb hn hbx hq hmv h1
  go_enter Tryz.func48, Tryz.ntmps48
  go_upto_region 1 with fail
  change Code.wp _ _ _ _ (w.alloc (.cells #[.string ⟨#[111, 110, 101]⟩, .int .i64 d, .int .i64 a, .int .i64 b, .int .i64 n, .string (mkB nm)] 71))
  rw [HBX.out, HQ.out]
  go_wp2_with (go_at_call 49; (with_reducible refine HA.out.mono ?_); rintro z w1 ⟨rfl, vO1, h1, m1⟩)
  go_returns
  exact ⟨rfl, vO1, h1, HMV.out.trans m1⟩
set_option maxHeartbeats 4000000 in
set_option maxRecDepth 100000 in
theorem low_two (h : EmAt base eb (.slice A l.length cl) os vO w) (hl : os.length ≤ 80000) (d a b n : Int) (nm : List UInt8) (k : Nat) (hk : opsB.findIdx? (fun z => z == nm) = some k) :
    Calls Tryz.prog 48 #[.pointer (some ⟨eb, 0, none⟩), .agg #[.string ⟨#[116, 119, 111]⟩, .int .i64 d, .int .i64 a, .int .i64 b, .int .i64 n, .string (mkB nm)]] w (EmPost base eb (.slice A l.length cl) (os ++ [⟨twoOp nm, d, a, b, 0⟩]) vO w) := by
  obtain ⟨q, hq⟩ : ∃ q, w.heap.size = q := ⟨_, rfl⟩
  obtain ⟨bx, hbx⟩ : ∃ bx, w.alloc (.cells #[.string ⟨#[116, 119, 111]⟩, .int .i64 d, .int .i64 a, .int .i64 b, .int .i64 n, .string (mkB nm)] 71) = bx := ⟨_, rfl⟩
  have hb : Below w.heap.size w bx := by rw [← hbx]; exact grow_alloc (grow_refl _) _
  have hn : bx.heap[q]? = some (.cells #[.string ⟨#[116, 119, 111]⟩, .int .i64 d, .int .i64 a, .int .i64 b, .int .i64 n, .string (mkB nm)] 71 (0, 0)) := by rw [← hbx, ← hq]; exact heap_alloc_new w _
  have h2 := h.below hb
  have hmv : EmMv base eb vO vO w bx := EmMv.of_below hb h.base_le
  have hbl := h2.base_le
  obtain ⟨e0, e1, e2, e3, e4, e5⟩ := row6E hn
  have hqe : q ≠ eb := by have := h.lt; omega
  have hqo : vO.ownBlock ≠ some q := fun e => by have := (own_lt h.out e).2; omega
  have HN := Lib.hid hn
  have HBX := Lib.hid hbx
  have HQ := Lib.hid hq
  have HMV := Lib.hid hmv
  have HH := Lib.hid h2
  have HOF : Hid (∀ w', Calls Tryz.prog 72 #[.string (mkB nm)] w' (Ret (.string (mkB (twoOp nm))) w')) := fun w' => Of_any nm k hk w'
  have HA : Hid (∀ w', Below bx.heap.size bx w' → Calls Tryz.prog 49 #[.pointer (some ⟨eb, 0, none⟩), .agg #[.string (mkB (twoOp nm)), .int .i64 d, .int .i64 a, .int .i64 b, .int .i64 0]] w' (fun e w'' => e = .returned (.tuple #[]) ∧ ∃ vO', EmAt base eb (.slice A l.length cl) (os ++ [⟨twoOp nm, d, a, b, 0⟩]) vO' w'' ∧ EmMv base eb vO vO' w' w'')) := fun w' hb' => add_any (h2.below hb') (by omega) ⟨twoOp nm, d, a, b, 0⟩
  clear h h2 hb hn hbx hq hmv hk
  go_enter Tryz.func48, Tryz.ntmps48
  go_upto_region 1 with fail
  change Code.wp _ _ _ _ (w.alloc (.cells #[.string ⟨#[116, 119, 111]⟩, .int .i64 d, .int .i64 a, .int .i64 b, .int .i64 n, .string (mkB nm)] 71))
  rw [HBX.out, HQ.out]
  go_upto_region 11 with fail
  go_region_held3 (fun w' => w'.cell? ⟨q, 0, none⟩ = some (.string ⟨#[116, 119, 111]⟩) ∧ w'.cell? ⟨q, 1, none⟩ = some (.int .i64 d) ∧ w'.cell? ⟨q, 2, none⟩ = some (.int .i64 a) ∧ w'.cell? ⟨q, 3, none⟩ = some (.int .i64 b) ∧ w'.cell? ⟨q, 4, none⟩ = some (.int .i64 n) ∧ w'.cell? ⟨q, 5, none⟩ = some (.string (mkB nm)))
    (first
      | exact ⟨e0, e1, e2, e3, e4, e5⟩
      | exact HJ.out)
    (first
      | (go_at_call 72; (with_reducible refine (HOF.out _).mono ?_); rintro z w5 ⟨rfl, hb5⟩; have hbx5 := grow_trans (drewE (grow_refl bx)) hb5; have k5 := Keeps.of_below hbx5; have HJ := Lib.hid (And.intro (k5 _ _ e0) (And.intro (k5 _ _ e1) (And.intro (k5 _ _ e2) (And.intro (k5 _ _ e3) (And.intro (k5 _ _ e4) (k5 _ _ e5)))))); try dsimp only)
      | (go_at_call 49; (with_reducible refine (HA.out _ hbx5).mono ?_); rintro z w6 ⟨rfl, vO6, h6, m6⟩; have k6 := row6E ((m6.kp q (by have := (Array.getElem?_eq_some_iff.1 HN.out).1; have := hbx5.size; omega) hqe hqo).trans ((hbx5.block q (Array.getElem?_eq_some_iff.1 HN.out).1).trans HN.out)); have HJ := Lib.hid k6; clear k6; have H6 := Lib.hid (And.intro h6 ((EmMv.of_below hbx5 hbl).trans m6)); clear h6 m6; try dsimp only))
  all_goals go_wp2_with fail
  all_goals go_returns
  all_goals exact ⟨rfl, _, H6.out.1, HMV.out.trans H6.out.2⟩
set_option maxHeartbeats 4000000 in
set_option maxRecDepth 100000 in
theorem low_call (h : EmAt base eb (.slice A l.length cl) os vO w) (hl : os.length ≤ 80000) (hll : l.length ≤ 1000) (hr : RdL w A l) (d a b n : Int) (nm : List UInt8) :
    Calls Tryz.prog 48 #[.pointer (some ⟨eb, 0, none⟩), .agg #[.string ⟨#[99, 97, 108, 108]⟩, .int .i64 d, .int .i64 a, .int .i64 b, .int .i64 n, .string (mkB nm)]] w (EmPost base eb (.slice A l.length cl) (os ++ [⟨callT, d, 0, n, firstCd nm l 0⟩]) vO w) := by
  obtain ⟨q, hq⟩ : ∃ q, w.heap.size = q := ⟨_, rfl⟩
  obtain ⟨bx, hbx⟩ : ∃ bx, w.alloc (.cells #[.string ⟨#[99, 97, 108, 108]⟩, .int .i64 d, .int .i64 a, .int .i64 b, .int .i64 n, .string (mkB nm)] 71) = bx := ⟨_, rfl⟩
  have hb : Below w.heap.size w bx := by rw [← hbx]; exact grow_alloc (grow_refl _) _
  have hn : bx.heap[q]? = some (.cells #[.string ⟨#[99, 97, 108, 108]⟩, .int .i64 d, .int .i64 a, .int .i64 b, .int .i64 n, .string (mkB nm)] 71 (0, 0)) := by rw [← hbx, ← hq]; exact heap_alloc_new w _
  have h2 := h.below hb
  have hmv : EmMv base eb vO vO w bx := EmMv.of_below hb h.base_le
  have hbl := h2.base_le
  obtain ⟨e0, e1, e2, e3, e4, e5⟩ := row6E hn
  have hqe : q ≠ eb := by have := h.lt; omega
  have hqo : vO.ownBlock ≠ some q := fun e => by have := (own_lt h.out e).2; omega
  have HN := Lib.hid hn
  have HBX := Lib.hid hbx
  have HQ := Lib.hid hq
  have HMV := Lib.hid hmv
  have HH := Lib.hid h2
  obtain ⟨g0, -⟩ := h2.cells
  have HIX : Hid (∀ w', Below bx.heap.size bx w' → Calls Tryz.prog 47 #[.slice A l.length cl, .string (mkB nm)] w' (Ret (.int .i64 (firstCd nm l 0)) w')) := fun w' hb' => eindex_any nm l hll A cl w' (hr.keep (Keeps.of_below (grow_trans hb hb')))
  have HA : Hid (∀ w', Below bx.heap.size bx w' → Calls Tryz.prog 49 #[.pointer (some ⟨eb, 0, none⟩), .agg #[.string ⟨#[99, 97, 108, 108]⟩, .int .i64 d, .int .i64 0, .int .i64 n, .int .i64 (firstCd nm l 0)]] w' (fun e w'' => e = .returned (.tuple #[]) ∧ ∃ vO', EmAt base eb (.slice A l.length cl) (os ++ [⟨callT, d, 0, n, firstCd nm l 0⟩]) vO' w'' ∧ EmMv base eb vO vO' w' w'')) := fun w' hb' => add_any (h2.below hb') (by omega) ⟨callT, d, 0, n, firstCd nm l 0⟩
  clear h h2 hb hn hbx hq hmv hr
  go_enter Tryz.func48, Tryz.ntmps48
  go_upto_region 1 with fail
  change Code.wp _ _ _ _ (w.alloc (.cells #[.string ⟨#[99, 97, 108, 108]⟩, .int .i64 d, .int .i64 a, .int .i64 b, .int .i64 n, .string (mkB nm)] 71))
  rw [HBX.out, HQ.out]
  go_upto_region 13 with fail
  go_region_held3 (fun w' => w'.cell? ⟨q, 0, none⟩ = some (.string ⟨#[99, 97, 108, 108]⟩) ∧ w'.cell? ⟨q, 1, none⟩ = some (.int .i64 d) ∧ w'.cell? ⟨q, 2, none⟩ = some (.int .i64 a) ∧ w'.cell? ⟨q, 3, none⟩ = some (.int .i64 b) ∧ w'.cell? ⟨q, 4, none⟩ = some (.int .i64 n) ∧ w'.cell? ⟨q, 5, none⟩ = some (.string (mkB nm)) ∧ w'.cell? ⟨eb, 0, none⟩ = some (.slice A l.length cl))
    (first
      | exact ⟨e0, e1, e2, e3, e4, e5, g0⟩
      | exact HJ.out)
    (first
      | (go_at_call 47; (with_reducible refine (HIX.out _ (drewE (grow_refl bx))).mono ?_); rintro z w5 ⟨rfl, hb5⟩; have hbx5 := grow_trans (drewE (grow_refl bx)) hb5; have k5 := Keeps.of_below hbx5; have HJ := Lib.hid (And.intro (k5 _ _ e0) (And.intro (k5 _ _ e1) (And.intro (k5 _ _ e2) (And.intro (k5 _ _ e3) (And.intro (k5 _ _ e4) (And.intro (k5 _ _ e5) (k5 _ _ g0))))))); try dsimp only)
      | (go_at_call 49; (with_reducible refine (HA.out _ hbx5).mono ?_); rintro z w6 ⟨rfl, vO6, h6, m6⟩; have k6 := row6E ((m6.kp q (by have := (Array.getElem?_eq_some_iff.1 HN.out).1; have := hbx5.size; omega) hqe hqo).trans ((hbx5.block q (Array.getElem?_eq_some_iff.1 HN.out).1).trans HN.out)); have HJ := Lib.hid (And.intro k6.1 (And.intro k6.2.1 (And.intro k6.2.2.1 (And.intro k6.2.2.2.1 (And.intro k6.2.2.2.2.1 (And.intro k6.2.2.2.2.2 h6.cells.1)))))); clear k6; have H6 := Lib.hid (And.intro h6 ((EmMv.of_below hbx5 hbl).trans m6)); clear h6 m6; try dsimp only))
  all_goals go_wp2_with fail
  all_goals go_returns
  all_goals exact ⟨rfl, _, H6.out.1, HMV.out.trans H6.out.2⟩
theorem low_any (h : EmAt base eb (.slice A l.length cl) os vO w) (hl : os.length ≤ 80000) (hll : l.length ≤ 1000) (hr : RdL w A l) (x : PLow) (hx : LowOk c x) (h6 : I64 x.num) :
    Calls Tryz.prog 48 #[.pointer (some ⟨eb, 0, none⟩), .agg #[.string (mkB x.kind), .int .i64 x.d, .int .i64 x.a, .int .i64 x.b, .int .i64 x.num, .string (mkB x.name)]] w (EmPost base eb (.slice A l.length cl) (os ++ lowE l x) vO w) := by
  have hf := low_facts hx
  obtain ⟨kd, d, a, b, n, nm⟩ := x
  rcases kind_casesE hf.kind with ⟨e, hk⟩ | ⟨e, hk⟩ | ⟨e, hk⟩ | ⟨e, hk⟩ | ⟨e, hk⟩ | ⟨e, hk⟩ | ⟨e, hk⟩ | ⟨e, hk⟩ | ⟨e, hk⟩ | ⟨e, hk⟩ | ⟨e, hk⟩
  · have e : kd = kParam := e
    subst e
    exact low_rest h hl kParam (by decide) (by decide) (by decide) (by decide) d a b n nm
  · have e : kd = kConst := e
    subst e
    by_cases hsm : -2147483648 ≤ n ∧ n ≤ 2147483647
    · have e9 : lowE l ⟨kConst, d, a, b, n, nm⟩ = [⟨constT, d, 0, 0, n⟩] := by show (if _ then _ else _) = _; exact if_pos hsm
      rw [e9]; exact low_const_s h hl d a b n nm hsm
    · have e9 : lowE l ⟨kConst, d, a, b, n, nm⟩ = [⟨constT, d, 0, 0, n / 4294967296⟩, ⟨highT, d, 0, 0, wrap32 n⟩] := by show (if _ then _ else _) = _; exact if_neg hsm
      rw [e9]; exact low_const_b h hl d a b n nm h6 hsm
  · have e : kd = kLoad := e
    subst e
    exact low_rest h hl kLoad (by decide) (by decide) (by decide) (by decide) d a b n nm
  · have e : kd = kOne := e
    subst e
    cases hnm : (nm == [33])
    · have e9 : lowE l ⟨kOne, d, a, b, n, nm⟩ = [⟨negT, d, a, 0, 0⟩] := by show [(⟨if nm == [33] then notT else negT, d, a, 0, 0⟩ : PIns)] = _; rw [hnm]; rfl
      rw [e9]; exact low_neg h hl d a b n nm hnm
    · have e9 : lowE l ⟨kOne, d, a, b, n, nm⟩ = [⟨notT, d, a, 0, 0⟩] := by show [(⟨if nm == [33] then notT else negT, d, a, 0, 0⟩ : PIns)] = _; rw [hnm]; rfl
      rw [e9]; exact low_not h hl d a b n nm hnm
  · have e : kd = kTwo := e
    subst e
    have h2 := hf.two hk 0 0
    rw [doV_ops] at h2
    have h3 : (opsB.findIdx? (fun z => z == nm)).isSome = true := by rw [List.findIdx?_isSome]; exact h2
    obtain ⟨j, hj⟩ := Option.isSome_iff_exists.1 h3
    exact low_two h hl d a b n nm j hj
  · have e : kd = kMove := e
    subst e
    exact low_rest h hl kMove (by decide) (by decide) (by decide) (by decide) d a b n nm
  · have e : kd = kStore := e
    subst e
    exact low_rest h hl kStore (by decide) (by decide) (by decide) (by decide) d a b n nm
  · have e : kd = kArg := e
    subst e
    exact low_rest h hl kArg (by decide) (by decide) (by decide) (by decide) d a b n nm
  · have e : kd = kCall := e
    subst e
    exact low_call h hl hll hr d a b n nm
  · have e : kd = kTick := e
    subst e
    exact low_rest h hl kTick (by decide) (by decide) (by decide) (by decide) d a b n nm
  · have e : kd = kPrint := e
    subst e
    exact low_rest h hl kPrint (by decide) (by decide) (by decide) (by decide) d a b n nm
end
end Go.Proofs.YtonnhechjbdenaaGreatDoor
