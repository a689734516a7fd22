import Derived.Deep.RegionHeld3
import Derived.Test.YtgoifbkogboppaaDoorBn14
import Derived.Test.YtgoifbkogboppaaDoorBn20
import Derived.Test.YtgoifbkogboppaaDoorBn3
set_option linter.unusedVariables false
set_option linter.unusedSimpArgs false
namespace Go.Proofs.YtgoifbkogboppaaDoor
open Go.RowKit

/-! the machine: sum, more ops (printed by gen_sum.py) -/
section
variable {m : PImg} {A : Option Addr} {cf : Nat} {B : Option Addr} {cw : Nat} {C : Value} {mb T : Nat} {s : PMs} {v u : Value} {ps : List (Nat × Nat)} {p : Nat × Nat} {cs : List PFr} {x y : PFr} {w w' : World}
set_option maxHeartbeats 4000000 in
set_option maxRecDepth 100000 in
theorem sum_xor (h : MaAt m A cf B cw C mb T s v u (ps ++ [p]) w) (hs : s.calls = cs ++ [x]) (hx : FrLen x) (K : Value) (hK : ∀ w', Below w.heap.size w w' → w'.cell? ⟨4, 0, none⟩ = some K) (d : Nat) (hd : d < 8) (a : Nat) (ha : a < 8) (b : Nat) (hb8 : b < 8) (imm : Int) :
    Calls Tryd.prog 44 #[.pointer (some ⟨p.1, 0, none⟩), .agg #[.string ⟨#[120, 111, 114]⟩, .int .i64 d, .int .i64 a, .int .i64 b, .int .i64 imm]] w
      fun e w' => e = .returned (.tuple #[]) ∧ MaAt m A cf B cw C mb T (topM (putM x d (valOf (doV [94] (regM x a) (regM x b)))) s) v u (ps ++ [p]) w' ∧ Below mb w w' := by
  obtain ⟨res, hres⟩ : ∃ res, valOf (doV [94] (regM x a) (regM x b)) = res := ⟨_, rfl⟩
  rw [hres]
  obtain ⟨bx, hbx⟩ : ∃ bx, w.alloc (.cells #[.string ⟨#[120, 111, 114]⟩, .int .i64 d, .int .i64 a, .int .i64 b, .int .i64 imm] 76) = bx := ⟨_, rfl⟩
  have hb := (grow_alloc (grow_refl w) (.cells #[.string ⟨#[120, 111, 114]⟩, .int .i64 d, .int .i64 a, .int .i64 b, .int .i64 imm] 76))
  have hn := heap_alloc_new w (.cells #[.string ⟨#[120, 111, 114]⟩, .int .i64 d, .int .i64 a, .int .i64 b, .int .i64 imm] 76)
  rw [hbx] at hb hn
  have h2 := h.below hb
  have hlt := h.lt
  obtain ⟨ht, -⟩ := h2.top_at hs
  have r1 := ht.cell (frL_r hx hd)
  have r2 : bx.cell? ⟨p.1, 4 + a, none⟩ = some (.int .i64 (regM x a)) := ht.cell (frL_r hx ha)
  have z1 := row_frozen ht.blk (4 + d)
  have hpl : p.1 < w.heap.size := (Array.getElem?_eq_some_iff.1 (h.top_at hs).1.blk).1
  have hpw : w.heap.size ≠ p.1 := by omega
  have hd0 : (0 : Int) ≤ d := by omega
  have hd1 : (d : Int) < 8 := by omega
  have ha0 : (0 : Int) ≤ a := by omega
  have ha1 : (a : Int) < 8 := by omega
  have r3 : bx.cell? ⟨p.1, 4 + b, none⟩ = some (.int .i64 (regM x b)) := ht.cell (frL_r hx hb8)
  have hb0 : (0 : Int) ≤ b := by omega
  have hb1 : (b : Int) < 8 := by omega
  have HTH : Hid (Calls Tryd.prog 58 #[.string ⟨#[120, 111, 114]⟩] bx.drew (Ret (.string ⟨#[94]⟩) bx.drew)) := Three_any 7 (by decide) bx.drew
  have HDO : Hid (∀ w', Below bx.heap.size bx w' → Calls Tryd.prog 57 #[.string ⟨#[94]⟩, .int .i64 (regM x a), .int .i64 (regM x b)] w' (Quiet (.tuple #[.int .i64 res, .nilIface]) w')) := fun w' hb' => by
    have h1 := Do_any (mkB [94]) (regM x a) (regM x b) K w' (hK _ (grow_trans hb hb'))
    rw [mkB_toList] at h1
    rw [← hres]
    exact h1
  have HST := Lib.hid (fun w' (hb' : Below bx.heap.size bx w') n => ((h2.below hb').drewN n).frStore hs (y := putM x d res) (.int .i64 res) (frL_setR hx hd _) rfl)
  have HZ : Hid (∀ w', Below bx.heap.size bx w' → w'.frozen? ⟨p.1, 4 + d, none⟩ = false) := fun w' hb' => row_frozen ((h2.below hb').top_at hs).1.blk (4 + d)
  have hb9 := Nat.le_of_lt h2.lt
  have HB := Lib.hid (hb.mono (Nat.le_of_lt hlt))
  have HBX := Lib.hid hbx
  obtain ⟨e0, e1, e2, e3⟩ := (⟨cell_of_row _ _ 0 _ _ _ hn, cell_of_row _ _ 1 _ _ _ hn, cell_of_row _ _ 2 _ _ _ hn, cell_of_row _ _ 3 _ _ _ hn⟩ : bx.cell? ⟨w.heap.size, 0, none⟩ = some (.string ⟨#[120, 111, 114]⟩) ∧ bx.cell? ⟨w.heap.size, 1, none⟩ = some (.int .i64 d) ∧ bx.cell? ⟨w.heap.size, 2, none⟩ = some (.int .i64 a) ∧ bx.cell? ⟨w.heap.size, 3, none⟩ = some (.int .i64 b))
  clear h h2 hb hbx hn ht hs hx hK hres
  go_enter Tryd.func44, Tryd.ntmps44
  go_upto_region 1 with fail
  change Code.wp _ _ _ _ (w.alloc (.cells #[.string ⟨#[120, 111, 114]⟩, .int .i64 d, .int .i64 a, .int .i64 b, .int .i64 imm] 76))
  rw [HBX.out]
  go_upto_region 2 with fail
  rw [show Op.load 3 (Operand.tmp 18) = ldS18 from rfl, show Op.load 3 (Operand.tmp 25) = ldS25 from rfl]
  go_region_held3 (fun w' => w'.cell? ⟨w.heap.size, 0, none⟩ = some (.string ⟨#[120, 111, 114]⟩) ∧ w'.cell? ⟨w.heap.size, 1, none⟩ = some (.int .i64 d) ∧ w'.cell? ⟨w.heap.size, 2, none⟩ = some (.int .i64 a) ∧ w'.cell? ⟨w.heap.size, 3, none⟩ = some (.int .i64 b))
    (first
      | exact ⟨e0, e1, e2, e3⟩
      | (go_split_ands
         refine ⟨?_, ?_, ?_, ?_⟩
         all_goals (first | assumption | exact Keeps.of_below hb5 _ _ (by assumption) | exact (World.cell?_of_block (Below.heap_setCell _ _ _ _ hpw)).trans (by assumption))))
    (first
      | (go_at_call 58; (with_reducible refine HTH.out.mono ?_); rintro z w5 ⟨rfl, hb5⟩; have hbx5 := grow_trans (grow_drew (grow_refl bx) 1) hb5; have r2 := Keeps.of_below hbx5 _ _ r2; have r3 := Keeps.of_below hbx5 _ _ r3; have r1 := Keeps.of_below hbx5 _ _ r1; have z1 := HZ.out _ hbx5)
      | (go_at_call 57; (with_reducible refine (HDO.out _ (by assumption)).mono ?_); rintro z w6 ⟨rfl, n6, rfl⟩))
  all_goals
    go_wp2_with fail
    go_returns
    exact ⟨rfl, (HST.out _ (by assumption) _).1, HB.out.trans ((Below.mono (by assumption) hb9).trans ((below_drewN (Below.refl _ _) _).trans (HST.out _ (by assumption) _).2))⟩

set_option maxHeartbeats 4000000 in
set_option maxRecDepth 100000 in
theorem sum_shl (h : MaAt m A cf B cw C mb T s v u (ps ++ [p]) w) (hs : s.calls = cs ++ [x]) (hx : FrLen x) (K : Value) (hK : ∀ w', Below w.heap.size w w' → w'.cell? ⟨4, 0, none⟩ = some K) (d : Nat) (hd : d < 8) (a : Nat) (ha : a < 8) (b : Nat) (hb8 : b < 8) (imm : Int) :
    Calls Tryd.prog 44 #[.pointer (some ⟨p.1, 0, none⟩), .agg #[.string ⟨#[115, 104, 108]⟩, .int .i64 d, .int .i64 a, .int .i64 b, .int .i64 imm]] w
      fun e w' => e = .returned (.tuple #[]) ∧ MaAt m A cf B cw C mb T (topM (putM x d (valOf (doV [60, 60] (regM x a) (regM x b)))) s) v u (ps ++ [p]) w' ∧ Below mb w w' := by
  obtain ⟨res, hres⟩ : ∃ res, valOf (doV [60, 60] (regM x a) (regM x b)) = res := ⟨_, rfl⟩
  rw [hres]
  obtain ⟨bx, hbx⟩ : ∃ bx, w.alloc (.cells #[.string ⟨#[115, 104, 108]⟩, .int .i64 d, .int .i64 a, .int .i64 b, .int .i64 imm] 76) = bx := ⟨_, rfl⟩
  have hb := (grow_alloc (grow_refl w) (.cells #[.string ⟨#[115, 104, 108]⟩, .int .i64 d, .int .i64 a, .int .i64 b, .int .i64 imm] 76))
  have hn := heap_alloc_new w (.cells #[.string ⟨#[115, 104, 108]⟩, .int .i64 d, .int .i64 a, .int .i64 b, .int .i64 imm] 76)
  rw [hbx] at hb hn
  have h2 := h.below hb
  have hlt := h.lt
  obtain ⟨ht, -⟩ := h2.top_at hs
  have r1 := ht.cell (frL_r hx hd)
  have r2 : bx.cell? ⟨p.1, 4 + a, none⟩ = some (.int .i64 (regM x a)) := ht.cell (frL_r hx ha)
  have z1 := row_frozen ht.blk (4 + d)
  have hpl : p.1 < w.heap.size := (Array.getElem?_eq_some_iff.1 (h.top_at hs).1.blk).1
  have hpw : w.heap.size ≠ p.1 := by omega
  have hd0 : (0 : Int) ≤ d := by omega
  have hd1 : (d : Int) < 8 := by omega
  have ha0 : (0 : Int) ≤ a := by omega
  have ha1 : (a : Int) < 8 := by omega
  have r3 : bx.cell? ⟨p.1, 4 + b, none⟩ = some (.int .i64 (regM x b)) := ht.cell (frL_r hx hb8)
  have hb0 : (0 : Int) ≤ b := by omega
  have hb1 : (b : Int) < 8 := by omega
  have HTH : Hid (Calls Tryd.prog 58 #[.string ⟨#[115, 104, 108]⟩] bx.drew (Ret (.string ⟨#[60, 60]⟩) bx.drew)) := Three_any 8 (by decide) bx.drew
  have HDO : Hid (∀ w', Below bx.heap.size bx w' → Calls Tryd.prog 57 #[.string ⟨#[60, 60]⟩, .int .i64 (regM x a), .int .i64 (regM x b)] w' (Quiet (.tuple #[.int .i64 res, .nilIface]) w')) := fun w' hb' => by
    have h1 := Do_any (mkB [60, 60]) (regM x a) (regM x b) K w' (hK _ (grow_trans hb hb'))
    rw [mkB_toList] at h1
    rw [← hres]
    exact h1
  have HST := Lib.hid (fun w' (hb' : Below bx.heap.size bx w') n => ((h2.below hb').drewN n).frStore hs (y := putM x d res) (.int .i64 res) (frL_setR hx hd _) rfl)
  have HZ : Hid (∀ w', Below bx.heap.size bx w' → w'.frozen? ⟨p.1, 4 + d, none⟩ = false) := fun w' hb' => row_frozen ((h2.below hb').top_at hs).1.blk (4 + d)
  have hb9 := Nat.le_of_lt h2.lt
  have HB := Lib.hid (hb.mono (Nat.le_of_lt hlt))
  have HBX := Lib.hid hbx
  obtain ⟨e0, e1, e2, e3⟩ := (⟨cell_of_row _ _ 0 _ _ _ hn, cell_of_row _ _ 1 _ _ _ hn, cell_of_row _ _ 2 _ _ _ hn, cell_of_row _ _ 3 _ _ _ hn⟩ : bx.cell? ⟨w.heap.size, 0, none⟩ = some (.string ⟨#[115, 104, 108]⟩) ∧ bx.cell? ⟨w.heap.size, 1, none⟩ = some (.int .i64 d) ∧ bx.cell? ⟨w.heap.size, 2, none⟩ = some (.int .i64 a) ∧ bx.cell? ⟨w.heap.size, 3, none⟩ = some (.int .i64 b))
  clear h h2 hb hbx hn ht hs hx hK hres
  go_enter Tryd.func44, Tryd.ntmps44
  go_upto_region 1 with fail
  change Code.wp _ _ _ _ (w.alloc (.cells #[.string ⟨#[115, 104, 108]⟩, .int .i64 d, .int .i64 a, .int .i64 b, .int .i64 imm] 76))
  rw [HBX.out]
  go_upto_region 2 with fail
  rw [show Op.load 3 (Operand.tmp 18) = ldS18 from rfl, show Op.load 3 (Operand.tmp 25) = ldS25 from rfl]
  go_region_held3 (fun w' => w'.cell? ⟨w.heap.size, 0, none⟩ = some (.string ⟨#[115, 104, 108]⟩) ∧ w'.cell? ⟨w.heap.size, 1, none⟩ = some (.int .i64 d) ∧ w'.cell? ⟨w.heap.size, 2, none⟩ = some (.int .i64 a) ∧ w'.cell? ⟨w.heap.size, 3, none⟩ = some (.int .i64 b))
    (first
      | exact ⟨e0, e1, e2, e3⟩
      | (go_split_ands
         refine ⟨?_, ?_, ?_, ?_⟩
         all_goals (first | assumption | exact Keeps.of_below hb5 _ _ (by assumption) | exact (World.cell?_of_block (Below.heap_setCell _ _ _ _ hpw)).trans (by assumption))))
    (first
      | (go_at_call 58; (with_reducible refine HTH.out.mono ?_); rintro z w5 ⟨rfl, hb5⟩; have hbx5 := grow_trans (grow_drew (grow_refl bx) 1) hb5; have r2 := Keeps.of_below hbx5 _ _ r2; have r3 := Keeps.of_below hbx5 _ _ r3; have r1 := Keeps.of_below hbx5 _ _ r1; have z1 := HZ.out _ hbx5)
      | (go_at_call 57; (with_reducible refine (HDO.out _ (by assumption)).mono ?_); rintro z w6 ⟨rfl, n6, rfl⟩))
  all_goals
    go_wp2_with fail
    go_returns
    exact ⟨rfl, (HST.out _ (by assumption) _).1, HB.out.trans ((Below.mono (by assumption) hb9).trans ((below_drewN (Below.refl _ _) _).trans (HST.out _ (by assumption) _).2))⟩

set_option maxHeartbeats 4000000 in
set_option maxRecDepth 100000 in
theorem sum_shr (h : MaAt m A cf B cw C mb T s v u (ps ++ [p]) w) (hs : s.calls = cs ++ [x]) (hx : FrLen x) (K : Value) (hK : ∀ w', Below w.heap.size w w' → w'.cell? ⟨4, 0, none⟩ = some K) (d : Nat) (hd : d < 8) (a : Nat) (ha : a < 8) (b : Nat) (hb8 : b < 8) (imm : Int) :
    Calls Tryd.prog 44 #[.pointer (some ⟨p.1, 0, none⟩), .agg #[.string ⟨#[115, 104, 114]⟩, .int .i64 d, .int .i64 a, .int .i64 b, .int .i64 imm]] w
      fun e w' => e = .returned (.tuple #[]) ∧ MaAt m A cf B cw C mb T (topM (putM x d (valOf (doV [62, 62] (regM x a) (regM x b)))) s) v u (ps ++ [p]) w' ∧ Below mb w w' := by
  obtain ⟨res, hres⟩ : ∃ res, valOf (doV [62, 62] (regM x a) (regM x b)) = res := ⟨_, rfl⟩
  rw [hres]
  obtain ⟨bx, hbx⟩ : ∃ bx, w.alloc (.cells #[.string ⟨#[115, 104, 114]⟩, .int .i64 d, .int .i64 a, .int .i64 b, .int .i64 imm] 76) = bx := ⟨_, rfl⟩
  have hb := (grow_alloc (grow_refl w) (.cells #[.string ⟨#[115, 104, 114]⟩, .int .i64 d, .int .i64 a, .int .i64 b, .int .i64 imm] 76))
  have hn := heap_alloc_new w (.cells #[.string ⟨#[115, 104, 114]⟩, .int .i64 d, .int .i64 a, .int .i64 b, .int .i64 imm] 76)
  rw [hbx] at hb hn
  have h2 := h.below hb
  have hlt := h.lt
  obtain ⟨ht, -⟩ := h2.top_at hs
  have r1 := ht.cell (frL_r hx hd)
  have r2 : bx.cell? ⟨p.1, 4 + a, none⟩ = some (.int .i64 (regM x a)) := ht.cell (frL_r hx ha)
  have z1 := row_frozen ht.blk (4 + d)
  have hpl : p.1 < w.heap.size := (Array.getElem?_eq_some_iff.1 (h.top_at hs).1.blk).1
  have hpw : w.heap.size ≠ p.1 := by omega
  have hd0 : (0 : Int) ≤ d := by omega
  have hd1 : (d : Int) < 8 := by omega
  have ha0 : (0 : Int) ≤ a := by omega
  have ha1 : (a : Int) < 8 := by omega
  have r3 : bx.cell? ⟨p.1, 4 + b, none⟩ = some (.int .i64 (regM x b)) := ht.cell (frL_r hx hb8)
  have hb0 : (0 : Int) ≤ b := by omega
  have hb1 : (b : Int) < 8 := by omega
  have HTH : Hid (Calls Tryd.prog 58 #[.string ⟨#[115, 104, 114]⟩] bx.drew (Ret (.string ⟨#[62, 62]⟩) bx.drew)) := Three_any 9 (by decide) bx.drew
  have HDO : Hid (∀ w', Below bx.heap.size bx w' → Calls Tryd.prog 57 #[.string ⟨#[62, 62]⟩, .int .i64 (regM x a), .int .i64 (regM x b)] w' (Quiet (.tuple #[.int .i64 res, .nilIface]) w')) := fun w' hb' => by
    have h1 := Do_any (mkB [62, 62]) (regM x a) (regM x b) K w' (hK _ (grow_trans hb hb'))
    rw [mkB_toList] at h1
    rw [← hres]
    exact h1
  have HST := Lib.hid (fun w' (hb' : Below bx.heap.size bx w') n => ((h2.below hb').drewN n).frStore hs (y := putM x d res) (.int .i64 res) (frL_setR hx hd _) rfl)
  have HZ : Hid (∀ w', Below bx.heap.size bx w' → w'.frozen? ⟨p.1, 4 + d, none⟩ = false) := fun w' hb' => row_frozen ((h2.below hb').top_at hs).1.blk (4 + d)
  have hb9 := Nat.le_of_lt h2.lt
  have HB := Lib.hid (hb.mono (Nat.le_of_lt hlt))
  have HBX := Lib.hid hbx
  obtain ⟨e0, e1, e2, e3⟩ := (⟨cell_of_row _ _ 0 _ _ _ hn, cell_of_row _ _ 1 _ _ _ hn, cell_of_row _ _ 2 _ _ _ hn, cell_of_row _ _ 3 _ _ _ hn⟩ : bx.cell? ⟨w.heap.size, 0, none⟩ = some (.string ⟨#[115, 104, 114]⟩) ∧ bx.cell? ⟨w.heap.size, 1, none⟩ = some (.int .i64 d) ∧ bx.cell? ⟨w.heap.size, 2, none⟩ = some (.int .i64 a) ∧ bx.cell? ⟨w.heap.size, 3, none⟩ = some (.int .i64 b))
  clear h h2 hb hbx hn ht hs hx hK hres
  go_enter Tryd.func44, Tryd.ntmps44
  go_upto_region 1 with fail
  change Code.wp _ _ _ _ (w.alloc (.cells #[.string ⟨#[115, 104, 114]⟩, .int .i64 d, .int .i64 a, .int .i64 b, .int .i64 imm] 76))
  rw [HBX.out]
  go_upto_region 2 with fail
  rw [show Op.load 3 (Operand.tmp 18) = ldS18 from rfl, show Op.load 3 (Operand.tmp 25) = ldS25 from rfl]
  go_region_held3 (fun w' => w'.cell? ⟨w.heap.size, 0, none⟩ = some (.string ⟨#[115, 104, 114]⟩) ∧ w'.cell? ⟨w.heap.size, 1, none⟩ = some (.int .i64 d) ∧ w'.cell? ⟨w.heap.size, 2, none⟩ = some (.int .i64 a) ∧ w'.cell? ⟨w.heap.size, 3, none⟩ = some (.int .i64 b))
    (first
      | exact ⟨e0, e1, e2, e3⟩
      | (go_split_ands
         refine ⟨?_, ?_, ?_, ?_⟩
         all_goals (first | assumption | exact Keeps.of_below hb5 _ _ (by assumption) | exact (World.cell?_of_block (Below.heap_setCell _ _ _ _ hpw)).trans (by assumption))))
    (first
      | (go_at_call 58; (with_reducible refine HTH.out.mono ?_); rintro z w5 ⟨rfl, hb5⟩; have hbx5 := grow_trans (grow_drew (grow_refl bx) 1) hb5; have r2 := Keeps.of_below hbx5 _ _ r2; have r3 := Keeps.of_below hbx5 _ _ r3; have r1 := Keeps.of_below hbx5 _ _ r1; have z1 := HZ.out _ hbx5)
      | (go_at_call 57; (with_reducible refine (HDO.out _ (by assumption)).mono ?_); rintro z w6 ⟨rfl, n6, rfl⟩))
  all_goals
    go_wp2_with fail
    go_returns
    exact ⟨rfl, (HST.out _ (by assumption) _).1, HB.out.trans ((Below.mono (by assumption) hb9).trans ((below_drewN (Below.refl _ _) _).trans (HST.out _ (by assumption) _).2))⟩

set_option maxHeartbeats 4000000 in
set_option maxRecDepth 100000 in
theorem sum_less (h : MaAt m A cf B cw C mb T s v u (ps ++ [p]) w) (hs : s.calls = cs ++ [x]) (hx : FrLen x) (K : Value) (hK : ∀ w', Below w.heap.size w w' → w'.cell? ⟨4, 0, none⟩ = some K) (d : Nat) (hd : d < 8) (a : Nat) (ha : a < 8) (b : Nat) (hb8 : b < 8) (imm : Int) :
    Calls Tryd.prog 44 #[.pointer (some ⟨p.1, 0, none⟩), .agg #[.string ⟨#[108, 101, 115, 115]⟩, .int .i64 d, .int .i64 a, .int .i64 b, .int .i64 imm]] w
      fun e w' => e = .returned (.tuple #[]) ∧ MaAt m A cf B cw C mb T (topM (putM x d (valOf (doV [60] (regM x a) (regM x b)))) s) v u (ps ++ [p]) w' ∧ Below mb w w' := by
  obtain ⟨res, hres⟩ : ∃ res, valOf (doV [60] (regM x a) (regM x b)) = res := ⟨_, rfl⟩
  rw [hres]
  obtain ⟨bx, hbx⟩ : ∃ bx, w.alloc (.cells #[.string ⟨#[108, 101, 115, 115]⟩, .int .i64 d, .int .i64 a, .int .i64 b, .int .i64 imm] 76) = bx := ⟨_, rfl⟩
  have hb := (grow_alloc (grow_refl w) (.cells #[.string ⟨#[108, 101, 115, 115]⟩, .int .i64 d, .int .i64 a, .int .i64 b, .int .i64 imm] 76))
  have hn := heap_alloc_new w (.cells #[.string ⟨#[108, 101, 115, 115]⟩, .int .i64 d, .int .i64 a, .int .i64 b, .int .i64 imm] 76)
  rw [hbx] at hb hn
  have h2 := h.below hb
  have hlt := h.lt
  obtain ⟨ht, -⟩ := h2.top_at hs
  have r1 := ht.cell (frL_r hx hd)
  have r2 : bx.cell? ⟨p.1, 4 + a, none⟩ = some (.int .i64 (regM x a)) := ht.cell (frL_r hx ha)
  have z1 := row_frozen ht.blk (4 + d)
  have hpl : p.1 < w.heap.size := (Array.getElem?_eq_some_iff.1 (h.top_at hs).1.blk).1
  have hpw : w.heap.size ≠ p.1 := by omega
  have hd0 : (0 : Int) ≤ d := by omega
  have hd1 : (d : Int) < 8 := by omega
  have ha0 : (0 : Int) ≤ a := by omega
  have ha1 : (a : Int) < 8 := by omega
  have r3 : bx.cell? ⟨p.1, 4 + b, none⟩ = some (.int .i64 (regM x b)) := ht.cell (frL_r hx hb8)
  have hb0 : (0 : Int) ≤ b := by omega
  have hb1 : (b : Int) < 8 := by omega
  have HTH : Hid (Calls Tryd.prog 58 #[.string ⟨#[108, 101, 115, 115]⟩] bx.drew (Ret (.string ⟨#[60]⟩) bx.drew)) := Three_any 10 (by decide) bx.drew
  have HDO : Hid (∀ w', Below bx.heap.size bx w' → Calls Tryd.prog 57 #[.string ⟨#[60]⟩, .int .i64 (regM x a), .int .i64 (regM x b)] w' (Quiet (.tuple #[.int .i64 res, .nilIface]) w')) := fun w' hb' => by
    have h1 := Do_any (mkB [60]) (regM x a) (regM x b) K w' (hK _ (grow_trans hb hb'))
    rw [mkB_toList] at h1
    rw [← hres]
    exact h1
  have HST := Lib.hid (fun w' (hb' : Below bx.heap.size bx w') n => ((h2.below hb').drewN n).frStore hs (y := putM x d res) (.int .i64 res) (frL_setR hx hd _) rfl)
  have HZ : Hid (∀ w', Below bx.heap.size bx w' → w'.frozen? ⟨p.1, 4 + d, none⟩ = false) := fun w' hb' => row_frozen ((h2.below hb').top_at hs).1.blk (4 + d)
  have hb9 := Nat.le_of_lt h2.lt
  have HB := Lib.hid (hb.mono (Nat.le_of_lt hlt))
  have HBX := Lib.hid hbx
  obtain ⟨e0, e1, e2, e3⟩ := (⟨cell_of_row _ _ 0 _ _ _ hn, cell_of_row _ _ 1 _ _ _ hn, cell_of_row _ _ 2 _ _ _ hn, cell_of_row _ _ 3 _ _ _ hn⟩ : bx.cell? ⟨w.heap.size, 0, none⟩ = some (.string ⟨#[108, 101, 115, 115]⟩) ∧ bx.cell? ⟨w.heap.size, 1, none⟩ = some (.int .i64 d) ∧ bx.cell? ⟨w.heap.size, 2, none⟩ = some (.int .i64 a) ∧ bx.cell? ⟨w.heap.size, 3, none⟩ = some (.int .i64 b))
  clear h h2 hb hbx hn ht hs hx hK hres
  go_enter Tryd.func44, Tryd.ntmps44
  go_upto_region 1 with fail
  change Code.wp _ _ _ _ (w.alloc (.cells #[.string ⟨#[108, 101, 115, 115]⟩, .int .i64 d, .int .i64 a, .int .i64 b, .int .i64 imm] 76))
  rw [HBX.out]
  go_upto_region 2 with fail
  rw [show Op.load 3 (Operand.tmp 18) = ldS18 from rfl, show Op.load 3 (Operand.tmp 25) = ldS25 from rfl]
  go_region_held3 (fun w' => w'.cell? ⟨w.heap.size, 0, none⟩ = some (.string ⟨#[108, 101, 115, 115]⟩) ∧ w'.cell? ⟨w.heap.size, 1, none⟩ = some (.int .i64 d) ∧ w'.cell? ⟨w.heap.size, 2, none⟩ = some (.int .i64 a) ∧ w'.cell? ⟨w.heap.size, 3, none⟩ = some (.int .i64 b))
    (first
      | exact ⟨e0, e1, e2, e3⟩
      | (go_split_ands
         refine ⟨?_, ?_, ?_, ?_⟩
         all_goals (first | assumption | exact Keeps.of_below hb5 _ _ (by assumption) | exact (World.cell?_of_block (Below.heap_setCell _ _ _ _ hpw)).trans (by assumption))))
    (first
      | (go_at_call 58; (with_reducible refine HTH.out.mono ?_); rintro z w5 ⟨rfl, hb5⟩; have hbx5 := grow_trans (grow_drew (grow_refl bx) 1) hb5; have r2 := Keeps.of_below hbx5 _ _ r2; have r3 := Keeps.of_below hbx5 _ _ r3; have r1 := Keeps.of_below hbx5 _ _ r1; have z1 := HZ.out _ hbx5)
      | (go_at_call 57; (with_reducible refine (HDO.out _ (by assumption)).mono ?_); rintro z w6 ⟨rfl, n6, rfl⟩))
  all_goals
    go_wp2_with fail
    go_returns
    exact ⟨rfl, (HST.out _ (by assumption) _).1, HB.out.trans ((Below.mono (by assumption) hb9).trans ((below_drewN (Below.refl _ _) _).trans (HST.out _ (by assumption) _).2))⟩

set_option maxHeartbeats 4000000 in
set_option maxRecDepth 100000 in
theorem sum_most (h : MaAt m A cf B cw C mb T s v u (ps ++ [p]) w) (hs : s.calls = cs ++ [x]) (hx : FrLen x) (K : Value) (hK : ∀ w', Below w.heap.size w w' → w'.cell? ⟨4, 0, none⟩ = some K) (d : Nat) (hd : d < 8) (a : Nat) (ha : a < 8) (b : Nat) (hb8 : b < 8) (imm : Int) :
    Calls Tryd.prog 44 #[.pointer (some ⟨p.1, 0, none⟩), .agg #[.string ⟨#[109, 111, 115, 116]⟩, .int .i64 d, .int .i64 a, .int .i64 b, .int .i64 imm]] w
      fun e w' => e = .returned (.tuple #[]) ∧ MaAt m A cf B cw C mb T (topM (putM x d (valOf (doV [60, 61] (regM x a) (regM x b)))) s) v u (ps ++ [p]) w' ∧ Below mb w w' := by
  obtain ⟨res, hres⟩ : ∃ res, valOf (doV [60, 61] (regM x a) (regM x b)) = res := ⟨_, rfl⟩
  rw [hres]
  obtain ⟨bx, hbx⟩ : ∃ bx, w.alloc (.cells #[.string ⟨#[109, 111, 115, 116]⟩, .int .i64 d, .int .i64 a, .int .i64 b, .int .i64 imm] 76) = bx := ⟨_, rfl⟩
  have hb := (grow_alloc (grow_refl w) (.cells #[.string ⟨#[109, 111, 115, 116]⟩, .int .i64 d, .int .i64 a, .int .i64 b, .int .i64 imm] 76))
  have hn := heap_alloc_new w (.cells #[.string ⟨#[109, 111, 115, 116]⟩, .int .i64 d, .int .i64 a, .int .i64 b, .int .i64 imm] 76)
  rw [hbx] at hb hn
  have h2 := h.below hb
  have hlt := h.lt
  obtain ⟨ht, -⟩ := h2.top_at hs
  have r1 := ht.cell (frL_r hx hd)
  have r2 : bx.cell? ⟨p.1, 4 + a, none⟩ = some (.int .i64 (regM x a)) := ht.cell (frL_r hx ha)
  have z1 := row_frozen ht.blk (4 + d)
  have hpl : p.1 < w.heap.size := (Array.getElem?_eq_some_iff.1 (h.top_at hs).1.blk).1
  have hpw : w.heap.size ≠ p.1 := by omega
  have hd0 : (0 : Int) ≤ d := by omega
  have hd1 : (d : Int) < 8 := by omega
  have ha0 : (0 : Int) ≤ a := by omega
  have ha1 : (a : Int) < 8 := by omega
  have r3 : bx.cell? ⟨p.1, 4 + b, none⟩ = some (.int .i64 (regM x b)) := ht.cell (frL_r hx hb8)
  have hb0 : (0 : Int) ≤ b := by omega
  have hb1 : (b : Int) < 8 := by omega
  have HTH : Hid (Calls Tryd.prog 58 #[.string ⟨#[109, 111, 115, 116]⟩] bx.drew (Ret (.string ⟨#[60, 61]⟩) bx.drew)) := Three_any 11 (by decide) bx.drew
  have HDO : Hid (∀ w', Below bx.heap.size bx w' → Calls Tryd.prog 57 #[.string ⟨#[60, 61]⟩, .int .i64 (regM x a), .int .i64 (regM x b)] w' (Quiet (.tuple #[.int .i64 res, .nilIface]) w')) := fun w' hb' => by
    have h1 := Do_any (mkB [60, 61]) (regM x a) (regM x b) K w' (hK _ (grow_trans hb hb'))
    rw [mkB_toList] at h1
    rw [← hres]
    exact h1
  have HST := Lib.hid (fun w' (hb' : Below bx.heap.size bx w') n => ((h2.below hb').drewN n).frStore hs (y := putM x d res) (.int .i64 res) (frL_setR hx hd _) rfl)
  have HZ : Hid (∀ w', Below bx.heap.size bx w' → w'.frozen? ⟨p.1, 4 + d, none⟩ = false) := fun w' hb' => row_frozen ((h2.below hb').top_at hs).1.blk (4 + d)
  have hb9 := Nat.le_of_lt h2.lt
  have HB := Lib.hid (hb.mono (Nat.le_of_lt hlt))
  have HBX := Lib.hid hbx
  obtain ⟨e0, e1, e2, e3⟩ := (⟨cell_of_row _ _ 0 _ _ _ hn, cell_of_row _ _ 1 _ _ _ hn, cell_of_row _ _ 2 _ _ _ hn, cell_of_row _ _ 3 _ _ _ hn⟩ : bx.cell? ⟨w.heap.size, 0, none⟩ = some (.string ⟨#[109, 111, 115, 116]⟩) ∧ bx.cell? ⟨w.heap.size, 1, none⟩ = some (.int .i64 d) ∧ bx.cell? ⟨w.heap.size, 2, none⟩ = some (.int .i64 a) ∧ bx.cell? ⟨w.heap.size, 3, none⟩ = some (.int .i64 b))
  clear h h2 hb hbx hn ht hs hx hK hres
  go_enter Tryd.func44, Tryd.ntmps44
  go_upto_region 1 with fail
  change Code.wp _ _ _ _ (w.alloc (.cells #[.string ⟨#[109, 111, 115, 116]⟩, .int .i64 d, .int .i64 a, .int .i64 b, .int .i64 imm] 76))
  rw [HBX.out]
  go_upto_region 2 with fail
  rw [show Op.load 3 (Operand.tmp 18) = ldS18 from rfl, show Op.load 3 (Operand.tmp 25) = ldS25 from rfl]
  go_region_held3 (fun w' => w'.cell? ⟨w.heap.size, 0, none⟩ = some (.string ⟨#[109, 111, 115, 116]⟩) ∧ w'.cell? ⟨w.heap.size, 1, none⟩ = some (.int .i64 d) ∧ w'.cell? ⟨w.heap.size, 2, none⟩ = some (.int .i64 a) ∧ w'.cell? ⟨w.heap.size, 3, none⟩ = some (.int .i64 b))
    (first
      | exact ⟨e0, e1, e2, e3⟩
      | (go_split_ands
         refine ⟨?_, ?_, ?_, ?_⟩
         all_goals (first | assumption | exact Keeps.of_below hb5 _ _ (by assumption) | exact (World.cell?_of_block (Below.heap_setCell _ _ _ _ hpw)).trans (by assumption))))
    (first
      | (go_at_call 58; (with_reducible refine HTH.out.mono ?_); rintro z w5 ⟨rfl, hb5⟩; have hbx5 := grow_trans (grow_drew (grow_refl bx) 1) hb5; have r2 := Keeps.of_below hbx5 _ _ r2; have r3 := Keeps.of_below hbx5 _ _ r3; have r1 := Keeps.of_below hbx5 _ _ r1; have z1 := HZ.out _ hbx5)
      | (go_at_call 57; (with_reducible refine (HDO.out _ (by assumption)).mono ?_); rintro z w6 ⟨rfl, n6, rfl⟩))
  all_goals
    go_wp2_with fail
    go_returns
    exact ⟨rfl, (HST.out _ (by assumption) _).1, HB.out.trans ((Below.mono (by assumption) hb9).trans ((below_drewN (Below.refl _ _) _).trans (HST.out _ (by assumption) _).2))⟩

set_option maxHeartbeats 4000000 in
set_option maxRecDepth 100000 in
theorem sum_same (h : MaAt m A cf B cw C mb T s v u (ps ++ [p]) w) (hs : s.calls = cs ++ [x]) (hx : FrLen x) (K : Value) (hK : ∀ w', Below w.heap.size w w' → w'.cell? ⟨4, 0, none⟩ = some K) (d : Nat) (hd : d < 8) (a : Nat) (ha : a < 8) (b : Nat) (hb8 : b < 8) (imm : Int) :
    Calls Tryd.prog 44 #[.pointer (some ⟨p.1, 0, none⟩), .agg #[.string ⟨#[115, 97, 109, 101]⟩, .int .i64 d, .int .i64 a, .int .i64 b, .int .i64 imm]] w
      fun e w' => e = .returned (.tuple #[]) ∧ MaAt m A cf B cw C mb T (topM (putM x d (valOf (doV [61, 61] (regM x a) (regM x b)))) s) v u (ps ++ [p]) w' ∧ Below mb w w' := by
  obtain ⟨res, hres⟩ : ∃ res, valOf (doV [61, 61] (regM x a) (regM x b)) = res := ⟨_, rfl⟩
  rw [hres]
  obtain ⟨bx, hbx⟩ : ∃ bx, w.alloc (.cells #[.string ⟨#[115, 97, 109, 101]⟩, .int .i64 d, .int .i64 a, .int .i64 b, .int .i64 imm] 76) = bx := ⟨_, rfl⟩
  have hb := (grow_alloc (grow_refl w) (.cells #[.string ⟨#[115, 97, 109, 101]⟩, .int .i64 d, .int .i64 a, .int .i64 b, .int .i64 imm] 76))
  have hn := heap_alloc_new w (.cells #[.string ⟨#[115, 97, 109, 101]⟩, .int .i64 d, .int .i64 a, .int .i64 b, .int .i64 imm] 76)
  rw [hbx] at hb hn
  have h2 := h.below hb
  have hlt := h.lt
  obtain ⟨ht, -⟩ := h2.top_at hs
  have r1 := ht.cell (frL_r hx hd)
  have r2 : bx.cell? ⟨p.1, 4 + a, none⟩ = some (.int .i64 (regM x a)) := ht.cell (frL_r hx ha)
  have z1 := row_frozen ht.blk (4 + d)
  have hpl : p.1 < w.heap.size := (Array.getElem?_eq_some_iff.1 (h.top_at hs).1.blk).1
  have hpw : w.heap.size ≠ p.1 := by omega
  have hd0 : (0 : Int) ≤ d := by omega
  have hd1 : (d : Int) < 8 := by omega
  have ha0 : (0 : Int) ≤ a := by omega
  have ha1 : (a : Int) < 8 := by omega
  have r3 : bx.cell? ⟨p.1, 4 + b, none⟩ = some (.int .i64 (regM x b)) := ht.cell (frL_r hx hb8)
  have hb0 : (0 : Int) ≤ b := by omega
  have hb1 : (b : Int) < 8 := by omega
  have HTH : Hid (Calls Tryd.prog 58 #[.string ⟨#[115, 97, 109, 101]⟩] bx.drew (Ret (.string ⟨#[61, 61]⟩) bx.drew)) := Three_any 12 (by decide) bx.drew
  have HDO : Hid (∀ w', Below bx.heap.size bx w' → Calls Tryd.prog 57 #[.string ⟨#[61, 61]⟩, .int .i64 (regM x a), .int .i64 (regM x b)] w' (Quiet (.tuple #[.int .i64 res, .nilIface]) w')) := fun w' hb' => by
    have h1 := Do_any (mkB [61, 61]) (regM x a) (regM x b) K w' (hK _ (grow_trans hb hb'))
    rw [mkB_toList] at h1
    rw [← hres]
    exact h1
  have HST := Lib.hid (fun w' (hb' : Below bx.heap.size bx w') n => ((h2.below hb').drewN n).frStore hs (y := putM x d res) (.int .i64 res) (frL_setR hx hd _) rfl)
  have HZ : Hid (∀ w', Below bx.heap.size bx w' → w'.frozen? ⟨p.1, 4 + d, none⟩ = false) := fun w' hb' => row_frozen ((h2.below hb').top_at hs).1.blk (4 + d)
  have hb9 := Nat.le_of_lt h2.lt
  have HB := Lib.hid (hb.mono (Nat.le_of_lt hlt))
  have HBX := Lib.hid hbx
  obtain ⟨e0, e1, e2, e3⟩ := (⟨cell_of_row _ _ 0 _ _ _ hn, cell_of_row _ _ 1 _ _ _ hn, cell_of_row _ _ 2 _ _ _ hn, cell_of_row _ _ 3 _ _ _ hn⟩ : bx.cell? ⟨w.heap.size, 0, none⟩ = some (.string ⟨#[115, 97, 109, 101]⟩) ∧ bx.cell? ⟨w.heap.size, 1, none⟩ = some (.int .i64 d) ∧ bx.cell? ⟨w.heap.size, 2, none⟩ = some (.int .i64 a) ∧ bx.cell? ⟨w.heap.size, 3, none⟩ = some (.int .i64 b))
  clear h h2 hb hbx hn ht hs hx hK hres
  go_enter Tryd.func44, Tryd.ntmps44
  go_upto_region 1 with fail
  change Code.wp _ _ _ _ (w.alloc (.cells #[.string ⟨#[115, 97, 109, 101]⟩, .int .i64 d, .int .i64 a, .int .i64 b, .int .i64 imm] 76))
  rw [HBX.out]
  go_upto_region 2 with fail
  rw [show Op.load 3 (Operand.tmp 18) = ldS18 from rfl, show Op.load 3 (Operand.tmp 25) = ldS25 from rfl]
  go_region_held3 (fun w' => w'.cell? ⟨w.heap.size, 0, none⟩ = some (.string ⟨#[115, 97, 109, 101]⟩) ∧ w'.cell? ⟨w.heap.size, 1, none⟩ = some (.int .i64 d) ∧ w'.cell? ⟨w.heap.size, 2, none⟩ = some (.int .i64 a) ∧ w'.cell? ⟨w.heap.size, 3, none⟩ = some (.int .i64 b))
    (first
      | exact ⟨e0, e1, e2, e3⟩
      | (go_split_ands
         refine ⟨?_, ?_, ?_, ?_⟩
         all_goals (first | assumption | exact Keeps.of_below hb5 _ _ (by assumption) | exact (World.cell?_of_block (Below.heap_setCell _ _ _ _ hpw)).trans (by assumption))))
    (first
      | (go_at_call 58; (with_reducible refine HTH.out.mono ?_); rintro z w5 ⟨rfl, hb5⟩; have hbx5 := grow_trans (grow_drew (grow_refl bx) 1) hb5; have r2 := Keeps.of_below hbx5 _ _ r2; have r3 := Keeps.of_below hbx5 _ _ r3; have r1 := Keeps.of_below hbx5 _ _ r1; have z1 := HZ.out _ hbx5)
      | (go_at_call 57; (with_reducible refine (HDO.out _ (by assumption)).mono ?_); rintro z w6 ⟨rfl, n6, rfl⟩))
  all_goals
    go_wp2_with fail
    go_returns
    exact ⟨rfl, (HST.out _ (by assumption) _).1, HB.out.trans ((Below.mono (by assumption) hb9).trans ((below_drewN (Below.refl _ _) _).trans (HST.out _ (by assumption) _).2))⟩

set_option maxHeartbeats 4000000 in
set_option maxRecDepth 100000 in
theorem sum_other (h : MaAt m A cf B cw C mb T s v u (ps ++ [p]) w) (hs : s.calls = cs ++ [x]) (hx : FrLen x) (K : Value) (hK : ∀ w', Below w.heap.size w w' → w'.cell? ⟨4, 0, none⟩ = some K) (d : Nat) (hd : d < 8) (a : Nat) (ha : a < 8) (b : Nat) (hb8 : b < 8) (imm : Int) :
    Calls Tryd.prog 44 #[.pointer (some ⟨p.1, 0, none⟩), .agg #[.string ⟨#[111, 116, 104, 101, 114]⟩, .int .i64 d, .int .i64 a, .int .i64 b, .int .i64 imm]] w
      fun e w' => e = .returned (.tuple #[]) ∧ MaAt m A cf B cw C mb T (topM (putM x d (valOf (doV [33, 61] (regM x a) (regM x b)))) s) v u (ps ++ [p]) w' ∧ Below mb w w' := by
  obtain ⟨res, hres⟩ : ∃ res, valOf (doV [33, 61] (regM x a) (regM x b)) = res := ⟨_, rfl⟩
  rw [hres]
  obtain ⟨bx, hbx⟩ : ∃ bx, w.alloc (.cells #[.string ⟨#[111, 116, 104, 101, 114]⟩, .int .i64 d, .int .i64 a, .int .i64 b, .int .i64 imm] 76) = bx := ⟨_, rfl⟩
  have hb := (grow_alloc (grow_refl w) (.cells #[.string ⟨#[111, 116, 104, 101, 114]⟩, .int .i64 d, .int .i64 a, .int .i64 b, .int .i64 imm] 76))
  have hn := heap_alloc_new w (.cells #[.string ⟨#[111, 116, 104, 101, 114]⟩, .int .i64 d, .int .i64 a, .int .i64 b, .int .i64 imm] 76)
  rw [hbx] at hb hn
  have h2 := h.below hb
  have hlt := h.lt
  obtain ⟨ht, -⟩ := h2.top_at hs
  have r1 := ht.cell (frL_r hx hd)
  have r2 : bx.cell? ⟨p.1, 4 + a, none⟩ = some (.int .i64 (regM x a)) := ht.cell (frL_r hx ha)
  have z1 := row_frozen ht.blk (4 + d)
  have hpl : p.1 < w.heap.size := (Array.getElem?_eq_some_iff.1 (h.top_at hs).1.blk).1
  have hpw : w.heap.size ≠ p.1 := by omega
  have hd0 : (0 : Int) ≤ d := by omega
  have hd1 : (d : Int) < 8 := by omega
  have ha0 : (0 : Int) ≤ a := by omega
  have ha1 : (a : Int) < 8 := by omega
  have r3 : bx.cell? ⟨p.1, 4 + b, none⟩ = some (.int .i64 (regM x b)) := ht.cell (frL_r hx hb8)
  have hb0 : (0 : Int) ≤ b := by omega
  have hb1 : (b : Int) < 8 := by omega
  have HTH : Hid (Calls Tryd.prog 58 #[.string ⟨#[111, 116, 104, 101, 114]⟩] bx.drew (Ret (.string ⟨#[33, 61]⟩) bx.drew)) := Three_any 13 (by decide) bx.drew
  have HDO : Hid (∀ w', Below bx.heap.size bx w' → Calls Tryd.prog 57 #[.string ⟨#[33, 61]⟩, .int .i64 (regM x a), .int .i64 (regM x b)] w' (Quiet (.tuple #[.int .i64 res, .nilIface]) w')) := fun w' hb' => by
    have h1 := Do_any (mkB [33, 61]) (regM x a) (regM x b) K w' (hK _ (grow_trans hb hb'))
    rw [mkB_toList] at h1
    rw [← hres]
    exact h1
  have HST := Lib.hid (fun w' (hb' : Below bx.heap.size bx w') n => ((h2.below hb').drewN n).frStore hs (y := putM x d res) (.int .i64 res) (frL_setR hx hd _) rfl)
  have HZ : Hid (∀ w', Below bx.heap.size bx w' → w'.frozen? ⟨p.1, 4 + d, none⟩ = false) := fun w' hb' => row_frozen ((h2.below hb').top_at hs).1.blk (4 + d)
  have hb9 := Nat.le_of_lt h2.lt
  have HB := Lib.hid (hb.mono (Nat.le_of_lt hlt))
  have HBX := Lib.hid hbx
  obtain ⟨e0, e1, e2, e3⟩ := (⟨cell_of_row _ _ 0 _ _ _ hn, cell_of_row _ _ 1 _ _ _ hn, cell_of_row _ _ 2 _ _ _ hn, cell_of_row _ _ 3 _ _ _ hn⟩ : bx.cell? ⟨w.heap.size, 0, none⟩ = some (.string ⟨#[111, 116, 104, 101, 114]⟩) ∧ bx.cell? ⟨w.heap.size, 1, none⟩ = some (.int .i64 d) ∧ bx.cell? ⟨w.heap.size, 2, none⟩ = some (.int .i64 a) ∧ bx.cell? ⟨w.heap.size, 3, none⟩ = some (.int .i64 b))
  clear h h2 hb hbx hn ht hs hx hK hres
  go_enter Tryd.func44, Tryd.ntmps44
  go_upto_region 1 with fail
  change Code.wp _ _ _ _ (w.alloc (.cells #[.string ⟨#[111, 116, 104, 101, 114]⟩, .int .i64 d, .int .i64 a, .int .i64 b, .int .i64 imm] 76))
  rw [HBX.out]
  go_upto_region 2 with fail
  rw [show Op.load 3 (Operand.tmp 18) = ldS18 from rfl, show Op.load 3 (Operand.tmp 25) = ldS25 from rfl]
  go_region_held3 (fun w' => w'.cell? ⟨w.heap.size, 0, none⟩ = some (.string ⟨#[111, 116, 104, 101, 114]⟩) ∧ w'.cell? ⟨w.heap.size, 1, none⟩ = some (.int .i64 d) ∧ w'.cell? ⟨w.heap.size, 2, none⟩ = some (.int .i64 a) ∧ w'.cell? ⟨w.heap.size, 3, none⟩ = some (.int .i64 b))
    (first
      | exact ⟨e0, e1, e2, e3⟩
      | (go_split_ands
         refine ⟨?_, ?_, ?_, ?_⟩
         all_goals (first | assumption | exact Keeps.of_below hb5 _ _ (by assumption) | exact (World.cell?_of_block (Below.heap_setCell _ _ _ _ hpw)).trans (by assumption))))
    (first
      | (go_at_call 58; (with_reducible refine HTH.out.mono ?_); rintro z w5 ⟨rfl, hb5⟩; have hbx5 := grow_trans (grow_drew (grow_refl bx) 1) hb5; have r2 := Keeps.of_below hbx5 _ _ r2; have r3 := Keeps.of_below hbx5 _ _ r3; have r1 := Keeps.of_below hbx5 _ _ r1; have z1 := HZ.out _ hbx5)
      | (go_at_call 57; (with_reducible refine (HDO.out _ (by assumption)).mono ?_); rintro z w6 ⟨rfl, n6, rfl⟩))
  all_goals
    go_wp2_with fail
    go_returns
    exact ⟨rfl, (HST.out _ (by assumption) _).1, HB.out.trans ((Below.mono (by assumption) hb9).trans ((below_drewN (Below.refl _ _) _).trans (HST.out _ (by assumption) _).2))⟩

end
end Go.Proofs.YtgoifbkogboppaaDoor
