import Derived.Deep.RegionHeld3
import Derived.Test.YtgoifbkogboppaaDoorBn14
import Derived.Test.YtgoifbkogboppaaDoorBn20
import Derived.Test.YtgoifbkogboppaaDoorBn3
set_option linter.unusedVariables false
set_option linter.unusedSimpArgs false
namespace Go.Proofs.YtgoifbkogboppaaDoor
open Go.RowKit

/-! the machine: sum (printed by gen_sum.py) -/
section
variable {m : PImg} {A : Option Addr} {cf : Nat} {B : Option Addr} {cw : Nat} {C : Value} {mb T : Nat} {s : PMs} {v u : Value} {ps : List (Nat × Nat)} {p : Nat × Nat} {cs : List PFr} {x y : PFr} {w w' : World}
set_option maxHeartbeats 4000000 in
set_option maxRecDepth 100000 in
theorem sum_neg (h : MaAt m A cf B cw C mb T s v u (ps ++ [p]) w) (hs : s.calls = cs ++ [x]) (hx : FrLen x) (K : Value) (hK : ∀ w', Below w.heap.size w w' → w'.cell? ⟨4, 0, none⟩ = some K) (d : Nat) (hd : d < 8) (a : Nat) (ha : a < 8) (b : Int) (imm : Int) :
    Calls Tryd.prog 44 #[.pointer (some ⟨p.1, 0, none⟩), .agg #[.string ⟨#[110, 101, 103]⟩, .int .i64 d, .int .i64 a, .int .i64 b, .int .i64 imm]] w
      fun e w' => e = .returned (.tuple #[]) ∧ MaAt m A cf B cw C mb T (topM (putM x d (wrap64 (-(regM x a)))) s) v u (ps ++ [p]) w' ∧ Below mb w w' := by
  obtain ⟨res, hres⟩ : ∃ res, wrap64 (-(regM x a)) = res := ⟨_, rfl⟩
  rw [hres]
  obtain ⟨bx, hbx⟩ : ∃ bx, w.alloc (.cells #[.string ⟨#[110, 101, 103]⟩, .int .i64 d, .int .i64 a, .int .i64 b, .int .i64 imm] 76) = bx := ⟨_, rfl⟩
  have hb := (grow_alloc (grow_refl w) (.cells #[.string ⟨#[110, 101, 103]⟩, .int .i64 d, .int .i64 a, .int .i64 b, .int .i64 imm] 76))
  have hn := heap_alloc_new w (.cells #[.string ⟨#[110, 101, 103]⟩, .int .i64 d, .int .i64 a, .int .i64 b, .int .i64 imm] 76)
  rw [hbx] at hb hn
  have h2 := h.below hb
  have hlt := h.lt
  obtain ⟨ht, -⟩ := h2.top_at hs
  have r1 := ht.cell (frL_r hx hd)
  have r2 : bx.cell? ⟨p.1, 4 + a, none⟩ = some (.int .i64 (regM x a)) := ht.cell (frL_r hx ha)
  have z1 := row_frozen ht.blk (4 + d)
  have hpl : p.1 < w.heap.size := (Array.getElem?_eq_some_iff.1 (h.top_at hs).1.blk).1
  have hpw : w.heap.size ≠ p.1 := by omega
  have hd0 : (0 : Int) ≤ d := by omega
  have hd1 : (d : Int) < 8 := by omega
  have ha0 : (0 : Int) ≤ a := by omega
  have ha1 : (a : Int) < 8 := by omega
  have HON : Hid (Calls Tryd.prog 56 #[.string ⟨#[45]⟩, .int .i64 (regM x a)] bx.drew (Quiet (.tuple #[.int .i64 res, .nilIface]) bx.drew)) := by
    have h1 := One_any (mkB [45]) (regM x a) K bx.drew (hK _ (grow_drew hb 1))
    rw [mkB_toList] at h1
    rw [← hres]
    exact h1
  have HST := Lib.hid (fun n => (h2.drewN n).frStore hs (y := putM x d res) (.int .i64 res) (frL_setR hx hd _) rfl)
  have HB := Lib.hid (hb.mono (Nat.le_of_lt hlt))
  have HBX := Lib.hid hbx
  obtain ⟨e0, e1, e2, e3⟩ := (⟨cell_of_row _ _ 0 _ _ _ hn, cell_of_row _ _ 1 _ _ _ hn, cell_of_row _ _ 2 _ _ _ hn, cell_of_row _ _ 3 _ _ _ hn⟩ : bx.cell? ⟨w.heap.size, 0, none⟩ = some (.string ⟨#[110, 101, 103]⟩) ∧ bx.cell? ⟨w.heap.size, 1, none⟩ = some (.int .i64 d) ∧ bx.cell? ⟨w.heap.size, 2, none⟩ = some (.int .i64 a) ∧ bx.cell? ⟨w.heap.size, 3, none⟩ = some (.int .i64 b))
  clear h h2 hb hbx hn ht hs hx hK hres
  go_enter Tryd.func44, Tryd.ntmps44
  go_upto_region 1 with fail
  change Code.wp _ _ _ _ (w.alloc (.cells #[.string ⟨#[110, 101, 103]⟩, .int .i64 d, .int .i64 a, .int .i64 b, .int .i64 imm] 76))
  rw [HBX.out]
  go_upto_region 4 with fail
  rw [show Op.load 3 (Operand.tmp 44) = ldS44 from rfl]
  go_region_held3 (fun w' => w'.cell? ⟨w.heap.size, 1, none⟩ = some (.int .i64 d) ∧ w'.cell? ⟨w.heap.size, 2, none⟩ = some (.int .i64 a))
    (first
      | exact ⟨e1, e2⟩
      | (go_split_ands
         refine ⟨?_, ?_⟩
         all_goals (first | assumption | exact (World.cell?_of_block (Below.heap_setCell _ _ _ _ hpw)).trans (by assumption))))
    (first
      | (go_at_call 56; (with_reducible refine HON.out.mono ?_); rintro z w5 ⟨rfl, n5, rfl⟩))
  all_goals
    go_wp2_with fail
    go_returns
    exact ⟨rfl, (HST.out _).1, HB.out.trans ((below_drewN (Below.refl _ _) _).trans (HST.out _).2)⟩

set_option maxHeartbeats 4000000 in
set_option maxRecDepth 100000 in
theorem sum_not (h : MaAt m A cf B cw C mb T s v u (ps ++ [p]) w) (hs : s.calls = cs ++ [x]) (hx : FrLen x) (K : Value) (hK : ∀ w', Below w.heap.size w w' → w'.cell? ⟨4, 0, none⟩ = some K) (d : Nat) (hd : d < 8) (a : Nat) (ha : a < 8) (b : Int) (imm : Int) :
    Calls Tryd.prog 44 #[.pointer (some ⟨p.1, 0, none⟩), .agg #[.string ⟨#[110, 111, 116]⟩, .int .i64 d, .int .i64 a, .int .i64 b, .int .i64 imm]] w
      fun e w' => e = .returned (.tuple #[]) ∧ MaAt m A cf B cw C mb T (topM (putM x d (bitV (regM x a == 0))) s) v u (ps ++ [p]) w' ∧ Below mb w w' := by
  obtain ⟨res, hres⟩ : ∃ res, bitV (regM x a == 0) = res := ⟨_, rfl⟩
  rw [hres]
  obtain ⟨bx, hbx⟩ : ∃ bx, w.alloc (.cells #[.string ⟨#[110, 111, 116]⟩, .int .i64 d, .int .i64 a, .int .i64 b, .int .i64 imm] 76) = bx := ⟨_, rfl⟩
  have hb := (grow_alloc (grow_refl w) (.cells #[.string ⟨#[110, 111, 116]⟩, .int .i64 d, .int .i64 a, .int .i64 b, .int .i64 imm] 76))
  have hn := heap_alloc_new w (.cells #[.string ⟨#[110, 111, 116]⟩, .int .i64 d, .int .i64 a, .int .i64 b, .int .i64 imm] 76)
  rw [hbx] at hb hn
  have h2 := h.below hb
  have hlt := h.lt
  obtain ⟨ht, -⟩ := h2.top_at hs
  have r1 := ht.cell (frL_r hx hd)
  have r2 : bx.cell? ⟨p.1, 4 + a, none⟩ = some (.int .i64 (regM x a)) := ht.cell (frL_r hx ha)
  have z1 := row_frozen ht.blk (4 + d)
  have hpl : p.1 < w.heap.size := (Array.getElem?_eq_some_iff.1 (h.top_at hs).1.blk).1
  have hpw : w.heap.size ≠ p.1 := by omega
  have hd0 : (0 : Int) ≤ d := by omega
  have hd1 : (d : Int) < 8 := by omega
  have ha0 : (0 : Int) ≤ a := by omega
  have ha1 : (a : Int) < 8 := by omega
  have HON : Hid (Calls Tryd.prog 56 #[.string ⟨#[33]⟩, .int .i64 (regM x a)] bx.drew (Quiet (.tuple #[.int .i64 res, .nilIface]) bx.drew)) := by
    have h1 := One_any (mkB [33]) (regM x a) K bx.drew (hK _ (grow_drew hb 1))
    rw [mkB_toList] at h1
    rw [← hres]
    exact h1
  have HST := Lib.hid (fun n => (h2.drewN n).frStore hs (y := putM x d res) (.int .i64 res) (frL_setR hx hd _) rfl)
  have HB := Lib.hid (hb.mono (Nat.le_of_lt hlt))
  have HBX := Lib.hid hbx
  obtain ⟨e0, e1, e2, e3⟩ := (⟨cell_of_row _ _ 0 _ _ _ hn, cell_of_row _ _ 1 _ _ _ hn, cell_of_row _ _ 2 _ _ _ hn, cell_of_row _ _ 3 _ _ _ hn⟩ : bx.cell? ⟨w.heap.size, 0, none⟩ = some (.string ⟨#[110, 111, 116]⟩) ∧ bx.cell? ⟨w.heap.size, 1, none⟩ = some (.int .i64 d) ∧ bx.cell? ⟨w.heap.size, 2, none⟩ = some (.int .i64 a) ∧ bx.cell? ⟨w.heap.size, 3, none⟩ = some (.int .i64 b))
  clear h h2 hb hbx hn ht hs hx hK hres
  go_enter Tryd.func44, Tryd.ntmps44
  go_upto_region 1 with fail
  change Code.wp _ _ _ _ (w.alloc (.cells #[.string ⟨#[110, 111, 116]⟩, .int .i64 d, .int .i64 a, .int .i64 b, .int .i64 imm] 76))
  rw [HBX.out]
  go_upto_region 6 with fail
  rw [show Op.load 3 (Operand.tmp 63) = ldS63 from rfl]
  go_region_held3 (fun w' => w'.cell? ⟨w.heap.size, 1, none⟩ = some (.int .i64 d) ∧ w'.cell? ⟨w.heap.size, 2, none⟩ = some (.int .i64 a))
    (first
      | exact ⟨e1, e2⟩
      | (go_split_ands
         refine ⟨?_, ?_⟩
         all_goals (first | assumption | exact (World.cell?_of_block (Below.heap_setCell _ _ _ _ hpw)).trans (by assumption))))
    (first
      | (go_at_call 56; (with_reducible refine HON.out.mono ?_); rintro z w5 ⟨rfl, n5, rfl⟩))
  all_goals
    go_wp2_with fail
    go_returns
    exact ⟨rfl, (HST.out _).1, HB.out.trans ((below_drewN (Below.refl _ _) _).trans (HST.out _).2)⟩

set_option maxHeartbeats 4000000 in
set_option maxRecDepth 100000 in
theorem sum_add (h : MaAt m A cf B cw C mb T s v u (ps ++ [p]) w) (hs : s.calls = cs ++ [x]) (hx : FrLen x) (K : Value) (hK : ∀ w', Below w.heap.size w w' → w'.cell? ⟨4, 0, none⟩ = some K) (d : Nat) (hd : d < 8) (a : Nat) (ha : a < 8) (b : Nat) (hb8 : b < 8) (imm : Int) :
    Calls Tryd.prog 44 #[.pointer (some ⟨p.1, 0, none⟩), .agg #[.string ⟨#[97, 100, 100]⟩, .int .i64 d, .int .i64 a, .int .i64 b, .int .i64 imm]] w
      fun e w' => e = .returned (.tuple #[]) ∧ MaAt m A cf B cw C mb T (topM (putM x d (valOf (doV [43] (regM x a) (regM x b)))) s) v u (ps ++ [p]) w' ∧ Below mb w w' := by
  obtain ⟨res, hres⟩ : ∃ res, valOf (doV [43] (regM x a) (regM x b)) = res := ⟨_, rfl⟩
  rw [hres]
  obtain ⟨bx, hbx⟩ : ∃ bx, w.alloc (.cells #[.string ⟨#[97, 100, 100]⟩, .int .i64 d, .int .i64 a, .int .i64 b, .int .i64 imm] 76) = bx := ⟨_, rfl⟩
  have hb := (grow_alloc (grow_refl w) (.cells #[.string ⟨#[97, 100, 100]⟩, .int .i64 d, .int .i64 a, .int .i64 b, .int .i64 imm] 76))
  have hn := heap_alloc_new w (.cells #[.string ⟨#[97, 100, 100]⟩, .int .i64 d, .int .i64 a, .int .i64 b, .int .i64 imm] 76)
  rw [hbx] at hb hn
  have h2 := h.below hb
  have hlt := h.lt
  obtain ⟨ht, -⟩ := h2.top_at hs
  have r1 := ht.cell (frL_r hx hd)
  have r2 : bx.cell? ⟨p.1, 4 + a, none⟩ = some (.int .i64 (regM x a)) := ht.cell (frL_r hx ha)
  have z1 := row_frozen ht.blk (4 + d)
  have hpl : p.1 < w.heap.size := (Array.getElem?_eq_some_iff.1 (h.top_at hs).1.blk).1
  have hpw : w.heap.size ≠ p.1 := by omega
  have hd0 : (0 : Int) ≤ d := by omega
  have hd1 : (d : Int) < 8 := by omega
  have ha0 : (0 : Int) ≤ a := by omega
  have ha1 : (a : Int) < 8 := by omega
  have r3 : bx.cell? ⟨p.1, 4 + b, none⟩ = some (.int .i64 (regM x b)) := ht.cell (frL_r hx hb8)
  have hb0 : (0 : Int) ≤ b := by omega
  have hb1 : (b : Int) < 8 := by omega
  have HTH : Hid (Calls Tryd.prog 58 #[.string ⟨#[97, 100, 100]⟩] bx.drew (Ret (.string ⟨#[43]⟩) bx.drew)) := Three_any 0 (by decide) bx.drew
  have HDO : Hid (∀ w', Below bx.heap.size bx w' → Calls Tryd.prog 57 #[.string ⟨#[43]⟩, .int .i64 (regM x a), .int .i64 (regM x b)] w' (Quiet (.tuple #[.int .i64 res, .nilIface]) w')) := fun w' hb' => by
    have h1 := Do_any (mkB [43]) (regM x a) (regM x b) K w' (hK _ (grow_trans hb hb'))
    rw [mkB_toList] at h1
    rw [← hres]
    exact h1
  have HST := Lib.hid (fun w' (hb' : Below bx.heap.size bx w') n => ((h2.below hb').drewN n).frStore hs (y := putM x d res) (.int .i64 res) (frL_setR hx hd _) rfl)
  have HZ : Hid (∀ w', Below bx.heap.size bx w' → w'.frozen? ⟨p.1, 4 + d, none⟩ = false) := fun w' hb' => row_frozen ((h2.below hb').top_at hs).1.blk (4 + d)
  have hb9 := Nat.le_of_lt h2.lt
  have HB := Lib.hid (hb.mono (Nat.le_of_lt hlt))
  have HBX := Lib.hid hbx
  obtain ⟨e0, e1, e2, e3⟩ := (⟨cell_of_row _ _ 0 _ _ _ hn, cell_of_row _ _ 1 _ _ _ hn, cell_of_row _ _ 2 _ _ _ hn, cell_of_row _ _ 3 _ _ _ hn⟩ : bx.cell? ⟨w.heap.size, 0, none⟩ = some (.string ⟨#[97, 100, 100]⟩) ∧ bx.cell? ⟨w.heap.size, 1, none⟩ = some (.int .i64 d) ∧ bx.cell? ⟨w.heap.size, 2, none⟩ = some (.int .i64 a) ∧ bx.cell? ⟨w.heap.size, 3, none⟩ = some (.int .i64 b))
  clear h h2 hb hbx hn ht hs hx hK hres
  go_enter Tryd.func44, Tryd.ntmps44
  go_upto_region 1 with fail
  change Code.wp _ _ _ _ (w.alloc (.cells #[.string ⟨#[97, 100, 100]⟩, .int .i64 d, .int .i64 a, .int .i64 b, .int .i64 imm] 76))
  rw [HBX.out]
  go_upto_region 2 with fail
  rw [show Op.load 3 (Operand.tmp 18) = ldS18 from rfl, show Op.load 3 (Operand.tmp 25) = ldS25 from rfl]
  go_region_held3 (fun w' => w'.cell? ⟨w.heap.size, 0, none⟩ = some (.string ⟨#[97, 100, 100]⟩) ∧ w'.cell? ⟨w.heap.size, 1, none⟩ = some (.int .i64 d) ∧ w'.cell? ⟨w.heap.size, 2, none⟩ = some (.int .i64 a) ∧ w'.cell? ⟨w.heap.size, 3, none⟩ = some (.int .i64 b))
    (first
      | exact ⟨e0, e1, e2, e3⟩
      | (go_split_ands
         refine ⟨?_, ?_, ?_, ?_⟩
         all_goals (first | assumption | exact Keeps.of_below hb5 _ _ (by assumption) | exact (World.cell?_of_block (Below.heap_setCell _ _ _ _ hpw)).trans (by assumption))))
    (first
      | (go_at_call 58; (with_reducible refine HTH.out.mono ?_); rintro z w5 ⟨rfl, hb5⟩; have hbx5 := grow_trans (grow_drew (grow_refl bx) 1) hb5; have r2 := Keeps.of_below hbx5 _ _ r2; have r3 := Keeps.of_below hbx5 _ _ r3; have r1 := Keeps.of_below hbx5 _ _ r1; have z1 := HZ.out _ hbx5)
      | (go_at_call 57; (with_reducible refine (HDO.out _ (by assumption)).mono ?_); rintro z w6 ⟨rfl, n6, rfl⟩))
  all_goals
    go_wp2_with fail
    go_returns
    exact ⟨rfl, (HST.out _ (by assumption) _).1, HB.out.trans ((Below.mono (by assumption) hb9).trans ((below_drewN (Below.refl _ _) _).trans (HST.out _ (by assumption) _).2))⟩

set_option maxHeartbeats 4000000 in
set_option maxRecDepth 100000 in
theorem sum_sub (h : MaAt m A cf B cw C mb T s v u (ps ++ [p]) w) (hs : s.calls = cs ++ [x]) (hx : FrLen x) (K : Value) (hK : ∀ w', Below w.heap.size w w' → w'.cell? ⟨4, 0, none⟩ = some K) (d : Nat) (hd : d < 8) (a : Nat) (ha : a < 8) (b : Nat) (hb8 : b < 8) (imm : Int) :
    Calls Tryd.prog 44 #[.pointer (some ⟨p.1, 0, none⟩), .agg #[.string ⟨#[115, 117, 98]⟩, .int .i64 d, .int .i64 a, .int .i64 b, .int .i64 imm]] w
      fun e w' => e = .returned (.tuple #[]) ∧ MaAt m A cf B cw C mb T (topM (putM x d (valOf (doV [45] (regM x a) (regM x b)))) s) v u (ps ++ [p]) w' ∧ Below mb w w' := by
  obtain ⟨res, hres⟩ : ∃ res, valOf (doV [45] (regM x a) (regM x b)) = res := ⟨_, rfl⟩
  rw [hres]
  obtain ⟨bx, hbx⟩ : ∃ bx, w.alloc (.cells #[.string ⟨#[115, 117, 98]⟩, .int .i64 d, .int .i64 a, .int .i64 b, .int .i64 imm] 76) = bx := ⟨_, rfl⟩
  have hb := (grow_alloc (grow_refl w) (.cells #[.string ⟨#[115, 117, 98]⟩, .int .i64 d, .int .i64 a, .int .i64 b, .int .i64 imm] 76))
  have hn := heap_alloc_new w (.cells #[.string ⟨#[115, 117, 98]⟩, .int .i64 d, .int .i64 a, .int .i64 b, .int .i64 imm] 76)
  rw [hbx] at hb hn
  have h2 := h.below hb
  have hlt := h.lt
  obtain ⟨ht, -⟩ := h2.top_at hs
  have r1 := ht.cell (frL_r hx hd)
  have r2 : bx.cell? ⟨p.1, 4 + a, none⟩ = some (.int .i64 (regM x a)) := ht.cell (frL_r hx ha)
  have z1 := row_frozen ht.blk (4 + d)
  have hpl : p.1 < w.heap.size := (Array.getElem?_eq_some_iff.1 (h.top_at hs).1.blk).1
  have hpw : w.heap.size ≠ p.1 := by omega
  have hd0 : (0 : Int) ≤ d := by omega
  have hd1 : (d : Int) < 8 := by omega
  have ha0 : (0 : Int) ≤ a := by omega
  have ha1 : (a : Int) < 8 := by omega
  have r3 : bx.cell? ⟨p.1, 4 + b, none⟩ = some (.int .i64 (regM x b)) := ht.cell (frL_r hx hb8)
  have hb0 : (0 : Int) ≤ b := by omega
  have hb1 : (b : Int) < 8 := by omega
  have HTH : Hid (Calls Tryd.prog 58 #[.string ⟨#[115, 117, 98]⟩] bx.drew (Ret (.string ⟨#[45]⟩) bx.drew)) := Three_any 1 (by decide) bx.drew
  have HDO : Hid (∀ w', Below bx.heap.size bx w' → Calls Tryd.prog 57 #[.string ⟨#[45]⟩, .int .i64 (regM x a), .int .i64 (regM x b)] w' (Quiet (.tuple #[.int .i64 res, .nilIface]) w')) := fun w' hb' => by
    have h1 := Do_any (mkB [45]) (regM x a) (regM x b) K w' (hK _ (grow_trans hb hb'))
    rw [mkB_toList] at h1
    rw [← hres]
    exact h1
  have HST := Lib.hid (fun w' (hb' : Below bx.heap.size bx w') n => ((h2.below hb').drewN n).frStore hs (y := putM x d res) (.int .i64 res) (frL_setR hx hd _) rfl)
  have HZ : Hid (∀ w', Below bx.heap.size bx w' → w'.frozen? ⟨p.1, 4 + d, none⟩ = false) := fun w' hb' => row_frozen ((h2.below hb').top_at hs).1.blk (4 + d)
  have hb9 := Nat.le_of_lt h2.lt
  have HB := Lib.hid (hb.mono (Nat.le_of_lt hlt))
  have HBX := Lib.hid hbx
  obtain ⟨e0, e1, e2, e3⟩ := (⟨cell_of_row _ _ 0 _ _ _ hn, cell_of_row _ _ 1 _ _ _ hn, cell_of_row _ _ 2 _ _ _ hn, cell_of_row _ _ 3 _ _ _ hn⟩ : bx.cell? ⟨w.heap.size, 0, none⟩ = some (.string ⟨#[115, 117, 98]⟩) ∧ bx.cell? ⟨w.heap.size, 1, none⟩ = some (.int .i64 d) ∧ bx.cell? ⟨w.heap.size, 2, none⟩ = some (.int .i64 a) ∧ bx.cell? ⟨w.heap.size, 3, none⟩ = some (.int .i64 b))
  clear h h2 hb hbx hn ht hs hx hK hres
  go_enter Tryd.func44, Tryd.ntmps44
  go_upto_region 1 with fail
  change Code.wp _ _ _ _ (w.alloc (.cells #[.string ⟨#[115, 117, 98]⟩, .int .i64 d, .int .i64 a, .int .i64 b, .int .i64 imm] 76))
  rw [HBX.out]
  go_upto_region 2 with fail
  rw [show Op.load 3 (Operand.tmp 18) = ldS18 from rfl, show Op.load 3 (Operand.tmp 25) = ldS25 from rfl]
  go_region_held3 (fun w' => w'.cell? ⟨w.heap.size, 0, none⟩ = some (.string ⟨#[115, 117, 98]⟩) ∧ w'.cell? ⟨w.heap.size, 1, none⟩ = some (.int .i64 d) ∧ w'.cell? ⟨w.heap.size, 2, none⟩ = some (.int .i64 a) ∧ w'.cell? ⟨w.heap.size, 3, none⟩ = some (.int .i64 b))
    (first
      | exact ⟨e0, e1, e2, e3⟩
      | (go_split_ands
         refine ⟨?_, ?_, ?_, ?_⟩
         all_goals (first | assumption | exact Keeps.of_below hb5 _ _ (by assumption) | exact (World.cell?_of_block (Below.heap_setCell _ _ _ _ hpw)).trans (by assumption))))
    (first
      | (go_at_call 58; (with_reducible refine HTH.out.mono ?_); rintro z w5 ⟨rfl, hb5⟩; have hbx5 := grow_trans (grow_drew (grow_refl bx) 1) hb5; have r2 := Keeps.of_below hbx5 _ _ r2; have r3 := Keeps.of_below hbx5 _ _ r3; have r1 := Keeps.of_below hbx5 _ _ r1; have z1 := HZ.out _ hbx5)
      | (go_at_call 57; (with_reducible refine (HDO.out _ (by assumption)).mono ?_); rintro z w6 ⟨rfl, n6, rfl⟩))
  all_goals
    go_wp2_with fail
    go_returns
    exact ⟨rfl, (HST.out _ (by assumption) _).1, HB.out.trans ((Below.mono (by assumption) hb9).trans ((below_drewN (Below.refl _ _) _).trans (HST.out _ (by assumption) _).2))⟩

set_option maxHeartbeats 4000000 in
set_option maxRecDepth 100000 in
theorem sum_mul (h : MaAt m A cf B cw C mb T s v u (ps ++ [p]) w) (hs : s.calls = cs ++ [x]) (hx : FrLen x) (K : Value) (hK : ∀ w', Below w.heap.size w w' → w'.cell? ⟨4, 0, none⟩ = some K) (d : Nat) (hd : d < 8) (a : Nat) (ha : a < 8) (b : Nat) (hb8 : b < 8) (imm : Int) :
    Calls Tryd.prog 44 #[.pointer (some ⟨p.1, 0, none⟩), .agg #[.string ⟨#[109, 117, 108]⟩, .int .i64 d, .int .i64 a, .int .i64 b, .int .i64 imm]] w
      fun e w' => e = .returned (.tuple #[]) ∧ MaAt m A cf B cw C mb T (topM (putM x d (valOf (doV [42] (regM x a) (regM x b)))) s) v u (ps ++ [p]) w' ∧ Below mb w w' := by
  obtain ⟨res, hres⟩ : ∃ res, valOf (doV [42] (regM x a) (regM x b)) = res := ⟨_, rfl⟩
  rw [hres]
  obtain ⟨bx, hbx⟩ : ∃ bx, w.alloc (.cells #[.string ⟨#[109, 117, 108]⟩, .int .i64 d, .int .i64 a, .int .i64 b, .int .i64 imm] 76) = bx := ⟨_, rfl⟩
  have hb := (grow_alloc (grow_refl w) (.cells #[.string ⟨#[109, 117, 108]⟩, .int .i64 d, .int .i64 a, .int .i64 b, .int .i64 imm] 76))
  have hn := heap_alloc_new w (.cells #[.string ⟨#[109, 117, 108]⟩, .int .i64 d, .int .i64 a, .int .i64 b, .int .i64 imm] 76)
  rw [hbx] at hb hn
  have h2 := h.below hb
  have hlt := h.lt
  obtain ⟨ht, -⟩ := h2.top_at hs
  have r1 := ht.cell (frL_r hx hd)
  have r2 : bx.cell? ⟨p.1, 4 + a, none⟩ = some (.int .i64 (regM x a)) := ht.cell (frL_r hx ha)
  have z1 := row_frozen ht.blk (4 + d)
  have hpl : p.1 < w.heap.size := (Array.getElem?_eq_some_iff.1 (h.top_at hs).1.blk).1
  have hpw : w.heap.size ≠ p.1 := by omega
  have hd0 : (0 : Int) ≤ d := by omega
  have hd1 : (d : Int) < 8 := by omega
  have ha0 : (0 : Int) ≤ a := by omega
  have ha1 : (a : Int) < 8 := by omega
  have r3 : bx.cell? ⟨p.1, 4 + b, none⟩ = some (.int .i64 (regM x b)) := ht.cell (frL_r hx hb8)
  have hb0 : (0 : Int) ≤ b := by omega
  have hb1 : (b : Int) < 8 := by omega
  have HTH : Hid (Calls Tryd.prog 58 #[.string ⟨#[109, 117, 108]⟩] bx.drew (Ret (.string ⟨#[42]⟩) bx.drew)) := Three_any 2 (by decide) bx.drew
  have HDO : Hid (∀ w', Below bx.heap.size bx w' → Calls Tryd.prog 57 #[.string ⟨#[42]⟩, .int .i64 (regM x a), .int .i64 (regM x b)] w' (Quiet (.tuple #[.int .i64 res, .nilIface]) w')) := fun w' hb' => by
    have h1 := Do_any (mkB [42]) (regM x a) (regM x b) K w' (hK _ (grow_trans hb hb'))
    rw [mkB_toList] at h1
    rw [← hres]
    exact h1
  have HST := Lib.hid (fun w' (hb' : Below bx.heap.size bx w') n => ((h2.below hb').drewN n).frStore hs (y := putM x d res) (.int .i64 res) (frL_setR hx hd _) rfl)
  have HZ : Hid (∀ w', Below bx.heap.size bx w' → w'.frozen? ⟨p.1, 4 + d, none⟩ = false) := fun w' hb' => row_frozen ((h2.below hb').top_at hs).1.blk (4 + d)
  have hb9 := Nat.le_of_lt h2.lt
  have HB := Lib.hid (hb.mono (Nat.le_of_lt hlt))
  have HBX := Lib.hid hbx
  obtain ⟨e0, e1, e2, e3⟩ := (⟨cell_of_row _ _ 0 _ _ _ hn, cell_of_row _ _ 1 _ _ _ hn, cell_of_row _ _ 2 _ _ _ hn, cell_of_row _ _ 3 _ _ _ hn⟩ : bx.cell? ⟨w.heap.size, 0, none⟩ = some (.string ⟨#[109, 117, 108]⟩) ∧ bx.cell? ⟨w.heap.size, 1, none⟩ = some (.int .i64 d) ∧ bx.cell? ⟨w.heap.size, 2, none⟩ = some (.int .i64 a) ∧ bx.cell? ⟨w.heap.size, 3, none⟩ = some (.int .i64 b))
  clear h h2 hb hbx hn ht hs hx hK hres
  go_enter Tryd.func44, Tryd.ntmps44
  go_upto_region 1 with fail
  change Code.wp _ _ _ _ (w.alloc (.cells #[.string ⟨#[109, 117, 108]⟩, .int .i64 d, .int .i64 a, .int .i64 b, .int .i64 imm] 76))
  rw [HBX.out]
  go_upto_region 2 with fail
  rw [show Op.load 3 (Operand.tmp 18) = ldS18 from rfl, show Op.load 3 (Operand.tmp 25) = ldS25 from rfl]
  go_region_held3 (fun w' => w'.cell? ⟨w.heap.size, 0, none⟩ = some (.string ⟨#[109, 117, 108]⟩) ∧ w'.cell? ⟨w.heap.size, 1, none⟩ = some (.int .i64 d) ∧ w'.cell? ⟨w.heap.size, 2, none⟩ = some (.int .i64 a) ∧ w'.cell? ⟨w.heap.size, 3, none⟩ = some (.int .i64 b))
    (first
      | exact ⟨e0, e1, e2, e3⟩
      | (go_split_ands
         refine ⟨?_, ?_, ?_, ?_⟩
         all_goals (first | assumption | exact Keeps.of_below hb5 _ _ (by assumption) | exact (World.cell?_of_block (Below.heap_setCell _ _ _ _ hpw)).trans (by assumption))))
    (first
      | (go_at_call 58; (with_reducible refine HTH.out.mono ?_); rintro z w5 ⟨rfl, hb5⟩; have hbx5 := grow_trans (grow_drew (grow_refl bx) 1) hb5; have r2 := Keeps.of_below hbx5 _ _ r2; have r3 := Keeps.of_below hbx5 _ _ r3; have r1 := Keeps.of_below hbx5 _ _ r1; have z1 := HZ.out _ hbx5)
      | (go_at_call 57; (with_reducible refine (HDO.out _ (by assumption)).mono ?_); rintro z w6 ⟨rfl, n6, rfl⟩))
  all_goals
    go_wp2_with fail
    go_returns
    exact ⟨rfl, (HST.out _ (by assumption) _).1, HB.out.trans ((Below.mono (by assumption) hb9).trans ((below_drewN (Below.refl _ _) _).trans (HST.out _ (by assumption) _).2))⟩

set_option maxHeartbeats 4000000 in
set_option maxRecDepth 100000 in
theorem sum_div (h : MaAt m A cf B cw C mb T s v u (ps ++ [p]) w) (hs : s.calls = cs ++ [x]) (hx : FrLen x) (K : Value) (hK : ∀ w', Below w.heap.size w w' → w'.cell? ⟨4, 0, none⟩ = some K) (d : Nat) (hd : d < 8) (a : Nat) (ha : a < 8) (b : Nat) (hb8 : b < 8) (imm : Int) :
    Calls Tryd.prog 44 #[.pointer (some ⟨p.1, 0, none⟩), .agg #[.string ⟨#[100, 105, 118]⟩, .int .i64 d, .int .i64 a, .int .i64 b, .int .i64 imm]] w
      fun e w' => e = .returned (.tuple #[]) ∧ MaAt m A cf B cw C mb T (topM (putM x d (valOf (doV [47] (regM x a) (regM x b)))) s) v u (ps ++ [p]) w' ∧ Below mb w w' := by
  obtain ⟨res, hres⟩ : ∃ res, valOf (doV [47] (regM x a) (regM x b)) = res := ⟨_, rfl⟩
  rw [hres]
  obtain ⟨bx, hbx⟩ : ∃ bx, w.alloc (.cells #[.string ⟨#[100, 105, 118]⟩, .int .i64 d, .int .i64 a, .int .i64 b, .int .i64 imm] 76) = bx := ⟨_, rfl⟩
  have hb := (grow_alloc (grow_refl w) (.cells #[.string ⟨#[100, 105, 118]⟩, .int .i64 d, .int .i64 a, .int .i64 b, .int .i64 imm] 76))
  have hn := heap_alloc_new w (.cells #[.string ⟨#[100, 105, 118]⟩, .int .i64 d, .int .i64 a, .int .i64 b, .int .i64 imm] 76)
  rw [hbx] at hb hn
  have h2 := h.below hb
  have hlt := h.lt
  obtain ⟨ht, -⟩ := h2.top_at hs
  have r1 := ht.cell (frL_r hx hd)
  have r2 : bx.cell? ⟨p.1, 4 + a, none⟩ = some (.int .i64 (regM x a)) := ht.cell (frL_r hx ha)
  have z1 := row_frozen ht.blk (4 + d)
  have hpl : p.1 < w.heap.size := (Array.getElem?_eq_some_iff.1 (h.top_at hs).1.blk).1
  have hpw : w.heap.size ≠ p.1 := by omega
  have hd0 : (0 : Int) ≤ d := by omega
  have hd1 : (d : Int) < 8 := by omega
  have ha0 : (0 : Int) ≤ a := by omega
  have ha1 : (a : Int) < 8 := by omega
  have r3 : bx.cell? ⟨p.1, 4 + b, none⟩ = some (.int .i64 (regM x b)) := ht.cell (frL_r hx hb8)
  have hb0 : (0 : Int) ≤ b := by omega
  have hb1 : (b : Int) < 8 := by omega
  have HTH : Hid (Calls Tryd.prog 58 #[.string ⟨#[100, 105, 118]⟩] bx.drew (Ret (.string ⟨#[47]⟩) bx.drew)) := Three_any 3 (by decide) bx.drew
  have HDO : Hid (∀ w', Below bx.heap.size bx w' → Calls Tryd.prog 57 #[.string ⟨#[47]⟩, .int .i64 (regM x a), .int .i64 (regM x b)] w' (Quiet (.tuple #[.int .i64 res, .nilIface]) w')) := fun w' hb' => by
    have h1 := Do_any (mkB [47]) (regM x a) (regM x b) K w' (hK _ (grow_trans hb hb'))
    rw [mkB_toList] at h1
    rw [← hres]
    exact h1
  have HST := Lib.hid (fun w' (hb' : Below bx.heap.size bx w') n => ((h2.below hb').drewN n).frStore hs (y := putM x d res) (.int .i64 res) (frL_setR hx hd _) rfl)
  have HZ : Hid (∀ w', Below bx.heap.size bx w' → w'.frozen? ⟨p.1, 4 + d, none⟩ = false) := fun w' hb' => row_frozen ((h2.below hb').top_at hs).1.blk (4 + d)
  have hb9 := Nat.le_of_lt h2.lt
  have HB := Lib.hid (hb.mono (Nat.le_of_lt hlt))
  have HBX := Lib.hid hbx
  obtain ⟨e0, e1, e2, e3⟩ := (⟨cell_of_row _ _ 0 _ _ _ hn, cell_of_row _ _ 1 _ _ _ hn, cell_of_row _ _ 2 _ _ _ hn, cell_of_row _ _ 3 _ _ _ hn⟩ : bx.cell? ⟨w.heap.size, 0, none⟩ = some (.string ⟨#[100, 105, 118]⟩) ∧ bx.cell? ⟨w.heap.size, 1, none⟩ = some (.int .i64 d) ∧ bx.cell? ⟨w.heap.size, 2, none⟩ = some (.int .i64 a) ∧ bx.cell? ⟨w.heap.size, 3, none⟩ = some (.int .i64 b))
  clear h h2 hb hbx hn ht hs hx hK hres
  go_enter Tryd.func44, Tryd.ntmps44
  go_upto_region 1 with fail
  change Code.wp _ _ _ _ (w.alloc (.cells #[.string ⟨#[100, 105, 118]⟩, .int .i64 d, .int .i64 a, .int .i64 b, .int .i64 imm] 76))
  rw [HBX.out]
  go_upto_region 2 with fail
  rw [show Op.load 3 (Operand.tmp 18) = ldS18 from rfl, show Op.load 3 (Operand.tmp 25) = ldS25 from rfl]
  go_region_held3 (fun w' => w'.cell? ⟨w.heap.size, 0, none⟩ = some (.string ⟨#[100, 105, 118]⟩) ∧ w'.cell? ⟨w.heap.size, 1, none⟩ = some (.int .i64 d) ∧ w'.cell? ⟨w.heap.size, 2, none⟩ = some (.int .i64 a) ∧ w'.cell? ⟨w.heap.size, 3, none⟩ = some (.int .i64 b))
    (first
      | exact ⟨e0, e1, e2, e3⟩
      | (go_split_ands
         refine ⟨?_, ?_, ?_, ?_⟩
         all_goals (first | assumption | exact Keeps.of_below hb5 _ _ (by assumption) | exact (World.cell?_of_block (Below.heap_setCell _ _ _ _ hpw)).trans (by assumption))))
    (first
      | (go_at_call 58; (with_reducible refine HTH.out.mono ?_); rintro z w5 ⟨rfl, hb5⟩; have hbx5 := grow_trans (grow_drew (grow_refl bx) 1) hb5; have r2 := Keeps.of_below hbx5 _ _ r2; have r3 := Keeps.of_below hbx5 _ _ r3; have r1 := Keeps.of_below hbx5 _ _ r1; have z1 := HZ.out _ hbx5)
      | (go_at_call 57; (with_reducible refine (HDO.out _ (by assumption)).mono ?_); rintro z w6 ⟨rfl, n6, rfl⟩))
  all_goals
    go_wp2_with fail
    go_returns
    exact ⟨rfl, (HST.out _ (by assumption) _).1, HB.out.trans ((Below.mono (by assumption) hb9).trans ((below_drewN (Below.refl _ _) _).trans (HST.out _ (by assumption) _).2))⟩

set_option maxHeartbeats 4000000 in
set_option maxRecDepth 100000 in
theorem sum_rem (h : MaAt m A cf B cw C mb T s v u (ps ++ [p]) w) (hs : s.calls = cs ++ [x]) (hx : FrLen x) (K : Value) (hK : ∀ w', Below w.heap.size w w' → w'.cell? ⟨4, 0, none⟩ = some K) (d : Nat) (hd : d < 8) (a : Nat) (ha : a < 8) (b : Nat) (hb8 : b < 8) (imm : Int) :
    Calls Tryd.prog 44 #[.pointer (some ⟨p.1, 0, none⟩), .agg #[.string ⟨#[114, 101, 109]⟩, .int .i64 d, .int .i64 a, .int .i64 b, .int .i64 imm]] w
      fun e w' => e = .returned (.tuple #[]) ∧ MaAt m A cf B cw C mb T (topM (putM x d (valOf (doV [37] (regM x a) (regM x b)))) s) v u (ps ++ [p]) w' ∧ Below mb w w' := by
  obtain ⟨res, hres⟩ : ∃ res, valOf (doV [37] (regM x a) (regM x b)) = res := ⟨_, rfl⟩
  rw [hres]
  obtain ⟨bx, hbx⟩ : ∃ bx, w.alloc (.cells #[.string ⟨#[114, 101, 109]⟩, .int .i64 d, .int .i64 a, .int .i64 b, .int .i64 imm] 76) = bx := ⟨_, rfl⟩
  have hb := (grow_alloc (grow_refl w) (.cells #[.string ⟨#[114, 101, 109]⟩, .int .i64 d, .int .i64 a, .int .i64 b, .int .i64 imm] 76))
  have hn := heap_alloc_new w (.cells #[.string ⟨#[114, 101, 109]⟩, .int .i64 d, .int .i64 a, .int .i64 b, .int .i64 imm] 76)
  rw [hbx] at hb hn
  have h2 := h.below hb
  have hlt := h.lt
  obtain ⟨ht, -⟩ := h2.top_at hs
  have r1 := ht.cell (frL_r hx hd)
  have r2 : bx.cell? ⟨p.1, 4 + a, none⟩ = some (.int .i64 (regM x a)) := ht.cell (frL_r hx ha)
  have z1 := row_frozen ht.blk (4 + d)
  have hpl : p.1 < w.heap.size := (Array.getElem?_eq_some_iff.1 (h.top_at hs).1.blk).1
  have hpw : w.heap.size ≠ p.1 := by omega
  have hd0 : (0 : Int) ≤ d := by omega
  have hd1 : (d : Int) < 8 := by omega
  have ha0 : (0 : Int) ≤ a := by omega
  have ha1 : (a : Int) < 8 := by omega
  have r3 : bx.cell? ⟨p.1, 4 + b, none⟩ = some (.int .i64 (regM x b)) := ht.cell (frL_r hx hb8)
  have hb0 : (0 : Int) ≤ b := by omega
  have hb1 : (b : Int) < 8 := by omega
  have HTH : Hid (Calls Tryd.prog 58 #[.string ⟨#[114, 101, 109]⟩] bx.drew (Ret (.string ⟨#[37]⟩) bx.drew)) := Three_any 4 (by decide) bx.drew
  have HDO : Hid (∀ w', Below bx.heap.size bx w' → Calls Tryd.prog 57 #[.string ⟨#[37]⟩, .int .i64 (regM x a), .int .i64 (regM x b)] w' (Quiet (.tuple #[.int .i64 res, .nilIface]) w')) := fun w' hb' => by
    have h1 := Do_any (mkB [37]) (regM x a) (regM x b) K w' (hK _ (grow_trans hb hb'))
    rw [mkB_toList] at h1
    rw [← hres]
    exact h1
  have HST := Lib.hid (fun w' (hb' : Below bx.heap.size bx w') n => ((h2.below hb').drewN n).frStore hs (y := putM x d res) (.int .i64 res) (frL_setR hx hd _) rfl)
  have HZ : Hid (∀ w', Below bx.heap.size bx w' → w'.frozen? ⟨p.1, 4 + d, none⟩ = false) := fun w' hb' => row_frozen ((h2.below hb').top_at hs).1.blk (4 + d)
  have hb9 := Nat.le_of_lt h2.lt
  have HB := Lib.hid (hb.mono (Nat.le_of_lt hlt))
  have HBX := Lib.hid hbx
  obtain ⟨e0, e1, e2, e3⟩ := (⟨cell_of_row _ _ 0 _ _ _ hn, cell_of_row _ _ 1 _ _ _ hn, cell_of_row _ _ 2 _ _ _ hn, cell_of_row _ _ 3 _ _ _ hn⟩ : bx.cell? ⟨w.heap.size, 0, none⟩ = some (.string ⟨#[114, 101, 109]⟩) ∧ bx.cell? ⟨w.heap.size, 1, none⟩ = some (.int .i64 d) ∧ bx.cell? ⟨w.heap.size, 2, none⟩ = some (.int .i64 a) ∧ bx.cell? ⟨w.heap.size, 3, none⟩ = some (.int .i64 b))
  clear h h2 hb hbx hn ht hs hx hK hres
  go_enter Tryd.func44, Tryd.ntmps44
  go_upto_region 1 with fail
  change Code.wp _ _ _ _ (w.alloc (.cells #[.string ⟨#[114, 101, 109]⟩, .int .i64 d, .int .i64 a, .int .i64 b, .int .i64 imm] 76))
  rw [HBX.out]
  go_upto_region 2 with fail
  rw [show Op.load 3 (Operand.tmp 18) = ldS18 from rfl, show Op.load 3 (Operand.tmp 25) = ldS25 from rfl]
  go_region_held3 (fun w' => w'.cell? ⟨w.heap.size, 0, none⟩ = some (.string ⟨#[114, 101, 109]⟩) ∧ w'.cell? ⟨w.heap.size, 1, none⟩ = some (.int .i64 d) ∧ w'.cell? ⟨w.heap.size, 2, none⟩ = some (.int .i64 a) ∧ w'.cell? ⟨w.heap.size, 3, none⟩ = some (.int .i64 b))
    (first
      | exact ⟨e0, e1, e2, e3⟩
      | (go_split_ands
         refine ⟨?_, ?_, ?_, ?_⟩
         all_goals (first | assumption | exact Keeps.of_below hb5 _ _ (by assumption) | exact (World.cell?_of_block (Below.heap_setCell _ _ _ _ hpw)).trans (by assumption))))
    (first
      | (go_at_call 58; (with_reducible refine HTH.out.mono ?_); rintro z w5 ⟨rfl, hb5⟩; have hbx5 := grow_trans (grow_drew (grow_refl bx) 1) hb5; have r2 := Keeps.of_below hbx5 _ _ r2; have r3 := Keeps.of_below hbx5 _ _ r3; have r1 := Keeps.of_below hbx5 _ _ r1; have z1 := HZ.out _ hbx5)
      | (go_at_call 57; (with_reducible refine (HDO.out _ (by assumption)).mono ?_); rintro z w6 ⟨rfl, n6, rfl⟩))
  all_goals
    go_wp2_with fail
    go_returns
    exact ⟨rfl, (HST.out _ (by assumption) _).1, HB.out.trans ((Below.mono (by assumption) hb9).trans ((below_drewN (Below.refl _ _) _).trans (HST.out _ (by assumption) _).2))⟩

set_option maxHeartbeats 4000000 in
set_option maxRecDepth 100000 in
theorem sum_and (h : MaAt m A cf B cw C mb T s v u (ps ++ [p]) w) (hs : s.calls = cs ++ [x]) (hx : FrLen x) (K : Value) (hK : ∀ w', Below w.heap.size w w' → w'.cell? ⟨4, 0, none⟩ = some K) (d : Nat) (hd : d < 8) (a : Nat) (ha : a < 8) (b : Nat) (hb8 : b < 8) (imm : Int) :
    Calls Tryd.prog 44 #[.pointer (some ⟨p.1, 0, none⟩), .agg #[.string ⟨#[97, 110, 100]⟩, .int .i64 d, .int .i64 a, .int .i64 b, .int .i64 imm]] w
      fun e w' => e = .returned (.tuple #[]) ∧ MaAt m A cf B cw C mb T (topM (putM x d (valOf (doV [38] (regM x a) (regM x b)))) s) v u (ps ++ [p]) w' ∧ Below mb w w' := by
  obtain ⟨res, hres⟩ : ∃ res, valOf (doV [38] (regM x a) (regM x b)) = res := ⟨_, rfl⟩
  rw [hres]
  obtain ⟨bx, hbx⟩ : ∃ bx, w.alloc (.cells #[.string ⟨#[97, 110, 100]⟩, .int .i64 d, .int .i64 a, .int .i64 b, .int .i64 imm] 76) = bx := ⟨_, rfl⟩
  have hb := (grow_alloc (grow_refl w) (.cells #[.string ⟨#[97, 110, 100]⟩, .int .i64 d, .int .i64 a, .int .i64 b, .int .i64 imm] 76))
  have hn := heap_alloc_new w (.cells #[.string ⟨#[97, 110, 100]⟩, .int .i64 d, .int .i64 a, .int .i64 b, .int .i64 imm] 76)
  rw [hbx] at hb hn
  have h2 := h.below hb
  have hlt := h.lt
  obtain ⟨ht, -⟩ := h2.top_at hs
  have r1 := ht.cell (frL_r hx hd)
  have r2 : bx.cell? ⟨p.1, 4 + a, none⟩ = some (.int .i64 (regM x a)) := ht.cell (frL_r hx ha)
  have z1 := row_frozen ht.blk (4 + d)
  have hpl : p.1 < w.heap.size := (Array.getElem?_eq_some_iff.1 (h.top_at hs).1.blk).1
  have hpw : w.heap.size ≠ p.1 := by omega
  have hd0 : (0 : Int) ≤ d := by omega
  have hd1 : (d : Int) < 8 := by omega
  have ha0 : (0 : Int) ≤ a := by omega
  have ha1 : (a : Int) < 8 := by omega
  have r3 : bx.cell? ⟨p.1, 4 + b, none⟩ = some (.int .i64 (regM x b)) := ht.cell (frL_r hx hb8)
  have hb0 : (0 : Int) ≤ b := by omega
  have hb1 : (b : Int) < 8 := by omega
  have HTH : Hid (Calls Tryd.prog 58 #[.string ⟨#[97, 110, 100]⟩] bx.drew (Ret (.string ⟨#[38]⟩) bx.drew)) := Three_any 5 (by decide) bx.drew
  have HDO : Hid (∀ w', Below bx.heap.size bx w' → Calls Tryd.prog 57 #[.string ⟨#[38]⟩, .int .i64 (regM x a), .int .i64 (regM x b)] w' (Quiet (.tuple #[.int .i64 res, .nilIface]) w')) := fun w' hb' => by
    have h1 := Do_any (mkB [38]) (regM x a) (regM x b) K w' (hK _ (grow_trans hb hb'))
    rw [mkB_toList] at h1
    rw [← hres]
    exact h1
  have HST := Lib.hid (fun w' (hb' : Below bx.heap.size bx w') n => ((h2.below hb').drewN n).frStore hs (y := putM x d res) (.int .i64 res) (frL_setR hx hd _) rfl)
  have HZ : Hid (∀ w', Below bx.heap.size bx w' → w'.frozen? ⟨p.1, 4 + d, none⟩ = false) := fun w' hb' => row_frozen ((h2.below hb').top_at hs).1.blk (4 + d)
  have hb9 := Nat.le_of_lt h2.lt
  have HB := Lib.hid (hb.mono (Nat.le_of_lt hlt))
  have HBX := Lib.hid hbx
  obtain ⟨e0, e1, e2, e3⟩ := (⟨cell_of_row _ _ 0 _ _ _ hn, cell_of_row _ _ 1 _ _ _ hn, cell_of_row _ _ 2 _ _ _ hn, cell_of_row _ _ 3 _ _ _ hn⟩ : bx.cell? ⟨w.heap.size, 0, none⟩ = some (.string ⟨#[97, 110, 100]⟩) ∧ bx.cell? ⟨w.heap.size, 1, none⟩ = some (.int .i64 d) ∧ bx.cell? ⟨w.heap.size, 2, none⟩ = some (.int .i64 a) ∧ bx.cell? ⟨w.heap.size, 3, none⟩ = some (.int .i64 b))
  clear h h2 hb hbx hn ht hs hx hK hres
  go_enter Tryd.func44, Tryd.ntmps44
  go_upto_region 1 with fail
  change Code.wp _ _ _ _ (w.alloc (.cells #[.string ⟨#[97, 110, 100]⟩, .int .i64 d, .int .i64 a, .int .i64 b, .int .i64 imm] 76))
  rw [HBX.out]
  go_upto_region 2 with fail
  rw [show Op.load 3 (Operand.tmp 18) = ldS18 from rfl, show Op.load 3 (Operand.tmp 25) = ldS25 from rfl]
  go_region_held3 (fun w' => w'.cell? ⟨w.heap.size, 0, none⟩ = some (.string ⟨#[97, 110, 100]⟩) ∧ w'.cell? ⟨w.heap.size, 1, none⟩ = some (.int .i64 d) ∧ w'.cell? ⟨w.heap.size, 2, none⟩ = some (.int .i64 a) ∧ w'.cell? ⟨w.heap.size, 3, none⟩ = some (.int .i64 b))
    (first
      | exact ⟨e0, e1, e2, e3⟩
      | (go_split_ands
         refine ⟨?_, ?_, ?_, ?_⟩
         all_goals (first | assumption | exact Keeps.of_below hb5 _ _ (by assumption) | exact (World.cell?_of_block (Below.heap_setCell _ _ _ _ hpw)).trans (by assumption))))
    (first
      | (go_at_call 58; (with_reducible refine HTH.out.mono ?_); rintro z w5 ⟨rfl, hb5⟩; have hbx5 := grow_trans (grow_drew (grow_refl bx) 1) hb5; have r2 := Keeps.of_below hbx5 _ _ r2; have r3 := Keeps.of_below hbx5 _ _ r3; have r1 := Keeps.of_below hbx5 _ _ r1; have z1 := HZ.out _ hbx5)
      | (go_at_call 57; (with_reducible refine (HDO.out _ (by assumption)).mono ?_); rintro z w6 ⟨rfl, n6, rfl⟩))
  all_goals
    go_wp2_with fail
    go_returns
    exact ⟨rfl, (HST.out _ (by assumption) _).1, HB.out.trans ((Below.mono (by assumption) hb9).trans ((below_drewN (Below.refl _ _) _).trans (HST.out _ (by assumption) _).2))⟩

set_option maxHeartbeats 4000000 in
set_option maxRecDepth 100000 in
theorem sum_or (h : MaAt m A cf B cw C mb T s v u (ps ++ [p]) w) (hs : s.calls = cs ++ [x]) (hx : FrLen x) (K : Value) (hK : ∀ w', Below w.heap.size w w' → w'.cell? ⟨4, 0, none⟩ = some K) (d : Nat) (hd : d < 8) (a : Nat) (ha : a < 8) (b : Nat) (hb8 : b < 8) (imm : Int) :
    Calls Tryd.prog 44 #[.pointer (some ⟨p.1, 0, none⟩), .agg #[.string ⟨#[111, 114]⟩, .int .i64 d, .int .i64 a, .int .i64 b, .int .i64 imm]] w
      fun e w' => e = .returned (.tuple #[]) ∧ MaAt m A cf B cw C mb T (topM (putM x d (valOf (doV [124] (regM x a) (regM x b)))) s) v u (ps ++ [p]) w' ∧ Below mb w w' := by
  obtain ⟨res, hres⟩ : ∃ res, valOf (doV [124] (regM x a) (regM x b)) = res := ⟨_, rfl⟩
  rw [hres]
  obtain ⟨bx, hbx⟩ : ∃ bx, w.alloc (.cells #[.string ⟨#[111, 114]⟩, .int .i64 d, .int .i64 a, .int .i64 b, .int .i64 imm] 76) = bx := ⟨_, rfl⟩
  have hb := (grow_alloc (grow_refl w) (.cells #[.string ⟨#[111, 114]⟩, .int .i64 d, .int .i64 a, .int .i64 b, .int .i64 imm] 76))
  have hn := heap_alloc_new w (.cells #[.string ⟨#[111, 114]⟩, .int .i64 d, .int .i64 a, .int .i64 b, .int .i64 imm] 76)
  rw [hbx] at hb hn
  have h2 := h.below hb
  have hlt := h.lt
  obtain ⟨ht, -⟩ := h2.top_at hs
  have r1 := ht.cell (frL_r hx hd)
  have r2 : bx.cell? ⟨p.1, 4 + a, none⟩ = some (.int .i64 (regM x a)) := ht.cell (frL_r hx ha)
  have z1 := row_frozen ht.blk (4 + d)
  have hpl : p.1 < w.heap.size := (Array.getElem?_eq_some_iff.1 (h.top_at hs).1.blk).1
  have hpw : w.heap.size ≠ p.1 := by omega
  have hd0 : (0 : Int) ≤ d := by omega
  have hd1 : (d : Int) < 8 := by omega
  have ha0 : (0 : Int) ≤ a := by omega
  have ha1 : (a : Int) < 8 := by omega
  have r3 : bx.cell? ⟨p.1, 4 + b, none⟩ = some (.int .i64 (regM x b)) := ht.cell (frL_r hx hb8)
  have hb0 : (0 : Int) ≤ b := by omega
  have hb1 : (b : Int) < 8 := by omega
  have HTH : Hid (Calls Tryd.prog 58 #[.string ⟨#[111, 114]⟩] bx.drew (Ret (.string ⟨#[124]⟩) bx.drew)) := Three_any 6 (by decide) bx.drew
  have HDO : Hid (∀ w', Below bx.heap.size bx w' → Calls Tryd.prog 57 #[.string ⟨#[124]⟩, .int .i64 (regM x a), .int .i64 (regM x b)] w' (Quiet (.tuple #[.int .i64 res, .nilIface]) w')) := fun w' hb' => by
    have h1 := Do_any (mkB [124]) (regM x a) (regM x b) K w' (hK _ (grow_trans hb hb'))
    rw [mkB_toList] at h1
    rw [← hres]
    exact h1
  have HST := Lib.hid (fun w' (hb' : Below bx.heap.size bx w') n => ((h2.below hb').drewN n).frStore hs (y := putM x d res) (.int .i64 res) (frL_setR hx hd _) rfl)
  have HZ : Hid (∀ w', Below bx.heap.size bx w' → w'.frozen? ⟨p.1, 4 + d, none⟩ = false) := fun w' hb' => row_frozen ((h2.below hb').top_at hs).1.blk (4 + d)
  have hb9 := Nat.le_of_lt h2.lt
  have HB := Lib.hid (hb.mono (Nat.le_of_lt hlt))
  have HBX := Lib.hid hbx
  obtain ⟨e0, e1, e2, e3⟩ := (⟨cell_of_row _ _ 0 _ _ _ hn, cell_of_row _ _ 1 _ _ _ hn, cell_of_row _ _ 2 _ _ _ hn, cell_of_row _ _ 3 _ _ _ hn⟩ : bx.cell? ⟨w.heap.size, 0, none⟩ = some (.string ⟨#[111, 114]⟩) ∧ bx.cell? ⟨w.heap.size, 1, none⟩ = some (.int .i64 d) ∧ bx.cell? ⟨w.heap.size, 2, none⟩ = some (.int .i64 a) ∧ bx.cell? ⟨w.heap.size, 3, none⟩ = some (.int .i64 b))
  clear h h2 hb hbx hn ht hs hx hK hres
  go_enter Tryd.func44, Tryd.ntmps44
  go_upto_region 1 with fail
  change Code.wp _ _ _ _ (w.alloc (.cells #[.string ⟨#[111, 114]⟩, .int .i64 d, .int .i64 a, .int .i64 b, .int .i64 imm] 76))
  rw [HBX.out]
  go_upto_region 2 with fail
  rw [show Op.load 3 (Operand.tmp 18) = ldS18 from rfl, show Op.load 3 (Operand.tmp 25) = ldS25 from rfl]
  go_region_held3 (fun w' => w'.cell? ⟨w.heap.size, 0, none⟩ = some (.string ⟨#[111, 114]⟩) ∧ w'.cell? ⟨w.heap.size, 1, none⟩ = some (.int .i64 d) ∧ w'.cell? ⟨w.heap.size, 2, none⟩ = some (.int .i64 a) ∧ w'.cell? ⟨w.heap.size, 3, none⟩ = some (.int .i64 b))
    (first
      | exact ⟨e0, e1, e2, e3⟩
      | (go_split_ands
         refine ⟨?_, ?_, ?_, ?_⟩
         all_goals (first | assumption | exact Keeps.of_below hb5 _ _ (by assumption) | exact (World.cell?_of_block (Below.heap_setCell _ _ _ _ hpw)).trans (by assumption))))
    (first
      | (go_at_call 58; (with_reducible refine HTH.out.mono ?_); rintro z w5 ⟨rfl, hb5⟩; have hbx5 := grow_trans (grow_drew (grow_refl bx) 1) hb5; have r2 := Keeps.of_below hbx5 _ _ r2; have r3 := Keeps.of_below hbx5 _ _ r3; have r1 := Keeps.of_below hbx5 _ _ r1; have z1 := HZ.out _ hbx5)
      | (go_at_call 57; (with_reducible refine (HDO.out _ (by assumption)).mono ?_); rintro z w6 ⟨rfl, n6, rfl⟩))
  all_goals
    go_wp2_with fail
    go_returns
    exact ⟨rfl, (HST.out _ (by assumption) _).1, HB.out.trans ((Below.mono (by assumption) hb9).trans ((below_drewN (Below.refl _ _) _).trans (HST.out _ (by assumption) _).2))⟩

end
end Go.Proofs.YtgoifbkogboppaaDoor
