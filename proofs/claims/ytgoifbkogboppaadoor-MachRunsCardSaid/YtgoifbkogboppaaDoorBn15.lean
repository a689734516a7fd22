import Derived.Test.YtgoifbkogboppaaDoorBn14
set_option linter.unusedVariables false
set_option linter.unusedSimpArgs false
namespace Go.Proofs.YtgoifbkogboppaaDoor
open Go.RowKit

/-! the machine: move (printed by gen_mach.py) -/
section
variable {m : PImg} {A : Option Addr} {cf : Nat} {B : Option Addr} {cw : Nat} {C : Value} {mb T : Nat} {s : PMs} {v u : Value} {ps : List (Nat × Nat)} {p : Nat × Nat} {cs : List PFr} {x y : PFr} {w w' : World}
def MvPost (m : PImg) (A : Option Addr) (cf : Nat) (B : Option Addr) (cw : Nat) (C : Value) (mb T : Nat) (s' : PMs) (v u : Value) (fbs : List (Nat × Nat)) (b : Bool) (w : World) : Ending → World → Prop := fun e w' => e = .returned (.bool b) ∧ MaAt m A cf B cw C mb T s' v u fbs w' ∧ Below mb w w'

set_option maxHeartbeats 2000000 in
set_option maxRecDepth 100000 in
theorem move_const (h : MaAt m A cf B cw C mb T s v u (ps ++ [p]) w) (hs : s.calls = cs ++ [x]) (hx : FrLen x) (d : Nat) (hd : d < 8) (a b imm : Int) :
    Calls Tryd.prog 43 #[.pointer (some ⟨mb, 0, none⟩), .pointer (some ⟨p.1, 0, none⟩), .agg #[.string ⟨#[99, 111, 110, 115, 116]⟩, .int .i64 d, .int .i64 a, .int .i64 b, .int .i64 imm]] w
      (MvPost m A cf B cw C mb T (topM (putM x d imm) s) v u (ps ++ [p]) true w) := by
  obtain ⟨bx, hbx⟩ : ∃ bx, w.alloc (.cells #[.string ⟨#[99, 111, 110, 115, 116]⟩, .int .i64 d, .int .i64 a, .int .i64 b, .int .i64 imm] 76) = bx := ⟨_, rfl⟩
  have hb := (grow_alloc (grow_refl w) (.cells #[.string ⟨#[99, 111, 110, 115, 116]⟩, .int .i64 d, .int .i64 a, .int .i64 b, .int .i64 imm] 76))
  have hn := heap_alloc_new w (.cells #[.string ⟨#[99, 111, 110, 115, 116]⟩, .int .i64 d, .int .i64 a, .int .i64 b, .int .i64 imm] 76)
  rw [hbx] at hb hn
  have h2 := h.below hb
  have hlt := h.lt
  obtain ⟨ht, -⟩ := h2.top_at hs
  have hd0 : (0 : Int) ≤ d := by omega
  have hd1 : (d : Int) < 8 := by omega
  have r1 := ht.cell (frL_r hx hd)
  have z1 := row_frozen ht.blk (4 + d)
  have R1 := Lib.hid r1
  have Z1 := Lib.hid z1
  clear r1 z1
  have hst := fun n => (h2.drewN n).frStore hs (y := putM x d imm) (.int .i64 imm) (frL_setR hx hd imm) rfl
  have HST := Lib.hid hst
  have HBS := Lib.hid hb
  have HB := Lib.hid (hb.mono (Nat.le_of_lt hlt))
  have HBX := Lib.hid hbx
  have HH := Lib.hid h2
  have e0 := cell_of_row _ _ 0 _ _ _ hn
  have e1 := cell_of_row _ _ 1 _ _ _ hn
  have e2 := cell_of_row _ _ 2 _ _ _ hn
  have e3 := cell_of_row _ _ 3 _ _ _ hn
  have e4 := cell_of_row _ _ 4 _ _ _ hn
  clear h h2 hst hb hbx hn ht hs hx
  go_enter Tryd.func43, Tryd.ntmps43
  go_upto_region 1 with fail
  change Code.wp _ _ _ _ (w.alloc (.cells #[.string ⟨#[99, 111, 110, 115, 116]⟩, .int .i64 d, .int .i64 a, .int .i64 b, .int .i64 imm] 76))
  rw [HBX.out]
  go_wp2_with fail
  go_quiet (fail)
  have r1 := R1.out
  have z1 := Z1.out
  go_wp2_with fail
  go_region
  go_wp2_with fail
  go_ret
  exact ⟨rfl, (HST.out _).1, HB.out.trans ((below_drewN (Below.refl _ _) _).trans (HST.out _).2)⟩

set_option maxHeartbeats 2000000 in
set_option maxRecDepth 100000 in
theorem move_move (h : MaAt m A cf B cw C mb T s v u (ps ++ [p]) w) (hs : s.calls = cs ++ [x]) (hx : FrLen x) (d : Nat) (hd : d < 8) (a : Nat) (ha : a < 8) (b imm : Int) :
    Calls Tryd.prog 43 #[.pointer (some ⟨mb, 0, none⟩), .pointer (some ⟨p.1, 0, none⟩), .agg #[.string ⟨#[109, 111, 118, 101]⟩, .int .i64 d, .int .i64 a, .int .i64 b, .int .i64 imm]] w
      (MvPost m A cf B cw C mb T (topM (putM x d (regM x a)) s) v u (ps ++ [p]) true w) := by
  obtain ⟨bx, hbx⟩ : ∃ bx, w.alloc (.cells #[.string ⟨#[109, 111, 118, 101]⟩, .int .i64 d, .int .i64 a, .int .i64 b, .int .i64 imm] 76) = bx := ⟨_, rfl⟩
  have hb := (grow_alloc (grow_refl w) (.cells #[.string ⟨#[109, 111, 118, 101]⟩, .int .i64 d, .int .i64 a, .int .i64 b, .int .i64 imm] 76))
  have hn := heap_alloc_new w (.cells #[.string ⟨#[109, 111, 118, 101]⟩, .int .i64 d, .int .i64 a, .int .i64 b, .int .i64 imm] 76)
  rw [hbx] at hb hn
  have h2 := h.below hb
  have hlt := h.lt
  obtain ⟨ht, -⟩ := h2.top_at hs
  have hd0 : (0 : Int) ≤ d := by omega
  have hd1 : (d : Int) < 8 := by omega
  have ha0 : (0 : Int) ≤ a := by omega
  have ha1 : (a : Int) < 8 := by omega
  have r1 := ht.cell (frL_r hx hd)
  have z1 := row_frozen ht.blk (4 + d)
  have r2 : bx.cell? ⟨p.1, 4 + a, none⟩ = some (.int .i64 (regM x a)) := ht.cell (frL_r hx ha)
  have R1 := Lib.hid r1
  have Z1 := Lib.hid z1
  have R2 := Lib.hid r2
  clear r1 z1 r2
  have hst := fun n => (h2.drewN n).frStore hs (y := putM x d (regM x a)) (.int .i64 (regM x a)) (frL_setR hx hd _) rfl
  have HST := Lib.hid hst
  have HBS := Lib.hid hb
  have HB := Lib.hid (hb.mono (Nat.le_of_lt hlt))
  have HBX := Lib.hid hbx
  have HH := Lib.hid h2
  have e0 := cell_of_row _ _ 0 _ _ _ hn
  have e1 := cell_of_row _ _ 1 _ _ _ hn
  have e2 := cell_of_row _ _ 2 _ _ _ hn
  have e3 := cell_of_row _ _ 3 _ _ _ hn
  have e4 := cell_of_row _ _ 4 _ _ _ hn
  clear h h2 hst hb hbx hn ht hs hx
  go_enter Tryd.func43, Tryd.ntmps43
  go_upto_region 1 with fail
  change Code.wp _ _ _ _ (w.alloc (.cells #[.string ⟨#[109, 111, 118, 101]⟩, .int .i64 d, .int .i64 a, .int .i64 b, .int .i64 imm] 76))
  rw [HBX.out]
  go_wp2_with fail
  go_quiet (fail)
  have r1 := R1.out
  have z1 := Z1.out
  have r2 := R2.out
  go_wp2_with fail
  go_region
  go_wp2_with fail
  go_ret
  exact ⟨rfl, (HST.out _).1, HB.out.trans ((below_drewN (Below.refl _ _) _).trans (HST.out _).2)⟩

set_option maxHeartbeats 2000000 in
set_option maxRecDepth 100000 in
theorem move_load (h : MaAt m A cf B cw C mb T s v u (ps ++ [p]) w) (hs : s.calls = cs ++ [x]) (hx : FrLen x) (d : Nat) (hd : d < 8) (a b : Int) (k : Nat) (hk : k < x.slots.length) (hkf : (k : Int) < x.f.slots) :
    Calls Tryd.prog 43 #[.pointer (some ⟨mb, 0, none⟩), .pointer (some ⟨p.1, 0, none⟩), .agg #[.string ⟨#[108, 111, 97, 100]⟩, .int .i64 d, .int .i64 a, .int .i64 b, .int .i64 k]] w
      (MvPost m A cf B cw C mb T (topM (putM x d (x.slots.getD k 0)) s) v u (ps ++ [p]) true w) := by
  obtain ⟨bx, hbx⟩ : ∃ bx, w.alloc (.cells #[.string ⟨#[108, 111, 97, 100]⟩, .int .i64 d, .int .i64 a, .int .i64 b, .int .i64 k] 76) = bx := ⟨_, rfl⟩
  have hb := (grow_alloc (grow_refl w) (.cells #[.string ⟨#[108, 111, 97, 100]⟩, .int .i64 d, .int .i64 a, .int .i64 b, .int .i64 k] 76))
  have hn := heap_alloc_new w (.cells #[.string ⟨#[108, 111, 97, 100]⟩, .int .i64 d, .int .i64 a, .int .i64 b, .int .i64 k] 76)
  rw [hbx] at hb hn
  have h2 := h.below hb
  have hlt := h.lt
  obtain ⟨ht, -⟩ := h2.top_at hs
  have hd0 : (0 : Int) ≤ d := by omega
  have hd1 : (d : Int) < 8 := by omega
  have hk0 : (0 : Int) ≤ k := by omega
  have r1 := ht.cell (frL_r hx hd)
  have z1 := row_frozen ht.blk (4 + d)
  have r3 := ht.cell (frL_slots hx)
  have r4 := ht.cell (frL_fslots (x := x))
  have r5 := ht.slot hk
  have hkl : (k : Int) < (x.slots.length : Int) := by omega
  have hf1 : decide (x.f.slots ≤ (k : Int)) = false := decide_eq_false (by omega)
  obtain ⟨g5, hg5⟩ : ∃ g5, x.slots.getD k 0 = g5 := ⟨_, rfl⟩
  rw [hg5] at r5
  rw [hg5]
  clear hg5
  have R1 := Lib.hid r1
  have Z1 := Lib.hid z1
  have R5 := Lib.hid r5
  clear r1 z1 r5
  have hst := fun n => (h2.drewN n).frStore hs (y := putM x d g5) (.int .i64 g5) (frL_setR hx hd _) rfl
  have HST := Lib.hid hst
  have HBS := Lib.hid hb
  have HB := Lib.hid (hb.mono (Nat.le_of_lt hlt))
  have HBX := Lib.hid hbx
  have HH := Lib.hid h2
  have e0 := cell_of_row _ _ 0 _ _ _ hn
  have e1 := cell_of_row _ _ 1 _ _ _ hn
  have e2 := cell_of_row _ _ 2 _ _ _ hn
  have e3 := cell_of_row _ _ 3 _ _ _ hn
  have e4 := cell_of_row _ _ 4 _ _ _ hn
  clear h h2 hst hb hbx hn ht hs hx
  go_enter Tryd.func43, Tryd.ntmps43
  go_upto_region 1 with fail
  change Code.wp _ _ _ _ (w.alloc (.cells #[.string ⟨#[108, 111, 97, 100]⟩, .int .i64 d, .int .i64 a, .int .i64 b, .int .i64 k] 76))
  rw [HBX.out]
  go_wp2_with fail
  go_quiet (fail)
  have r1 := R1.out
  have z1 := Z1.out
  have r5 := R5.out
  go_wp2_with fail
  go_region
  go_wp2_with fail
  go_ret
  exact ⟨rfl, (HST.out _).1, HB.out.trans ((below_drewN (Below.refl _ _) _).trans (HST.out _).2)⟩

set_option maxHeartbeats 2000000 in
set_option maxRecDepth 100000 in
theorem move_store (h : MaAt m A cf B cw C mb T s v u (ps ++ [p]) w) (hs : s.calls = cs ++ [x]) (hx : FrLen x) (d : Int) (a : Nat) (ha : a < 8) (b : Int) (k : Nat) (hk : k < x.slots.length) (hkf : (k : Int) < x.f.slots) :
    Calls Tryd.prog 43 #[.pointer (some ⟨mb, 0, none⟩), .pointer (some ⟨p.1, 0, none⟩), .agg #[.string ⟨#[115, 116, 111, 114, 101]⟩, .int .i64 d, .int .i64 a, .int .i64 b, .int .i64 k]] w
      (MvPost m A cf B cw C mb T (topM { x with slots := x.slots.set k (regM x a) } s) v u (ps ++ [p]) true w) := by
  obtain ⟨bx, hbx⟩ : ∃ bx, w.alloc (.cells #[.string ⟨#[115, 116, 111, 114, 101]⟩, .int .i64 d, .int .i64 a, .int .i64 b, .int .i64 k] 76) = bx := ⟨_, rfl⟩
  have hb := (grow_alloc (grow_refl w) (.cells #[.string ⟨#[115, 116, 111, 114, 101]⟩, .int .i64 d, .int .i64 a, .int .i64 b, .int .i64 k] 76))
  have hn := heap_alloc_new w (.cells #[.string ⟨#[115, 116, 111, 114, 101]⟩, .int .i64 d, .int .i64 a, .int .i64 b, .int .i64 k] 76)
  rw [hbx] at hb hn
  have h2 := h.below hb
  have hlt := h.lt
  obtain ⟨ht, -⟩ := h2.top_at hs
  have ha0 : (0 : Int) ≤ a := by omega
  have ha1 : (a : Int) < 8 := by omega
  have hk0 : (0 : Int) ≤ k := by omega
  have r2 : bx.cell? ⟨p.1, 4 + a, none⟩ = some (.int .i64 (regM x a)) := ht.cell (frL_r hx ha)
  have r3 := ht.cell (frL_slots hx)
  have r4 := ht.cell (frL_fslots (x := x))
  have r5 := ht.slot hk
  have hkl : (k : Int) < (x.slots.length : Int) := by omega
  have hf1 : decide (x.f.slots ≤ (k : Int)) = false := decide_eq_false (by omega)
  have z2 := row_frozen ht.slots k
  have R2 := Lib.hid r2
  have R5 := Lib.hid r5
  have Z2 := Lib.hid z2
  clear r2 r5 z2
  have hst := fun n => (h2.drewN n).slStore hs (j := k) (regM x a)
  have HST := Lib.hid hst
  have HBS := Lib.hid hb
  have HB := Lib.hid (hb.mono (Nat.le_of_lt hlt))
  have HBX := Lib.hid hbx
  have HH := Lib.hid h2
  have e0 := cell_of_row _ _ 0 _ _ _ hn
  have e1 := cell_of_row _ _ 1 _ _ _ hn
  have e2 := cell_of_row _ _ 2 _ _ _ hn
  have e3 := cell_of_row _ _ 3 _ _ _ hn
  have e4 := cell_of_row _ _ 4 _ _ _ hn
  clear h h2 hst hb hbx hn ht hs hx
  go_enter Tryd.func43, Tryd.ntmps43
  go_upto_region 1 with fail
  change Code.wp _ _ _ _ (w.alloc (.cells #[.string ⟨#[115, 116, 111, 114, 101]⟩, .int .i64 d, .int .i64 a, .int .i64 b, .int .i64 k] 76))
  rw [HBX.out]
  go_wp2_with fail
  go_quiet (fail)
  have r2 := R2.out
  have r5 := R5.out
  have z2 := Z2.out
  go_wp2_with fail
  go_region
  go_wp2_with fail
  go_ret
  exact ⟨rfl, (HST.out _).1, HB.out.trans ((below_drewN (Below.refl _ _) _).trans (HST.out _).2)⟩

set_option maxHeartbeats 2000000 in
set_option maxRecDepth 100000 in
theorem move_param (h : MaAt m A cf B cw C mb T s v u (ps ++ [p]) w) (hs : s.calls = cs ++ [x]) (hx : FrLen x) (d : Nat) (hd : d < 8) (a b : Int) (k : Nat) (hk : k < 4) (hkf : (k : Int) < x.f.params) :
    Calls Tryd.prog 43 #[.pointer (some ⟨mb, 0, none⟩), .pointer (some ⟨p.1, 0, none⟩), .agg #[.string ⟨#[112, 97, 114, 97, 109]⟩, .int .i64 d, .int .i64 a, .int .i64 b, .int .i64 k]] w
      (MvPost m A cf B cw C mb T (topM (putM x d (x.args.getD k 0)) s) v u (ps ++ [p]) true w) := by
  obtain ⟨bx, hbx⟩ : ∃ bx, w.alloc (.cells #[.string ⟨#[112, 97, 114, 97, 109]⟩, .int .i64 d, .int .i64 a, .int .i64 b, .int .i64 k] 76) = bx := ⟨_, rfl⟩
  have hb := (grow_alloc (grow_refl w) (.cells #[.string ⟨#[112, 97, 114, 97, 109]⟩, .int .i64 d, .int .i64 a, .int .i64 b, .int .i64 k] 76))
  have hn := heap_alloc_new w (.cells #[.string ⟨#[112, 97, 114, 97, 109]⟩, .int .i64 d, .int .i64 a, .int .i64 b, .int .i64 k] 76)
  rw [hbx] at hb hn
  have h2 := h.below hb
  have hlt := h.lt
  obtain ⟨ht, -⟩ := h2.top_at hs
  have hd0 : (0 : Int) ≤ d := by omega
  have hd1 : (d : Int) < 8 := by omega
  have hk0 : (0 : Int) ≤ k := by omega
  have hk4 : (k : Int) < 4 := by omega
  have r1 := ht.cell (frL_r hx hd)
  have z1 := row_frozen ht.blk (4 + d)
  have r4 := ht.cell (frL_params (x := x))
  have r5 := ht.cell (frL_args hx hk)
  have hf1 : decide (x.f.params ≤ (k : Int)) = false := decide_eq_false (by omega)
  have R1 := Lib.hid r1
  have Z1 := Lib.hid z1
  have R5 := Lib.hid r5
  clear r1 z1 r5
  have hst := fun n => (h2.drewN n).frStore hs (y := putM x d (x.args.getD k 0)) (.int .i64 (x.args.getD k 0)) (frL_setR hx hd _) rfl
  have HST := Lib.hid hst
  have HBS := Lib.hid hb
  have HB := Lib.hid (hb.mono (Nat.le_of_lt hlt))
  have HBX := Lib.hid hbx
  have HH := Lib.hid h2
  have e0 := cell_of_row _ _ 0 _ _ _ hn
  have e1 := cell_of_row _ _ 1 _ _ _ hn
  have e2 := cell_of_row _ _ 2 _ _ _ hn
  have e3 := cell_of_row _ _ 3 _ _ _ hn
  have e4 := cell_of_row _ _ 4 _ _ _ hn
  clear h h2 hst hb hbx hn ht hs hx
  go_enter Tryd.func43, Tryd.ntmps43
  go_upto_region 1 with fail
  change Code.wp _ _ _ _ (w.alloc (.cells #[.string ⟨#[112, 97, 114, 97, 109]⟩, .int .i64 d, .int .i64 a, .int .i64 b, .int .i64 k] 76))
  rw [HBX.out]
  go_wp2_with fail
  go_quiet (fail)
  have r1 := R1.out
  have z1 := Z1.out
  have r5 := R5.out
  go_wp2_with fail
  go_region
  go_wp2_with fail
  go_ret
  exact ⟨rfl, (HST.out _).1, HB.out.trans ((below_drewN (Below.refl _ _) _).trans (HST.out _).2)⟩

set_option maxHeartbeats 2000000 in
set_option maxRecDepth 100000 in
theorem move_arg (h : MaAt m A cf B cw C mb T s v u (ps ++ [p]) w) (hs : s.calls = cs ++ [x]) (hx : FrLen x) (d : Int) (a : Nat) (ha : a < 8) (b : Int) (k : Nat) (hk : k < 4) :
    Calls Tryd.prog 43 #[.pointer (some ⟨mb, 0, none⟩), .pointer (some ⟨p.1, 0, none⟩), .agg #[.string ⟨#[97, 114, 103]⟩, .int .i64 d, .int .i64 a, .int .i64 b, .int .i64 k]] w
      (MvPost m A cf B cw C mb T (topM { x with next := x.next.set k (regM x a) } s) v u (ps ++ [p]) true w) := by
  obtain ⟨bx, hbx⟩ : ∃ bx, w.alloc (.cells #[.string ⟨#[97, 114, 103]⟩, .int .i64 d, .int .i64 a, .int .i64 b, .int .i64 k] 76) = bx := ⟨_, rfl⟩
  have hb := (grow_alloc (grow_refl w) (.cells #[.string ⟨#[97, 114, 103]⟩, .int .i64 d, .int .i64 a, .int .i64 b, .int .i64 k] 76))
  have hn := heap_alloc_new w (.cells #[.string ⟨#[97, 114, 103]⟩, .int .i64 d, .int .i64 a, .int .i64 b, .int .i64 k] 76)
  rw [hbx] at hb hn
  have h2 := h.below hb
  have hlt := h.lt
  obtain ⟨ht, -⟩ := h2.top_at hs
  have ha0 : (0 : Int) ≤ a := by omega
  have ha1 : (a : Int) < 8 := by omega
  have hk0 : (0 : Int) ≤ k := by omega
  have hk4 : (k : Int) < 4 := by omega
  have r2 : bx.cell? ⟨p.1, 4 + a, none⟩ = some (.int .i64 (regM x a)) := ht.cell (frL_r hx ha)
  have r5 := ht.cell (frL_next hx hk)
  have z2 := row_frozen ht.blk (17 + k)
  have R2 := Lib.hid r2
  have R5 := Lib.hid r5
  have Z2 := Lib.hid z2
  clear r2 r5 z2
  have hst := fun n => (h2.drewN n).frStore hs (y := { x with next := x.next.set k (regM x a) }) (.int .i64 (regM x a)) (frL_setN hx hk _) rfl
  have HST := Lib.hid hst
  have HBS := Lib.hid hb
  have HB := Lib.hid (hb.mono (Nat.le_of_lt hlt))
  have HBX := Lib.hid hbx
  have HH := Lib.hid h2
  have e0 := cell_of_row _ _ 0 _ _ _ hn
  have e1 := cell_of_row _ _ 1 _ _ _ hn
  have e2 := cell_of_row _ _ 2 _ _ _ hn
  have e3 := cell_of_row _ _ 3 _ _ _ hn
  have e4 := cell_of_row _ _ 4 _ _ _ hn
  clear h h2 hst hb hbx hn ht hs hx
  go_enter Tryd.func43, Tryd.ntmps43
  go_upto_region 1 with fail
  change Code.wp _ _ _ _ (w.alloc (.cells #[.string ⟨#[97, 114, 103]⟩, .int .i64 d, .int .i64 a, .int .i64 b, .int .i64 k] 76))
  rw [HBX.out]
  go_wp2_with fail
  go_quiet (fail)
  have r2 := R2.out
  have r5 := R5.out
  have z2 := Z2.out
  go_wp2_with fail
  go_region
  go_wp2_with fail
  go_ret
  exact ⟨rfl, (HST.out _).1, HB.out.trans ((below_drewN (Below.refl _ _) _).trans (HST.out _).2)⟩

set_option maxHeartbeats 2000000 in
set_option maxRecDepth 100000 in
theorem move_load_far (h : MaAt m A cf B cw C mb T s v u (ps ++ [p]) w) (hs : s.calls = cs ++ [x]) (hx : FrLen x) (d a b imm : Int) (hf : x.f.slots ≤ imm) :
    Calls Tryd.prog 43 #[.pointer (some ⟨mb, 0, none⟩), .pointer (some ⟨p.1, 0, none⟩), .agg #[.string ⟨#[108, 111, 97, 100]⟩, .int .i64 d, .int .i64 a, .int .i64 b, .int .i64 imm]] w
      (MvPost m A cf B cw C mb T (endM stuckT s) v u (ps ++ [p]) true w) := by
  obtain ⟨bx, hbx⟩ : ∃ bx, w.alloc (.cells #[.string ⟨#[108, 111, 97, 100]⟩, .int .i64 d, .int .i64 a, .int .i64 b, .int .i64 imm] 76) = bx := ⟨_, rfl⟩
  have hb := (grow_alloc (grow_refl w) (.cells #[.string ⟨#[108, 111, 97, 100]⟩, .int .i64 d, .int .i64 a, .int .i64 b, .int .i64 imm] 76))
  have hn := heap_alloc_new w (.cells #[.string ⟨#[108, 111, 97, 100]⟩, .int .i64 d, .int .i64 a, .int .i64 b, .int .i64 imm] 76)
  rw [hbx] at hb hn
  have h2 := h.below hb
  have hlt := h.lt
  obtain ⟨ht, -⟩ := h2.top_at hs
  have r4 := ht.cell (frL_fslots (x := x))
  have hf1 : decide (x.f.slots ≤ imm) = true := decide_eq_true hf
  have HEND : Hid (∀ n, Calls Tryd.prog 27 #[.pointer (some ⟨mb, 0, none⟩), .string ⟨#[115, 116, 117, 99, 107]⟩] (bx.drewN n) fun e w' => e = .returned (.tuple #[]) ∧ MaAt m A cf B cw C mb T (endM stuckT s) v u (ps ++ [p]) w' ∧ Below mb bx w') := fun n => (end_any (h2.drewN n) stuckT).mono fun e w' ⟨q1, q2, q3, _⟩ => ⟨q1, q2, (below_drewN (Below.refl _ _) n).trans q3⟩
  have HBS := Lib.hid hb
  have HB := Lib.hid (hb.mono (Nat.le_of_lt hlt))
  have HBX := Lib.hid hbx
  have HH := Lib.hid h2
  have e0 := cell_of_row _ _ 0 _ _ _ hn
  have e1 := cell_of_row _ _ 1 _ _ _ hn
  have e2 := cell_of_row _ _ 2 _ _ _ hn
  have e3 := cell_of_row _ _ 3 _ _ _ hn
  have e4 := cell_of_row _ _ 4 _ _ _ hn
  clear h h2 hb hbx hn ht hs hx
  go_enter Tryd.func43, Tryd.ntmps43
  go_upto_region 1 with fail
  change Code.wp _ _ _ _ (w.alloc (.cells #[.string ⟨#[108, 111, 97, 100]⟩, .int .i64 d, .int .i64 a, .int .i64 b, .int .i64 imm] 76))
  rw [HBX.out]
  go_wp2_with fail
  go_quiet (fail)
  go_wp2_with (go_at_call 27; (with_reducible refine (HEND.out _).mono ?_); rintro e w2 ⟨rfl, h5, h6⟩; have H5 := Lib.hid (And.intro h5 h6); clear h5 h6)
  go_ret
  exact ⟨rfl, H5.out.1, HB.out.trans H5.out.2⟩

set_option maxHeartbeats 2000000 in
set_option maxRecDepth 100000 in
theorem move_store_far (h : MaAt m A cf B cw C mb T s v u (ps ++ [p]) w) (hs : s.calls = cs ++ [x]) (hx : FrLen x) (d a b imm : Int) (hf : x.f.slots ≤ imm) :
    Calls Tryd.prog 43 #[.pointer (some ⟨mb, 0, none⟩), .pointer (some ⟨p.1, 0, none⟩), .agg #[.string ⟨#[115, 116, 111, 114, 101]⟩, .int .i64 d, .int .i64 a, .int .i64 b, .int .i64 imm]] w
      (MvPost m A cf B cw C mb T (endM stuckT s) v u (ps ++ [p]) true w) := by
  obtain ⟨bx, hbx⟩ : ∃ bx, w.alloc (.cells #[.string ⟨#[115, 116, 111, 114, 101]⟩, .int .i64 d, .int .i64 a, .int .i64 b, .int .i64 imm] 76) = bx := ⟨_, rfl⟩
  have hb := (grow_alloc (grow_refl w) (.cells #[.string ⟨#[115, 116, 111, 114, 101]⟩, .int .i64 d, .int .i64 a, .int .i64 b, .int .i64 imm] 76))
  have hn := heap_alloc_new w (.cells #[.string ⟨#[115, 116, 111, 114, 101]⟩, .int .i64 d, .int .i64 a, .int .i64 b, .int .i64 imm] 76)
  rw [hbx] at hb hn
  have h2 := h.below hb
  have hlt := h.lt
  obtain ⟨ht, -⟩ := h2.top_at hs
  have r4 := ht.cell (frL_fslots (x := x))
  have hf1 : decide (x.f.slots ≤ imm) = true := decide_eq_true hf
  have HEND : Hid (∀ n, Calls Tryd.prog 27 #[.pointer (some ⟨mb, 0, none⟩), .string ⟨#[115, 116, 117, 99, 107]⟩] (bx.drewN n) fun e w' => e = .returned (.tuple #[]) ∧ MaAt m A cf B cw C mb T (endM stuckT s) v u (ps ++ [p]) w' ∧ Below mb bx w') := fun n => (end_any (h2.drewN n) stuckT).mono fun e w' ⟨q1, q2, q3, _⟩ => ⟨q1, q2, (below_drewN (Below.refl _ _) n).trans q3⟩
  have HBS := Lib.hid hb
  have HB := Lib.hid (hb.mono (Nat.le_of_lt hlt))
  have HBX := Lib.hid hbx
  have HH := Lib.hid h2
  have e0 := cell_of_row _ _ 0 _ _ _ hn
  have e1 := cell_of_row _ _ 1 _ _ _ hn
  have e2 := cell_of_row _ _ 2 _ _ _ hn
  have e3 := cell_of_row _ _ 3 _ _ _ hn
  have e4 := cell_of_row _ _ 4 _ _ _ hn
  clear h h2 hb hbx hn ht hs hx
  go_enter Tryd.func43, Tryd.ntmps43
  go_upto_region 1 with fail
  change Code.wp _ _ _ _ (w.alloc (.cells #[.string ⟨#[115, 116, 111, 114, 101]⟩, .int .i64 d, .int .i64 a, .int .i64 b, .int .i64 imm] 76))
  rw [HBX.out]
  go_wp2_with fail
  go_quiet (fail)
  go_wp2_with (go_at_call 27; (with_reducible refine (HEND.out _).mono ?_); rintro e w2 ⟨rfl, h5, h6⟩; have H5 := Lib.hid (And.intro h5 h6); clear h5 h6)
  go_ret
  exact ⟨rfl, H5.out.1, HB.out.trans H5.out.2⟩

set_option maxHeartbeats 2000000 in
set_option maxRecDepth 100000 in
theorem move_param_far (h : MaAt m A cf B cw C mb T s v u (ps ++ [p]) w) (hs : s.calls = cs ++ [x]) (hx : FrLen x) (d a b imm : Int) (hf : x.f.params ≤ imm) :
    Calls Tryd.prog 43 #[.pointer (some ⟨mb, 0, none⟩), .pointer (some ⟨p.1, 0, none⟩), .agg #[.string ⟨#[112, 97, 114, 97, 109]⟩, .int .i64 d, .int .i64 a, .int .i64 b, .int .i64 imm]] w
      (MvPost m A cf B cw C mb T (endM stuckT s) v u (ps ++ [p]) true w) := by
  obtain ⟨bx, hbx⟩ : ∃ bx, w.alloc (.cells #[.string ⟨#[112, 97, 114, 97, 109]⟩, .int .i64 d, .int .i64 a, .int .i64 b, .int .i64 imm] 76) = bx := ⟨_, rfl⟩
  have hb := (grow_alloc (grow_refl w) (.cells #[.string ⟨#[112, 97, 114, 97, 109]⟩, .int .i64 d, .int .i64 a, .int .i64 b, .int .i64 imm] 76))
  have hn := heap_alloc_new w (.cells #[.string ⟨#[112, 97, 114, 97, 109]⟩, .int .i64 d, .int .i64 a, .int .i64 b, .int .i64 imm] 76)
  rw [hbx] at hb hn
  have h2 := h.below hb
  have hlt := h.lt
  obtain ⟨ht, -⟩ := h2.top_at hs
  have r4 := ht.cell (frL_params (x := x))
  have hf1 : decide (x.f.params ≤ imm) = true := decide_eq_true hf
  have HEND : Hid (∀ n, Calls Tryd.prog 27 #[.pointer (some ⟨mb, 0, none⟩), .string ⟨#[115, 116, 117, 99, 107]⟩] (bx.drewN n) fun e w' => e = .returned (.tuple #[]) ∧ MaAt m A cf B cw C mb T (endM stuckT s) v u (ps ++ [p]) w' ∧ Below mb bx w') := fun n => (end_any (h2.drewN n) stuckT).mono fun e w' ⟨q1, q2, q3, _⟩ => ⟨q1, q2, (below_drewN (Below.refl _ _) n).trans q3⟩
  have HBS := Lib.hid hb
  have HB := Lib.hid (hb.mono (Nat.le_of_lt hlt))
  have HBX := Lib.hid hbx
  have HH := Lib.hid h2
  have e0 := cell_of_row _ _ 0 _ _ _ hn
  have e1 := cell_of_row _ _ 1 _ _ _ hn
  have e2 := cell_of_row _ _ 2 _ _ _ hn
  have e3 := cell_of_row _ _ 3 _ _ _ hn
  have e4 := cell_of_row _ _ 4 _ _ _ hn
  clear h h2 hb hbx hn ht hs hx
  go_enter Tryd.func43, Tryd.ntmps43
  go_upto_region 1 with fail
  change Code.wp _ _ _ _ (w.alloc (.cells #[.string ⟨#[112, 97, 114, 97, 109]⟩, .int .i64 d, .int .i64 a, .int .i64 b, .int .i64 imm] 76))
  rw [HBX.out]
  go_wp2_with fail
  go_quiet (fail)
  go_wp2_with (go_at_call 27; (with_reducible refine (HEND.out _).mono ?_); rintro e w2 ⟨rfl, h5, h6⟩; have H5 := Lib.hid (And.intro h5 h6); clear h5 h6)
  go_ret
  exact ⟨rfl, H5.out.1, HB.out.trans H5.out.2⟩

set_option maxHeartbeats 2000000 in
set_option maxRecDepth 100000 in
theorem move_neg (h : MaAt m A cf B cw C mb T s v u (ps ++ [p]) w) (hs : s.calls = cs ++ [x]) (hx : FrLen x) (d a b imm : Int) :
    Calls Tryd.prog 43 #[.pointer (some ⟨mb, 0, none⟩), .pointer (some ⟨p.1, 0, none⟩), .agg #[.string ⟨#[110, 101, 103]⟩, .int .i64 d, .int .i64 a, .int .i64 b, .int .i64 imm]] w
      (Ret (.bool false) w) := by
  obtain ⟨bx, hbx⟩ : ∃ bx, w.alloc (.cells #[.string ⟨#[110, 101, 103]⟩, .int .i64 d, .int .i64 a, .int .i64 b, .int .i64 imm] 76) = bx := ⟨_, rfl⟩
  have hb := (grow_alloc (grow_refl w) (.cells #[.string ⟨#[110, 101, 103]⟩, .int .i64 d, .int .i64 a, .int .i64 b, .int .i64 imm] 76))
  have hn := heap_alloc_new w (.cells #[.string ⟨#[110, 101, 103]⟩, .int .i64 d, .int .i64 a, .int .i64 b, .int .i64 imm] 76)
  rw [hbx] at hb hn
  have h2 := h.below hb
  have hlt := h.lt
  obtain ⟨ht, -⟩ := h2.top_at hs
  have HBS := Lib.hid hb
  have HB := Lib.hid (hb.mono (Nat.le_of_lt hlt))
  have HBX := Lib.hid hbx
  have HH := Lib.hid h2
  have e0 := cell_of_row _ _ 0 _ _ _ hn
  have e1 := cell_of_row _ _ 1 _ _ _ hn
  have e2 := cell_of_row _ _ 2 _ _ _ hn
  have e3 := cell_of_row _ _ 3 _ _ _ hn
  have e4 := cell_of_row _ _ 4 _ _ _ hn
  clear h h2 hb hbx hn ht hs hx
  go_enter Tryd.func43, Tryd.ntmps43
  go_upto_region 1 with fail
  change Code.wp _ _ _ _ (w.alloc (.cells #[.string ⟨#[110, 101, 103]⟩, .int .i64 d, .int .i64 a, .int .i64 b, .int .i64 imm] 76))
  rw [HBX.out]
  go_wp2_with fail
  go_quiet (fail)
  go_wp2_with fail
  go_ret
  exact ⟨rfl, grow_drew HBS.out _⟩

set_option maxHeartbeats 2000000 in
set_option maxRecDepth 100000 in
theorem move_not (h : MaAt m A cf B cw C mb T s v u (ps ++ [p]) w) (hs : s.calls = cs ++ [x]) (hx : FrLen x) (d a b imm : Int) :
    Calls Tryd.prog 43 #[.pointer (some ⟨mb, 0, none⟩), .pointer (some ⟨p.1, 0, none⟩), .agg #[.string ⟨#[110, 111, 116]⟩, .int .i64 d, .int .i64 a, .int .i64 b, .int .i64 imm]] w
      (Ret (.bool false) w) := by
  obtain ⟨bx, hbx⟩ : ∃ bx, w.alloc (.cells #[.string ⟨#[110, 111, 116]⟩, .int .i64 d, .int .i64 a, .int .i64 b, .int .i64 imm] 76) = bx := ⟨_, rfl⟩
  have hb := (grow_alloc (grow_refl w) (.cells #[.string ⟨#[110, 111, 116]⟩, .int .i64 d, .int .i64 a, .int .i64 b, .int .i64 imm] 76))
  have hn := heap_alloc_new w (.cells #[.string ⟨#[110, 111, 116]⟩, .int .i64 d, .int .i64 a, .int .i64 b, .int .i64 imm] 76)
  rw [hbx] at hb hn
  have h2 := h.below hb
  have hlt := h.lt
  obtain ⟨ht, -⟩ := h2.top_at hs
  have HBS := Lib.hid hb
  have HB := Lib.hid (hb.mono (Nat.le_of_lt hlt))
  have HBX := Lib.hid hbx
  have HH := Lib.hid h2
  have e0 := cell_of_row _ _ 0 _ _ _ hn
  have e1 := cell_of_row _ _ 1 _ _ _ hn
  have e2 := cell_of_row _ _ 2 _ _ _ hn
  have e3 := cell_of_row _ _ 3 _ _ _ hn
  have e4 := cell_of_row _ _ 4 _ _ _ hn
  clear h h2 hb hbx hn ht hs hx
  go_enter Tryd.func43, Tryd.ntmps43
  go_upto_region 1 with fail
  change Code.wp _ _ _ _ (w.alloc (.cells #[.string ⟨#[110, 111, 116]⟩, .int .i64 d, .int .i64 a, .int .i64 b, .int .i64 imm] 76))
  rw [HBX.out]
  go_wp2_with fail
  go_quiet (fail)
  go_wp2_with fail
  go_ret
  exact ⟨rfl, grow_drew HBS.out _⟩

set_option maxHeartbeats 2000000 in
set_option maxRecDepth 100000 in
theorem move_add (h : MaAt m A cf B cw C mb T s v u (ps ++ [p]) w) (hs : s.calls = cs ++ [x]) (hx : FrLen x) (d a b imm : Int) :
    Calls Tryd.prog 43 #[.pointer (some ⟨mb, 0, none⟩), .pointer (some ⟨p.1, 0, none⟩), .agg #[.string ⟨#[97, 100, 100]⟩, .int .i64 d, .int .i64 a, .int .i64 b, .int .i64 imm]] w
      (Ret (.bool false) w) := by
  obtain ⟨bx, hbx⟩ : ∃ bx, w.alloc (.cells #[.string ⟨#[97, 100, 100]⟩, .int .i64 d, .int .i64 a, .int .i64 b, .int .i64 imm] 76) = bx := ⟨_, rfl⟩
  have hb := (grow_alloc (grow_refl w) (.cells #[.string ⟨#[97, 100, 100]⟩, .int .i64 d, .int .i64 a, .int .i64 b, .int .i64 imm] 76))
  have hn := heap_alloc_new w (.cells #[.string ⟨#[97, 100, 100]⟩, .int .i64 d, .int .i64 a, .int .i64 b, .int .i64 imm] 76)
  rw [hbx] at hb hn
  have h2 := h.below hb
  have hlt := h.lt
  obtain ⟨ht, -⟩ := h2.top_at hs
  have HBS := Lib.hid hb
  have HB := Lib.hid (hb.mono (Nat.le_of_lt hlt))
  have HBX := Lib.hid hbx
  have HH := Lib.hid h2
  have e0 := cell_of_row _ _ 0 _ _ _ hn
  have e1 := cell_of_row _ _ 1 _ _ _ hn
  have e2 := cell_of_row _ _ 2 _ _ _ hn
  have e3 := cell_of_row _ _ 3 _ _ _ hn
  have e4 := cell_of_row _ _ 4 _ _ _ hn
  clear h h2 hb hbx hn ht hs hx
  go_enter Tryd.func43, Tryd.ntmps43
  go_upto_region 1 with fail
  change Code.wp _ _ _ _ (w.alloc (.cells #[.string ⟨#[97, 100, 100]⟩, .int .i64 d, .int .i64 a, .int .i64 b, .int .i64 imm] 76))
  rw [HBX.out]
  go_wp2_with fail
  go_quiet (fail)
  go_wp2_with fail
  go_ret
  exact ⟨rfl, grow_drew HBS.out _⟩

set_option maxHeartbeats 2000000 in
set_option maxRecDepth 100000 in
theorem move_sub (h : MaAt m A cf B cw C mb T s v u (ps ++ [p]) w) (hs : s.calls = cs ++ [x]) (hx : FrLen x) (d a b imm : Int) :
    Calls Tryd.prog 43 #[.pointer (some ⟨mb, 0, none⟩), .pointer (some ⟨p.1, 0, none⟩), .agg #[.string ⟨#[115, 117, 98]⟩, .int .i64 d, .int .i64 a, .int .i64 b, .int .i64 imm]] w
      (Ret (.bool false) w) := by
  obtain ⟨bx, hbx⟩ : ∃ bx, w.alloc (.cells #[.string ⟨#[115, 117, 98]⟩, .int .i64 d, .int .i64 a, .int .i64 b, .int .i64 imm] 76) = bx := ⟨_, rfl⟩
  have hb := (grow_alloc (grow_refl w) (.cells #[.string ⟨#[115, 117, 98]⟩, .int .i64 d, .int .i64 a, .int .i64 b, .int .i64 imm] 76))
  have hn := heap_alloc_new w (.cells #[.string ⟨#[115, 117, 98]⟩, .int .i64 d, .int .i64 a, .int .i64 b, .int .i64 imm] 76)
  rw [hbx] at hb hn
  have h2 := h.below hb
  have hlt := h.lt
  obtain ⟨ht, -⟩ := h2.top_at hs
  have HBS := Lib.hid hb
  have HB := Lib.hid (hb.mono (Nat.le_of_lt hlt))
  have HBX := Lib.hid hbx
  have HH := Lib.hid h2
  have e0 := cell_of_row _ _ 0 _ _ _ hn
  have e1 := cell_of_row _ _ 1 _ _ _ hn
  have e2 := cell_of_row _ _ 2 _ _ _ hn
  have e3 := cell_of_row _ _ 3 _ _ _ hn
  have e4 := cell_of_row _ _ 4 _ _ _ hn
  clear h h2 hb hbx hn ht hs hx
  go_enter Tryd.func43, Tryd.ntmps43
  go_upto_region 1 with fail
  change Code.wp _ _ _ _ (w.alloc (.cells #[.string ⟨#[115, 117, 98]⟩, .int .i64 d, .int .i64 a, .int .i64 b, .int .i64 imm] 76))
  rw [HBX.out]
  go_wp2_with fail
  go_quiet (fail)
  go_wp2_with fail
  go_ret
  exact ⟨rfl, grow_drew HBS.out _⟩

set_option maxHeartbeats 2000000 in
set_option maxRecDepth 100000 in
theorem move_mul (h : MaAt m A cf B cw C mb T s v u (ps ++ [p]) w) (hs : s.calls = cs ++ [x]) (hx : FrLen x) (d a b imm : Int) :
    Calls Tryd.prog 43 #[.pointer (some ⟨mb, 0, none⟩), .pointer (some ⟨p.1, 0, none⟩), .agg #[.string ⟨#[109, 117, 108]⟩, .int .i64 d, .int .i64 a, .int .i64 b, .int .i64 imm]] w
      (Ret (.bool false) w) := by
  obtain ⟨bx, hbx⟩ : ∃ bx, w.alloc (.cells #[.string ⟨#[109, 117, 108]⟩, .int .i64 d, .int .i64 a, .int .i64 b, .int .i64 imm] 76) = bx := ⟨_, rfl⟩
  have hb := (grow_alloc (grow_refl w) (.cells #[.string ⟨#[109, 117, 108]⟩, .int .i64 d, .int .i64 a, .int .i64 b, .int .i64 imm] 76))
  have hn := heap_alloc_new w (.cells #[.string ⟨#[109, 117, 108]⟩, .int .i64 d, .int .i64 a, .int .i64 b, .int .i64 imm] 76)
  rw [hbx] at hb hn
  have h2 := h.below hb
  have hlt := h.lt
  obtain ⟨ht, -⟩ := h2.top_at hs
  have HBS := Lib.hid hb
  have HB := Lib.hid (hb.mono (Nat.le_of_lt hlt))
  have HBX := Lib.hid hbx
  have HH := Lib.hid h2
  have e0 := cell_of_row _ _ 0 _ _ _ hn
  have e1 := cell_of_row _ _ 1 _ _ _ hn
  have e2 := cell_of_row _ _ 2 _ _ _ hn
  have e3 := cell_of_row _ _ 3 _ _ _ hn
  have e4 := cell_of_row _ _ 4 _ _ _ hn
  clear h h2 hb hbx hn ht hs hx
  go_enter Tryd.func43, Tryd.ntmps43
  go_upto_region 1 with fail
  change Code.wp _ _ _ _ (w.alloc (.cells #[.string ⟨#[109, 117, 108]⟩, .int .i64 d, .int .i64 a, .int .i64 b, .int .i64 imm] 76))
  rw [HBX.out]
  go_wp2_with fail
  go_quiet (fail)
  go_wp2_with fail
  go_ret
  exact ⟨rfl, grow_drew HBS.out _⟩

set_option maxHeartbeats 2000000 in
set_option maxRecDepth 100000 in
theorem move_div (h : MaAt m A cf B cw C mb T s v u (ps ++ [p]) w) (hs : s.calls = cs ++ [x]) (hx : FrLen x) (d a b imm : Int) :
    Calls Tryd.prog 43 #[.pointer (some ⟨mb, 0, none⟩), .pointer (some ⟨p.1, 0, none⟩), .agg #[.string ⟨#[100, 105, 118]⟩, .int .i64 d, .int .i64 a, .int .i64 b, .int .i64 imm]] w
      (Ret (.bool false) w) := by
  obtain ⟨bx, hbx⟩ : ∃ bx, w.alloc (.cells #[.string ⟨#[100, 105, 118]⟩, .int .i64 d, .int .i64 a, .int .i64 b, .int .i64 imm] 76) = bx := ⟨_, rfl⟩
  have hb := (grow_alloc (grow_refl w) (.cells #[.string ⟨#[100, 105, 118]⟩, .int .i64 d, .int .i64 a, .int .i64 b, .int .i64 imm] 76))
  have hn := heap_alloc_new w (.cells #[.string ⟨#[100, 105, 118]⟩, .int .i64 d, .int .i64 a, .int .i64 b, .int .i64 imm] 76)
  rw [hbx] at hb hn
  have h2 := h.below hb
  have hlt := h.lt
  obtain ⟨ht, -⟩ := h2.top_at hs
  have HBS := Lib.hid hb
  have HB := Lib.hid (hb.mono (Nat.le_of_lt hlt))
  have HBX := Lib.hid hbx
  have HH := Lib.hid h2
  have e0 := cell_of_row _ _ 0 _ _ _ hn
  have e1 := cell_of_row _ _ 1 _ _ _ hn
  have e2 := cell_of_row _ _ 2 _ _ _ hn
  have e3 := cell_of_row _ _ 3 _ _ _ hn
  have e4 := cell_of_row _ _ 4 _ _ _ hn
  clear h h2 hb hbx hn ht hs hx
  go_enter Tryd.func43, Tryd.ntmps43
  go_upto_region 1 with fail
  change Code.wp _ _ _ _ (w.alloc (.cells #[.string ⟨#[100, 105, 118]⟩, .int .i64 d, .int .i64 a, .int .i64 b, .int .i64 imm] 76))
  rw [HBX.out]
  go_wp2_with fail
  go_quiet (fail)
  go_wp2_with fail
  go_ret
  exact ⟨rfl, grow_drew HBS.out _⟩

set_option maxHeartbeats 2000000 in
set_option maxRecDepth 100000 in
theorem move_rem (h : MaAt m A cf B cw C mb T s v u (ps ++ [p]) w) (hs : s.calls = cs ++ [x]) (hx : FrLen x) (d a b imm : Int) :
    Calls Tryd.prog 43 #[.pointer (some ⟨mb, 0, none⟩), .pointer (some ⟨p.1, 0, none⟩), .agg #[.string ⟨#[114, 101, 109]⟩, .int .i64 d, .int .i64 a, .int .i64 b, .int .i64 imm]] w
      (Ret (.bool false) w) := by
  obtain ⟨bx, hbx⟩ : ∃ bx, w.alloc (.cells #[.string ⟨#[114, 101, 109]⟩, .int .i64 d, .int .i64 a, .int .i64 b, .int .i64 imm] 76) = bx := ⟨_, rfl⟩
  have hb := (grow_alloc (grow_refl w) (.cells #[.string ⟨#[114, 101, 109]⟩, .int .i64 d, .int .i64 a, .int .i64 b, .int .i64 imm] 76))
  have hn := heap_alloc_new w (.cells #[.string ⟨#[114, 101, 109]⟩, .int .i64 d, .int .i64 a, .int .i64 b, .int .i64 imm] 76)
  rw [hbx] at hb hn
  have h2 := h.below hb
  have hlt := h.lt
  obtain ⟨ht, -⟩ := h2.top_at hs
  have HBS := Lib.hid hb
  have HB := Lib.hid (hb.mono (Nat.le_of_lt hlt))
  have HBX := Lib.hid hbx
  have HH := Lib.hid h2
  have e0 := cell_of_row _ _ 0 _ _ _ hn
  have e1 := cell_of_row _ _ 1 _ _ _ hn
  have e2 := cell_of_row _ _ 2 _ _ _ hn
  have e3 := cell_of_row _ _ 3 _ _ _ hn
  have e4 := cell_of_row _ _ 4 _ _ _ hn
  clear h h2 hb hbx hn ht hs hx
  go_enter Tryd.func43, Tryd.ntmps43
  go_upto_region 1 with fail
  change Code.wp _ _ _ _ (w.alloc (.cells #[.string ⟨#[114, 101, 109]⟩, .int .i64 d, .int .i64 a, .int .i64 b, .int .i64 imm] 76))
  rw [HBX.out]
  go_wp2_with fail
  go_quiet (fail)
  go_wp2_with fail
  go_ret
  exact ⟨rfl, grow_drew HBS.out _⟩

set_option maxHeartbeats 2000000 in
set_option maxRecDepth 100000 in
theorem move_and (h : MaAt m A cf B cw C mb T s v u (ps ++ [p]) w) (hs : s.calls = cs ++ [x]) (hx : FrLen x) (d a b imm : Int) :
    Calls Tryd.prog 43 #[.pointer (some ⟨mb, 0, none⟩), .pointer (some ⟨p.1, 0, none⟩), .agg #[.string ⟨#[97, 110, 100]⟩, .int .i64 d, .int .i64 a, .int .i64 b, .int .i64 imm]] w
      (Ret (.bool false) w) := by
  obtain ⟨bx, hbx⟩ : ∃ bx, w.alloc (.cells #[.string ⟨#[97, 110, 100]⟩, .int .i64 d, .int .i64 a, .int .i64 b, .int .i64 imm] 76) = bx := ⟨_, rfl⟩
  have hb := (grow_alloc (grow_refl w) (.cells #[.string ⟨#[97, 110, 100]⟩, .int .i64 d, .int .i64 a, .int .i64 b, .int .i64 imm] 76))
  have hn := heap_alloc_new w (.cells #[.string ⟨#[97, 110, 100]⟩, .int .i64 d, .int .i64 a, .int .i64 b, .int .i64 imm] 76)
  rw [hbx] at hb hn
  have h2 := h.below hb
  have hlt := h.lt
  obtain ⟨ht, -⟩ := h2.top_at hs
  have HBS := Lib.hid hb
  have HB := Lib.hid (hb.mono (Nat.le_of_lt hlt))
  have HBX := Lib.hid hbx
  have HH := Lib.hid h2
  have e0 := cell_of_row _ _ 0 _ _ _ hn
  have e1 := cell_of_row _ _ 1 _ _ _ hn
  have e2 := cell_of_row _ _ 2 _ _ _ hn
  have e3 := cell_of_row _ _ 3 _ _ _ hn
  have e4 := cell_of_row _ _ 4 _ _ _ hn
  clear h h2 hb hbx hn ht hs hx
  go_enter Tryd.func43, Tryd.ntmps43
  go_upto_region 1 with fail
  change Code.wp _ _ _ _ (w.alloc (.cells #[.string ⟨#[97, 110, 100]⟩, .int .i64 d, .int .i64 a, .int .i64 b, .int .i64 imm] 76))
  rw [HBX.out]
  go_wp2_with fail
  go_quiet (fail)
  go_wp2_with fail
  go_ret
  exact ⟨rfl, grow_drew HBS.out _⟩

set_option maxHeartbeats 2000000 in
set_option maxRecDepth 100000 in
theorem move_or (h : MaAt m A cf B cw C mb T s v u (ps ++ [p]) w) (hs : s.calls = cs ++ [x]) (hx : FrLen x) (d a b imm : Int) :
    Calls Tryd.prog 43 #[.pointer (some ⟨mb, 0, none⟩), .pointer (some ⟨p.1, 0, none⟩), .agg #[.string ⟨#[111, 114]⟩, .int .i64 d, .int .i64 a, .int .i64 b, .int .i64 imm]] w
      (Ret (.bool false) w) := by
  obtain ⟨bx, hbx⟩ : ∃ bx, w.alloc (.cells #[.string ⟨#[111, 114]⟩, .int .i64 d, .int .i64 a, .int .i64 b, .int .i64 imm] 76) = bx := ⟨_, rfl⟩
  have hb := (grow_alloc (grow_refl w) (.cells #[.string ⟨#[111, 114]⟩, .int .i64 d, .int .i64 a, .int .i64 b, .int .i64 imm] 76))
  have hn := heap_alloc_new w (.cells #[.string ⟨#[111, 114]⟩, .int .i64 d, .int .i64 a, .int .i64 b, .int .i64 imm] 76)
  rw [hbx] at hb hn
  have h2 := h.below hb
  have hlt := h.lt
  obtain ⟨ht, -⟩ := h2.top_at hs
  have HBS := Lib.hid hb
  have HB := Lib.hid (hb.mono (Nat.le_of_lt hlt))
  have HBX := Lib.hid hbx
  have HH := Lib.hid h2
  have e0 := cell_of_row _ _ 0 _ _ _ hn
  have e1 := cell_of_row _ _ 1 _ _ _ hn
  have e2 := cell_of_row _ _ 2 _ _ _ hn
  have e3 := cell_of_row _ _ 3 _ _ _ hn
  have e4 := cell_of_row _ _ 4 _ _ _ hn
  clear h h2 hb hbx hn ht hs hx
  go_enter Tryd.func43, Tryd.ntmps43
  go_upto_region 1 with fail
  change Code.wp _ _ _ _ (w.alloc (.cells #[.string ⟨#[111, 114]⟩, .int .i64 d, .int .i64 a, .int .i64 b, .int .i64 imm] 76))
  rw [HBX.out]
  go_wp2_with fail
  go_quiet (fail)
  go_wp2_with fail
  go_ret
  exact ⟨rfl, grow_drew HBS.out _⟩

set_option maxHeartbeats 2000000 in
set_option maxRecDepth 100000 in
theorem move_xor (h : MaAt m A cf B cw C mb T s v u (ps ++ [p]) w) (hs : s.calls = cs ++ [x]) (hx : FrLen x) (d a b imm : Int) :
    Calls Tryd.prog 43 #[.pointer (some ⟨mb, 0, none⟩), .pointer (some ⟨p.1, 0, none⟩), .agg #[.string ⟨#[120, 111, 114]⟩, .int .i64 d, .int .i64 a, .int .i64 b, .int .i64 imm]] w
      (Ret (.bool false) w) := by
  obtain ⟨bx, hbx⟩ : ∃ bx, w.alloc (.cells #[.string ⟨#[120, 111, 114]⟩, .int .i64 d, .int .i64 a, .int .i64 b, .int .i64 imm] 76) = bx := ⟨_, rfl⟩
  have hb := (grow_alloc (grow_refl w) (.cells #[.string ⟨#[120, 111, 114]⟩, .int .i64 d, .int .i64 a, .int .i64 b, .int .i64 imm] 76))
  have hn := heap_alloc_new w (.cells #[.string ⟨#[120, 111, 114]⟩, .int .i64 d, .int .i64 a, .int .i64 b, .int .i64 imm] 76)
  rw [hbx] at hb hn
  have h2 := h.below hb
  have hlt := h.lt
  obtain ⟨ht, -⟩ := h2.top_at hs
  have HBS := Lib.hid hb
  have HB := Lib.hid (hb.mono (Nat.le_of_lt hlt))
  have HBX := Lib.hid hbx
  have HH := Lib.hid h2
  have e0 := cell_of_row _ _ 0 _ _ _ hn
  have e1 := cell_of_row _ _ 1 _ _ _ hn
  have e2 := cell_of_row _ _ 2 _ _ _ hn
  have e3 := cell_of_row _ _ 3 _ _ _ hn
  have e4 := cell_of_row _ _ 4 _ _ _ hn
  clear h h2 hb hbx hn ht hs hx
  go_enter Tryd.func43, Tryd.ntmps43
  go_upto_region 1 with fail
  change Code.wp _ _ _ _ (w.alloc (.cells #[.string ⟨#[120, 111, 114]⟩, .int .i64 d, .int .i64 a, .int .i64 b, .int .i64 imm] 76))
  rw [HBX.out]
  go_wp2_with fail
  go_quiet (fail)
  go_wp2_with fail
  go_ret
  exact ⟨rfl, grow_drew HBS.out _⟩

set_option maxHeartbeats 2000000 in
set_option maxRecDepth 100000 in
theorem move_shl (h : MaAt m A cf B cw C mb T s v u (ps ++ [p]) w) (hs : s.calls = cs ++ [x]) (hx : FrLen x) (d a b imm : Int) :
    Calls Tryd.prog 43 #[.pointer (some ⟨mb, 0, none⟩), .pointer (some ⟨p.1, 0, none⟩), .agg #[.string ⟨#[115, 104, 108]⟩, .int .i64 d, .int .i64 a, .int .i64 b, .int .i64 imm]] w
      (Ret (.bool false) w) := by
  obtain ⟨bx, hbx⟩ : ∃ bx, w.alloc (.cells #[.string ⟨#[115, 104, 108]⟩, .int .i64 d, .int .i64 a, .int .i64 b, .int .i64 imm] 76) = bx := ⟨_, rfl⟩
  have hb := (grow_alloc (grow_refl w) (.cells #[.string ⟨#[115, 104, 108]⟩, .int .i64 d, .int .i64 a, .int .i64 b, .int .i64 imm] 76))
  have hn := heap_alloc_new w (.cells #[.string ⟨#[115, 104, 108]⟩, .int .i64 d, .int .i64 a, .int .i64 b, .int .i64 imm] 76)
  rw [hbx] at hb hn
  have h2 := h.below hb
  have hlt := h.lt
  obtain ⟨ht, -⟩ := h2.top_at hs
  have HBS := Lib.hid hb
  have HB := Lib.hid (hb.mono (Nat.le_of_lt hlt))
  have HBX := Lib.hid hbx
  have HH := Lib.hid h2
  have e0 := cell_of_row _ _ 0 _ _ _ hn
  have e1 := cell_of_row _ _ 1 _ _ _ hn
  have e2 := cell_of_row _ _ 2 _ _ _ hn
  have e3 := cell_of_row _ _ 3 _ _ _ hn
  have e4 := cell_of_row _ _ 4 _ _ _ hn
  clear h h2 hb hbx hn ht hs hx
  go_enter Tryd.func43, Tryd.ntmps43
  go_upto_region 1 with fail
  change Code.wp _ _ _ _ (w.alloc (.cells #[.string ⟨#[115, 104, 108]⟩, .int .i64 d, .int .i64 a, .int .i64 b, .int .i64 imm] 76))
  rw [HBX.out]
  go_wp2_with fail
  go_quiet (fail)
  go_wp2_with fail
  go_ret
  exact ⟨rfl, grow_drew HBS.out _⟩

set_option maxHeartbeats 2000000 in
set_option maxRecDepth 100000 in
theorem move_shr (h : MaAt m A cf B cw C mb T s v u (ps ++ [p]) w) (hs : s.calls = cs ++ [x]) (hx : FrLen x) (d a b imm : Int) :
    Calls Tryd.prog 43 #[.pointer (some ⟨mb, 0, none⟩), .pointer (some ⟨p.1, 0, none⟩), .agg #[.string ⟨#[115, 104, 114]⟩, .int .i64 d, .int .i64 a, .int .i64 b, .int .i64 imm]] w
      (Ret (.bool false) w) := by
  obtain ⟨bx, hbx⟩ : ∃ bx, w.alloc (.cells #[.string ⟨#[115, 104, 114]⟩, .int .i64 d, .int .i64 a, .int .i64 b, .int .i64 imm] 76) = bx := ⟨_, rfl⟩
  have hb := (grow_alloc (grow_refl w) (.cells #[.string ⟨#[115, 104, 114]⟩, .int .i64 d, .int .i64 a, .int .i64 b, .int .i64 imm] 76))
  have hn := heap_alloc_new w (.cells #[.string ⟨#[115, 104, 114]⟩, .int .i64 d, .int .i64 a, .int .i64 b, .int .i64 imm] 76)
  rw [hbx] at hb hn
  have h2 := h.below hb
  have hlt := h.lt
  obtain ⟨ht, -⟩ := h2.top_at hs
  have HBS := Lib.hid hb
  have HB := Lib.hid (hb.mono (Nat.le_of_lt hlt))
  have HBX := Lib.hid hbx
  have HH := Lib.hid h2
  have e0 := cell_of_row _ _ 0 _ _ _ hn
  have e1 := cell_of_row _ _ 1 _ _ _ hn
  have e2 := cell_of_row _ _ 2 _ _ _ hn
  have e3 := cell_of_row _ _ 3 _ _ _ hn
  have e4 := cell_of_row _ _ 4 _ _ _ hn
  clear h h2 hb hbx hn ht hs hx
  go_enter Tryd.func43, Tryd.ntmps43
  go_upto_region 1 with fail
  change Code.wp _ _ _ _ (w.alloc (.cells #[.string ⟨#[115, 104, 114]⟩, .int .i64 d, .int .i64 a, .int .i64 b, .int .i64 imm] 76))
  rw [HBX.out]
  go_wp2_with fail
  go_quiet (fail)
  go_wp2_with fail
  go_ret
  exact ⟨rfl, grow_drew HBS.out _⟩

set_option maxHeartbeats 2000000 in
set_option maxRecDepth 100000 in
theorem move_less (h : MaAt m A cf B cw C mb T s v u (ps ++ [p]) w) (hs : s.calls = cs ++ [x]) (hx : FrLen x) (d a b imm : Int) :
    Calls Tryd.prog 43 #[.pointer (some ⟨mb, 0, none⟩), .pointer (some ⟨p.1, 0, none⟩), .agg #[.string ⟨#[108, 101, 115, 115]⟩, .int .i64 d, .int .i64 a, .int .i64 b, .int .i64 imm]] w
      (Ret (.bool false) w) := by
  obtain ⟨bx, hbx⟩ : ∃ bx, w.alloc (.cells #[.string ⟨#[108, 101, 115, 115]⟩, .int .i64 d, .int .i64 a, .int .i64 b, .int .i64 imm] 76) = bx := ⟨_, rfl⟩
  have hb := (grow_alloc (grow_refl w) (.cells #[.string ⟨#[108, 101, 115, 115]⟩, .int .i64 d, .int .i64 a, .int .i64 b, .int .i64 imm] 76))
  have hn := heap_alloc_new w (.cells #[.string ⟨#[108, 101, 115, 115]⟩, .int .i64 d, .int .i64 a, .int .i64 b, .int .i64 imm] 76)
  rw [hbx] at hb hn
  have h2 := h.below hb
  have hlt := h.lt
  obtain ⟨ht, -⟩ := h2.top_at hs
  have HBS := Lib.hid hb
  have HB := Lib.hid (hb.mono (Nat.le_of_lt hlt))
  have HBX := Lib.hid hbx
  have HH := Lib.hid h2
  have e0 := cell_of_row _ _ 0 _ _ _ hn
  have e1 := cell_of_row _ _ 1 _ _ _ hn
  have e2 := cell_of_row _ _ 2 _ _ _ hn
  have e3 := cell_of_row _ _ 3 _ _ _ hn
  have e4 := cell_of_row _ _ 4 _ _ _ hn
  clear h h2 hb hbx hn ht hs hx
  go_enter Tryd.func43, Tryd.ntmps43
  go_upto_region 1 with fail
  change Code.wp _ _ _ _ (w.alloc (.cells #[.string ⟨#[108, 101, 115, 115]⟩, .int .i64 d, .int .i64 a, .int .i64 b, .int .i64 imm] 76))
  rw [HBX.out]
  go_wp2_with fail
  go_quiet (fail)
  go_wp2_with fail
  go_ret
  exact ⟨rfl, grow_drew HBS.out _⟩

set_option maxHeartbeats 2000000 in
set_option maxRecDepth 100000 in
theorem move_most (h : MaAt m A cf B cw C mb T s v u (ps ++ [p]) w) (hs : s.calls = cs ++ [x]) (hx : FrLen x) (d a b imm : Int) :
    Calls Tryd.prog 43 #[.pointer (some ⟨mb, 0, none⟩), .pointer (some ⟨p.1, 0, none⟩), .agg #[.string ⟨#[109, 111, 115, 116]⟩, .int .i64 d, .int .i64 a, .int .i64 b, .int .i64 imm]] w
      (Ret (.bool false) w) := by
  obtain ⟨bx, hbx⟩ : ∃ bx, w.alloc (.cells #[.string ⟨#[109, 111, 115, 116]⟩, .int .i64 d, .int .i64 a, .int .i64 b, .int .i64 imm] 76) = bx := ⟨_, rfl⟩
  have hb := (grow_alloc (grow_refl w) (.cells #[.string ⟨#[109, 111, 115, 116]⟩, .int .i64 d, .int .i64 a, .int .i64 b, .int .i64 imm] 76))
  have hn := heap_alloc_new w (.cells #[.string ⟨#[109, 111, 115, 116]⟩, .int .i64 d, .int .i64 a, .int .i64 b, .int .i64 imm] 76)
  rw [hbx] at hb hn
  have h2 := h.below hb
  have hlt := h.lt
  obtain ⟨ht, -⟩ := h2.top_at hs
  have HBS := Lib.hid hb
  have HB := Lib.hid (hb.mono (Nat.le_of_lt hlt))
  have HBX := Lib.hid hbx
  have HH := Lib.hid h2
  have e0 := cell_of_row _ _ 0 _ _ _ hn
  have e1 := cell_of_row _ _ 1 _ _ _ hn
  have e2 := cell_of_row _ _ 2 _ _ _ hn
  have e3 := cell_of_row _ _ 3 _ _ _ hn
  have e4 := cell_of_row _ _ 4 _ _ _ hn
  clear h h2 hb hbx hn ht hs hx
  go_enter Tryd.func43, Tryd.ntmps43
  go_upto_region 1 with fail
  change Code.wp _ _ _ _ (w.alloc (.cells #[.string ⟨#[109, 111, 115, 116]⟩, .int .i64 d, .int .i64 a, .int .i64 b, .int .i64 imm] 76))
  rw [HBX.out]
  go_wp2_with fail
  go_quiet (fail)
  go_wp2_with fail
  go_ret
  exact ⟨rfl, grow_drew HBS.out _⟩

set_option maxHeartbeats 2000000 in
set_option maxRecDepth 100000 in
theorem move_same (h : MaAt m A cf B cw C mb T s v u (ps ++ [p]) w) (hs : s.calls = cs ++ [x]) (hx : FrLen x) (d a b imm : Int) :
    Calls Tryd.prog 43 #[.pointer (some ⟨mb, 0, none⟩), .pointer (some ⟨p.1, 0, none⟩), .agg #[.string ⟨#[115, 97, 109, 101]⟩, .int .i64 d, .int .i64 a, .int .i64 b, .int .i64 imm]] w
      (Ret (.bool false) w) := by
  obtain ⟨bx, hbx⟩ : ∃ bx, w.alloc (.cells #[.string ⟨#[115, 97, 109, 101]⟩, .int .i64 d, .int .i64 a, .int .i64 b, .int .i64 imm] 76) = bx := ⟨_, rfl⟩
  have hb := (grow_alloc (grow_refl w) (.cells #[.string ⟨#[115, 97, 109, 101]⟩, .int .i64 d, .int .i64 a, .int .i64 b, .int .i64 imm] 76))
  have hn := heap_alloc_new w (.cells #[.string ⟨#[115, 97, 109, 101]⟩, .int .i64 d, .int .i64 a, .int .i64 b, .int .i64 imm] 76)
  rw [hbx] at hb hn
  have h2 := h.below hb
  have hlt := h.lt
  obtain ⟨ht, -⟩ := h2.top_at hs
  have HBS := Lib.hid hb
  have HB := Lib.hid (hb.mono (Nat.le_of_lt hlt))
  have HBX := Lib.hid hbx
  have HH := Lib.hid h2
  have e0 := cell_of_row _ _ 0 _ _ _ hn
  have e1 := cell_of_row _ _ 1 _ _ _ hn
  have e2 := cell_of_row _ _ 2 _ _ _ hn
  have e3 := cell_of_row _ _ 3 _ _ _ hn
  have e4 := cell_of_row _ _ 4 _ _ _ hn
  clear h h2 hb hbx hn ht hs hx
  go_enter Tryd.func43, Tryd.ntmps43
  go_upto_region 1 with fail
  change Code.wp _ _ _ _ (w.alloc (.cells #[.string ⟨#[115, 97, 109, 101]⟩, .int .i64 d, .int .i64 a, .int .i64 b, .int .i64 imm] 76))
  rw [HBX.out]
  go_wp2_with fail
  go_quiet (fail)
  go_wp2_with fail
  go_ret
  exact ⟨rfl, grow_drew HBS.out _⟩

set_option maxHeartbeats 2000000 in
set_option maxRecDepth 100000 in
theorem move_other (h : MaAt m A cf B cw C mb T s v u (ps ++ [p]) w) (hs : s.calls = cs ++ [x]) (hx : FrLen x) (d a b imm : Int) :
    Calls Tryd.prog 43 #[.pointer (some ⟨mb, 0, none⟩), .pointer (some ⟨p.1, 0, none⟩), .agg #[.string ⟨#[111, 116, 104, 101, 114]⟩, .int .i64 d, .int .i64 a, .int .i64 b, .int .i64 imm]] w
      (Ret (.bool false) w) := by
  obtain ⟨bx, hbx⟩ : ∃ bx, w.alloc (.cells #[.string ⟨#[111, 116, 104, 101, 114]⟩, .int .i64 d, .int .i64 a, .int .i64 b, .int .i64 imm] 76) = bx := ⟨_, rfl⟩
  have hb := (grow_alloc (grow_refl w) (.cells #[.string ⟨#[111, 116, 104, 101, 114]⟩, .int .i64 d, .int .i64 a, .int .i64 b, .int .i64 imm] 76))
  have hn := heap_alloc_new w (.cells #[.string ⟨#[111, 116, 104, 101, 114]⟩, .int .i64 d, .int .i64 a, .int .i64 b, .int .i64 imm] 76)
  rw [hbx] at hb hn
  have h2 := h.below hb
  have hlt := h.lt
  obtain ⟨ht, -⟩ := h2.top_at hs
  have HBS := Lib.hid hb
  have HB := Lib.hid (hb.mono (Nat.le_of_lt hlt))
  have HBX := Lib.hid hbx
  have HH := Lib.hid h2
  have e0 := cell_of_row _ _ 0 _ _ _ hn
  have e1 := cell_of_row _ _ 1 _ _ _ hn
  have e2 := cell_of_row _ _ 2 _ _ _ hn
  have e3 := cell_of_row _ _ 3 _ _ _ hn
  have e4 := cell_of_row _ _ 4 _ _ _ hn
  clear h h2 hb hbx hn ht hs hx
  go_enter Tryd.func43, Tryd.ntmps43
  go_upto_region 1 with fail
  change Code.wp _ _ _ _ (w.alloc (.cells #[.string ⟨#[111, 116, 104, 101, 114]⟩, .int .i64 d, .int .i64 a, .int .i64 b, .int .i64 imm] 76))
  rw [HBX.out]
  go_wp2_with fail
  go_quiet (fail)
  go_wp2_with fail
  go_ret
  exact ⟨rfl, grow_drew HBS.out _⟩

end
end Go.Proofs.YtgoifbkogboppaaDoor
