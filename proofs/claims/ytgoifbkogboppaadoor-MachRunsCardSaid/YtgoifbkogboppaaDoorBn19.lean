import Derived.Test.YtgoifbkogboppaaDoorBn15
import Derived.Test.YtgoifbkogboppaaDoorBn18
set_option linter.unusedVariables false
set_option linter.unusedSimpArgs false
namespace Go.Proofs.YtgoifbkogboppaaDoor
open Go.RowKit

/-! the machine: move (printed by gen_mach.py) -/
section
variable {m : PImg} {A : Option Addr} {cf : Nat} {B : Option Addr} {cw : Nat} {C : Value} {mb T : Nat} {s : PMs} {v u : Value} {ps : List (Nat × Nat)} {p : Nat × Nat} {cs : List PFr} {x y : PFr} {w w' : World}

set_option maxHeartbeats 2000000 in
set_option maxRecDepth 100000 in
theorem move_high (h : MaAt m A cf B cw C mb T s v u (ps ++ [p]) w) (hs : s.calls = cs ++ [x]) (hx : FrLen x) (d : Nat) (hd : d < 8) (a b imm : Int) :
    Calls Tryd.prog 43 #[.pointer (some ⟨mb, 0, none⟩), .pointer (some ⟨p.1, 0, none⟩), .agg #[.string ⟨#[104, 105, 103, 104]⟩, .int .i64 d, .int .i64 a, .int .i64 b, .int .i64 imm]] w
      (MvPost m A cf B cw C mb T (topM (putM x d (highP (regM x d) imm)) s) v u (ps ++ [p]) true w) := by
  obtain ⟨bx, hbx⟩ : ∃ bx, w.alloc (.cells #[.string ⟨#[104, 105, 103, 104]⟩, .int .i64 d, .int .i64 a, .int .i64 b, .int .i64 imm] 76) = bx := ⟨_, rfl⟩
  have hb := (grow_alloc (grow_refl w) (.cells #[.string ⟨#[104, 105, 103, 104]⟩, .int .i64 d, .int .i64 a, .int .i64 b, .int .i64 imm] 76))
  have hn := heap_alloc_new w (.cells #[.string ⟨#[104, 105, 103, 104]⟩, .int .i64 d, .int .i64 a, .int .i64 b, .int .i64 imm] 76)
  rw [hbx] at hb hn
  have h2 := h.below hb
  have hlt := h.lt
  obtain ⟨ht, -⟩ := h2.top_at hs
  have hd0 : (0 : Int) ≤ d := by omega
  have hd1 : (d : Int) < 8 := by omega
  have r1 : bx.cell? ⟨p.1, 4 + d, none⟩ = some (.int .i64 (regM x d)) := ht.cell (frL_r hx hd)
  have z1 := row_frozen ht.blk (4 + d)
  have R1 := Lib.hid r1
  have Z1 := Lib.hid z1
  clear r1 z1
  have hst := fun n => (h2.drewN n).frStore hs (y := putM x d (highP (regM x d) imm)) (.int .i64 (highP (regM x d) imm)) (frL_setR hx hd _) rfl
  have HST := Lib.hid hst
  have HBS := Lib.hid hb
  have HB := Lib.hid (hb.mono (Nat.le_of_lt hlt))
  have HBX := Lib.hid hbx
  have HH := Lib.hid h2
  have e0 := cell_of_row _ _ 0 _ _ _ hn
  have e1 := cell_of_row _ _ 1 _ _ _ hn
  have e2 := cell_of_row _ _ 2 _ _ _ hn
  have e3 := cell_of_row _ _ 3 _ _ _ hn
  have e4 := cell_of_row _ _ 4 _ _ _ hn
  clear h h2 hst hb hbx hn ht hs hx
  go_enter Tryd.func43, Tryd.ntmps43
  go_upto_region 1 with fail
  change Code.wp _ _ _ _ (w.alloc (.cells #[.string ⟨#[104, 105, 103, 104]⟩, .int .i64 d, .int .i64 a, .int .i64 b, .int .i64 imm] 76))
  rw [HBX.out]
  go_wp2_with fail
  go_quiet (fail)
  have r1 := R1.out
  have z1 := Z1.out
  go_wp2_with fail
  go_region
  go_wp2_with fail
  go_ret
  rw [high_eq]
  exact ⟨rfl, (HST.out _).1, HB.out.trans ((below_drewN (Below.refl _ _) _).trans (HST.out _).2)⟩

end
end Go.Proofs.YtgoifbkogboppaaDoor
