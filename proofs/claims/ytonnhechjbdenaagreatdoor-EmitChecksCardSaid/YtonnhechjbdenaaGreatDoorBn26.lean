import Derived.Maps.AppendAt
import Derived.Deep.AppendLies
import Derived.Laws.OwnMore
import Derived.Deep.RegionHeld3
import Derived.Test.YtonnhechjbdenaaGreatDoorBn25
import Derived.Test.YtonnhechjbdenaaGreatDoorBn5
import Derived.Test.YtonnhechjbdenaaGreatDoorBn7
import Derived.Test.YtonnhechjbdenaaGreatDoorBn3
import Derived.Test.YtonnhechjbdenaaGreatDoorBn23
import Derived.Test.YtonnhechjbdenaaGreatDoorBn21
set_option linter.unusedVariables false
set_option linter.unusedSimpArgs false
namespace Go.Proofs.YtonnhechjbdenaaGreatDoor
open Go.RowKit

/-! the machine: move (printed by gen_mach.py) -/
section
variable {m : PImg} {A : Option Addr} {cf : Nat} {B : Option Addr} {cw : Nat} {C : Value} {mb T : Nat} {s : PMs} {v u : Value} {ps : List (Nat × Nat)} {p : Nat × Nat} {cs : List PFr} {x y : PFr} {w w' : World}
end
end Go.Proofs.YtonnhechjbdenaaGreatDoor

namespace Go.Proofs.YtonnhechjbdenaaGreatDoor
open Go.RowKit

/-! the machine: back -/
theorem own_cut {w : World} {base g n cap : Nat} {e : TypeId} {xs : List Value} (h : w.ownsRow base e 1 (.slice (some ⟨g, 0, none⟩) (n + 1) cap) (n + 1) xs) : w.ownsRow base e 1 (.slice (some ⟨g, 0, none⟩) n cap) n (xs.take n) := by
  have hl := h.1
  refine ⟨by rw [List.length_take]; omega, .inr ?_⟩
  rcases h.2 with ⟨q, _⟩ | ⟨g', cap', cur, q1, q2, q3, q4, q5, q6, q7⟩
  · cases q
  · injection q1 with q1 _ q8
    injection q1 with q1
    injection q1 with q1
    subst q1; subst q8
    refine ⟨g, cap, cur, rfl, q2, q3, by omega, q5, q6, ?_⟩
    rw [← q7, List.take_take]
    congr 1
    omega
theorem own_some {w : World} {base n : Nat} {e : TypeId} {u : Value} {xs : List Value} (h : w.ownsRow base e 1 u (n + 1) xs) : ∃ g cap, u = .slice (some ⟨g, 0, none⟩) (n + 1) cap ∧ n + 1 ≤ cap ∧ ∀ j z, xs[j]? = some z → w.cell? ⟨g, j, none⟩ = some z := by
  rcases h.2 with ⟨_, q⟩ | ⟨g, cap, cur, q1, q2, q3, q4, q5, q6, q7⟩
  · omega
  · refine ⟨g, cap, q1, q4, fun j z hj => ?_⟩
    rw [← q7, List.getElem?_take] at hj
    split at hj
    · rw [cell_of_row _ _ j _ _ _ q3, ← Array.getElem?_toList]; exact hj
    · cases hj
section
variable {m : PImg} {A : Option Addr} {cf : Nat} {B : Option Addr} {cw : Nat} {C : Value} {mb T : Nat} {s : PMs} {v u : Value} {ps : List (Nat × Nat)} {p : Nat × Nat} {cs : List PFr} {x y : PFr} {w w' : World}
end
end Go.Proofs.YtonnhechjbdenaaGreatDoor

namespace Go.Proofs.YtonnhechjbdenaaGreatDoor
open Go.RowKit

/-! the machine: call -/
def slO (n : Nat) : Obj := .cells (intVs (List.replicate n 0)).toArray 3
theorem made_zero (n : Nat) : madeCells #[Value.int .i64 0] n = (intVs (List.replicate n 0)).toArray := by
  apply Array.ext
  · simp [intVs, size_madeCells]
  · intro i h1 h2
    simp [intVs, madeCells, Nat.mod_one]
theorem make_ints (n : Nat) (hn : n ≤ 1000) (w : World) : (Instr.makeSlice 23 (.int .i64 n) (.int .i64 n)).run Tryz.prog w = .ok (.slice (some ⟨w.heap.size, 0, none⟩) n n) (w.alloc (slO n)) := by
  obtain ⟨i0, hi, hz0, hz1, hz2⟩ := info_parts intInfo
  have h := run_makeSlice (P := Tryz.prog) (w := w) 23 3 i0 (.int .i64 0) Tryz.underlying23 hi hz0 .i64 .i64 n n (by omega) (by omega) (by rw [hz1]; simp; omega) (by rw [hz2]; omega) (by omega)
  rw [h, hz1]
  simp only [Int.toNat_natCast, Nat.mul_one]
  unfold slO
  rw [← made_zero]
  rfl
section
variable {m : PImg} {A : Option Addr} {cf : Nat} {B : Option Addr} {cw : Nat} {C : Value} {mb T : Nat} {s : PMs} {v u : Value} {fbs : List (Nat × Nat)} {w w' : World} {f : PFn} {d : Nat} {args : List Int}
theorem push_old {wr w4 : World} {o1 o2 o3 : Obj} {r : Option Nat} (hg : (((wr.drew.alloc o1).alloc o2).alloc o3).grownBy w4 r) : ∀ k, k < wr.heap.size → r ≠ some k → w4.heap[k]? = wr.heap[k]? := fun k hk hn => by
  rw [hg.block k (by show k < (((wr.drew.alloc o1).alloc o2).alloc o3).heap.size; simp; omega) (fun e => hn e.symm)]
  exact (old_block _ _ (by show k < ((wr.drew.alloc o1).alloc o2).heap.size; simp; omega)).trans ((old_block _ _ (by show k < (wr.drew.alloc o1).heap.size; simp; omega)).trans (old_block wr.drew _ hk))
theorem row44 {q p : Nat} {v0 v1 v2 v3 u0 u1 u2 u3 : Value} {T1 T2 : TypeId} {z1 z2 : Nat × Nat} (h : w.heap[q]? = some (.cells #[v0, v1, v2, v3] T1 z1)) (h' : w.heap[p]? = some (.cells #[u0, u1, u2, u3] T2 z2)) :
    w.cell? ⟨q, 0, none⟩ = some v0 ∧ w.cell? ⟨q, 1, none⟩ = some v1 ∧ w.cell? ⟨q, 2, none⟩ = some v2 ∧ w.cell? ⟨q, 3, none⟩ = some v3 ∧ w.cell? ⟨p, 0, none⟩ = some u0 ∧ w.cell? ⟨p, 1, none⟩ = some u1 ∧ w.cell? ⟨p, 2, none⟩ = some u2 ∧ w.cell? ⟨p, 3, none⟩ = some u3 :=
  ⟨cell_of_row _ _ 0 _ _ _ h, cell_of_row _ _ 1 _ _ _ h, cell_of_row _ _ 2 _ _ _ h, cell_of_row _ _ 3 _ _ _ h, cell_of_row _ _ 0 _ _ _ h', cell_of_row _ _ 1 _ _ _ h', cell_of_row _ _ 2 _ _ _ h', cell_of_row _ _ 3 _ _ _ h'⟩
end
end Go.Proofs.YtonnhechjbdenaaGreatDoor

namespace Go.Proofs.YtonnhechjbdenaaGreatDoor
open Go.RowKit

/-! the machine: call, whole -/
section
variable {m : PImg} {A : Option Addr} {cf : Nat} {B : Option Addr} {cw : Nat} {C : Value} {mb T : Nat} {s : PMs} {v u : Value} {fbs : List (Nat × Nat)} {w w' : World} {d : Nat}
end
end Go.Proofs.YtonnhechjbdenaaGreatDoor

namespace Go.Proofs.YtonnhechjbdenaaGreatDoor
open Go.RowKit

/-! the machine: flow (printed by gen_flow.py) -/
section
variable {m : PImg} {A : Option Addr} {cf : Nat} {B : Option Addr} {cw : Nat} {C : Value} {mb T : Nat} {s : PMs} {v u : Value} {ps : List (Nat × Nat)} {p : Nat × Nat} {cs : List PFr} {x y : PFr} {w w' : World}
end
end Go.Proofs.YtonnhechjbdenaaGreatDoor

namespace Go.Proofs.YtonnhechjbdenaaGreatDoor
open Go.RowKit

/-! the machine: flow at a call -/
section
variable {m : PImg} {A : Option Addr} {cf : Nat} {B : Option Addr} {cw : Nat} {C : Value} {mb T : Nat} {s : PMs} {v u : Value} {ps : List (Nat × Nat)} {p : Nat × Nat} {cs : List PFr} {x y : PFr} {w w' : World}
def zeroW (p : Nat) (w : World) : World := (((w.setCell ⟨p, 17, none⟩ (.int .i64 0)).setCell ⟨p, 18, none⟩ (.int .i64 0)).setCell ⟨p, 19, none⟩ (.int .i64 0)).setCell ⟨p, 20, none⟩ (.int .i64 0)
theorem zeroW_heap {q k : Nat} (hk : k ≠ q) : (zeroW q w).heap[k]? = w.heap[k]? := by
  unfold zeroW
  exact (Below.heap_setCell _ _ _ _ hk).trans ((Below.heap_setCell _ _ _ _ hk).trans ((Below.heap_setCell _ _ _ _ hk).trans (Below.heap_setCell _ _ _ _ hk)))
end
end Go.Proofs.YtonnhechjbdenaaGreatDoor

namespace Go.Proofs.YtonnhechjbdenaaGreatDoor
open Go.RowKit

/-! the machine: flow, move and sum of any right instruction -/
section
variable {m : PImg} {A : Option Addr} {cf : Nat} {B : Option Addr} {cw : Nat} {C : Value} {mb T : Nat} {s : PMs} {v u : Value} {ps : List (Nat × Nat)} {p : Nat × Nat} {cs : List PFr} {x y : PFr} {w w' : World} {i : PIns}
end
end Go.Proofs.YtonnhechjbdenaaGreatDoor

namespace Go.Proofs.YtonnhechjbdenaaGreatDoor
open Go.RowKit

/-! the upper half of a number, and the lower one -/
end Go.Proofs.YtonnhechjbdenaaGreatDoor

namespace Go.Proofs.YtonnhechjbdenaaGreatDoor
open Go.RowKit

/-! the machine: move (printed by gen_mach.py) -/
section
variable {m : PImg} {A : Option Addr} {cf : Nat} {B : Option Addr} {cw : Nat} {C : Value} {mb T : Nat} {s : PMs} {v u : Value} {ps : List (Nat × Nat)} {p : Nat × Nat} {cs : List PFr} {x y : PFr} {w w' : World}

end
end Go.Proofs.YtonnhechjbdenaaGreatDoor

namespace Go.Proofs.YtonnhechjbdenaaGreatDoor
open Go.RowKit

/-! the machine: move of any right instruction -/
section
variable {m : PImg} {A : Option Addr} {cf : Nat} {B : Option Addr} {cw : Nat} {C : Value} {mb T : Nat} {s : PMs} {v u : Value} {ps : List (Nat × Nat)} {p : Nat × Nat} {cs : List PFr} {x y : PFr} {w w' : World} {i : PIns}
end
end Go.Proofs.YtonnhechjbdenaaGreatDoor

namespace Go.Proofs.YtonnhechjbdenaaGreatDoor
open Go.RowKit

/-! code.Three at the ops that it knows -/
/-! loads under a name, for mach.sum -/
def ldS44 : Op := Op.load 3 (Operand.tmp 44)
@[go_sem] theorem ldS44_eq : ldS44 = Op.load 3 (Operand.tmp 44) := rfl
def ldS63 : Op := Op.load 3 (Operand.tmp 63)
@[go_sem] theorem ldS63_eq : ldS63 = Op.load 3 (Operand.tmp 63) := rfl
def ldS18 : Op := Op.load 3 (Operand.tmp 18)
@[go_sem] theorem ldS18_eq : ldS18 = Op.load 3 (Operand.tmp 18) := rfl
def ldS25 : Op := Op.load 3 (Operand.tmp 25)
@[go_sem] theorem ldS25_eq : ldS25 = Op.load 3 (Operand.tmp 25) := rfl
end Go.Proofs.YtonnhechjbdenaaGreatDoor

namespace Go.Proofs.YtonnhechjbdenaaGreatDoor
open Go.RowKit

/-! the machine: sum (printed by gen_sum.py) -/
section
variable {m : PImg} {A : Option Addr} {cf : Nat} {B : Option Addr} {cw : Nat} {C : Value} {mb T : Nat} {s : PMs} {v u : Value} {ps : List (Nat × Nat)} {p : Nat × Nat} {cs : List PFr} {x y : PFr} {w w' : World}
end
end Go.Proofs.YtonnhechjbdenaaGreatDoor

namespace Go.Proofs.YtonnhechjbdenaaGreatDoor
open Go.RowKit

/-! the machine: sum, more ops (printed by gen_sum.py) -/
section
variable {m : PImg} {A : Option Addr} {cf : Nat} {B : Option Addr} {cw : Nat} {C : Value} {mb T : Nat} {s : PMs} {v u : Value} {ps : List (Nat × Nat)} {p : Nat × Nat} {cs : List PFr} {x y : PFr} {w w' : World}
end
end Go.Proofs.YtonnhechjbdenaaGreatDoor

namespace Go.Proofs.YtonnhechjbdenaaGreatDoor
open Go.RowKit

/-! the machine: sum of any right instruction -/
section
variable {m : PImg} {A : Option Addr} {cf : Nat} {B : Option Addr} {cw : Nat} {C : Value} {mb T : Nat} {s : PMs} {v u : Value} {ps : List (Nat × Nat)} {p : Nat × Nat} {cs : List PFr} {x y : PFr} {w w' : World} {i : PIns}
end
end Go.Proofs.YtonnhechjbdenaaGreatDoor

namespace Go.Proofs.YtonnhechjbdenaaGreatDoor
open Go.RowKit

/-! the machine: a step -/
theorem calls_split {s : PMs} (h : s.calls ≠ []) : ∃ cs x, s.calls = cs ++ [x] ∧ s.top = x := by
  refine ⟨s.calls.dropLast, s.calls.getLast h, (List.dropLast_concat_getLast h).symm, ?_⟩
  unfold PMs.top
  rw [List.getLastD_eq_getLast?, List.getLast?_eq_some_getLast h]
  rfl
section
variable {m : PImg} {A : Option Addr} {cf : Nat} {B : Option Addr} {cw : Nat} {C : Value} {mb T : Nat} {s : PMs} {v u : Value} {fbs ps : List (Nat × Nat)} {p : Nat × Nat} {cs : List PFr} {x y : PFr} {w w' : World} {i : PIns}
end
end Go.Proofs.YtonnhechjbdenaaGreatDoor

namespace Go.Proofs.YtonnhechjbdenaaGreatDoor
open Go.RowKit

/-! mach.Run: its faults -/
abbrev Oc4 := Txt × Int × List Int × Nat
def ocM (o : Oc4) (A : Option Addr) (c : Nat) : Value := .agg #[.string (mkB o.1), .int .i64 o.2.1, .slice A o.2.2.1.length c, .int .i64 o.2.2.2]
/-- A row whose block is not below n. -/
def RowUp (n : Nat) (w : World) (A : Option Addr) (xs : List Value) : Prop := Row w A xs ∧ ∀ a, A = some a → n ≤ a.block
theorem RowUp.nil (n : Nat) (w : World) : RowUp n w none [] := ⟨Row.nil _ _, fun _ h => by cases h⟩
theorem set4m {w : World} {q : Nat} {a0 a1 a2 a3 v0 v1 v2 v3 : Value} {T : TypeId} {fz : Nat × Nat} (h : w.heap[q]? = some (.cells #[a0, a1, a2, a3] T fz)) :
    ((((w.setCell ⟨q, 0, none⟩ v0).setCell ⟨q, 1, none⟩ v1).setCell ⟨q, 2, none⟩ v2).setCell ⟨q, 3, none⟩ v3).heap[q]? = some (.cells #[v0, v1, v2, v3] T fz) :=
  row_set (j := 3) v3 (row_set (j := 2) v2 (row_set (j := 1) v1 (row_set (j := 0) v0 h rfl) rfl) rfl) (by simp)
theorem below4m {w0 w : World} {q : Nat} {v0 v1 v2 v3 : Value} (h : Below w0.heap.size w0 w) (hq : w0.heap.size ≤ q) : Below w0.heap.size w0 ((((w.setCell ⟨q, 0, none⟩ v0).setCell ⟨q, 1, none⟩ v1).setCell ⟨q, 2, none⟩ v2).setCell ⟨q, 3, none⟩ v3) :=
  (((h.setCell hq _).setCell hq _).setCell hq _).setCell hq _
theorem far4m {w : World} {q : Nat} {v0 v1 v2 v3 : Value} (k : Nat) (hk : k ≠ q) : ((((w.setCell ⟨q, 0, none⟩ v0).setCell ⟨q, 1, none⟩ v1).setCell ⟨q, 2, none⟩ v2).setCell ⟨q, 3, none⟩ v3).heap[k]? = w.heap[k]? :=
  (Below.heap_setCell _ _ _ _ hk).trans ((Below.heap_setCell _ _ _ _ hk).trans ((Below.heap_setCell _ _ _ _ hk).trans (Below.heap_setCell _ _ _ _ hk)))
end Go.Proofs.YtonnhechjbdenaaGreatDoor

namespace Go.Proofs.YtonnhechjbdenaaGreatDoor
open Go.RowKit

/-! a machine with more ticks; with a function, and a word, behind all others -/
structure Less (a b : PMs) : Prop where
  out : a.out <+: b.out
  ticks : a.ticks ≤ b.ticks
theorem Less.refl (a : PMs) : Less a a := ⟨List.prefix_refl _, Nat.le_refl _⟩
theorem Less.trans {a b c : PMs} (h : Less a b) (k : Less b c) : Less a c := ⟨h.out.trans k.out, Nat.le_trans h.ticks k.ticks⟩
theorem run_over {m : PImg} {T n : Nat} {s : PMs} (h : s.over = true) : runN m T n s = some s := by cases n <;> (unfold runN; rw [if_pos h])
/-- The one ended tired where the other goes on. -/
structure Tired (s a : PMs) : Prop where
  how : a.how = tiredT
  out : a.out = s.out
  ticks : a.ticks = s.ticks
  val : a.val = s.val
theorem Tired.over {s a : PMs} (h : Tired s a) : a.over = true := by unfold PMs.over; rw [h.how]; rfl
/-! a function, and a word, behind all others -/
end Go.Proofs.YtonnhechjbdenaaGreatDoor
