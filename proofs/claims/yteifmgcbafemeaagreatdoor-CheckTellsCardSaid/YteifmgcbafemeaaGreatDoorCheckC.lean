import Derived.Test.YteifmgcbafemeaaGreatDoorCheckS
import Derived.Test.YteifmgcbafemeaaGreatDoorTreeAsF
import Derived.Deep.RegionHeld3
namespace Go.Proofs.YteifmgcbafemeaaGreatDoor
open Go.RowKit

def strVs (l : List Nm) : List Value := l.map fun x => Value.string (mkB x)
/-- What the table of functions has in memory. -/
def tabF (fs : Tab) : Nm → Option Value := fun k => (argsOf fs k).map fun (m : Nat) => Value.int .i64 (m : Int)
def TabSmall (fs : Tab) : Prop := ∀ k m, argsOf fs k = some m → m ≤ 100
/-- A checker at block p. -/
structure ChkAt (base p b n : Nat) (fs : Tab) (all vis : List Nm) (w : World) : Prop where
  low : base ≤ p
  lt : p < w.heap.size
  mlt : b < base
  map : MapAt w b n (tabF fs)
  cells : ∃ v s, w.heap[p]? = some (.cells #[.map (some b), v, s] 109 (0, 0)) ∧ w.ownsRow base 9 1 v all.length (strVs all) ∧ w.ownsRow base 9 1 s vis.length (strVs vis) ∧
    v.ownBlock ≠ some p ∧ s.ownBlock ≠ some p ∧ (s.ownBlock = none ∨ v.ownBlock ≠ s.ownBlock)
theorem ChkAt.keep {base p b n : Nat} {fs : Tab} {all vis : List Nm} {w w' : World} (h : ChkAt base p b n fs all vis w) (hb : Below w.heap.size w w') : ChkAt base p b n fs all vis w' := by
  obtain ⟨v, s, h1, h2, h3, h4, h5, h6⟩ := h.cells
  exact ⟨h.low, Nat.lt_of_lt_of_le h.lt hb.size, h.mlt, h.map.below hb, v, s, (hb.block p h.lt).trans h1, ownsRow_below h2 hb, ownsRow_below h3 hb, h4, h5, h6⟩
theorem owns_Row {w : World} {base : Nat} {e : TypeId} {v : Value} {l : List Nm} (h : w.ownsRow base e 1 v l.length (strVs l)) : ∃ A c, v = .slice A l.length c ∧ Row w A (strVs l) ∧ l.length ≤ c := by
  obtain ⟨A, c, rfl, hA⟩ := owns_at h
  refine ⟨A, c, rfl, fun j u hj => ?_, ?_⟩
  · have hj' : j < l.length := by have := (List.getElem?_eq_some_iff.1 hj).1; simpa [strVs] using this
    obtain ⟨g, rfl, _, _, hc⟩ := hA (by omega)
    exact ⟨g, 0, rfl, by rw [Nat.zero_add]; exact hc j u hj⟩
  · exact owned_cap h
theorem strVs_mk (l : List Nm) : strVs l = (l.map mkB).map Value.string := by simp [strVs]
/-- slices.Contains of names. -/
theorem has_any (l : List Nm) (x : Nm) (A : Option Addr) (c : Nat) (w : World) (hr : Row w A (strVs l)) (hn : l.length ≤ 1000000) :
    Calls Tryz.prog 36 #[.slice A l.length c, .string (mkB x)] w fun e w' => e = .returned (.bool (l.contains x)) ∧ w' = w := by
  rw [strVs_mk] at hr
  have h := Contains_any (mkB x) A (l.map mkB) c w hr (by simpa using hn)
  rw [isIn_strV] at h
  simpa using h
theorem isin_any (l : List Nm) (x : Nm) (A : Option Addr) (c : Nat) (w : World) (hr : Row w A (strVs l)) (hn : l.length ≤ 1000000) :
    Calls Tryz.prog 38 #[.string (mkB x), .slice A l.length c] w fun e w' => e = .returned (.bool (l.contains x)) ∧ w' = w := by
  rw [strVs_mk] at hr
  have h := IsIn_any (mkB x) A (l.map mkB) c w hr (by simpa using hn)
  rw [isIn_strV] at h
  simpa using h
theorem zeroInt (w : World) : (zeroValue 3).run Tryz.prog w = .ok (.int .i64 0) w := by kernel_rfl
theorem callC_none {fs : Tab} {n : Nm} {k : Nat} (h : argsOf fs n = none) : callC fs n k = 6 := by unfold callC; rw [h]
theorem callC_yes {fs : Tab} {n : Nm} {k m : Nat} (h : argsOf fs n = some m) (e : m = k) : callC fs n k = 0 := by unfold callC; rw [h]; simp [e]
theorem callC_no {fs : Tab} {n : Nm} {k m : Nat} (h : argsOf fs n = some m) (e : m ≠ k) : callC fs n k = 9 := by unfold callC; rw [h]; simp [e]
set_option maxHeartbeats 1000000 in
set_option maxRecDepth 100000 in
theorem call_any (E : Nat → Addr) (base p b n : Nat) (fs : Tab) (all vis : List Nm) (e : PExpr) (A : Option Addr) (c : Nat) (w : World) (hE : Laid E w) (hs : TabSmall fs) (hn : e.name.length ≤ 20) (hk : e.kids.length ≤ 8) (h : ChkAt base p b n fs all vis w) :
    Calls Tryz.prog 105 #[.pointer (some ⟨p, 0, none⟩), exprV e A c] w (Ret (eV E (callC fs e.name e.kids.length)) w) := by
  obtain ⟨v, s, h1, -⟩ := h.cells
  have hold : ∀ o, Below w.heap.size w (w.alloc o) := fun o => grow_alloc (grow_refl _) o
  have hbox : Below w.heap.size w (w.alloc (.cells #[.string (mkB e.kind), .int .i64 e.num, .string (mkB e.name), .slice A e.kids.length c] 56)) := hold _
  have hE' := hE.keep hbox
  have g5 := hE'.c5
  have g8 := hE'.c8
  have p0 : (w.alloc (.cells #[.string (mkB e.kind), .int .i64 e.num, .string (mkB e.name), .slice A e.kids.length c] 56)).cell? ⟨p, 0, none⟩ = some (.map (some b)) := Keeps.alloc _ _ _ _ (cell_of_row _ _ 0 _ _ _ h1)
  have hm := h.map.below hbox
  have look : ∀ k, (Instr.lookup 64 (.map (some b)) (.string (mkB e.name)) true).run Tryz.prog ((w.alloc (.cells #[.string (mkB e.kind), .int .i64 e.num, .string (mkB e.name), .slice A e.kids.length c] 56)).drewN k) =
      .ok (.tuple #[(tabF fs e.name).getD (.int .i64 0), .bool (tabF fs e.name).isSome]) ((w.alloc (.cells #[.string (mkB e.kind), .int .i64 e.num, .string (mkB e.name), .slice A e.kids.length c] 56)).drewN k) := fun k =>
    (hm.keep (w' := (w.alloc (.cells #[.string (mkB e.kind), .int .i64 e.num, .string (mkB e.name), .slice A e.kids.length c] 56)).drewN k) rfl).look Tryz.underlying64 (zeroInt _) e.name (by omega)
  have hnil := fun w => run_eql_map_nil (P := Tryz.prog) w 64 _ _ (some b) Tryz.underlying64
  unfold exprV
  cases ha : argsOf fs e.name with
  | none =>
    have ht : tabF fs e.name = none := by unfold tabF; rw [ha]; rfl
    rw [ht] at look
    have HC := Lib.hid (callC_none (k := e.kids.length) ha)
    clear ha ht hE hE' hm h h1 hold hbox
    go_enter Tryz.func105, Tryz.ntmps105
    go_wp2_with fail
    go_quiet (fail)
    go_wp2_with fail
    go_ret
    exact ⟨by rw [HC.out]; rfl, grow_drew (grow_alloc (grow_refl _) _) _⟩
  | some m =>
    have ht : tabF fs e.name = some (.int .i64 m) := by unfold tabF; rw [ha]; rfl
    have hm100 := hs _ _ ha
    rw [ht] at look
    by_cases hq : m = e.kids.length
    · have HC := Lib.hid (callC_yes ha hq)
      have q1 : ((m : Int) != (e.kids.length : Int)) = false := by rw [hq]; simp
      clear ha ht hE hE' hm h h1 hold hbox hq
      go_enter Tryz.func105, Tryz.ntmps105
      go_wp2_with fail
      go_quiet (fail)
      go_wp2_with fail
      go_ret
      exact ⟨by rw [HC.out]; rfl, grow_drew (grow_alloc (grow_refl _) _) _⟩
    · have HC := Lib.hid (callC_no ha hq)
      have q1 : ((m : Int) != (e.kids.length : Int)) = true := by rw [bne_iff_ne]; omega
      clear ha ht hE hE' hm h h1 hold hbox hq
      go_enter Tryz.func105, Tryz.ntmps105
      go_wp2_with fail
      go_quiet (fail)
      go_wp2_with fail
      go_ret
      exact ⟨by rw [HC.out]; rfl, grow_drew (grow_alloc (grow_refl _) _) _⟩
end Go.Proofs.YteifmgcbafemeaaGreatDoor
