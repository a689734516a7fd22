import Derived.Test.YteifmgcbafemeaaGreatDoorCheckE
namespace Go.Proofs.YteifmgcbafemeaaGreatDoor
open Go.RowKit

def stmtV (s : PStmt) (X : Option Addr) (x : Nat) (T : Option Addr) (t : Nat) (L : Option Addr) (l : Nat) : Value := .agg #[.string (mkB s.kind), .string (mkB s.name), .string (mkB s.e.kind), .int .i64 s.e.num, .string (mkB s.e.name), .slice X s.e.kids.length x, .slice T s.th.length t, .slice L s.el.length l]
def Shp (s : PStmt) : Bool := shapedB s.kind s.name s.th.length s.el.length
theorem shp_named {s : PStmt} (h : s.kind = sVar ∨ s.kind = sSet) : Shp s = (nmOk s.name && decide (s.th.length = 0) && decide (s.el.length = 0)) := by unfold Shp shapedB; rw [if_pos h]
theorem shp_if {s : PStmt} (h : s.kind = sIf) : Shp s = s.name.isEmpty := by unfold Shp shapedB; rw [if_neg (by rw [h]; decide), if_pos h]
theorem shp_while {s : PStmt} (h : s.kind = sWhile) : Shp s = (s.name.isEmpty && decide (s.el.length = 0)) := by unfold Shp shapedB; rw [if_neg (by rw [h]; decide), if_neg (by rw [h]; decide), if_pos h]
theorem shp_ret {s : PStmt} (h : s.kind = sReturn ∨ s.kind = sPrint) : Shp s = (s.name.isEmpty && decide (s.th.length = 0) && decide (s.el.length = 0)) := by
  unfold Shp shapedB
  rw [if_neg (by rcases h with h | h <;> rw [h] <;> decide), if_neg (by rcases h with h | h <;> rw [h] <;> decide), if_neg (by rcases h with h | h <;> rw [h] <;> decide), if_pos h]
theorem shp_none {s : PStmt} (h0 : s.kind ≠ sVar) (h1 : s.kind ≠ sSet) (h2 : s.kind ≠ sIf) (h3 : s.kind ≠ sWhile) (h4 : s.kind ≠ sReturn) (h5 : s.kind ≠ sPrint) : Shp s = false := by
  unfold Shp shapedB; rw [if_neg (by simp [h0, h1]), if_neg h2, if_neg h3, if_neg (by simp [h4, h5])]
def kB (s : PStmt) (k : Nm) : Prop := s.kind = k
theorem kind_yes {s : PStmt} {k : Nm} (h : s.kind = k) : ((mkB s.kind).toList == k) = true := by rw [mkB_toList, h]; simp
theorem kind_no {s : PStmt} {k : Nm} (h : s.kind ≠ k) : ((mkB s.kind).toList == k) = false := by rw [mkB_toList]; exact beq_eq_false_iff_ne.2 h
section
variable (s : PStmt) (X : Option Addr) (x : Nat) (T : Option Addr) (t : Nat) (L : Option Addr) (l : Nat) (w : World)
set_option maxHeartbeats 1000000 in
set_option maxRecDepth 100000 in
theorem shaped_named (ht : s.th.length ≤ 30) (hl : s.el.length ≤ 30) (h : s.kind = sVar ∨ s.kind = sSet) : Calls Tryz.prog 91 #[stmtV s X x T t L l] w (Ret (.bool (Shp s)) w) := by
  have HB := Lib.hid (shp_named h)
  have HN := Lib.hid (fun w => lexName_any s.name w)
  have g : ((mkB s.kind).toList == sVar) = true ∨ (((mkB s.kind).toList == sVar) = false ∧ ((mkB s.kind).toList == sSet) = true) := by
    rcases h with h | h
    · exact .inl (kind_yes h)
    · exact .inr ⟨kind_no (by rw [h]; decide), kind_yes h⟩
  unfold stmtV
  unfold strV at HN
  unfold sVar sSet at g
  clear h
  rcases g with g0 | ⟨g0, g1⟩
  all_goals
    cases h1 : nmOk s.name
    · have HF : Hid (Shp s = false) := show _ = _ by rw [HB.out, h1]; simp
      rw [h1] at HN
      clear h1 HB
      go_enter Tryz.func91, Tryz.ntmps91
      go_wp2_with (go_at_call 49; (with_reducible refine (HN.out _).mono ?_); rintro x w1 ⟨rfl, hb1⟩)
      go_ret
      exact ⟨by rw [HF.out]; rfl, grow_trans (grow_alloc (grow_refl _) _) hb1⟩
    · rw [h1] at HN
      by_cases h3 : s.th.length + s.el.length = 0
      · have q3 : ((s.th.length : Int) + s.el.length == 0) = true := beq_iff_eq.2 (by omega)
        have HF : Hid (Shp s = true) := show _ = _ by rw [HB.out, h1, decide_eq_true (p := s.th.length = 0) (by omega), decide_eq_true (p := s.el.length = 0) (by omega)]; rfl
        clear h3 h1 HB
        go_enter Tryz.func91, Tryz.ntmps91
        go_wp2_with (go_at_call 49; (with_reducible refine (HN.out _).mono ?_); rintro y w1 ⟨rfl, hb1⟩; have b6 := Keeps.of_below hb1 _ _ (cell_of_row _ _ 6 _ _ _ (heap_alloc_new w (.cells #[.string (mkB s.kind), .string (mkB s.name), .string (mkB s.e.kind), .int .i64 s.e.num, .string (mkB s.e.name), .slice X s.e.kids.length x, .slice T s.th.length t, .slice L s.el.length l] 58))); have b7 := Keeps.of_below hb1 _ _ (cell_of_row _ _ 7 _ _ _ (heap_alloc_new w (.cells #[.string (mkB s.kind), .string (mkB s.name), .string (mkB s.e.kind), .int .i64 s.e.num, .string (mkB s.e.name), .slice X s.e.kids.length x, .slice T s.th.length t, .slice L s.el.length l] 58))))
        go_ret
        exact ⟨by rw [HF.out]; rfl, grow_trans (grow_alloc (grow_refl _) _) hb1⟩
      · have q3 : ((s.th.length : Int) + s.el.length == 0) = false := beq_eq_false_iff_ne.2 (by omega)
        have HF : Hid (Shp s = false) := show _ = _ by
          rw [HB.out]
          by_cases q : s.th.length = 0
          · rw [decide_eq_false (p := s.el.length = 0) (by omega)]; simp
          · rw [decide_eq_false q]; simp
        clear h3 h1 HB
        go_enter Tryz.func91, Tryz.ntmps91
        go_wp2_with (go_at_call 49; (with_reducible refine (HN.out _).mono ?_); rintro y w1 ⟨rfl, hb1⟩; have b6 := Keeps.of_below hb1 _ _ (cell_of_row _ _ 6 _ _ _ (heap_alloc_new w (.cells #[.string (mkB s.kind), .string (mkB s.name), .string (mkB s.e.kind), .int .i64 s.e.num, .string (mkB s.e.name), .slice X s.e.kids.length x, .slice T s.th.length t, .slice L s.el.length l] 58))); have b7 := Keeps.of_below hb1 _ _ (cell_of_row _ _ 7 _ _ _ (heap_alloc_new w (.cells #[.string (mkB s.kind), .string (mkB s.name), .string (mkB s.e.kind), .int .i64 s.e.num, .string (mkB s.e.name), .slice X s.e.kids.length x, .slice T s.th.length t, .slice L s.el.length l] 58))))
        go_ret
        exact ⟨by rw [HF.out]; rfl, grow_trans (grow_alloc (grow_refl _) _) hb1⟩
set_option maxHeartbeats 1000000 in
set_option maxRecDepth 100000 in
theorem shaped_if (h : s.kind = sIf) : Calls Tryz.prog 91 #[stmtV s X x T t L l] w (Ret (.bool (Shp s)) w) := by
  have g0 := kind_no (s := s) (k := sVar) (by rw [h]; decide)
  have g1 := kind_no (s := s) (k := sSet) (by rw [h]; decide)
  have g2 := kind_yes h
  have hb := shp_if h
  rw [empty_mkB] at hb
  have HB := Lib.hid hb
  unfold stmtV
  unfold sVar at g0
  unfold sSet at g1
  unfold sIf at g2
  clear h hb
  cases h1 : (mkB s.name).toList.isEmpty
  all_goals
    rw [h1] at HB
    go_enter Tryz.func91, Tryz.ntmps91
    go_wp2_with fail
    go_ret
    exact ⟨by rw [HB.out]; rfl, grow_alloc (grow_refl _) _⟩
set_option maxHeartbeats 1000000 in
set_option maxRecDepth 100000 in
theorem shaped_while (h : s.kind = sWhile) : Calls Tryz.prog 91 #[stmtV s X x T t L l] w (Ret (.bool (Shp s)) w) := by
  have g0 := kind_no (s := s) (k := sVar) (by rw [h]; decide)
  have g1 := kind_no (s := s) (k := sSet) (by rw [h]; decide)
  have g2 := kind_no (s := s) (k := sIf) (by rw [h]; decide)
  have g3 := kind_yes h
  have hb := shp_while h
  rw [empty_mkB] at hb
  have HB := Lib.hid hb
  unfold stmtV
  unfold sVar at g0
  unfold sSet at g1
  unfold sIf at g2
  unfold sWhile at g3
  clear h hb
  cases h1 : (mkB s.name).toList.isEmpty
  · have HF : Hid (Shp s = false) := show _ = _ by rw [HB.out, h1]; rfl
    go_enter Tryz.func91, Tryz.ntmps91
    go_wp2_with fail
    go_ret
    exact ⟨by rw [HF.out]; rfl, grow_alloc (grow_refl _) _⟩
  · by_cases h3 : s.el.length = 0
    · have q3 : ((s.el.length : Int) == 0) = true := by rw [h3]; rfl
      have HF : Hid (Shp s = true) := show _ = _ by rw [HB.out, h1, h3]; rfl
      clear h3
      go_enter Tryz.func91, Tryz.ntmps91
      go_wp2_with fail
      go_ret
      exact ⟨by rw [HF.out]; rfl, grow_alloc (grow_refl _) _⟩
    · have q3 : ((s.el.length : Int) == 0) = false := beq_eq_false_iff_ne.2 (by omega)
      have HF : Hid (Shp s = false) := show _ = _ by rw [HB.out, decide_eq_false h3]; simp
      clear h3
      go_enter Tryz.func91, Tryz.ntmps91
      go_wp2_with fail
      go_ret
      exact ⟨by rw [HF.out]; rfl, grow_alloc (grow_refl _) _⟩
set_option maxHeartbeats 1000000 in
set_option maxRecDepth 100000 in
theorem shaped_ret (ht : s.th.length ≤ 30) (hl : s.el.length ≤ 30) (h : s.kind = sReturn ∨ s.kind = sPrint) : Calls Tryz.prog 91 #[stmtV s X x T t L l] w (Ret (.bool (Shp s)) w) := by
  have g0 := kind_no (s := s) (k := sVar) (by rcases h with h | h <;> rw [h] <;> decide)
  have g1 := kind_no (s := s) (k := sSet) (by rcases h with h | h <;> rw [h] <;> decide)
  have g2 := kind_no (s := s) (k := sIf) (by rcases h with h | h <;> rw [h] <;> decide)
  have g3 := kind_no (s := s) (k := sWhile) (by rcases h with h | h <;> rw [h] <;> decide)
  have hb := shp_ret h
  rw [empty_mkB] at hb
  have HB := Lib.hid hb
  have g : ((mkB s.kind).toList == sReturn) = true ∨ (((mkB s.kind).toList == sReturn) = false ∧ ((mkB s.kind).toList == sPrint) = true) := by
    rcases h with h | h
    · exact .inl (kind_yes h)
    · exact .inr ⟨kind_no (by rw [h]; decide), kind_yes h⟩
  unfold stmtV
  unfold sVar at g0
  unfold sSet at g1
  unfold sIf at g2
  unfold sWhile at g3
  unfold sReturn sPrint at g
  clear h hb
  rcases g with g4 | ⟨g4, g5⟩
  all_goals
    cases h1 : (mkB s.name).toList.isEmpty
    · have HF : Hid (Shp s = false) := show _ = _ by rw [HB.out, h1]; rfl
      go_enter Tryz.func91, Tryz.ntmps91
      go_wp2_with fail
      go_ret
      exact ⟨by rw [HF.out]; rfl, grow_alloc (grow_refl _) _⟩
    · by_cases h3 : s.th.length + s.el.length = 0
      · have q3 : ((s.th.length : Int) + s.el.length == 0) = true := beq_iff_eq.2 (by omega)
        have HF : Hid (Shp s = true) := show _ = _ by rw [HB.out, h1, decide_eq_true (p := s.th.length = 0) (by omega), decide_eq_true (p := s.el.length = 0) (by omega)]; rfl
        clear h3
        go_enter Tryz.func91, Tryz.ntmps91
        go_wp2_with fail
        go_ret
        exact ⟨by rw [HF.out]; rfl, grow_alloc (grow_refl _) _⟩
      · have q3 : ((s.th.length : Int) + s.el.length == 0) = false := beq_eq_false_iff_ne.2 (by omega)
        have HF : Hid (Shp s = false) := show _ = _ by
          rw [HB.out]
          by_cases q : s.th.length = 0
          · rw [decide_eq_false (p := s.el.length = 0) (by omega)]; simp
          · rw [decide_eq_false q]; simp
        clear h3
        go_enter Tryz.func91, Tryz.ntmps91
        go_wp2_with fail
        go_ret
        exact ⟨by rw [HF.out]; rfl, grow_alloc (grow_refl _) _⟩
set_option maxRecDepth 100000 in
theorem shaped_none (h0 : s.kind ≠ sVar) (h1 : s.kind ≠ sSet) (h2 : s.kind ≠ sIf) (h3 : s.kind ≠ sWhile) (h4 : s.kind ≠ sReturn) (h5 : s.kind ≠ sPrint) : Calls Tryz.prog 91 #[stmtV s X x T t L l] w (Ret (.bool (Shp s)) w) := by
  have g0 := kind_no h0
  have g1 := kind_no h1
  have g2 := kind_no h2
  have g3 := kind_no h3
  have g4 := kind_no h4
  have g5 := kind_no h5
  have HF : Hid (Shp s = false) := shp_none h0 h1 h2 h3 h4 h5
  unfold stmtV
  unfold sVar at g0
  unfold sSet at g1
  unfold sIf at g2
  unfold sWhile at g3
  unfold sReturn at g4
  unfold sPrint at g5
  clear h0 h1 h2 h3 h4 h5
  go_enter Tryz.func91, Tryz.ntmps91
  go_wp2_with fail
  go_ret
  exact ⟨by rw [HF.out]; rfl, grow_alloc (grow_refl _) _⟩
theorem shaped_any (ht : s.th.length ≤ 30) (hl : s.el.length ≤ 30) : Calls Tryz.prog 91 #[stmtV s X x T t L l] w (Ret (.bool (Shp s)) w) := by
  by_cases h0 : s.kind = sVar
  · exact shaped_named s X x T t L l w ht hl (.inl h0)
  by_cases h1 : s.kind = sSet
  · exact shaped_named s X x T t L l w ht hl (.inr h1)
  by_cases h2 : s.kind = sIf
  · exact shaped_if s X x T t L l w h2
  by_cases h3 : s.kind = sWhile
  · exact shaped_while s X x T t L l w h3
  by_cases h4 : s.kind = sReturn
  · exact shaped_ret s X x T t L l w ht hl (.inl h4)
  by_cases h5 : s.kind = sPrint
  · exact shaped_ret s X x T t L l w ht hl (.inr h5)
  exact shaped_none s X x T t L l w h0 h1 h2 h3 h4 h5
end
end Go.Proofs.YteifmgcbafemeaaGreatDoor
