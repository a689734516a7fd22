import Derived.Test.YteifmgcbafemeaaGreatDoorCheckB
import Derived.Test.YteifmgcbafemeaaGreatDoorMapI
import Derived.Test.YteifmgcbafemeaaGreatDoorCode
import Derived.Test.YteifmgcbafemeaaGreatDoorCoded
namespace Go.Proofs.YteifmgcbafemeaaGreatDoor
open Go.RowKit

/-- The error of a number (0: none). -/
def eV (E : Nat → Addr) (n : Nat) : Value := if n = 0 then .nilIface else esV (E (n - 1))
theorem eV_zero (E : Nat → Addr) : eV E 0 = .nilIface := rfl
theorem eV_succ (E : Nat → Addr) (n : Nat) : eV E (n + 1) = esV (E n) := rfl
theorem eV_pos (E : Nat → Addr) {n : Nat} (h : n ≠ 0) : eV E n = esV (E (n - 1)) := by unfold eV; rw [if_neg h]
theorem errOf_eV (E : Nat → Addr) (o : Option Int) : errOf o (esV (E 3)) = eV E (if o.isSome then 0 else 4) := by cases o <;> rfl
theorem bareB_num {e : PExpr} (h : e.kind = xNum) : bareB e = (decide (0 ≤ e.num) && e.name.isEmpty && e.kids.isEmpty) := by unfold bareB; rw [if_pos h]
theorem bareB_name {e : PExpr} (h : e.kind = xName) : bareB e = ((e.num == 0) && nmOk e.name && e.kids.isEmpty) := by
  unfold bareB; rw [if_neg (by rw [h]; decide), if_pos h]
theorem bareB_call {e : PExpr} (h : e.kind = xCall) : bareB e = ((e.num == 0) && nmOk e.name) := by
  unfold bareB; rw [if_neg (by rw [h]; decide), if_neg (by rw [h]; decide), if_pos h]
theorem bareB_one {e : PExpr} (h : e.kind = xOne) : bareB e = ((e.num == 0) && isOneB e.name && decide (e.kids.length = 1)) := by
  unfold bareB; rw [if_neg (by rw [h]; decide), if_neg (by rw [h]; decide), if_neg (by rw [h]; decide), if_pos h]
theorem bareB_two {e : PExpr} (h : e.kind = xTwo) : bareB e = ((e.num == 0) && isTwoB e.name && decide (e.kids.length = 2)) := by
  unfold bareB; rw [if_neg (by rw [h]; decide), if_neg (by rw [h]; decide), if_neg (by rw [h]; decide), if_neg (by rw [h]; decide), if_pos h]
theorem bareB_none {e : PExpr} (h0 : e.kind ≠ xNum) (h1 : e.kind ≠ xName) (h2 : e.kind ≠ xCall) (h3 : e.kind ≠ xOne) (h4 : e.kind ≠ xTwo) : bareB e = false := by
  unfold bareB; rw [if_neg h0, if_neg h1, if_neg h2, if_neg h3, if_neg h4]
theorem isEmpty_len {α : Type} (l : List α) : l.isEmpty = decide (l.length = 0) := by cases l <;> simp
theorem oneV_some (l : Nm) (a b : Int) : (oneV l a).isSome = (oneV l b).isSome := by unfold oneV; repeat (first | rfl | split)
theorem empty_mkB (n : Nm) : n.isEmpty = (mkB n).toList.isEmpty := by rw [mkB_toList]
set_option maxHeartbeats 1000000 in
set_option maxRecDepth 100000 in
theorem bare_num (e : PExpr) (hk : e.kind = xNum) (A : Option Addr) (c : Nat) (w : World) : Calls Tryz.prog 104 #[exprV e A c] w (Ret (.bool (bareB e)) w) := by
  have g0 : ((mkB e.kind).toList == [110, 117, 109]) = true := by rw [mkB_toList, hk]; rfl
  have hb := bareB_num hk
  rw [empty_mkB, isEmpty_len e.kids] at hb
  have HB := Lib.hid hb
  unfold exprV
  clear hk hb
  by_cases h1 : 0 ≤ e.num
  · cases h2 : (mkB e.name).toList.isEmpty
    · have HF : Hid (bareB e = false) := show _ = _ by rw [HB.out, h2]; simp
      go_enter Tryz.func104, Tryz.ntmps104
      go_wp2_with fail
      go_ret
      exact ⟨by rw [HF.out]; rfl, grow_alloc (grow_refl _) _⟩
    · by_cases h3 : e.kids.length = 0
      · have q3 : ((e.kids.length : Int) == 0) = true := by rw [h3]; rfl
        have HF : Hid (bareB e = true) := show _ = _ by rw [HB.out, h2, h3]; simp [h1]
        clear h3
        go_enter Tryz.func104, Tryz.ntmps104
        go_wp2_with fail
        go_ret
        exact ⟨by rw [HF.out]; rfl, grow_alloc (grow_refl _) _⟩
      · have q3 : ((e.kids.length : Int) == 0) = false := beq_eq_false_iff_ne.2 (by omega)
        have HF : Hid (bareB e = false) := show _ = _ by rw [HB.out, decide_eq_false h3]; simp
        clear h3
        go_enter Tryz.func104, Tryz.ntmps104
        go_wp2_with fail
        go_ret
        exact ⟨by rw [HF.out]; rfl, grow_alloc (grow_refl _) _⟩
  · have HF : Hid (bareB e = false) := show _ = _ by rw [HB.out, decide_eq_false h1]; simp
    go_enter Tryz.func104, Tryz.ntmps104
    go_wp2_with fail
    go_ret
    exact ⟨by rw [HF.out]; rfl, grow_alloc (grow_refl _) _⟩
set_option maxHeartbeats 1000000 in
set_option maxRecDepth 100000 in
theorem bare_name (e : PExpr) (hk : e.kind = xName) (A : Option Addr) (c : Nat) (w : World) : Calls Tryz.prog 104 #[exprV e A c] w (Ret (.bool (bareB e)) w) := by
  have g0 : ((mkB e.kind).toList == [110, 117, 109]) = false := by rw [mkB_toList, hk]; rfl
  have g1 : ((mkB e.kind).toList == [110, 97, 109, 101]) = true := by rw [mkB_toList, hk]; rfl
  have hb := bareB_name hk
  rw [isEmpty_len e.kids] at hb
  have HB := Lib.hid hb
  have HN := Lib.hid (fun w => lexName_any e.name w)
  unfold exprV
  unfold strV at HN
  clear hk hb
  cases h1 : (e.num == 0)
  · have HF : Hid (bareB e = false) := show _ = _ by rw [HB.out, h1]; simp
    go_enter Tryz.func104, Tryz.ntmps104
    go_wp2_with fail
    go_ret
    exact ⟨by rw [HF.out]; rfl, grow_alloc (grow_refl _) _⟩
  · cases h2 : nmOk e.name
    · have HF : Hid (bareB e = false) := show _ = _ by rw [HB.out, h2]; simp
      rw [h2] at HN
      clear h2
      go_enter Tryz.func104, Tryz.ntmps104
      go_wp2_with (go_at_call 49; (with_reducible refine (HN.out _).mono ?_); rintro x w1 ⟨rfl, hb1⟩)
      go_ret
      exact ⟨by rw [HF.out]; rfl, grow_trans (grow_alloc (grow_refl _) _) hb1⟩
    · rw [h2] at HN
      by_cases h3 : e.kids.length = 0
      · have q3 : ((e.kids.length : Int) == 0) = true := by rw [h3]; rfl
        have HF : Hid (bareB e = true) := show _ = _ by rw [HB.out, h1, h2, h3]; simp
        clear h3 h2
        go_enter Tryz.func104, Tryz.ntmps104
        go_wp2_with (go_at_call 49; (with_reducible refine (HN.out _).mono ?_); rintro x w1 ⟨rfl, hb1⟩; have b3 := Keeps.of_below hb1 _ _ (cell_of_row _ _ 3 _ _ _ (heap_alloc_new w (.cells #[.string (mkB e.kind), .int .i64 e.num, .string (mkB e.name), .slice A e.kids.length c] 56))))
        go_ret
        exact ⟨by rw [HF.out]; rfl, grow_trans (grow_alloc (grow_refl _) _) hb1⟩
      · have q3 : ((e.kids.length : Int) == 0) = false := beq_eq_false_iff_ne.2 (by omega)
        have HF : Hid (bareB e = false) := show _ = _ by rw [HB.out, decide_eq_false h3]; simp
        clear h3 h2
        go_enter Tryz.func104, Tryz.ntmps104
        go_wp2_with (go_at_call 49; (with_reducible refine (HN.out _).mono ?_); rintro x w1 ⟨rfl, hb1⟩; have b3 := Keeps.of_below hb1 _ _ (cell_of_row _ _ 3 _ _ _ (heap_alloc_new w (.cells #[.string (mkB e.kind), .int .i64 e.num, .string (mkB e.name), .slice A e.kids.length c] 56))))
        go_ret
        exact ⟨by rw [HF.out]; rfl, grow_trans (grow_alloc (grow_refl _) _) hb1⟩
set_option maxHeartbeats 1000000 in
set_option maxRecDepth 100000 in
theorem bare_call (e : PExpr) (hk : e.kind = xCall) (A : Option Addr) (c : Nat) (w : World) : Calls Tryz.prog 104 #[exprV e A c] w (Ret (.bool (bareB e)) w) := by
  have g0 : ((mkB e.kind).toList == [110, 117, 109]) = false := by rw [mkB_toList, hk]; rfl
  have g1 : ((mkB e.kind).toList == [110, 97, 109, 101]) = false := by rw [mkB_toList, hk]; rfl
  have g2 : ((mkB e.kind).toList == [99, 97, 108, 108]) = true := by rw [mkB_toList, hk]; rfl
  have HB := Lib.hid (bareB_call hk)
  have HN := Lib.hid (fun w => lexName_any e.name w)
  unfold exprV
  unfold strV at HN
  clear hk
  cases h1 : (e.num == 0)
  · have HF : Hid (bareB e = false) := show _ = _ by rw [HB.out, h1]; simp
    go_enter Tryz.func104, Tryz.ntmps104
    go_wp2_with fail
    go_ret
    exact ⟨by rw [HF.out]; rfl, grow_alloc (grow_refl _) _⟩
  · cases h2 : nmOk e.name
    all_goals
      have HF := HB
      rw [h1, h2] at HF
      rw [h2] at HN
      clear h2
      go_enter Tryz.func104, Tryz.ntmps104
      go_wp2_with (go_at_call 49; (with_reducible refine (HN.out _).mono ?_); rintro x w1 ⟨rfl, hb1⟩)
      go_ret
      exact ⟨by rw [HF.out]; rfl, grow_trans (grow_alloc (grow_refl _) _) hb1⟩
set_option maxHeartbeats 2000000 in
set_option maxRecDepth 100000 in
theorem bare_one (e : PExpr) (hk : e.kind = xOne) (E : Nat → Addr) (A : Option Addr) (c : Nat) (w : World) (hE : Laid E w) : Calls Tryz.prog 104 #[exprV e A c] w (Ret (.bool (bareB e)) w) := by
  have g0 : ((mkB e.kind).toList == [110, 117, 109]) = false := by rw [mkB_toList, hk]; rfl
  have g1 : ((mkB e.kind).toList == [110, 97, 109, 101]) = false := by rw [mkB_toList, hk]; rfl
  have g2 : ((mkB e.kind).toList == [99, 97, 108, 108]) = false := by rw [mkB_toList, hk]; rfl
  have g3 : ((mkB e.kind).toList == [111, 110, 101]) = true := by rw [mkB_toList, hk]; rfl
  have HB := Lib.hid (bareB_one hk)
  have HO : Hid (∀ w', Below w.heap.size w w' → Calls Tryz.prog 108 #[.string (mkB e.name), .int .i64 0] w' (Quiet (.tuple #[.int .i64 (valOf (oneV e.name 0)), eV E (if (oneV e.name 0).isSome then 0 else 4)]) w')) := fun w' hb => by
    have := One_any (mkB e.name) 0 (esV (E 3)) w' (hE.keep hb).c3
    rw [mkB_toList, errOf_eV] at this
    exact this
  unfold exprV
  obtain ⟨V, hV⟩ : ∃ V, valOf (oneV e.name 0) = V := ⟨_, rfl⟩
  rw [hV] at HO
  have hI : isOneB e.name = (oneV e.name 0).isSome := rfl
  rw [hI] at HB
  clear hk hE hV hI
  cases h1 : (e.num == 0)
  · have HF : Hid (bareB e = false) := show _ = _ by rw [HB.out, h1]; simp
    cases h2 : (oneV e.name 0).isSome
    all_goals
      rw [h2] at HO
      clear h2 HB
      go_enter Tryz.func104, Tryz.ntmps104
      go_wp2_with (go_at_call 108; (with_reducible refine (HO.out _ (grow_alloc (grow_refl _) _)).mono ?_); rintro x w1 ⟨rfl, n1, rfl⟩)
      go_ret
      exact ⟨by rw [HF.out]; rfl, grow_drew (grow_alloc (grow_refl _) _) _⟩
  · cases h2 : (oneV e.name 0).isSome
    · have HF : Hid (bareB e = false) := show _ = _ by rw [HB.out, h2]; simp
      rw [h2] at HO
      rw [show (eV E (if false = true then 0 else 4)) = esV (E 3) from rfl] at HO
      clear h2 HB
      go_enter Tryz.func104, Tryz.ntmps104
      go_wp2_with (go_at_call 108; (with_reducible refine (HO.out _ (grow_alloc (grow_refl _) _)).mono ?_); rintro x w1 ⟨rfl, n1, rfl⟩)
      go_ret
      exact ⟨by rw [HF.out]; rfl, grow_drew (grow_alloc (grow_refl _) _) _⟩
    · rw [h2] at HO
      rw [show (eV E (if true = true then 0 else 4)) = .nilIface from rfl] at HO
      by_cases h3 : e.kids.length = 1
      · have q3 : ((e.kids.length : Int) == 1) = true := by rw [h3]; rfl
        have HF : Hid (bareB e = true) := show _ = _ by rw [HB.out, h1, h2, h3]; simp
        clear h2 HB h3
        go_enter Tryz.func104, Tryz.ntmps104
        go_wp2_with (go_at_call 108; (with_reducible refine (HO.out _ (grow_alloc (grow_refl _) _)).mono ?_); rintro x w1 ⟨rfl, n1, rfl⟩)
        go_ret
        exact ⟨by rw [HF.out]; rfl, grow_drew (grow_alloc (grow_refl _) _) _⟩
      · have q3 : ((e.kids.length : Int) == 1) = false := beq_eq_false_iff_ne.2 (by omega)
        have HF : Hid (bareB e = false) := show _ = _ by rw [HB.out, decide_eq_false h3]; simp
        clear h2 HB h3
        go_enter Tryz.func104, Tryz.ntmps104
        go_wp2_with (go_at_call 108; (with_reducible refine (HO.out _ (grow_alloc (grow_refl _) _)).mono ?_); rintro x w1 ⟨rfl, n1, rfl⟩)
        go_ret
        exact ⟨by rw [HF.out]; rfl, grow_drew (grow_alloc (grow_refl _) _) _⟩
set_option maxHeartbeats 2000000 in
set_option maxRecDepth 100000 in
theorem bare_two (e : PExpr) (hk : e.kind = xTwo) (E : Nat → Addr) (A : Option Addr) (c : Nat) (w : World) (hE : Laid E w) : Calls Tryz.prog 104 #[exprV e A c] w (Ret (.bool (bareB e)) w) := by
  have g0 : ((mkB e.kind).toList == [110, 117, 109]) = false := by rw [mkB_toList, hk]; rfl
  have g1 : ((mkB e.kind).toList == [110, 97, 109, 101]) = false := by rw [mkB_toList, hk]; rfl
  have g2 : ((mkB e.kind).toList == [99, 97, 108, 108]) = false := by rw [mkB_toList, hk]; rfl
  have g3 : ((mkB e.kind).toList == [111, 110, 101]) = false := by rw [mkB_toList, hk]; rfl
  have g4 : ((mkB e.kind).toList == [116, 119, 111]) = true := by rw [mkB_toList, hk]; rfl
  have HB := Lib.hid (bareB_two hk)
  have HO : Hid (∀ w', Below w.heap.size w w' → Calls Tryz.prog 109 #[.string (mkB e.name), .int .i64 0, .int .i64 0] w' (Quiet (.tuple #[.int .i64 (valOf (doV e.name 0 0)), eV E (if (doV e.name 0 0).isSome then 0 else 4)]) w')) := fun w' hb => by
    have := Do_any (mkB e.name) 0 0 (esV (E 3)) w' (hE.keep hb).c3
    rw [mkB_toList, errOf_eV] at this
    exact this
  unfold exprV
  obtain ⟨V, hV⟩ : ∃ V, valOf (doV e.name 0 0) = V := ⟨_, rfl⟩
  rw [hV] at HO
  have hI : isTwoB e.name = (doV e.name 0 0).isSome := rfl
  rw [hI] at HB
  clear hk hE hV hI
  cases h1 : (e.num == 0)
  · have HF : Hid (bareB e = false) := show _ = _ by rw [HB.out, h1]; simp
    cases h2 : (doV e.name 0 0).isSome
    all_goals
      rw [h2] at HO
      clear h2 HB
      go_enter Tryz.func104, Tryz.ntmps104
      go_wp2_with (go_at_call 109; (with_reducible refine (HO.out _ (grow_alloc (grow_refl _) _)).mono ?_); rintro x w1 ⟨rfl, n1, rfl⟩)
      go_ret
      exact ⟨by rw [HF.out]; rfl, grow_drew (grow_alloc (grow_refl _) _) _⟩
  · cases h2 : (doV e.name 0 0).isSome
    · have HF : Hid (bareB e = false) := show _ = _ by rw [HB.out, h2]; simp
      rw [h2] at HO
      rw [show (eV E (if false = true then 0 else 4)) = esV (E 3) from rfl] at HO
      clear h2 HB
      go_enter Tryz.func104, Tryz.ntmps104
      go_wp2_with (go_at_call 109; (with_reducible refine (HO.out _ (grow_alloc (grow_refl _) _)).mono ?_); rintro x w1 ⟨rfl, n1, rfl⟩)
      go_ret
      exact ⟨by rw [HF.out]; rfl, grow_drew (grow_alloc (grow_refl _) _) _⟩
    · rw [h2] at HO
      rw [show (eV E (if true = true then 0 else 4)) = .nilIface from rfl] at HO
      by_cases h3 : e.kids.length = 2
      · have q3 : ((e.kids.length : Int) == 2) = true := by rw [h3]; rfl
        have HF : Hid (bareB e = true) := show _ = _ by rw [HB.out, h1, h2, h3]; simp
        clear h2 HB h3
        go_enter Tryz.func104, Tryz.ntmps104
        go_wp2_with (go_at_call 109; (with_reducible refine (HO.out _ (grow_alloc (grow_refl _) _)).mono ?_); rintro x w1 ⟨rfl, n1, rfl⟩)
        go_ret
        exact ⟨by rw [HF.out]; rfl, grow_drew (grow_alloc (grow_refl _) _) _⟩
      · have q3 : ((e.kids.length : Int) == 2) = false := beq_eq_false_iff_ne.2 (by omega)
        have HF : Hid (bareB e = false) := show _ = _ by rw [HB.out, decide_eq_false h3]; simp
        clear h2 HB h3
        go_enter Tryz.func104, Tryz.ntmps104
        go_wp2_with (go_at_call 109; (with_reducible refine (HO.out _ (grow_alloc (grow_refl _) _)).mono ?_); rintro x w1 ⟨rfl, n1, rfl⟩)
        go_ret
        exact ⟨by rw [HF.out]; rfl, grow_drew (grow_alloc (grow_refl _) _) _⟩
set_option maxRecDepth 100000 in
theorem bare_none (e : PExpr) (h0 : e.kind ≠ xNum) (h1 : e.kind ≠ xName) (h2 : e.kind ≠ xCall) (h3 : e.kind ≠ xOne) (h4 : e.kind ≠ xTwo) (A : Option Addr) (c : Nat) (w : World) : Calls Tryz.prog 104 #[exprV e A c] w (Ret (.bool (bareB e)) w) := by
  have g0 : ((mkB e.kind).toList == [110, 117, 109]) = false := by rw [mkB_toList]; exact beq_eq_false_iff_ne.2 h0
  have g1 : ((mkB e.kind).toList == [110, 97, 109, 101]) = false := by rw [mkB_toList]; exact beq_eq_false_iff_ne.2 h1
  have g2 : ((mkB e.kind).toList == [99, 97, 108, 108]) = false := by rw [mkB_toList]; exact beq_eq_false_iff_ne.2 h2
  have g3 : ((mkB e.kind).toList == [111, 110, 101]) = false := by rw [mkB_toList]; exact beq_eq_false_iff_ne.2 h3
  have g4 : ((mkB e.kind).toList == [116, 119, 111]) = false := by rw [mkB_toList]; exact beq_eq_false_iff_ne.2 h4
  have HF : Hid (bareB e = false) := bareB_none h0 h1 h2 h3 h4
  unfold exprV
  clear h0 h1 h2 h3 h4
  go_enter Tryz.func104, Tryz.ntmps104
  go_wp2_with fail
  go_ret
  exact ⟨by rw [HF.out]; rfl, grow_alloc (grow_refl _) _⟩
theorem bare_any (e : PExpr) (E : Nat → Addr) (A : Option Addr) (c : Nat) (w : World) (hE : Laid E w) : Calls Tryz.prog 104 #[exprV e A c] w (Ret (.bool (bareB e)) w) := by
  by_cases h0 : e.kind = xNum
  · exact bare_num e h0 A c w
  by_cases h1 : e.kind = xName
  · exact bare_name e h1 A c w
  by_cases h2 : e.kind = xCall
  · exact bare_call e h2 A c w
  by_cases h3 : e.kind = xOne
  · exact bare_one e h3 E A c w hE
  by_cases h4 : e.kind = xTwo
  · exact bare_two e h4 E A c w hE
  exact bare_none e h0 h1 h2 h3 h4 A c w
end Go.Proofs.YteifmgcbafemeaaGreatDoor
