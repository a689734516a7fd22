import Derived.Test.YtpfgimohginbdaaDoorBn8
set_option linter.unusedVariables false
set_option linter.unusedSimpArgs false
namespace Go.Proofs.YtpfgimohginbdaaDoor
open Go.RowKit

/-! how large trees are -/
mutual
def szE : PExpr → Nat → Nat
  | ⟨_, _, name, kids⟩, d => if 15 < d ∨ 8 < kids.length ∨ 20 < name.length then 1000 else szK kids (d + 1) 1
def szK : List PExpr → Nat → Nat → Nat
  | [], _, n => n
  | k :: ks, d, n => if n < 1000 then szK ks d (n + szE k d) else n
end
theorem szE_eq (e : PExpr) (d : Nat) : szE e d = if 15 < d ∨ 8 < e.kids.length ∨ 20 < e.name.length then 1000 else szK e.kids (d + 1) 1 := by
  cases e; rw [szE]
theorem szK_nil (d n : Nat) : szK [] d n = n := by rw [szK]
theorem szK_cons (k : PExpr) (ks : List PExpr) (d n : Nat) : szK (k :: ks) d n = if n < 1000 then szK ks d (n + szE k d) else n := by rw [szK]
mutual
def szT : PStmt → Nat → Nat
  | ⟨_, _, e, th, el⟩, d => 1 + szE e 0 + (if 15 < d + 1 ∨ 30 < th.length then 1000 else szL th (d + 1) 0) + (if 15 < d + 1 ∨ 30 < el.length then 1000 else szL el (d + 1) 0)
def szL : List PStmt → Nat → Nat → Nat
  | [], _, n => n
  | s :: ss, d, n => if n < 1000 then (if 20 < s.name.length ∨ 20 < s.kind.length then 1000 else szL ss d (n + szT s d)) else n
end
def szS (ss : List PStmt) (d : Nat) : Nat := if 15 < d ∨ 30 < ss.length then 1000 else szL ss d 0
theorem szT_eq (s : PStmt) (d : Nat) : szT s d = 1 + szE s.e 0 + szS s.th (d + 1) + szS s.el (d + 1) := by
  cases s; rw [szT]; rfl
theorem szL_nil (d n : Nat) : szL [] d n = n := by rw [szL]
theorem szL_cons (s : PStmt) (ss : List PStmt) (d n : Nat) : szL (s :: ss) d n = if n < 1000 then (if 20 < s.name.length ∨ 20 < s.kind.length then 1000 else szL ss d (n + szT s d)) else n := by rw [szL]

theorem szK_le {M d : Nat} : ∀ (ks : List PExpr) (n : Nat), (∀ k ∈ ks, szE k d ≤ M) → n ≤ 999 + M → szK ks d n ≤ 999 + M := by
  intro ks
  induction ks with
  | nil => intro n _ h; rw [szK_nil]; exact h
  | cons k ks ih =>
    intro n hk h
    rw [szK_cons]
    split
    · exact ih _ (fun x hx => hk x (by simp [hx])) (by have := hk k (by simp); omega)
    · exact h
theorem szE_le : ∀ (e : PExpr) (d : Nat), d ≤ 16 → szE e d ≤ 1000 * (17 - d) := by
  intro e
  induction e using PExpr.ind with
  | h e ih =>
    intro d hd
    rw [szE_eq]
    split
    · omega
    · rename_i h
      have := szK_le (M := 1000 * (17 - (d + 1))) (d := d + 1) e.kids 1 (fun k hk => ih k hk (d + 1) (by omega)) (by omega)
      omega
def mS : Nat → Nat
  | 0 => 20000
  | j + 1 => 18000 + 2 * mS j
theorem mS_le : ∀ j, j ≤ 16 → mS j ≤ 3000000000 := by decide
theorem szL_le {M d : Nat} : ∀ (ss : List PStmt) (n : Nat), (∀ s ∈ ss, szT s d ≤ M) → 1 ≤ M → n ≤ 999 + M → szL ss d n ≤ 999 + M := by
  intro ss
  induction ss with
  | nil => intro n _ _ h; rw [szL_nil]; exact h
  | cons s ss ih =>
    intro n hk hM h
    rw [szL_cons]
    split
    · split
      · omega
      · exact ih _ (fun x hx => hk x (by simp [hx])) hM (by have := hk s (by simp); omega)
    · exact h
theorem szS_le : ∀ (j d : Nat), d + j = 16 → ∀ ss, szS ss d ≤ mS j := by
  intro j
  induction j with
  | zero => intro d hd ss; unfold szS; rw [if_pos (by omega)]; simp [mS]
  | succ j ih =>
    intro d hd ss
    unfold szS
    split
    · simp only [mS]; omega
    · have := szL_le (M := 17001 + 2 * mS j) (d := d) ss 0 (fun s _ => by
        rw [szT_eq]
        have h1 := szE_le s.e 0 (by omega)
        have h2 := ih (d + 1) (by omega) s.th
        have h3 := ih (d + 1) (by omega) s.el
        omega) (by omega) (by omega)
      simp only [mS]; omega
theorem szS_bound (ss : List PStmt) (d : Nat) (hd : d ≤ 16) : szS ss d ≤ 3000000000 := Nat.le_trans (szS_le (16 - d) d (by omega) ss) (mS_le _ (by omega))

theorem szK_ge : ∀ (ks : List PExpr) (d n : Nat), n ≤ szK ks d n := by
  intro ks
  induction ks with
  | nil => intro d n; rw [szK_nil]; exact Nat.le_refl _
  | cons k ks ih =>
    intro d n
    rw [szK_cons]
    split
    · exact Nat.le_trans (by omega) (ih d (n + szE k d))
    · exact Nat.le_refl _
theorem szK_small : ∀ (ks : List PExpr) (d n : Nat), szK ks d n < 1000 → ∀ k ∈ ks, szE k d < 1000 := by
  intro ks
  induction ks with
  | nil => intro d n _ k hk; cases hk
  | cons k ks ih =>
    intro d n h x hx
    have hn := szK_ge (k :: ks) d n
    rw [szK_cons] at h hn
    rw [if_pos (by split at h <;> omega)] at h
    rcases List.mem_cons.1 hx with rfl | hx
    · have := szK_ge ks d (n + szE x d); omega
    · exact ih d _ h x hx
theorem szE_small : ∀ (e : PExpr) (d : Nat), szE e d < 1000 → SmE e := by
  intro e
  induction e using PExpr.ind with
  | h e ih =>
    intro d h
    rw [szE_eq] at h
    split at h
    · omega
    · exact ⟨e, by omega, by omega, fun k hk => ih k hk _ (szK_small _ _ _ h k hk)⟩
theorem szL_ge : ∀ (ss : List PStmt) (d n : Nat), n < 1000 → n ≤ szL ss d n := by
  intro ss
  induction ss with
  | nil => intro d n _; rw [szL_nil]; exact Nat.le_refl _
  | cons s ss ih =>
    intro d n hn
    rw [szL_cons, if_pos hn]
    split
    · omega
    · by_cases h : n + szT s d < 1000
      · have := ih d (n + szT s d) h; omega
      · cases ss with
        | nil => rw [szL_nil]; omega
        | cons t ss => rw [szL_cons, if_neg h]; omega
theorem szL_small : ∀ (ss : List PStmt) (d n : Nat), szL ss d n < 1000 → ∀ s ∈ ss, s.name.length ≤ 20 ∧ s.kind.length ≤ 20 ∧ szT s d < 1000 := by
  intro ss
  induction ss with
  | nil => intro d n _ k hk; cases hk
  | cons s ss ih =>
    intro d n h x hx
    rw [szL_cons] at h
    split at h
    · split at h
      · omega
      · have hlt : n + szT s d < 1000 := by
          by_cases q : n + szT s d < 1000
          · exact q
          · cases ss with
            | nil => rw [szL_nil] at h; omega
            | cons t ss => rw [szL_cons, if_neg q] at h; omega
        rcases List.mem_cons.1 hx with rfl | hx
        · exact ⟨by omega, by omega, by omega⟩
        · exact ih d _ h x hx
    · omega
theorem szS_small {ss : List PStmt} {d : Nat} (h : szS ss d < 1000) : ss.length ≤ 30 ∧ szL ss d 0 < 1000 := by
  unfold szS at h
  split at h
  · omega
  · exact ⟨by omega, h⟩
theorem szT_small : ∀ (s : PStmt) (d : Nat), s.name.length ≤ 20 → s.kind.length ≤ 20 → szT s d < 1000 → SmS s := by
  intro s
  induction s using PStmt.ind with
  | h s iht ihl =>
    intro d h1 h2 h
    rw [szT_eq] at h
    obtain ⟨l1, q1⟩ := szS_small (ss := s.th) (d := d + 1) (by omega)
    obtain ⟨l2, q2⟩ := szS_small (ss := s.el) (d := d + 1) (by omega)
    exact ⟨s, h2, h1, szE_small _ 0 (by omega), l1, l2, fun k hk => have q := szL_small _ _ _ q1 k hk; iht k hk _ q.1 q.2.1 q.2.2, fun k hk => have q := szL_small _ _ _ q2 k hk; ihl k hk _ q.1 q.2.1 q.2.2⟩
def longT (ps : List (List UInt8)) : Bool := ps.any fun p => decide (20 < p.length)
def largeF : List PFun → Nat → Nat → Bool
  | [], _, _ => false
  | f :: fs, most, n => if 8 < f.params.length ∨ 20 < f.name.length then true else if longT f.params then true else if most < n + szS f.body 0 then true else largeF fs most (n + szS f.body 0)
def largeP (fs : List PFun) (most : Nat) : Bool := decide (10 < fs.length) || largeF fs most 0
def sumSz : List PFun → Nat
  | [] => 0
  | f :: fs => szS f.body 0 + sumSz fs
theorem largeF_small {most : Nat} (hm : most < 1000) : ∀ (fs : List PFun) (n : Nat), largeF fs most n = false → (∀ f ∈ fs, SmF f ∧ szS f.body 0 ≤ most) ∧ (n ≤ most → n + sumSz fs ≤ most) := by
  intro fs
  induction fs with
  | nil =>
    intro n _
    exact ⟨(fun f hf => by cases hf), (fun h => by simpa [sumSz] using h)⟩
  | cons f fs ih =>
    intro n h
    simp only [largeF] at h
    split at h
    · cases h
    · split at h
      · cases h
      · split at h
        · cases h
        · rename_i h1 h2 h3
          obtain ⟨q1, q2⟩ := ih _ h
          have hs := szS_small (ss := f.body) (d := 0) (by omega)
          refine ⟨fun g hg => ?_, fun _ => by simp only [sumSz]; have := q2 (by omega); omega⟩
          rcases List.mem_cons.1 hg with rfl | hg
          · refine ⟨⟨by omega, by omega, fun p hp => ?_, hs.1, fun s hs' => have q := szL_small _ _ _ hs.2 s hs'; szT_small s 0 q.1 q.2.1 q.2.2⟩, by omega⟩
            simp only [longT, List.any_eq_true, decide_eq_true_eq, not_exists, not_and] at h2
            have := h2 p hp
            omega
          · exact q1 g hg
theorem largeP_small {most : Nat} (hm : most < 1000) {fs : List PFun} (h : largeP fs most = false) : fs.length ≤ 10 ∧ (∀ f ∈ fs, SmF f) ∧ sumSz fs ≤ most ∧ ∀ f ∈ fs, szS f.body 0 ≤ most := by
  simp only [largeP, Bool.or_eq_false_iff, decide_eq_false_iff_not] at h
  obtain ⟨q1, q2⟩ := largeF_small hm fs 0 h.2
  exact ⟨by omega, fun f hf => (q1 f hf).1, by have := q2 (by omega); omega, fun f hf => (q1 f hf).2⟩
end Go.Proofs.YtpfgimohginbdaaDoor
