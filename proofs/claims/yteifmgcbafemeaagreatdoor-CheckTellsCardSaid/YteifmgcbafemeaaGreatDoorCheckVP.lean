import Derived.Test.YteifmgcbafemeaaGreatDoorCheckP
namespace Go.Proofs.YteifmgcbafemeaaGreatDoor
open Go.RowKit

/-! variables and calls, in plain Lean -/
def pushN (xs : List Nm) (x : Nm) : List Nm := if xs.contains x then xs else xs ++ [x]
mutual
def callE : PExpr → List Nm → List Nm
  | ⟨kind, _, name, kids⟩, xs => if kind = xCall then pushN (callK kids xs) name else callK kids xs
def callK : List PExpr → List Nm → List Nm
  | [], xs => xs
  | k :: ks, xs => callK ks (callE k xs)
end
theorem callE_eq (e : PExpr) (xs : List Nm) : callE e xs = if e.kind = xCall then pushN (callK e.kids xs) e.name else callK e.kids xs := by cases e; rw [callE]
theorem callK_nil (xs : List Nm) : callK [] xs = xs := by rw [callK]
theorem callK_cons (k : PExpr) (ks : List PExpr) (xs : List Nm) : callK (k :: ks) xs = callK ks (callE k xs) := by rw [callK]
def stepV (s : PStmt) (xs : List Nm) : List Nm := if s.kind = sVar then xs ++ [s.name] else xs
def stepC (s : PStmt) (xs : List Nm) : List Nm := callE s.e xs
mutual
def walkT (σ : PStmt → List Nm → List Nm) : PStmt → List Nm → List Nm
  | ⟨kind, name, e, th, el⟩, xs => walkS σ el (walkS σ th (σ ⟨kind, name, e, th, el⟩ xs))
def walkS (σ : PStmt → List Nm → List Nm) : List PStmt → List Nm → List Nm
  | [], xs => xs
  | s :: ss, xs => walkS σ ss (walkT σ s xs)
end
theorem walkT_eq (σ : PStmt → List Nm → List Nm) (s : PStmt) (xs : List Nm) : walkT σ s xs = walkS σ s.el (walkS σ s.th (σ s xs)) := by cases s; rw [walkT]
theorem walkS_nil (σ : PStmt → List Nm → List Nm) (xs : List Nm) : walkS σ [] xs = xs := by rw [walkS]
theorem walkS_cons (σ : PStmt → List Nm → List Nm) (s : PStmt) (ss : List PStmt) (xs : List Nm) : walkS σ (s :: ss) xs = walkS σ ss (walkT σ s xs) := by rw [walkS]
def varsP (f : PFun) : List Nm := walkS stepV f.body f.params
def callsP (f : PFun) : List Nm := walkS stepC f.body []

/-! how many -/
mutual
def cntE : PExpr → Nat
  | ⟨_, _, _, kids⟩ => 1 + cntK kids
def cntK : List PExpr → Nat
  | [] => 0
  | k :: ks => cntE k + cntK ks
end
theorem cntE_eq (e : PExpr) : cntE e = 1 + cntK e.kids := by cases e; rw [cntE]
theorem cntK_nil : cntK [] = 0 := by rw [cntK]
theorem cntK_cons (k : PExpr) (ks : List PExpr) : cntK (k :: ks) = cntE k + cntK ks := by rw [cntK]
mutual
def cntT : PStmt → Nat
  | ⟨_, _, e, th, el⟩ => 1 + cntE e + cntS th + cntS el
def cntS : List PStmt → Nat
  | [] => 0
  | s :: ss => cntT s + cntS ss
end
theorem cntT_eq (s : PStmt) : cntT s = 1 + cntE s.e + cntS s.th + cntS s.el := by cases s; rw [cntT]
theorem cntS_nil : cntS [] = 0 := by rw [cntS]
theorem cntS_cons (s : PStmt) (ss : List PStmt) : cntS (s :: ss) = cntT s + cntS ss := by rw [cntS]
theorem cntK_le {d : Nat} : ∀ (ks : List PExpr) (n : Nat), (∀ k ∈ ks, szE k d < 1000 → cntE k ≤ szE k d) → szK ks d n < 1000 → n + cntK ks ≤ szK ks d n := by
  intro ks
  induction ks with
  | nil => intro n _ _; rw [cntK_nil, szK_nil]; omega
  | cons k ks ih =>
    intro n hk h
    have hn1 : n < 1000 := by have := szK_ge (k :: ks) d n; omega
    rw [szK_cons, if_pos hn1] at h ⊢
    have h1 := szK_ge ks d (n + szE k d)
    have h2 := hk k (by simp) (by omega)
    have h3 := ih (n + szE k d) (fun x hx => hk x (by simp [hx])) h
    rw [cntK_cons]; omega
theorem cntE_le : ∀ (e : PExpr) (d : Nat), szE e d < 1000 → cntE e ≤ szE e d := by
  intro e
  induction e using PExpr.ind with
  | h e ih =>
    intro d h
    rw [szE_eq] at h ⊢
    split at h
    · omega
    · rename_i hc
      rw [if_neg hc, cntE_eq]
      exact cntK_le e.kids 1 (fun k hk => ih k hk (d + 1)) h
theorem cntS_le {d : Nat} : ∀ (ss : List PStmt) (n : Nat), (∀ s ∈ ss, szT s d < 1000 → cntT s ≤ szT s d) → szL ss d n < 1000 → n + cntS ss ≤ szL ss d n := by
  intro ss
  induction ss with
  | nil => intro n _ _; rw [cntS_nil, szL_nil]; omega
  | cons s ss ih =>
    intro n hk h
    have hsm := szL_small _ _ _ h s (by simp)
    have hn1 : n < 1000 := by rw [szL_cons] at h; split at h <;> omega
    rw [szL_cons, if_pos hn1] at h ⊢
    rw [if_neg (by omega)] at h ⊢
    have h2 := hk s (by simp) hsm.2.2
    have h3 := ih (n + szT s d) (fun x hx => hk x (by simp [hx])) h
    rw [cntS_cons]; omega
theorem cntT_le : ∀ (s : PStmt) (d : Nat), szT s d < 1000 → cntT s ≤ szT s d := by
  intro s
  induction s using PStmt.ind with
  | h s iht ihl =>
    intro d h
    rw [szT_eq] at h ⊢
    have h0 := cntE_le s.e 0 (by omega)
    obtain ⟨_, q1⟩ := szS_small (ss := s.th) (d := d + 1) (by omega)
    obtain ⟨_, q2⟩ := szS_small (ss := s.el) (d := d + 1) (by omega)
    have h1 := cntS_le s.th 0 (fun k hk => iht k hk (d + 1)) q1
    have h2 := cntS_le s.el 0 (fun k hk => ihl k hk (d + 1)) q2
    have e1 : szS s.th (d + 1) = szL s.th (d + 1) 0 := by
      have : szS s.th (d + 1) < 1000 := by omega
      unfold szS at this ⊢; split at this <;> rename_i hc
      · omega
      · rw [if_neg hc]
    have e2 : szS s.el (d + 1) = szL s.el (d + 1) 0 := by
      have : szS s.el (d + 1) < 1000 := by omega
      unfold szS at this ⊢; split at this <;> rename_i hc
      · omega
      · rw [if_neg hc]
    rw [cntT_eq]; omega
theorem cntB_le {ss : List PStmt} (h : szS ss 0 < 1000) : cntS ss ≤ szS ss 0 := by
  obtain ⟨_, q1⟩ := szS_small h
  have h1 := cntS_le ss 0 (fun k _ => cntT_le k 0) q1
  unfold szS at h ⊢
  split at h <;> rename_i hc
  · omega
  · rw [if_neg hc]; omega
theorem pushN_len (xs : List Nm) (x : Nm) : (pushN xs x).length ≤ xs.length + 1 := by unfold pushN; split <;> simp
theorem callK_len : ∀ (ks : List PExpr) (xs : List Nm), (∀ k ∈ ks, ∀ ys, (callE k ys).length ≤ ys.length + cntE k) → (callK ks xs).length ≤ xs.length + cntK ks := by
  intro ks
  induction ks with
  | nil => intro xs _; rw [callK_nil, cntK_nil]; omega
  | cons k ks ih =>
    intro xs h
    rw [callK_cons, cntK_cons]
    have h1 := h k (by simp) xs
    have h2 := ih (callE k xs) fun x hx => h x (by simp [hx])
    omega
theorem callE_len : ∀ (e : PExpr) (xs : List Nm), (callE e xs).length ≤ xs.length + cntE e := by
  intro e
  induction e using PExpr.ind with
  | h e ih =>
    intro xs
    rw [callE_eq, cntE_eq]
    have h1 := callK_len e.kids xs ih
    have h2 := pushN_len (callK e.kids xs) e.name
    split <;> omega
/-- A step adds no more than its statement holds. -/
def StepOk (σ : PStmt → List Nm → List Nm) : Prop := ∀ s xs, (σ s xs).length ≤ xs.length + 1 + cntE s.e
theorem stepV_ok : StepOk stepV := fun s xs => by
  unfold stepV; split
  · simp only [List.length_append, List.length_cons, List.length_nil]; omega
  · omega
theorem stepC_ok : StepOk stepC := fun s xs => by have := callE_len s.e xs; unfold stepC; omega
theorem walkS_len {σ : PStmt → List Nm → List Nm} : ∀ (ss : List PStmt) (xs : List Nm), (∀ s ∈ ss, ∀ ys, (walkT σ s ys).length ≤ ys.length + cntT s) → (walkS σ ss xs).length ≤ xs.length + cntS ss := by
  intro ss
  induction ss with
  | nil => intro xs _; rw [walkS_nil, cntS_nil]; omega
  | cons s ss ih =>
    intro xs h
    rw [walkS_cons, cntS_cons]
    have h1 := h s (by simp) xs
    have h2 := ih (walkT σ s xs) fun x hx => h x (by simp [hx])
    omega
theorem walkT_len {σ : PStmt → List Nm → List Nm} (hσ : StepOk σ) : ∀ (s : PStmt) (xs : List Nm), (walkT σ s xs).length ≤ xs.length + cntT s := by
  intro s
  induction s using PStmt.ind with
  | h s iht ihl =>
    intro xs
    rw [walkT_eq, cntT_eq]
    have h0 := hσ s xs
    have h1 := walkS_len s.th (σ s xs) iht
    have h2 := walkS_len s.el (walkS σ s.th (σ s xs)) ihl
    omega
theorem walkB_len {σ : PStmt → List Nm → List Nm} (hσ : StepOk σ) (ss : List PStmt) (xs : List Nm) : (walkS σ ss xs).length ≤ xs.length + cntS ss := walkS_len ss xs fun s _ => walkT_len hσ s
end Go.Proofs.YteifmgcbafemeaaGreatDoor
