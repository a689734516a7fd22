import Derived.Test.YteifmgcbafemeaaGreatDoorTextP
import Derived.Test.YteifmgcbafemeaaGreatDoorLexM
import Derived.Test.YteifmgcbafemeaaGreatDoorVal
namespace Go.Proofs.YteifmgcbafemeaaGreatDoor
open Go.RowKit

/-! what is well, in plain Lean -/
abbrev Nm := List UInt8
def nmOk (l : Nm) : Bool := decide (1 ≤ l.length) && decide (l.length ≤ 8) && isLetter (l.headD 0) && l.all alnum && !wordsB.contains l
def isOneB (l : Nm) : Bool := (oneV l 0).isSome
def isTwoB (l : Nm) : Bool := (doV l 0 0).isSome
/-- An expression of n kids has nothing that its kind has not. -/
def bareB (e : PExpr) : Bool :=
  if e.kind = xNum then decide (0 ≤ e.num) && e.name.isEmpty && e.kids.isEmpty
  else if e.kind = xName then (e.num == 0) && nmOk e.name && e.kids.isEmpty
  else if e.kind = xCall then (e.num == 0) && nmOk e.name
  else if e.kind = xOne then (e.num == 0) && isOneB e.name && decide (e.kids.length = 1)
  else if e.kind = xTwo then (e.num == 0) && isTwoB e.name && decide (e.kids.length = 2)
  else false
abbrev Tab := List (Nm × Nat)
def argsOf (fs : Tab) (n : Nm) : Option Nat := (fs.find? fun f => f.1 == n).map (·.2)
def callC (fs : Tab) (n : Nm) (k : Nat) : Nat := match argsOf fs n with
  | none => 6
  | some m => if m = k then 0 else 9
def selfC (fs : Tab) (vis : List Nm) (e : PExpr) : Nat := if e.kind = xName then (if vis.contains e.name then 0 else 6) else if e.kind = xCall then callC fs e.name e.kids.length else 0
mutual
def exprC (fs : Tab) (vis : List Nm) : PExpr → Nat
  | ⟨kind, num, name, kids⟩ => if bareB ⟨kind, num, name, kids⟩ then (if kidsC fs vis kids = 0 then selfC fs vis ⟨kind, num, name, kids⟩ else kidsC fs vis kids) else 3
def kidsC (fs : Tab) (vis : List Nm) : List PExpr → Nat
  | [] => 0
  | k :: ks => if exprC fs vis k = 0 then kidsC fs vis ks else exprC fs vis k
end
theorem exprC_eq (fs : Tab) (vis : List Nm) (e : PExpr) : exprC fs vis e = if bareB e then (if kidsC fs vis e.kids = 0 then selfC fs vis e else kidsC fs vis e.kids) else 3 := by
  cases e; rw [exprC]
theorem kidsC_nil (fs : Tab) (vis : List Nm) : kidsC fs vis [] = 0 := by rw [kidsC]
theorem kidsC_cons (fs : Tab) (vis : List Nm) (k : PExpr) (ks : List PExpr) : kidsC fs vis (k :: ks) = if exprC fs vis k = 0 then kidsC fs vis ks else exprC fs vis k := by rw [kidsC]
/-- A statement has nothing that its kind has not. -/
def shapedB (kind name : Nm) (t l : Nat) : Bool :=
  if kind = sVar ∨ kind = sSet then nmOk name && decide (t = 0) && decide (l = 0)
  else if kind = sIf then name.isEmpty
  else if kind = sWhile then name.isEmpty && decide (l = 0)
  else if kind = sReturn ∨ kind = sPrint then name.isEmpty && decide (t = 0) && decide (l = 0)
  else false
def addC (name : Nm) (all vis : List Nm) : Nat × List Nm × List Nm := if all.contains name then (7, all, vis) else if 12 ≤ all.length then (8, all, vis) else (0, all ++ [name], vis ++ [name])
mutual
def stmtC (fs : Tab) : PStmt → List Nm → List Nm → Nat × List Nm × List Nm
  | ⟨kind, name, e, th, el⟩, all, vis =>
    if shapedB kind name th.length el.length then
      if exprC fs vis e = 0 then
        if kind = sVar then addC name all vis
        else if kind = sSet ∧ vis.contains name = false then (6, all, vis)
        else if (blockC fs th all vis).1 = 0 then ((blockC fs el (blockC fs th all vis).2 vis).1, (blockC fs el (blockC fs th all vis).2 vis).2, vis)
        else ((blockC fs th all vis).1, (blockC fs th all vis).2, vis)
      else (exprC fs vis e, all, vis)
    else (3, all, vis)
def blockC (fs : Tab) : List PStmt → List Nm → List Nm → Nat × List Nm
  | [], all, _ => (0, all)
  | s :: ss, all, vis => if (stmtC fs s all vis).1 = 0 then blockC fs ss (stmtC fs s all vis).2.1 (stmtC fs s all vis).2.2 else ((stmtC fs s all vis).1, (stmtC fs s all vis).2.1)
end
theorem stmtC_eq (fs : Tab) (s : PStmt) (all vis : List Nm) : stmtC fs s all vis =
    if shapedB s.kind s.name s.th.length s.el.length then
      if exprC fs vis s.e = 0 then
        if s.kind = sVar then addC s.name all vis
        else if s.kind = sSet ∧ vis.contains s.name = false then (6, all, vis)
        else if (blockC fs s.th all vis).1 = 0 then ((blockC fs s.el (blockC fs s.th all vis).2 vis).1, (blockC fs s.el (blockC fs s.th all vis).2 vis).2, vis)
        else ((blockC fs s.th all vis).1, (blockC fs s.th all vis).2, vis)
      else (exprC fs vis s.e, all, vis)
    else (3, all, vis) := by cases s; rw [stmtC]
theorem blockC_nil (fs : Tab) (all vis : List Nm) : blockC fs [] all vis = (0, all) := by rw [blockC]
theorem blockC_cons (fs : Tab) (s : PStmt) (ss : List PStmt) (all vis : List Nm) : blockC fs (s :: ss) all vis = if (stmtC fs s all vis).1 = 0 then blockC fs ss (stmtC fs s all vis).2.1 (stmtC fs s all vis).2.2 else ((stmtC fs s all vis).1, (stmtC fs s all vis).2.1) := by rw [blockC]
/-- Is one there twice? -/
def dupC (own : List Nm) : List Nm → Bool
  | [] => false
  | p :: ps => own.contains p || dupC (own ++ [p]) ps
def namesC (f : PFun) (ahead : List PFun) : Nat :=
  if nmOk f.name && f.params.all nmOk then
    if ahead.any (fun g => g.name == f.name) then 7 else if 4 < f.params.length then 9 else if dupC [] f.params then 7 else 0
  else 5
def tabOf (fs : List PFun) : Tab := fs.map fun f => (f.name, f.params.length)
def funC (fs : Tab) (ahead : List PFun) (f : PFun) : Nat := if namesC f ahead = 0 then (blockC fs f.body f.params f.params).1 else namesC f ahead
def progFrom (fs : Tab) (ahead : List PFun) : List PFun → Nat × Int
  | [] => (0, -1)
  | f :: rest => if funC fs ahead f = 0 then progFrom fs (ahead ++ [f]) rest else (funC fs ahead f, ahead.length)
def progC (fs : List PFun) : Nat × Int := if 8 < fs.length then (8, -1) else progFrom (tabOf fs) [] fs

/-! lengths, codes -/
theorem callC_code (fs : Tab) (n : Nm) (k : Nat) : callC fs n k ≤ 10 := by unfold callC; split <;> (try split) <;> omega
theorem selfC_code (fs : Tab) (vis : List Nm) (e : PExpr) : selfC fs vis e ≤ 10 := by
  unfold selfC
  have := callC_code fs e.name e.kids.length
  repeat (first | omega | split)
theorem kidsC_code {fs : Tab} {vis : List Nm} : ∀ (ks : List PExpr), (∀ k ∈ ks, exprC fs vis k ≤ 10) → kidsC fs vis ks ≤ 10 := by
  intro ks
  induction ks with
  | nil => intro _; rw [kidsC_nil]; omega
  | cons k ks ih =>
    intro h
    rw [kidsC_cons]
    split
    · exact ih fun x hx => h x (by simp [hx])
    · exact h k (by simp)
theorem exprC_code (fs : Tab) (vis : List Nm) : ∀ e : PExpr, exprC fs vis e ≤ 10 := by
  intro e
  induction e using PExpr.ind with
  | h e ih =>
    rw [exprC_eq]
    have h1 := kidsC_code e.kids ih
    have h2 := selfC_code fs vis e
    repeat (first | omega | split)
/-- What a statement leaves. -/
def Left (fs : Tab) (s : PStmt) : Prop := ∀ all vis, (stmtC fs s all vis).1 ≤ 10 ∧ (all.length ≤ 12 → (stmtC fs s all vis).2.1.length ≤ 12) ∧
  (vis.length ≤ all.length → (stmtC fs s all vis).2.2.length ≤ (stmtC fs s all vis).2.1.length) ∧ all.length ≤ (stmtC fs s all vis).2.1.length ∧ ∃ more, (stmtC fs s all vis).2.2 = vis ++ more
def LeftB (fs : Tab) (ss : List PStmt) : Prop := ∀ all vis, (blockC fs ss all vis).1 ≤ 10 ∧ (all.length ≤ 12 → (blockC fs ss all vis).2.length ≤ 12) ∧ all.length ≤ (blockC fs ss all vis).2.length
theorem leftB_of (fs : Tab) : ∀ (ss : List PStmt), (∀ s ∈ ss, Left fs s) → LeftB fs ss := by
  intro ss
  induction ss with
  | nil => intro _ all vis; rw [blockC_nil]; exact ⟨by simp, fun h => h, Nat.le_refl _⟩
  | cons s ss ih =>
    intro h all vis
    obtain ⟨a1, a2, a3, a4, -⟩ := h s (by simp) all vis
    rw [blockC_cons]
    split
    · obtain ⟨b1, b2, b3⟩ := ih (fun x hx => h x (by simp [hx])) (stmtC fs s all vis).2.1 (stmtC fs s all vis).2.2
      exact ⟨b1, fun q => b2 (a2 q), Nat.le_trans a4 b3⟩
    · exact ⟨a1, a2, a4⟩
theorem addC_left (name : Nm) (all vis : List Nm) : (addC name all vis).1 ≤ 10 ∧ (all.length ≤ 12 → (addC name all vis).2.1.length ≤ 12) ∧
    (vis.length ≤ all.length → (addC name all vis).2.2.length ≤ (addC name all vis).2.1.length) ∧ all.length ≤ (addC name all vis).2.1.length ∧ ∃ more, (addC name all vis).2.2 = vis ++ more := by
  unfold addC
  split
  · exact ⟨by simp, fun h => h, fun h => h, Nat.le_refl _, [], by simp⟩
  · split
    · exact ⟨by simp, fun h => h, fun h => h, Nat.le_refl _, [], by simp⟩
    · exact ⟨by simp, fun _ => by simp; omega, fun h => by simp; omega, by simp, _, rfl⟩
theorem left_of (fs : Tab) (s : PStmt) (ht : LeftB fs s.th) (hl : LeftB fs s.el) : Left fs s := by
  intro all vis
  have h0 := exprC_code fs vis s.e
  obtain ⟨t1, t2, t3⟩ := ht all vis
  obtain ⟨l1, l2, l3⟩ := hl (blockC fs s.th all vis).2 vis
  rw [stmtC_eq]
  split
  · split
    · split
      · exact addC_left _ _ _
      · split
        · exact ⟨by simp, fun h => h, fun h => h, Nat.le_refl _, [], by simp⟩
        · split
          · exact ⟨l1, fun h => l2 (t2 h), fun h => by simp only; omega, by simp only; omega, [], by simp⟩
          · exact ⟨t1, t2, fun h => by simp only; omega, t3, [], by simp⟩
    · exact ⟨h0, fun h => h, fun h => h, Nat.le_refl _, [], by simp⟩
  · exact ⟨by simp, fun h => h, fun h => h, Nat.le_refl _, [], by simp⟩
theorem left_any (fs : Tab) : ∀ s : PStmt, Left fs s := by
  intro s
  induction s using PStmt.ind with
  | h s iht ihl => exact left_of fs s (leftB_of fs _ iht) (leftB_of fs _ ihl)
theorem leftB_any (fs : Tab) (ss : List PStmt) : LeftB fs ss := leftB_of fs ss fun s _ => left_any fs s
theorem namesC_code (f : PFun) (ahead : List PFun) : namesC f ahead ≤ 10 := by unfold namesC; repeat (first | omega | split)
theorem funC_code (fs : Tab) (ahead : List PFun) (f : PFun) : funC fs ahead f ≤ 10 := by
  unfold funC
  have h1 := namesC_code f ahead
  have h2 := (leftB_any fs f.body f.params f.params).1
  split <;> omega
end Go.Proofs.YteifmgcbafemeaaGreatDoor
