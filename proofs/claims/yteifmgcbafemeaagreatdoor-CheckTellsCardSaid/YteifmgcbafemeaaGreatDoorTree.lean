import Derived.Test.YteifmgcbafemeaaGreatDoorBase
import Derived.Deep.Slices
namespace Go.Proofs.YteifmgcbafemeaaGreatDoor
open Go.RowKit

/-! plain trees -/
structure PExpr where
  kind : List UInt8
  num : Int
  name : List UInt8
  kids : List PExpr
structure PStmt where
  kind : List UInt8
  name : List UInt8
  e : PExpr
  th : List PStmt
  el : List PStmt
structure PFun where
  name : List UInt8
  params : List (List UInt8)
  body : List PStmt
instance : Inhabited PExpr := ⟨⟨[], 0, [], []⟩⟩
instance : Inhabited PStmt := ⟨⟨[], [], default, [], []⟩⟩
instance : Inhabited PFun := ⟨⟨[], [], []⟩⟩

theorem PExpr.ind {P : PExpr → Prop} (h : ∀ e : PExpr, (∀ k ∈ e.kids, P k) → P e) : ∀ e, P e
  | ⟨kind, num, name, kids⟩ => h _ fun k hk => PExpr.ind h k
termination_by e => SizeOf.sizeOf e
decreasing_by
  have : SizeOf.sizeOf k < SizeOf.sizeOf kids := List.sizeOf_lt_of_mem hk
  simp only [PExpr.mk.sizeOf_spec]
  omega
theorem PStmt.ind {P : PStmt → Prop} (h : ∀ s : PStmt, (∀ k ∈ s.th, P k) → (∀ k ∈ s.el, P k) → P s) : ∀ s, P s
  | ⟨kind, name, e, th, el⟩ => h _ (fun k hk => PStmt.ind h k) (fun k hk => PStmt.ind h k)
termination_by s => SizeOf.sizeOf s
decreasing_by
  · have : SizeOf.sizeOf k < SizeOf.sizeOf th := List.sizeOf_lt_of_mem hk
    simp only [PStmt.mk.sizeOf_spec]
    omega
  · have : SizeOf.sizeOf k < SizeOf.sizeOf el := List.sizeOf_lt_of_mem hk
    simp only [PStmt.mk.sizeOf_spec]
    omega

def okN (n : Int) : Prop := -9223372036854775808 ≤ n ∧ n ≤ 9223372036854775807
def exprL (e : PExpr) (A : Option Addr) (c : Nat) : List Value := [.string (mkB e.kind), .int .i64 e.num, .string (mkB e.name), .slice A e.kids.length c]
def stmtL (s : PStmt) (X : Option Addr) (x : Nat) (T : Option Addr) (t : Nat) (L : Option Addr) (l : Nat) : List Value :=
  [.string (mkB s.kind), .string (mkB s.name), .string (mkB s.e.kind), .int .i64 s.e.num, .string (mkB s.e.name), .slice X s.e.kids.length x, .slice T s.th.length t, .slice L s.el.length l]
def funL (f : PFun) (P : Option Addr) (p : Nat) (B : Option Addr) (c : Nat) : List Value := [.string (mkB f.name), .slice P f.params.length p, .slice B f.body.length c]
/-- These cells stand at this place. -/
def CellsAt (w : World) (b o : Nat) (l : List Value) : Prop := ∀ (j : Nat) (u : Value), l[j]? = some u → w.cell? ⟨b, o + j, none⟩ = some u
theorem CellsAt.keep {w w' : World} {b o : Nat} {l : List Value} (h : CellsAt w b o l) (k : ∀ a v, a.block = b → w.cell? a = some v → w'.cell? a = some v) : CellsAt w' b o l := fun j u hj => k _ _ rfl (h j u hj)

/-- Expressions that lie side by side in memory, in blocks of S. -/
inductive RdE (w : World) (S : Nat → Prop) : List PExpr → Option Addr → Prop
  | mk (ks : List PExpr) (A : Option Addr) (b off : Nat) (B : Nat → Option Addr) (c : Nat → Nat) (hA : 0 < ks.length → A = some ⟨b, off, none⟩ ∧ S b)
      (hc : ∀ i (hi : i < ks.length), CellsAt w b (off + i * 4) (exprL ks[i] (B i) (c i))) (hn : ∀ i (hi : i < ks.length), okN ks[i].num)
      (hk : ∀ i (hi : i < ks.length), RdE w S ks[i].kids (B i)) : RdE w S ks A
/-- Statements that lie side by side in memory, in blocks of S. -/
inductive RdS (w : World) (S : Nat → Prop) : List PStmt → Option Addr → Prop
  | mk (ss : List PStmt) (A : Option Addr) (b off : Nat) (X T L : Nat → Option Addr) (x t l : Nat → Nat) (hA : 0 < ss.length → A = some ⟨b, off, none⟩ ∧ S b)
      (hc : ∀ i (hi : i < ss.length), CellsAt w b (off + i * 8) (stmtL ss[i] (X i) (x i) (T i) (t i) (L i) (l i))) (hn : ∀ i (hi : i < ss.length), okN ss[i].e.num)
      (hx : ∀ i (hi : i < ss.length), RdE w S ss[i].e.kids (X i)) (ht : ∀ i (hi : i < ss.length), RdS w S ss[i].th (T i)) (hl : ∀ i (hi : i < ss.length), RdS w S ss[i].el (L i)) : RdS w S ss A
/-- Texts that lie side by side in memory, in a block of S. -/
def RdT (w : World) (S : Nat → Prop) (xs : List (List UInt8)) (A : Option Addr) : Prop := ∀ i (hi : i < xs.length), ∃ b off, A = some ⟨b, off, none⟩ ∧ S b ∧ w.cell? ⟨b, off + i, none⟩ = some (.string (mkB xs[i]))
/-- Functions that lie side by side in memory, in blocks of S. -/
def RdF (w : World) (S : Nat → Prop) (fs : List PFun) (A : Option Addr) : Prop := ∀ i (hi : i < fs.length), ∃ b off P p B c, A = some ⟨b, off, none⟩ ∧ S b ∧ CellsAt w b (off + i * 3) (funL fs[i] P p B c) ∧ RdT w S fs[i].params P ∧ RdS w S fs[i].body B

def KeepsIn (S : Nat → Prop) (w w' : World) : Prop := ∀ a v, S a.block → w.cell? a = some v → w'.cell? a = some v
theorem Keeps.in {w w' : World} (h : Keeps w w') (S : Nat → Prop) : KeepsIn S w w' := fun a v _ hv => h a v hv

theorem RdE.keep {w w' : World} {S S' : Nat → Prop} (k : KeepsIn S w w') (hS : ∀ n, S n → S' n) {ks : List PExpr} {A : Option Addr} (h : RdE w S ks A) : RdE w' S' ks A := by
  induction h with
  | mk ks A b off B c hA hc hn hk ih =>
    exact ⟨ks, A, b, off, B, c, fun h => ⟨(hA h).1, hS _ (hA h).2⟩, fun i hi => (hc i hi).keep fun a v e => k a v (by rw [e]; exact (hA (by omega)).2), hn, ih⟩
theorem RdS.keep {w w' : World} {S S' : Nat → Prop} (k : KeepsIn S w w') (hS : ∀ n, S n → S' n) {ss : List PStmt} {A : Option Addr} (h : RdS w S ss A) : RdS w' S' ss A := by
  induction h with
  | mk ss A b off X T L x t l hA hc hn hx ht hl iht ihl =>
    exact ⟨ss, A, b, off, X, T, L, x, t, l, fun h => ⟨(hA h).1, hS _ (hA h).2⟩, fun i hi => (hc i hi).keep fun a v e => k a v (by rw [e]; exact (hA (by omega)).2), hn, fun i hi => (hx i hi).keep k hS, iht, ihl⟩
theorem RdT.keep {w w' : World} {S S' : Nat → Prop} (k : KeepsIn S w w') (hS : ∀ n, S n → S' n) {xs : List (List UInt8)} {A : Option Addr} (h : RdT w S xs A) : RdT w' S' xs A := fun i hi => by
  obtain ⟨b, off, e, hs, hc⟩ := h i hi
  exact ⟨b, off, e, hS _ hs, k _ _ hs hc⟩
theorem RdF.keep {w w' : World} {S S' : Nat → Prop} (k : KeepsIn S w w') (hS : ∀ n, S n → S' n) {fs : List PFun} {A : Option Addr} (h : RdF w S fs A) : RdF w' S' fs A := fun i hi => by
  obtain ⟨b, off, P, p, B, c, e, hs, hc, hp, hb⟩ := h i hi
  exact ⟨b, off, P, p, B, c, e, hS _ hs, hc.keep fun a v e => k a v (by rw [e]; exact hs), hp.keep k hS, hb.keep k hS⟩

theorem RdE.nil (w : World) (S : Nat → Prop) (A : Option Addr) : RdE w S [] A := ⟨[], A, 0, 0, fun _ => none, fun _ => 0, fun h => by simp at h, fun i hi => by simp at hi, fun i hi => by simp at hi, fun i hi => by simp at hi⟩
theorem RdS.nil (w : World) (S : Nat → Prop) (A : Option Addr) : RdS w S [] A :=
  ⟨[], A, 0, 0, fun _ => none, fun _ => none, fun _ => none, fun _ => 0, fun _ => 0, fun _ => 0, fun h => by simp at h, fun i hi => by simp at hi, fun i hi => by simp at hi, fun i hi => by simp at hi, fun i hi => by simp at hi, fun i hi => by simp at hi⟩
/-- The k-th expression of a row. -/
theorem RdE.at {w : World} {S : Nat → Prop} {ks : List PExpr} {A : Option Addr} (h : RdE w S ks A) {i : Nat} (hi : i < ks.length) :
    ∃ b off B c, A = some ⟨b, off, none⟩ ∧ S b ∧ CellsAt w b (off + i * 4) (exprL ks[i] B c) ∧ okN ks[i].num ∧ RdE w S ks[i].kids B := by
  cases h with
  | mk _ _ b off B c hA hc hn hk => exact ⟨b, off, B i, c i, (hA (by omega)).1, (hA (by omega)).2, hc i hi, hn i hi, hk i hi⟩
theorem RdS.at {w : World} {S : Nat → Prop} {ss : List PStmt} {A : Option Addr} (h : RdS w S ss A) {i : Nat} (hi : i < ss.length) :
    ∃ b off X x T t L l, A = some ⟨b, off, none⟩ ∧ S b ∧ CellsAt w b (off + i * 8) (stmtL ss[i] X x T t L l) ∧ okN ss[i].e.num ∧ RdE w S ss[i].e.kids X ∧ RdS w S ss[i].th T ∧ RdS w S ss[i].el L := by
  cases h with
  | mk _ _ b off X T L x t l hA hc hn hx ht hl => exact ⟨b, off, X i, x i, T i, t i, L i, l i, (hA (by omega)).1, (hA (by omega)).2, hc i hi, hn i hi, hx i hi, ht i hi, hl i hi⟩
theorem cells_expr {w : World} {b o : Nat} {e : PExpr} {B : Option Addr} {c : Nat} (h : CellsAt w b o (exprL e B c)) :
    w.cell? ⟨b, o, none⟩ = some (.string (mkB e.kind)) ∧ w.cell? ⟨b, o + 1, none⟩ = some (.int .i64 e.num) ∧ w.cell? ⟨b, o + 2, none⟩ = some (.string (mkB e.name)) ∧ w.cell? ⟨b, o + 3, none⟩ = some (.slice B e.kids.length c) :=
  ⟨h 0 _ rfl, h 1 _ rfl, h 2 _ rfl, h 3 _ rfl⟩
theorem cells_stmt {w : World} {b o : Nat} {s : PStmt} {X : Option Addr} {x : Nat} {T : Option Addr} {t : Nat} {L : Option Addr} {l : Nat} (h : CellsAt w b o (stmtL s X x T t L l)) :
    w.cell? ⟨b, o, none⟩ = some (.string (mkB s.kind)) ∧ w.cell? ⟨b, o + 1, none⟩ = some (.string (mkB s.name)) ∧ w.cell? ⟨b, o + 2, none⟩ = some (.string (mkB s.e.kind)) ∧ w.cell? ⟨b, o + 3, none⟩ = some (.int .i64 s.e.num) ∧
      w.cell? ⟨b, o + 4, none⟩ = some (.string (mkB s.e.name)) ∧ w.cell? ⟨b, o + 5, none⟩ = some (.slice X s.e.kids.length x) ∧ w.cell? ⟨b, o + 6, none⟩ = some (.slice T s.th.length t) ∧ w.cell? ⟨b, o + 7, none⟩ = some (.slice L s.el.length l) :=
  ⟨h 0 _ rfl, h 1 _ rfl, h 2 _ rfl, h 3 _ rfl, h 4 _ rfl, h 5 _ rfl, h 6 _ rfl, h 7 _ rfl⟩
theorem cells_fun {w : World} {b o : Nat} {f : PFun} {P : Option Addr} {p : Nat} {B : Option Addr} {c : Nat} (h : CellsAt w b o (funL f P p B c)) :
    w.cell? ⟨b, o, none⟩ = some (.string (mkB f.name)) ∧ w.cell? ⟨b, o + 1, none⟩ = some (.slice P f.params.length p) ∧ w.cell? ⟨b, o + 2, none⟩ = some (.slice B f.body.length c) :=
  ⟨h 0 _ rfl, h 1 _ rfl, h 2 _ rfl⟩
/-- A row of one size's structs: the cells of the k-th. -/
theorem flat_cells {α : Type} {n : Nat} {F : α → List Value} : ∀ {xs : List α}, (∀ x ∈ xs, (F x).length = n) → ∀ {k : Nat} (h : k < xs.length) {j : Nat} {u : Value}, (F xs[k])[j]? = some u → (xs.flatMap F)[k * n + j]? = some u := by
  intro xs
  induction xs with
  | nil => intro _ k h; simp at h
  | cons x xs ih =>
    intro hF k h j u hj
    have hx : (F x).length = n := hF x (by simp)
    have hjn : j < n := by
      have := (List.getElem?_eq_some_iff.1 hj).1
      rw [hF _ (List.getElem_mem h)] at this
      exact this
    rw [List.flatMap_cons]
    cases k with
    | zero => rw [List.getElem?_append_left (by rw [hx]; omega)]; simpa using hj
    | succ k =>
      rw [List.getElem?_append_right (by rw [hx, Nat.succ_mul]; omega), show (k + 1) * n + j - (F x).length = k * n + j by rw [hx, Nat.succ_mul]; omega]
      exact ih (fun y hy => hF y (by simp [hy])) (by simpa using h) (by simpa using hj)
end Go.Proofs.YteifmgcbafemeaaGreatDoor
