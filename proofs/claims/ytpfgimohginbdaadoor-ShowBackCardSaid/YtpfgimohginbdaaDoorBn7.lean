import Derived.Deep.Slices
import Derived.Test.YtpfgimohginbdaaDoorBn3
set_option linter.unusedVariables false
set_option linter.unusedSimpArgs false
namespace Go.Proofs.YtpfgimohginbdaaDoor
open Go.RowKit

/-! plain trees -/
structure PExpr where
  kind : List UInt8
  num : Int
  name : List UInt8
  kids : List PExpr
structure PStmt where
  kind : List UInt8
  name : List UInt8
  e : PExpr
  th : List PStmt
  el : List PStmt
structure PFun where
  name : List UInt8
  params : List (List UInt8)
  body : List PStmt
instance : Inhabited PExpr := ⟨⟨[], 0, [], []⟩⟩
instance : Inhabited PStmt := ⟨⟨[], [], default, [], []⟩⟩
instance : Inhabited PFun := ⟨⟨[], [], []⟩⟩

theorem PExpr.ind {P : PExpr → Prop} (h : ∀ e : PExpr, (∀ k ∈ e.kids, P k) → P e) : ∀ e, P e
  | ⟨kind, num, name, kids⟩ => h _ fun k hk => PExpr.ind h k
termination_by e => SizeOf.sizeOf e
decreasing_by
  have : SizeOf.sizeOf k < SizeOf.sizeOf kids := List.sizeOf_lt_of_mem hk
  simp only [PExpr.mk.sizeOf_spec]
  omega
theorem PStmt.ind {P : PStmt → Prop} (h : ∀ s : PStmt, (∀ k ∈ s.th, P k) → (∀ k ∈ s.el, P k) → P s) : ∀ s, P s
  | ⟨kind, name, e, th, el⟩ => h _ (fun k hk => PStmt.ind h k) (fun k hk => PStmt.ind h k)
termination_by s => SizeOf.sizeOf s
decreasing_by
  · have : SizeOf.sizeOf k < SizeOf.sizeOf th := List.sizeOf_lt_of_mem hk
    simp only [PStmt.mk.sizeOf_spec]
    omega
  · have : SizeOf.sizeOf k < SizeOf.sizeOf el := List.sizeOf_lt_of_mem hk
    simp only [PStmt.mk.sizeOf_spec]
    omega

def okN (n : Int) : Prop := -9223372036854775808 ≤ n ∧ n ≤ 9223372036854775807
def exprL (e : PExpr) (A : Option Addr) (c : Nat) : List Value := [.string (mkB e.kind), .int .i64 e.num, .string (mkB e.name), .slice A e.kids.length c]
def stmtL (s : PStmt) (X : Option Addr) (x : Nat) (T : Option Addr) (t : Nat) (L : Option Addr) (l : Nat) : List Value :=
  [.string (mkB s.kind), .string (mkB s.name), .string (mkB s.e.kind), .int .i64 s.e.num, .string (mkB s.e.name), .slice X s.e.kids.length x, .slice T s.th.length t, .slice L s.el.length l]
def funL (f : PFun) (P : Option Addr) (p : Nat) (B : Option Addr) (c : Nat) : List Value := [.string (mkB f.name), .slice P f.params.length p, .slice B f.body.length c]
/-- These cells stand at this place. -/
def CellsAt (w : World) (b o : Nat) (l : List Value) : Prop := ∀ (j : Nat) (u : Value), l[j]? = some u → w.cell? ⟨b, o + j, none⟩ = some u
theorem CellsAt.keep {w w' : World} {b o : Nat} {l : List Value} (h : CellsAt w b o l) (k : ∀ a v, a.block = b → w.cell? a = some v → w'.cell? a = some v) : CellsAt w' b o l := fun j u hj => k _ _ rfl (h j u hj)

/-- Expressions that lie side by side in memory, in blocks of S. -/
inductive RdE (w : World) (S : Nat → Prop) : List PExpr → Option Addr → Prop
  | mk (ks : List PExpr) (A : Option Addr) (b off : Nat) (B : Nat → Option Addr) (c : Nat → Nat) (hA : 0 < ks.length → A = some ⟨b, off, none⟩ ∧ S b)
      (hc : ∀ i (hi : i < ks.length), CellsAt w b (off + i * 4) (exprL ks[i] (B i) (c i))) (hn : ∀ i (hi : i < ks.length), okN ks[i].num)
      (hk : ∀ i (hi : i < ks.length), RdE w S ks[i].kids (B i)) : RdE w S ks A
/-- Statements that lie side by side in memory, in blocks of S. -/
inductive RdS (w : World) (S : Nat → Prop) : List PStmt → Option Addr → Prop
  | mk (ss : List PStmt) (A : Option Addr) (b off : Nat) (X T L : Nat → Option Addr) (x t l : Nat → Nat) (hA : 0 < ss.length → A = some ⟨b, off, none⟩ ∧ S b)
      (hc : ∀ i (hi : i < ss.length), CellsAt w b (off + i * 8) (stmtL ss[i] (X i) (x i) (T i) (t i) (L i) (l i))) (hn : ∀ i (hi : i < ss.length), okN ss[i].e.num)
      (hx : ∀ i (hi : i < ss.length), RdE w S ss[i].e.kids (X i)) (ht : ∀ i (hi : i < ss.length), RdS w S ss[i].th (T i)) (hl : ∀ i (hi : i < ss.length), RdS w S ss[i].el (L i)) : RdS w S ss A
/-- Texts that lie side by side in memory, in a block of S. -/
def RdT (w : World) (S : Nat → Prop) (xs : List (List UInt8)) (A : Option Addr) : Prop := ∀ i (hi : i < xs.length), ∃ b off, A = some ⟨b, off, none⟩ ∧ S b ∧ w.cell? ⟨b, off + i, none⟩ = some (.string (mkB xs[i]))
/-- The room of a list of parameters is enough. -/
def PrmOk (f : PFun) (_P : Option Addr) (p : Nat) : Prop := f.params.length ≤ p
/-- Functions that lie side by side in memory, in blocks of S. -/
def RdF (w : World) (S : Nat → Prop) (fs : List PFun) (A : Option Addr) : Prop := ∀ i (hi : i < fs.length), ∃ b off P p B c, A = some ⟨b, off, none⟩ ∧ S b ∧ CellsAt w b (off + i * 3) (funL fs[i] P p B c) ∧ RdT w S fs[i].params P ∧ PrmOk fs[i] P p ∧ RdS w S fs[i].body B

def KeepsIn (S : Nat → Prop) (w w' : World) : Prop := ∀ a v, S a.block → w.cell? a = some v → w'.cell? a = some v
theorem Keeps.in {w w' : World} (h : Keeps w w') (S : Nat → Prop) : KeepsIn S w w' := fun a v _ hv => h a v hv

theorem RdE.keep {w w' : World} {S S' : Nat → Prop} (k : KeepsIn S w w') (hS : ∀ n, S n → S' n) {ks : List PExpr} {A : Option Addr} (h : RdE w S ks A) : RdE w' S' ks A := by
  induction h with
  | mk ks A b off B c hA hc hn hk ih =>
    exact ⟨ks, A, b, off, B, c, fun h => ⟨(hA h).1, hS _ (hA h).2⟩, fun i hi => (hc i hi).keep fun a v e => k a v (by rw [e]; exact (hA (by omega)).2), hn, ih⟩
theorem RdS.keep {w w' : World} {S S' : Nat → Prop} (k : KeepsIn S w w') (hS : ∀ n, S n → S' n) {ss : List PStmt} {A : Option Addr} (h : RdS w S ss A) : RdS w' S' ss A := by
  induction h with
  | mk ss A b off X T L x t l hA hc hn hx ht hl iht ihl =>
    exact ⟨ss, A, b, off, X, T, L, x, t, l, fun h => ⟨(hA h).1, hS _ (hA h).2⟩, fun i hi => (hc i hi).keep fun a v e => k a v (by rw [e]; exact (hA (by omega)).2), hn, fun i hi => (hx i hi).keep k hS, iht, ihl⟩
theorem RdT.keep {w w' : World} {S S' : Nat → Prop} (k : KeepsIn S w w') (hS : ∀ n, S n → S' n) {xs : List (List UInt8)} {A : Option Addr} (h : RdT w S xs A) : RdT w' S' xs A := fun i hi => by
  obtain ⟨b, off, e, hs, hc⟩ := h i hi
  exact ⟨b, off, e, hS _ hs, k _ _ hs hc⟩
theorem RdF.keep {w w' : World} {S S' : Nat → Prop} (k : KeepsIn S w w') (hS : ∀ n, S n → S' n) {fs : List PFun} {A : Option Addr} (h : RdF w S fs A) : RdF w' S' fs A := fun i hi => by
  obtain ⟨b, off, P, p, B, c, e, hs, hc, hp, hn, hb⟩ := h i hi
  exact ⟨b, off, P, p, B, c, e, hS _ hs, hc.keep fun a v e => k a v (by rw [e]; exact hs), hp.keep k hS, hn, hb.keep k hS⟩

theorem RdE.nil (w : World) (S : Nat → Prop) (A : Option Addr) : RdE w S [] A := ⟨[], A, 0, 0, fun _ => none, fun _ => 0, fun h => by simp at h, fun i hi => by simp at hi, fun i hi => by simp at hi, fun i hi => by simp at hi⟩
theorem RdS.nil (w : World) (S : Nat → Prop) (A : Option Addr) : RdS w S [] A :=
  ⟨[], A, 0, 0, fun _ => none, fun _ => none, fun _ => none, fun _ => 0, fun _ => 0, fun _ => 0, fun h => by simp at h, fun i hi => by simp at hi, fun i hi => by simp at hi, fun i hi => by simp at hi, fun i hi => by simp at hi, fun i hi => by simp at hi⟩
/-- The k-th expression of a row. -/
theorem RdE.at {w : World} {S : Nat → Prop} {ks : List PExpr} {A : Option Addr} (h : RdE w S ks A) {i : Nat} (hi : i < ks.length) :
    ∃ b off B c, A = some ⟨b, off, none⟩ ∧ S b ∧ CellsAt w b (off + i * 4) (exprL ks[i] B c) ∧ okN ks[i].num ∧ RdE w S ks[i].kids B := by
  cases h with
  | mk _ _ b off B c hA hc hn hk => exact ⟨b, off, B i, c i, (hA (by omega)).1, (hA (by omega)).2, hc i hi, hn i hi, hk i hi⟩
theorem RdS.at {w : World} {S : Nat → Prop} {ss : List PStmt} {A : Option Addr} (h : RdS w S ss A) {i : Nat} (hi : i < ss.length) :
    ∃ b off X x T t L l, A = some ⟨b, off, none⟩ ∧ S b ∧ CellsAt w b (off + i * 8) (stmtL ss[i] X x T t L l) ∧ okN ss[i].e.num ∧ RdE w S ss[i].e.kids X ∧ RdS w S ss[i].th T ∧ RdS w S ss[i].el L := by
  cases h with
  | mk _ _ b off X T L x t l hA hc hn hx ht hl => exact ⟨b, off, X i, x i, T i, t i, L i, l i, (hA (by omega)).1, (hA (by omega)).2, hc i hi, hn i hi, hx i hi, ht i hi, hl i hi⟩
theorem cells_expr {w : World} {b o : Nat} {e : PExpr} {B : Option Addr} {c : Nat} (h : CellsAt w b o (exprL e B c)) :
    w.cell? ⟨b, o, none⟩ = some (.string (mkB e.kind)) ∧ w.cell? ⟨b, o + 1, none⟩ = some (.int .i64 e.num) ∧ w.cell? ⟨b, o + 2, none⟩ = some (.string (mkB e.name)) ∧ w.cell? ⟨b, o + 3, none⟩ = some (.slice B e.kids.length c) :=
  ⟨h 0 _ rfl, h 1 _ rfl, h 2 _ rfl, h 3 _ rfl⟩
theorem cells_stmt {w : World} {b o : Nat} {s : PStmt} {X : Option Addr} {x : Nat} {T : Option Addr} {t : Nat} {L : Option Addr} {l : Nat} (h : CellsAt w b o (stmtL s X x T t L l)) :
    w.cell? ⟨b, o, none⟩ = some (.string (mkB s.kind)) ∧ w.cell? ⟨b, o + 1, none⟩ = some (.string (mkB s.name)) ∧ w.cell? ⟨b, o + 2, none⟩ = some (.string (mkB s.e.kind)) ∧ w.cell? ⟨b, o + 3, none⟩ = some (.int .i64 s.e.num) ∧
      w.cell? ⟨b, o + 4, none⟩ = some (.string (mkB s.e.name)) ∧ w.cell? ⟨b, o + 5, none⟩ = some (.slice X s.e.kids.length x) ∧ w.cell? ⟨b, o + 6, none⟩ = some (.slice T s.th.length t) ∧ w.cell? ⟨b, o + 7, none⟩ = some (.slice L s.el.length l) :=
  ⟨h 0 _ rfl, h 1 _ rfl, h 2 _ rfl, h 3 _ rfl, h 4 _ rfl, h 5 _ rfl, h 6 _ rfl, h 7 _ rfl⟩
theorem cells_fun {w : World} {b o : Nat} {f : PFun} {P : Option Addr} {p : Nat} {B : Option Addr} {c : Nat} (h : CellsAt w b o (funL f P p B c)) :
    w.cell? ⟨b, o, none⟩ = some (.string (mkB f.name)) ∧ w.cell? ⟨b, o + 1, none⟩ = some (.slice P f.params.length p) ∧ w.cell? ⟨b, o + 2, none⟩ = some (.slice B f.body.length c) :=
  ⟨h 0 _ rfl, h 1 _ rfl, h 2 _ rfl⟩
/-- A row of one size's structs: the cells of the k-th. -/
theorem flat_cells {α : Type} {n : Nat} {F : α → List Value} : ∀ {xs : List α}, (∀ x ∈ xs, (F x).length = n) → ∀ {k : Nat} (h : k < xs.length) {j : Nat} {u : Value}, (F xs[k])[j]? = some u → (xs.flatMap F)[k * n + j]? = some u := by
  intro xs
  induction xs with
  | nil => intro _ k h; simp at h
  | cons x xs ih =>
    intro hF k h j u hj
    have hx : (F x).length = n := hF x (by simp)
    have hjn : j < n := by
      have := (List.getElem?_eq_some_iff.1 hj).1
      rw [hF _ (List.getElem_mem h)] at this
      exact this
    rw [List.flatMap_cons]
    cases k with
    | zero => rw [List.getElem?_append_left (by rw [hx]; omega)]; simpa using hj
    | succ k =>
      rw [List.getElem?_append_right (by rw [hx, Nat.succ_mul]; omega), show (k + 1) * n + j - (F x).length = k * n + j by rw [hx, Nat.succ_mul]; omega]
      exact ih (fun y hy => hF y (by simp [hy])) (by simpa using h) (by simpa using hj)
end Go.Proofs.YtpfgimohginbdaaDoor

namespace Go.Proofs.YtpfgimohginbdaaDoor
open Go.RowKit

/-! the words of a text, in plain Lean -/
def isLetter (c : UInt8) : Bool := decide ((97 : Int) ≤ c.toNat) && decide ((c.toNat : Int) ≤ 122)
def isDigit (c : UInt8) : Bool := decide ((48 : Int) ≤ c.toNat) && decide ((c.toNat : Int) ≤ 57)
def isBlank (c : UInt8) : Bool := ((c.toNat : Int) == 32) || ((c.toNat : Int) == 9) || ((c.toNat : Int) == 10)
def alnum (c : UInt8) : Bool := isLetter c || isDigit c
def wordsB : List (List UInt8) := [[102, 110], [118, 97, 114], [105, 102], [101, 108, 115, 101], [119, 104, 105, 108, 101], [114, 101, 116, 117, 114, 110], [112, 114, 105, 110, 116]]
def twosB : List (List UInt8) := [[60, 60], [62, 62], [60, 61], [61, 61], [33, 61]]
def onesB : List UInt8 := [43, 45, 42, 47, 37, 38, 124, 94, 60, 33, 61, 40, 41, 123, 125, 44, 59]
def kWord : List UInt8 := [119, 111, 114, 100]
def kName : List UInt8 := [110, 97, 109, 101]
def kNumber : List UInt8 := [110, 117, 109, 98, 101, 114]
def kSign : List UInt8 := [115, 105, 103, 110]
/-- How far a text goes on with bytes that are so. -/
def spanL (p : UInt8 → Bool) : List UInt8 → Nat
  | [] => 0
  | c :: l => if p c then spanL p l + 1 else 0
theorem spanL_le (p : UInt8 → Bool) : ∀ l, spanL p l ≤ l.length := by
  intro l; induction l with
  | nil => simp [spanL]
  | cons c l ih => simp only [spanL, List.length_cons]; split <;> omega
structure Tok where
  kind : List UInt8
  text : List UInt8
  pos : Nat
  deriving DecidableEq
/-- The token at the head of a text that is not empty: its kind, its length, is it one? -/
def tokAt (l : List UInt8) : List UInt8 × Nat × Bool :=
  match l with
  | [] => (kSign, 0, false)
  | c :: _ =>
    if isLetter c then
      let n := spanL alnum l
      if wordsB.any (fun x => x == l.take n) then (kWord, n, true) else (kName, n, decide (n ≤ 8))
    else if isDigit c then
      let n := spanL isDigit l
      (kNumber, n, decide (n ≤ 18) && (decide (n = 1) || c != 48) && (match l.drop n with | [] => true | d :: _ => !isLetter d))
    else if twosB.any (fun x => x == l.take 2) then (kSign, 2, true)
    else (kSign, 1, onesB.any (fun x => x == c))
/-- Tokens from a place on; or the place of the first that is none. -/
def lexL : Nat → List UInt8 → Nat → List Tok × Option Nat
  | 0, _, _ => ([], none)
  | f + 1, l, k =>
    let b := spanL isBlank l
    let r := l.drop b
    if r = [] then ([], none)
    else
      let t := tokAt r
      if t.2.2 then
        let q := lexL f (r.drop t.2.1) (k + b + t.2.1)
        (⟨t.1, r.take t.2.1, k + b⟩ :: q.1, q.2)
      else ([], some (k + b))
end Go.Proofs.YtpfgimohginbdaaDoor

namespace Go.Proofs.YtpfgimohginbdaaDoor
open Go.RowKit

theorem spanL_pos {p : UInt8 → Bool} {c : UInt8} {l : List UInt8} (h : p c = true) : 0 < spanL p (c :: l) := by simp only [spanL, h, if_true]; omega
theorem tokAt_letter (c : UInt8) (l : List UInt8) (h : isLetter c = true) : tokAt (c :: l) = (if wordsB.any (fun x => x == (c :: l).take (spanL alnum (c :: l))) then kWord else kName, spanL alnum (c :: l), wordsB.any (fun x => x == (c :: l).take (spanL alnum (c :: l))) || decide (spanL alnum (c :: l) ≤ 8)) := by
  unfold tokAt
  simp only [h, if_true]
  cases wordsB.any (fun x => x == (c :: l).take (spanL alnum (c :: l))) <;> rfl
def numL (c : UInt8) (l : List UInt8) (n : Nat) : Bool := decide (n ≤ 18) && (decide (n = 1) || c != 48) && (match l.drop n with | [] => true | d :: _ => !isLetter d)
theorem tokAt_digit (c : UInt8) (l : List UInt8) (h : isLetter c = false) (hd : isDigit c = true) : tokAt (c :: l) = (kNumber, spanL isDigit (c :: l), numL c (c :: l) (spanL isDigit (c :: l))) := by
  unfold tokAt
  simp only [h, hd, if_true]
  rfl
theorem tokAt_sign (c : UInt8) (l : List UInt8) (h : isLetter c = false) (hd : isDigit c = false) : tokAt (c :: l) = (kSign, if twosB.any (fun x => x == (c :: l).take 2) then 2 else 1, twosB.any (fun x => x == (c :: l).take 2) || onesB.any (fun x => x == c)) := by
  unfold tokAt
  simp only [h, hd]
  cases twosB.any (fun x => x == (c :: l).take 2) <;> rfl
theorem twos_len {t : List UInt8} (h : twosB.any (fun x => x == t) = true) : t.length = 2 := by
  rw [List.any_eq_true] at h
  obtain ⟨x, hx, he⟩ := h
  rw [beq_iff_eq] at he
  subst he
  revert x
  decide
theorem tokAt_bounds (c : UInt8) (l : List UInt8) : 0 < (tokAt (c :: l)).2.1 ∧ (tokAt (c :: l)).2.1 ≤ (c :: l).length := by
  cases h : isLetter c
  · cases hd : isDigit c
    · rw [tokAt_sign c l h hd]
      show 0 < (if _ then 2 else 1) ∧ (if _ then 2 else 1) ≤ _
      split
      · rename_i ht
        have := twos_len ht
        rw [List.length_take] at this
        omega
      · simp
    · rw [tokAt_digit c l h hd]
      exact ⟨spanL_pos hd, spanL_le _ _⟩
  · rw [tokAt_letter c l h]
    exact ⟨spanL_pos (by unfold alnum; rw [h]; rfl), spanL_le _ _⟩
/-- The tokens of a text that begins at the place k. -/
def lexA (l : List UInt8) (k : Nat) : List Tok × Option Nat := lexL (l.length + 1) l k
theorem lexL_fuel : ∀ (f g : Nat) (l : List UInt8) (k : Nat), l.length < f → l.length < g → lexL f l k = lexL g l k := by
  intro f
  induction f with
  | zero => intro g l k h; omega
  | succ f ih =>
    intro g l k h hg
    obtain ⟨g, rfl⟩ : ∃ g', g = g' + 1 := ⟨g - 1, by omega⟩
    simp only [lexL]
    cases hr : l.drop (spanL isBlank l) with
    | nil => rfl
    | cons c r =>
      have hl : (c :: r).length ≤ l.length := by rw [← hr, List.length_drop]; omega
      have hb := tokAt_bounds c r
      rw [ih g ((c :: r).drop (tokAt (c :: r)).2.1) _ (by rw [List.length_drop]; omega) (by rw [List.length_drop]; omega)]
theorem lexA_nil (l : List UInt8) (k : Nat) (h : l.drop (spanL isBlank l) = []) : lexA l k = ([], none) := by
  unfold lexA; simp only [lexL, h, if_true]
theorem lexA_bad (l : List UInt8) (k : Nat) (c : UInt8) (r : List UInt8) (h : l.drop (spanL isBlank l) = c :: r) (ht : (tokAt (c :: r)).2.2 = false) : lexA l k = ([], some (k + spanL isBlank l)) := by
  unfold lexA; simp only [lexL, h, ht, reduceCtorEq, if_false, Bool.false_eq_true]
theorem lexA_tok (l : List UInt8) (k : Nat) (c : UInt8) (r : List UInt8) (h : l.drop (spanL isBlank l) = c :: r) (ht : (tokAt (c :: r)).2.2 = true) :
    lexA l k = (⟨(tokAt (c :: r)).1, (c :: r).take (tokAt (c :: r)).2.1, k + spanL isBlank l⟩ :: (lexA ((c :: r).drop (tokAt (c :: r)).2.1) (k + spanL isBlank l + (tokAt (c :: r)).2.1)).1, (lexA ((c :: r).drop (tokAt (c :: r)).2.1) (k + spanL isBlank l + (tokAt (c :: r)).2.1)).2) := by
  have hb := tokAt_bounds c r
  have hl : (c :: r).length ≤ l.length := by rw [← h, List.length_drop]; omega
  unfold lexA
  rw [lexL_fuel (((c :: r).drop (tokAt (c :: r)).2.1).length + 1) l.length _ _ (by omega) (by rw [List.length_drop]; omega)]
  simp only [lexL, h, ht, reduceCtorEq, if_false, if_true]
/-- No more tokens than bytes. -/
theorem lexA_len : ∀ (n : Nat) (l : List UInt8) (k : Nat), l.length ≤ n → (lexA l k).1.length ≤ l.length := by
  intro n
  induction n with
  | zero =>
    intro l k h
    have : l = [] := List.length_eq_zero_iff.1 (by omega)
    subst this
    rw [lexA_nil [] k rfl]; simp
  | succ n ih =>
    intro l k h
    cases hr : l.drop (spanL isBlank l) with
    | nil => rw [lexA_nil l k hr]; simp
    | cons c r =>
      cases ht : (tokAt (c :: r)).2.2
      · rw [lexA_bad l k c r hr ht]; simp
      · have hb := tokAt_bounds c r
        have hl : (c :: r).length ≤ l.length := by rw [← hr, List.length_drop]; omega
        rw [lexA_tok l k c r hr ht]
        have := ih ((c :: r).drop (tokAt (c :: r)).2.1) (k + spanL isBlank l + (tokAt (c :: r)).2.1) (by rw [List.length_drop]; omega)
        rw [List.length_drop] at this
        simp only [List.length_cons] at *
        omega
end Go.Proofs.YtpfgimohginbdaaDoor

namespace Go.Proofs.YtpfgimohginbdaaDoor
open Go.RowKit

/-! a parser of tokens, in plain Lean: as the package has it -/
def yNum : List UInt8 := [110, 117, 109]
def yName : List UInt8 := [110, 97, 109, 101]
def yCall : List UInt8 := [99, 97, 108, 108]
def yOne : List UInt8 := [111, 110, 101]
def yTwo : List UInt8 := [116, 119, 111]
def ySet : List UInt8 := [115, 101, 116]
def zFn : List UInt8 := [102, 110]
def zVar : List UInt8 := [118, 97, 114]
def zIf : List UInt8 := [105, 102]
def zElse : List UInt8 := [101, 108, 115, 101]
def zWhile : List UInt8 := [119, 104, 105, 108, 101]
def zReturn : List UInt8 := [114, 101, 116, 117, 114, 110]
def zPrint : List UInt8 := [112, 114, 105, 110, 116]
def zeroE : PExpr := ⟨[], 0, [], []⟩
def levelsB : List (List (List UInt8)) := [[[61, 61], [33, 61]], [[60], [60, 61]], [[124]], [[94]], [[38]], [[60, 60], [62, 62]], [[43], [45]], [[42], [47], [37]]]
structure PSt where
  pos : Nat
  deep : Int
  err : Option (Nat × Nat)
def PSt.step (s : PSt) : PSt := { s with pos := s.pos + 1 }
def PSt.up (s : PSt) : PSt := { s with deep := s.deep - 1 }
/-- The first error counts. -/
def failP (s : PSt) (z : Nat) : PSt := match s.err with
  | none => { s with err := some (z, s.pos) }
  | some _ => s
def isP (l : List Tok) (s : PSt) (x : List UInt8) : Bool := s.err.isNone && (match l[s.pos]? with
  | none => false
  | some t => (t.text == x) && ((t.kind == kSign) || (t.kind == kWord)))
def takeP (l : List Tok) (x : List UInt8) (s : PSt) : PSt := if isP l s x = true then s.step else failP s 1
def ofB (l : List Tok) (k : List UInt8) (s : PSt) : Bool := s.err.isNone && (match l[s.pos]? with
  | none => false
  | some t => t.kind == k)
def txtP (l : List Tok) (s : PSt) : List UInt8 := ((l[s.pos]?).map (·.text)).getD []
def ofP (l : List Tok) (k : List UInt8) (s : PSt) : List UInt8 × PSt := if ofB l k s = true then (txtP l s, s.step) else ([], failP s 1)
def nestP (s : PSt) : PSt := if 12 < s.deep + 1 then failP { s with deep := s.deep + 1 } 10 else { s with deep := s.deep + 1 }
/-- The op of a level that is next. -/
def opP (l : List Tok) (lv : Nat) (s : PSt) : Bool := s.err.isNone && (match l[s.pos]? with
  | none => false
  | some t => (t.kind == kSign) && (levelsB.getD lv []).contains t.text)
/-- The number that digits are. -/
def digV (d : List UInt8) : Int := d.foldl (fun (n : Int) (c : UInt8) => 10 * n + ((c.toNat : Int) - 48)) 0

mutual
def exprF (l : List Tok) : Nat → Nat → PSt → Option (PExpr × PSt)
  | 0, _, _ => none
  | n + 1, lv, s => if lv = 8 then oneF l n s else
    match exprF l n (lv + 1) s with
    | none => none
    | some (e, s1) => opsF l n lv e s1
def opsF (l : List Tok) : Nat → Nat → PExpr → PSt → Option (PExpr × PSt)
  | 0, _, _, _ => none
  | n + 1, lv, e, s => if opP l lv s = true then
      match exprF l n (lv + 1) s.step with
      | none => none
      | some (r, s1) => opsF l n lv ⟨yTwo, 0, txtP l s, [e, r]⟩ s1
    else some (e, s)
def oneF (l : List Tok) : Nat → PSt → Option (PExpr × PSt)
  | 0, _ => none
  | n + 1, s => if isP l s [45] = true ∨ isP l s [33] = true then
      if (nestP s).err.isNone = true then
        match oneF l n (nestP s).step with
        | none => none
        | some (e, s1) => some (⟨yOne, 0, txtP l s, [e]⟩, s1.up)
      else some (zeroE, nestP s)
    else atomF l n s
def atomF (l : List Tok) : Nat → PSt → Option (PExpr × PSt)
  | 0, _ => none
  | n + 1, s => if (s.err.isNone && decide (s.pos < l.length)) = true then
      if isP l s [40] = true then innerF l n s
      else if ofB l kNumber s = true then some (⟨yNum, digV (txtP l s), [], []⟩, s.step)
      else if isP l (ofP l kName s).2 [40] = true then
        if (nestP (ofP l kName s).2).err.isNone = true then
          match listF l n (nestP (ofP l kName s).2).step with
          | none => none
          | some (ks, s1) => some (⟨yCall, 0, (ofP l kName s).1, ks⟩, s1.up)
        else some (⟨yCall, 0, (ofP l kName s).1, []⟩, nestP (ofP l kName s).2)
      else some (⟨yName, 0, (ofP l kName s).1, []⟩, (ofP l kName s).2)
    else some (zeroE, failP s 1)
def innerF (l : List Tok) : Nat → PSt → Option (PExpr × PSt)
  | 0, _ => none
  | n + 1, s => if (nestP s).err.isNone = true then
      match exprF l n 0 (nestP s).step with
      | none => none
      | some (e, s1) => some (e, (takeP l [41] s1).up)
    else some (zeroE, nestP s)
def listF (l : List Tok) : Nat → PSt → Option (List PExpr × PSt)
  | 0, _ => none
  | n + 1, s => if isP l s [41] = true then some ([], s.step) else
    match exprF l n 0 s with
    | none => none
    | some (e, s1) => argsF l n [e] s1
def argsF (l : List Tok) : Nat → List PExpr → PSt → Option (List PExpr × PSt)
  | 0, _, _ => none
  | n + 1, ks, s => if isP l s [44] = true then
      match exprF l n 0 s.step with
      | none => none
      | some (e, s1) => argsF l n (ks ++ [e]) s1
    else some (ks, takeP l [41] s)
end
def assignF (l : List Tok) (n : Nat) (kind : List UInt8) (s : PSt) : Option (PStmt × PSt) :=
  match exprF l n 0 (takeP l [61] (ofP l kName s).2) with
  | none => none
  | some (e, s1) => some (⟨kind, (ofP l kName s).1, e, [], []⟩, takeP l [59] s1)
def tellF (l : List Tok) (n : Nat) (kind : List UInt8) (s : PSt) : Option (PStmt × PSt) :=
  match exprF l n 0 s.step with
  | none => none
  | some (e, s1) => some (⟨kind, [], e, [], []⟩, takeP l [59] s1)
mutual
def blockF (l : List Tok) : Nat → PSt → Option (List PStmt × PSt)
  | 0, _ => none
  | n + 1, s => if isP l s [123] = true then
      if (nestP s).err.isNone = true then
        match stmtsF l n [] (nestP s).step with
        | none => none
        | some (ss, s1) => some (ss, (takeP l [125] s1).up)
      else some ([], nestP s)
    else some ([], failP s 1)
def stmtsF (l : List Tok) : Nat → List PStmt → PSt → Option (List PStmt × PSt)
  | 0, _, _ => none
  | n + 1, ss, s => if (s.err.isNone && !isP l s [125]) = true then
      match stmtF l n s with
      | none => none
      | some (x, s1) => stmtsF l n (ss ++ [x]) s1
    else some (ss, s)
def stmtF (l : List Tok) : Nat → PSt → Option (PStmt × PSt)
  | 0, _ => none
  | n + 1, s => if isP l s zIf = true then branchF l n zIf s else if isP l s zWhile = true then branchF l n zWhile s
    else if isP l s zReturn = true then tellF l n zReturn s else if isP l s zPrint = true then tellF l n zPrint s
    else if isP l s zVar = true then assignF l n zVar s.step else assignF l n ySet s
def branchF (l : List Tok) : Nat → List UInt8 → PSt → Option (PStmt × PSt)
  | 0, _, _ => none
  | n + 1, kind, s => match exprF l n 0 s.step with
    | none => none
    | some (e, s1) => match blockF l n s1 with
      | none => none
      | some (th, s2) => if ((kind == zIf) && isP l s2 zElse) = true then
          match blockF l n s2.step with
          | none => none
          | some (el, s3) => some (⟨kind, [], e, th, el⟩, s3)
        else some (⟨kind, [], e, th, []⟩, s2)
end
def namesF (l : List Tok) : Nat → List (List UInt8) → PSt → Option (List (List UInt8) × PSt)
  | 0, _, _ => none
  | n + 1, ps, s => if isP l s [44] = true then namesF l n (ps ++ [(ofP l kName s.step).1]) (ofP l kName s.step).2
    else some (ps, takeP l [41] s)
def paramsF (l : List Tok) (n : Nat) (s : PSt) : Option (List (List UInt8) × PSt) :=
  if isP l s [41] = true then some ([], s.step) else namesF l n [(ofP l kName s).1] (ofP l kName s).2
/-- A function's head: its name, and what is behind the parenthesis. -/
def headP (l : List Tok) (s : PSt) : List UInt8 × PSt := ((ofP l kName (takeP l zFn s)).1, takeP l [40] (ofP l kName (takeP l zFn s)).2)
def funF (l : List Tok) (n : Nat) (s : PSt) : Option (PFun × PSt) :=
  match (if (headP l s).2.err.isNone = true then paramsF l n (headP l s).2 else some ([], (headP l s).2)) with
  | none => none
  | some (ps, s1) => match blockF l n s1 with
    | none => none
    | some (b, s2) => some (⟨(headP l s).1, ps, b⟩, s2)
def parseF (l : List Tok) : Nat → List PFun → PSt → Option (List PFun × PSt)
  | 0, _, _ => none
  | n + 1, fs, s => if (s.err.isNone && decide (s.pos < l.length)) = true then
      match funF l n s with
      | none => none
      | some (f, s1) => parseF l n (fs ++ [f]) s1
    else some (fs, s)

/-! the steps -/
theorem isP_some {l : List Tok} {s : PSt} {x : List UInt8} (h : isP l s x = true) : s.err = none ∧ ∃ t, l[s.pos]? = some t ∧ t.text = x ∧ s.pos < l.length ∧ (t.kind = kSign ∨ t.kind = kWord) := by
  unfold isP at h
  cases hl : l[s.pos]? with
  | none => rw [hl] at h; simp at h
  | some t =>
    rw [hl] at h
    simp only [Bool.and_eq_true, Option.isNone_iff_eq_none, Bool.or_eq_true, beq_iff_eq] at h
    exact ⟨h.1, t, rfl, h.2.1, (List.getElem?_eq_some_iff.1 hl).1, h.2.2⟩
theorem ofB_some {l : List Tok} {s : PSt} {k : List UInt8} (h : ofB l k s = true) : s.err = none ∧ ∃ t, l[s.pos]? = some t ∧ t.kind = k ∧ s.pos < l.length := by
  unfold ofB at h
  cases hl : l[s.pos]? with
  | none => rw [hl] at h; simp at h
  | some t =>
    rw [hl] at h
    simp only [Bool.and_eq_true, Option.isNone_iff_eq_none, beq_iff_eq] at h
    exact ⟨h.1, t, rfl, h.2, (List.getElem?_eq_some_iff.1 hl).1⟩
theorem opP_some {l : List Tok} {s : PSt} {lv : Nat} (h : opP l lv s = true) : s.err = none ∧ ∃ t, l[s.pos]? = some t ∧ t.kind = kSign ∧ (levelsB.getD lv []).contains t.text = true ∧ s.pos < l.length := by
  unfold opP at h
  cases hl : l[s.pos]? with
  | none => rw [hl] at h; simp at h
  | some t =>
    rw [hl] at h
    simp only [Bool.and_eq_true, Option.isNone_iff_eq_none, beq_iff_eq] at h
    exact ⟨h.1, t, rfl, h.2.1, h.2.2, (List.getElem?_eq_some_iff.1 hl).1⟩
/-- What a piece of parsing does to the state: it goes on; the depth is as it was, but where a nest was too deep. -/
structure Went (l : List Tok) (s s' : PSt) : Prop where
  lo : s.pos ≤ s'.pos
  hi : s'.pos ≤ l.length
  ok : s'.err = none → s'.deep = s.deep ∧ s.err = none
  bad : s.deep ≤ s'.deep ∧ s'.deep ≤ s.deep + 1
  old : s.err ≠ none → s' = s
/-- What a state is. -/
structure PStOk (l : List Tok) (s : PSt) : Prop where
  hi : s.pos ≤ l.length
  lo : 0 ≤ s.deep
  top : s.deep ≤ 13
  ok : s.err = none → s.deep ≤ 12
theorem Went.refl {l : List Tok} {s : PSt} (h : s.pos ≤ l.length) : Went l s s := ⟨Nat.le_refl _, h, fun e => ⟨rfl, e⟩, ⟨Int.le_refl _, by omega⟩, fun _ => rfl⟩
theorem failP_none {s : PSt} {z : Nat} (h : s.err = none) : failP s z = { s with err := some (z, s.pos) } := by unfold failP; rw [h]
theorem failP_old {s : PSt} {z : Nat} (h : s.err ≠ none) : failP s z = s := by
  unfold failP
  cases he : s.err with
  | none => exact absurd he h
  | some e => rfl
theorem failP_err {s : PSt} {z : Nat} : (failP s z).err ≠ none := by
  cases he : s.err with
  | none => rw [failP_none he]; simp
  | some e => rw [failP_old (by rw [he]; simp), he]; simp
theorem failP_pos {s : PSt} {z : Nat} : (failP s z).pos = s.pos ∧ (failP s z).deep = s.deep := by
  unfold failP
  split <;> exact ⟨rfl, rfl⟩
theorem Went.fail {l : List Tok} {s : PSt} {z : Nat} (h : s.pos ≤ l.length) : Went l s (failP s z) :=
  ⟨by rw [failP_pos.1]; omega, by rw [failP_pos.1]; exact h, fun e => absurd e failP_err, by rw [failP_pos.2]; omega, fun e => failP_old e⟩
/-- One piece behind the other. -/
theorem Went.trans {l : List Tok} {a b c : PSt} (h1 : Went l a b) (h2 : Went l b c) : Went l a c := by
  refine ⟨Nat.le_trans h1.lo h2.lo, h2.hi, fun e => ?_, ?_, fun e => ?_⟩
  · obtain ⟨d1, e1⟩ := h2.ok e
    obtain ⟨d2, e2⟩ := h1.ok e1
    exact ⟨by omega, e2⟩
  · cases hb : b.err with
    | none => have := (h1.ok hb).1; have := h2.bad; omega
    | some x =>
      have := h2.old (by rw [hb]; simp)
      rw [this]; exact h1.bad
  · have := h1.old e
    subst this
    exact h2.old e
theorem went_step {l : List Tok} {s : PSt} (h : s.pos < l.length) (he : s.err = none) : Went l s s.step := ⟨by show s.pos ≤ s.pos + 1; omega, by show s.pos + 1 ≤ _; omega, fun e => ⟨rfl, he⟩, by show s.deep ≤ s.deep ∧ s.deep ≤ s.deep + 1; omega, fun e => absurd he e⟩
theorem takeP_went {l : List Tok} {x : List UInt8} {s : PSt} (h : s.pos ≤ l.length) : Went l s (takeP l x s) := by
  unfold takeP
  split
  · rename_i h1
    obtain ⟨e, t, -, -, hp, -⟩ := isP_some h1
    exact went_step hp e
  · exact Went.fail h
theorem ofP_went {l : List Tok} {x : List UInt8} {s : PSt} (h : s.pos ≤ l.length) : Went l s (ofP l x s).2 := by
  unfold ofP
  split
  · rename_i h1
    obtain ⟨e, t, -, -, hp⟩ := ofB_some h1
    exact went_step hp e
  · exact Went.fail h
theorem takeP_next {l : List Tok} {x : List UInt8} {s : PSt} (h : (takeP l x s).err = none) : isP l s x = true ∧ takeP l x s = s.step := by
  unfold takeP at h ⊢
  split at h
  · rename_i h1; exact ⟨h1, by rw [if_pos h1]⟩
  · exact absurd h failP_err
theorem ofP_next {l : List Tok} {x : List UInt8} {s : PSt} (h : (ofP l x s).2.err = none) : ofB l x s = true ∧ ofP l x s = (txtP l s, s.step) := by
  unfold ofP at h ⊢
  split at h
  · rename_i h1; exact ⟨h1, by rw [if_pos h1]⟩
  · exact absurd h failP_err
theorem nestP_pos (s : PSt) : (nestP s).pos = s.pos ∧ (nestP s).deep = s.deep + 1 := by
  unfold nestP
  split
  · exact failP_pos
  · exact ⟨rfl, rfl⟩
theorem nestP_ok {s : PSt} (h : (nestP s).err = none) : s.err = none ∧ s.deep + 1 ≤ 12 ∧ nestP s = { s with deep := s.deep + 1 } := by
  unfold nestP at h ⊢
  split at h
  · exact absurd h failP_err
  · rename_i h1
    exact ⟨h, by omega, by rw [if_neg h1]⟩
/-- What goes on inside a nest, and up again. -/
theorem nest_went {l : List Tok} {s s1 : PSt} (hn : (nestP s).err = none) (h : Went l (nestP s).step s1) : Went l s s1.up := by
  obtain ⟨e, d, en⟩ := nestP_ok hn
  have h1 := h.lo
  have h2 := h.bad
  have hp := nestP_pos s
  have h3 : (nestP s).step.pos = s.pos + 1 := by show (nestP s).pos + 1 = _; rw [hp.1]
  have h4 : (nestP s).step.deep = s.deep + 1 := hp.2
  refine ⟨by show s.pos ≤ s1.pos; omega, h.hi, fun e1 => ⟨?_, e⟩, ?_, fun e1 => absurd e e1⟩
  · have := (h.ok e1).1
    show s1.deep - 1 = s.deep
    omega
  · show s.deep ≤ s1.deep - 1 ∧ s1.deep - 1 ≤ s.deep + 1
    omega
theorem nest_bad {l : List Tok} {s : PSt} (h : s.pos ≤ l.length) (he : s.err = none) (hn : (nestP s).err ≠ none) : Went l s (nestP s) := by
  have hp := nestP_pos s
  exact ⟨by omega, by omega, fun e => absurd e hn, by omega, fun e => absurd he e⟩
end Go.Proofs.YtpfgimohginbdaaDoor

namespace Go.Proofs.YtpfgimohginbdaaDoor
open Go.RowKit

/-! the parser always ends -/
structure Adv (l : List Tok) (s s' : PSt) : Prop where
  w : Went l s s'
  adv : s'.err = none → s.pos < s'.pos
theorem Adv.step {l : List Tok} {s s1 s2 : PSt} (h : s.pos < l.length) (he : s.err = none) (h1 : s1 = s.step) (h2 : Went l s1 s2) : Adv l s s2 := by
  subst h1
  exact ⟨(went_step h he).trans h2, fun _ => by have := h2.lo; show s.pos < s2.pos; have e : s.step.pos = s.pos + 1 := rfl; omega⟩
theorem Adv.then {l : List Tok} {s s1 s2 : PSt} (h1 : Adv l s s1) (h2 : Went l s1 s2) : Adv l s s2 :=
  ⟨h1.w.trans h2, fun e => by have := h1.adv (h2.ok e).2; have := h2.lo; omega⟩
theorem Adv.after {l : List Tok} {s s1 s2 : PSt} (h1 : Went l s s1) (h2 : Adv l s1 s2) : Adv l s s2 :=
  ⟨h1.trans h2.w, fun e => by have := h2.adv e; have := h1.lo; omega⟩
theorem Adv.fail {l : List Tok} {s : PSt} {z : Nat} (h : s.pos ≤ l.length) : Adv l s (failP s z) := ⟨Went.fail h, fun e => absurd e failP_err⟩
theorem Adv.bad {l : List Tok} {s : PSt} (h : s.pos ≤ l.length) (he : s.err = none) (hn : (nestP s).err ≠ none) : Adv l s (nestP s) := ⟨nest_bad h he hn, fun e => absurd e hn⟩
theorem Adv.nest {l : List Tok} {s s1 : PSt} (hn : (nestP s).err = none) (h : Went l (nestP s).step s1) : Adv l s s1.up :=
  ⟨nest_went hn h, fun _ => by have := h.lo; have hp := (nestP_pos s).1; have e : (nestP s).step.pos = (nestP s).pos + 1 := rfl; show s.pos < s1.pos; omega⟩
theorem takeP_adv {l : List Tok} {x : List UInt8} {s : PSt} (h : s.pos ≤ l.length) : Adv l s (takeP l x s) :=
  ⟨takeP_went h, fun e => by rw [(takeP_next e).2]; show s.pos < s.pos + 1; omega⟩
theorem ofP_adv {l : List Tok} {x : List UInt8} {s : PSt} (h : s.pos ≤ l.length) : Adv l s (ofP l x s).2 :=
  ⟨ofP_went h, fun e => by rw [(ofP_next e).2]; show s.pos < s.pos + 1; omega⟩
theorem none_of {s : PSt} (h : s.err.isNone = true) : s.err = none := Option.isNone_iff_eq_none.1 h
theorem some_of {s : PSt} (h : ¬ s.err.isNone = true) : s.err ≠ none := fun e => h (by rw [e]; rfl)
structure TotE (l : List Tok) (n : Nat) : Prop where
  expr : ∀ lv s, lv ≤ 8 → s.pos ≤ l.length → 40 * (l.length - s.pos) + 2 * (8 - lv) + 10 ≤ n → ∃ e s', exprF l n lv s = some (e, s') ∧ Adv l s s'
  ops : ∀ lv e s, lv < 8 → s.pos ≤ l.length → 40 * (l.length - s.pos) + 1 ≤ n → ∃ e' s', opsF l n lv e s = some (e', s') ∧ Went l s s'
  one : ∀ s, s.pos ≤ l.length → 40 * (l.length - s.pos) + 8 ≤ n → ∃ e s', oneF l n s = some (e, s') ∧ Adv l s s'
  atom : ∀ s, s.pos ≤ l.length → 40 * (l.length - s.pos) + 6 ≤ n → ∃ e s', atomF l n s = some (e, s') ∧ Adv l s s'
  inner : ∀ s, s.pos < l.length → s.err = none → 40 * (l.length - s.pos) + 4 ≤ n → ∃ e s', innerF l n s = some (e, s') ∧ Adv l s s'
  list : ∀ s, s.pos ≤ l.length → 40 * (l.length - s.pos) + 30 ≤ n → ∃ e s', listF l n s = some (e, s') ∧ Adv l s s'
  args : ∀ ks s, s.pos ≤ l.length → 40 * (l.length - s.pos) + 1 ≤ n → ∃ e s', argsF l n ks s = some (e, s') ∧ Adv l s s'
theorem step_len {l : List Tok} {s : PSt} (h : s.pos < l.length) : s.step.pos ≤ l.length ∧ l.length - s.step.pos + 1 = l.length - s.pos := by
  have e : s.step.pos = s.pos + 1 := rfl
  omega
theorem nest_len {l : List Tok} {s : PSt} (h : s.pos < l.length) : (nestP s).step.pos ≤ l.length ∧ l.length - (nestP s).step.pos + 1 = l.length - s.pos := by
  have e : (nestP s).step.pos = (nestP s).pos + 1 := rfl
  have := (nestP_pos s).1
  omega
theorem went_len {l : List Tok} {s s' : PSt} (h : Went l s s') : l.length - s'.pos ≤ l.length - s.pos := by have := h.lo; omega
theorem tot_expr (l : List Tok) : ∀ n, TotE l n := by
  intro n
  induction n with
  | zero => exact ⟨fun _ _ _ _ h => by omega, fun _ _ _ _ _ h => by omega, fun _ _ h => by omega, fun _ _ h => by omega, fun _ _ _ h => by omega, fun _ _ h => by omega, fun _ _ _ h => by omega⟩
  | succ n ih =>
    refine ⟨fun lv s hlv hp hn => ?_, fun lv e s hlv hp hn => ?_, fun s hp hn => ?_, fun s hp hn => ?_, fun s hp he hn => ?_, fun s hp hn => ?_, fun ks s hp hn => ?_⟩
    · rw [exprF]
      by_cases h8 : lv = 8
      · rw [if_pos h8]
        exact ih.one s hp (by omega)
      · rw [if_neg h8]
        obtain ⟨e, s1, h1, a1⟩ := ih.expr (lv + 1) s (by omega) hp (by omega)
        rw [h1]
        have := went_len a1.w
        obtain ⟨e2, s2, h2, a2⟩ := ih.ops lv e s1 (by omega) a1.w.hi (by omega)
        exact ⟨e2, s2, h2, a1.then a2⟩
    · rw [opsF]
      by_cases ho : opP l lv s = true
      · rw [if_pos ho]
        obtain ⟨he, t, -, -, -, hlt⟩ := opP_some ho
        have hs := step_len hlt
        obtain ⟨e1, s1, h1, a1⟩ := ih.expr (lv + 1) s.step (by omega) hs.1 (by omega)
        rw [h1]
        have := went_len a1.w
        obtain ⟨e2, s2, h2, a2⟩ := ih.ops lv ⟨yTwo, 0, txtP l s, [e, e1]⟩ s1 hlv a1.w.hi (by omega)
        exact ⟨e2, s2, h2, (went_step hlt he).trans (a1.w.trans a2)⟩
      · rw [if_neg ho]
        exact ⟨e, s, rfl, Went.refl hp⟩
    · rw [oneF]
      by_cases ho : isP l s [45] = true ∨ isP l s [33] = true
      · rw [if_pos ho]
        have hx : s.err = none ∧ s.pos < l.length := by
          rcases ho with ho | ho
          · obtain ⟨e, t, -, -, hp, -⟩ := isP_some ho; exact ⟨e, hp⟩
          · obtain ⟨e, t, -, -, hp, -⟩ := isP_some ho; exact ⟨e, hp⟩
        by_cases hne : (nestP s).err.isNone = true
        · rw [if_pos hne]
          have hs := nest_len hx.2
          obtain ⟨e1, s1, h1, a1⟩ := ih.one (nestP s).step hs.1 (by omega)
          rw [h1]
          exact ⟨_, _, rfl, Adv.nest (none_of hne) a1.w⟩
        · rw [if_neg hne]
          exact ⟨_, _, rfl, Adv.bad hp hx.1 (some_of hne)⟩
      · rw [if_neg ho]
        exact ih.atom s hp (by omega)
    · rw [atomF]
      by_cases h0 : (s.err.isNone && decide (s.pos < l.length)) = true
      · rw [if_pos h0]
        simp only [Bool.and_eq_true, decide_eq_true_eq] at h0
        have he := none_of h0.1
        have hlt := h0.2
        by_cases h1 : isP l s [40] = true
        · rw [if_pos h1]
          exact ih.inner s hlt he (by omega)
        · rw [if_neg h1]
          by_cases h2 : ofB l kNumber s = true
          · rw [if_pos h2]
            exact ⟨_, _, rfl, Adv.step hlt he rfl (Went.refl (step_len hlt).1)⟩
          · rw [if_neg h2]
            have ha := ofP_adv (x := kName) hp
            by_cases h3 : isP l (ofP l kName s).2 [40] = true
            · rw [if_pos h3]
              obtain ⟨he3, t, -, -, hp3, -⟩ := isP_some h3
              have hl3 := ha.adv he3
              by_cases h4 : (nestP (ofP l kName s).2).err.isNone = true
              · rw [if_pos h4]
                have hs := nest_len hp3
                obtain ⟨e1, s1, h5, a1⟩ := ih.list (nestP (ofP l kName s).2).step hs.1 (by omega)
                rw [h5]
                exact ⟨_, _, rfl, Adv.after ha.w (Adv.nest (none_of h4) a1.w)⟩
              · rw [if_neg h4]
                exact ⟨_, _, rfl, Adv.after ha.w (Adv.bad ha.w.hi he3 (some_of h4))⟩
            · rw [if_neg h3]
              exact ⟨_, _, rfl, ha⟩
      · rw [if_neg h0]
        exact ⟨_, _, rfl, Adv.fail hp⟩
    · rw [innerF]
      by_cases hne : (nestP s).err.isNone = true
      · rw [if_pos hne]
        have hs := nest_len hp
        obtain ⟨e1, s1, h1, a1⟩ := ih.expr 0 (nestP s).step (by omega) hs.1 (by omega)
        rw [h1]
        exact ⟨_, _, rfl, Adv.nest (none_of hne) (a1.w.trans (takeP_went a1.w.hi))⟩
      · rw [if_neg hne]
        exact ⟨_, _, rfl, Adv.bad (by omega) he (some_of hne)⟩
    · rw [listF]
      by_cases h1 : isP l s [41] = true
      · rw [if_pos h1]
        obtain ⟨he3, t, -, -, hp3, -⟩ := isP_some h1
        exact ⟨_, _, rfl, Adv.step hp3 he3 rfl (Went.refl (step_len hp3).1)⟩
      · rw [if_neg h1]
        obtain ⟨e1, s1, h2, a1⟩ := ih.expr 0 s (by omega) hp (by omega)
        rw [h2]
        have := went_len a1.w
        obtain ⟨e2, s2, h3, a2⟩ := ih.args [e1] s1 a1.w.hi (by omega)
        exact ⟨e2, s2, h3, a1.then a2.w⟩
    · rw [argsF]
      by_cases h1 : isP l s [44] = true
      · rw [if_pos h1]
        obtain ⟨he3, t, -, -, hp3, -⟩ := isP_some h1
        have hs := step_len hp3
        obtain ⟨e1, s1, h2, a1⟩ := ih.expr 0 s.step (by omega) hs.1 (by omega)
        rw [h2]
        have := went_len a1.w
        obtain ⟨e2, s2, h3, a2⟩ := ih.args (ks ++ [e1]) s1 a1.w.hi (by omega)
        exact ⟨e2, s2, h3, Adv.step hp3 he3 rfl (a1.w.trans a2.w)⟩
      · rw [if_neg h1]
        exact ⟨_, _, rfl, takeP_adv hp⟩
theorem tot_e0 {l : List Tok} {n : Nat} {s : PSt} (hp : s.pos ≤ l.length) (hn : 40 * (l.length - s.pos) + 26 ≤ n) : ∃ e s', exprF l n 0 s = some (e, s') ∧ Adv l s s' := (tot_expr l n).expr 0 s (by omega) hp (by omega)
theorem tot_assign {l : List Tok} {n : Nat} {kind : List UInt8} {s : PSt} (hp : s.pos ≤ l.length) (hn : 40 * (l.length - s.pos) + 26 ≤ n) : ∃ x s', assignF l n kind s = some (x, s') ∧ Adv l s s' := by
  have h1 := ofP_adv (l := l) (x := kName) hp
  have h2 := h1.then (takeP_went (x := [61]) h1.w.hi)
  have := went_len h2.w
  obtain ⟨e, s1, h3, a3⟩ := tot_e0 (l := l) (n := n) h2.w.hi (by omega)
  unfold assignF
  rw [h3]
  exact ⟨_, _, rfl, h2.then (a3.w.trans (takeP_went a3.w.hi))⟩
theorem tot_tell {l : List Tok} {n : Nat} {kind : List UInt8} {s : PSt} (hp : s.pos < l.length) (he : s.err = none) (hn : 40 * (l.length - s.pos) ≤ n + 14) : ∃ x s', tellF l n kind s = some (x, s') ∧ Adv l s s' := by
  have hs := step_len hp
  obtain ⟨e, s1, h3, a3⟩ := tot_e0 (l := l) (n := n) (s := s.step) hs.1 (by omega)
  unfold tellF
  rw [h3]
  exact ⟨_, _, rfl, Adv.step hp he rfl (a3.w.trans (takeP_went a3.w.hi))⟩
structure TotS (l : List Tok) (n : Nat) : Prop where
  block : ∀ s, s.pos ≤ l.length → 40 * (l.length - s.pos) + 4 ≤ n → ∃ e s', blockF l n s = some (e, s') ∧ Adv l s s'
  stmts : ∀ ss s, s.pos ≤ l.length → 40 * (l.length - s.pos) + 35 ≤ n → ∃ e s', stmtsF l n ss s = some (e, s') ∧ Went l s s'
  stmt : ∀ s, s.pos ≤ l.length → 40 * (l.length - s.pos) + 32 ≤ n → ∃ e s', stmtF l n s = some (e, s') ∧ Adv l s s'
  branch : ∀ kind s, s.pos < l.length → s.err = none → 40 * (l.length - s.pos) + 1 ≤ n → ∃ e s', branchF l n kind s = some (e, s') ∧ Adv l s s'
theorem stmts_err {l : List Tok} {n : Nat} {ss : List PStmt} {s : PSt} (he : s.err ≠ none) : stmtsF l (n + 1) ss s = some (ss, s) := by
  rw [stmtsF, if_neg]
  intro h
  simp only [Bool.and_eq_true] at h
  exact he (none_of h.1)
theorem tot_stmt (l : List Tok) : ∀ n, TotS l n := by
  intro n
  induction n with
  | zero => exact ⟨fun _ _ h => by omega, fun _ _ _ h => by omega, fun _ _ h => by omega, fun _ _ _ _ h => by omega⟩
  | succ n ih =>
    refine ⟨fun s hp hn => ?_, fun ss s hp hn => ?_, fun s hp hn => ?_, fun kind s hp he hn => ?_⟩
    · rw [blockF]
      by_cases h1 : isP l s [123] = true
      · rw [if_pos h1]
        obtain ⟨he3, t, -, -, hp3, -⟩ := isP_some h1
        by_cases hne : (nestP s).err.isNone = true
        · rw [if_pos hne]
          have hs := nest_len hp3
          obtain ⟨e1, s1, h2, a1⟩ := ih.stmts [] (nestP s).step hs.1 (by omega)
          rw [h2]
          exact ⟨_, _, rfl, Adv.nest (none_of hne) (a1.trans (takeP_went a1.hi))⟩
        · rw [if_neg hne]
          exact ⟨_, _, rfl, Adv.bad hp he3 (some_of hne)⟩
      · rw [if_neg h1]
        exact ⟨_, _, rfl, Adv.fail hp⟩
    · rw [stmtsF]
      by_cases h1 : (s.err.isNone && !isP l s [125]) = true
      · rw [if_pos h1]
        obtain ⟨x, s1, h2, a1⟩ := ih.stmt s hp (by omega)
        rw [h2]
        cases he1 : s1.err with
        | some z =>
          obtain ⟨n, rfl⟩ : ∃ k, n = k + 1 := ⟨n - 1, by omega⟩
          exact ⟨_, _, stmts_err (by rw [he1]; simp), a1.w⟩
        | none =>
          have hlt := a1.adv he1
          have := a1.w.hi
          obtain ⟨e2, s2, h3, a2⟩ := ih.stmts (ss ++ [x]) s1 a1.w.hi (by omega)
          exact ⟨_, _, h3, a1.w.trans a2⟩
      · rw [if_neg h1]
        exact ⟨_, _, rfl, Went.refl hp⟩
    · rw [stmtF]
      by_cases h1 : isP l s zIf = true
      · rw [if_pos h1]
        obtain ⟨he3, t, -, -, hp3, -⟩ := isP_some h1
        exact ih.branch _ s hp3 he3 (by omega)
      · rw [if_neg h1]
        by_cases h2 : isP l s zWhile = true
        · rw [if_pos h2]
          obtain ⟨he3, t, -, -, hp3, -⟩ := isP_some h2
          exact ih.branch _ s hp3 he3 (by omega)
        · rw [if_neg h2]
          by_cases h3 : isP l s zReturn = true
          · rw [if_pos h3]
            obtain ⟨he3, t, -, -, hp3, -⟩ := isP_some h3
            exact tot_tell hp3 he3 (by omega)
          · rw [if_neg h3]
            by_cases h4 : isP l s zPrint = true
            · rw [if_pos h4]
              obtain ⟨he3, t, -, -, hp3, -⟩ := isP_some h4
              exact tot_tell hp3 he3 (by omega)
            · rw [if_neg h4]
              by_cases h5 : isP l s zVar = true
              · rw [if_pos h5]
                obtain ⟨he3, t, -, -, hp3, -⟩ := isP_some h5
                have hs := step_len hp3
                obtain ⟨x, s1, h6, a1⟩ := tot_assign (l := l) (n := n) (kind := zVar) (s := s.step) hs.1 (by omega)
                exact ⟨x, s1, h6, Adv.step hp3 he3 rfl a1.w⟩
              · rw [if_neg h5]
                exact tot_assign hp (by omega)
    · rw [branchF]
      have hs := step_len hp
      obtain ⟨e1, s1, h1, a1⟩ := tot_e0 (l := l) (n := n) (s := s.step) hs.1 (by omega)
      rw [h1]
      simp only
      have := went_len a1.w
      obtain ⟨th, s2, h2, a2⟩ := ih.block s1 a1.w.hi (by omega)
      rw [h2]
      simp only
      have a12 := Adv.step hp he rfl (a1.w.trans a2.w)
      by_cases h3 : ((kind == zIf) && isP l s2 zElse) = true
      · rw [if_pos h3]
        have h4 := (Bool.and_eq_true _ _ ▸ h3 : _ ∧ _).2
        obtain ⟨he4, t, -, -, hp4, -⟩ := isP_some h4
        have hs4 := step_len hp4
        have := went_len a2.w
        obtain ⟨el, s3, h5, a3⟩ := ih.block s2.step hs4.1 (by omega)
        rw [h5]
        exact ⟨_, _, rfl, a12.then ((went_step hp4 he4).trans a3.w)⟩
      · rw [if_neg h3]
        exact ⟨_, _, rfl, a12⟩
theorem tot_names (l : List Tok) : ∀ n ps s, s.pos ≤ l.length → l.length - s.pos + 1 ≤ n → ∃ e s', namesF l n ps s = some (e, s') ∧ Went l s s' := by
  intro n
  induction n with
  | zero => intro ps s _ h; omega
  | succ n ih =>
    intro ps s hp hn
    rw [namesF]
    by_cases h1 : isP l s [44] = true
    · rw [if_pos h1]
      obtain ⟨he3, t, -, -, hp3, -⟩ := isP_some h1
      have hs := step_len hp3
      have hw := ofP_went (x := kName) hs.1
      have := went_len hw
      obtain ⟨e2, s2, h3, a2⟩ := ih (ps ++ [(ofP l kName s.step).1]) (ofP l kName s.step).2 hw.hi (by omega)
      exact ⟨_, _, h3, (went_step hp3 he3).trans (hw.trans a2)⟩
    · rw [if_neg h1]
      exact ⟨_, _, rfl, takeP_went hp⟩
theorem headP_went {l : List Tok} {s : PSt} (hp : s.pos ≤ l.length) : Adv l s (headP l s).2 := by
  have h1 := takeP_adv (l := l) (x := zFn) hp
  have h2 := ofP_went (l := l) (x := kName) h1.w.hi
  exact h1.then (h2.trans (takeP_went h2.hi))
theorem tot_fun {l : List Tok} {n : Nat} {s : PSt} (hp : s.pos ≤ l.length) (hn : 40 * (l.length - s.pos) + 6 ≤ n) : ∃ f s', funF l n s = some (f, s') ∧ Adv l s s' := by
  have hh := headP_went (l := l) hp
  have hps : ∃ ps s1, (if (headP l s).2.err.isNone = true then paramsF l n (headP l s).2 else some ([], (headP l s).2)) = some (ps, s1) ∧ Went l (headP l s).2 s1 := by
    by_cases he : (headP l s).2.err.isNone = true
    · rw [if_pos he]
      unfold paramsF
      by_cases h1 : isP l (headP l s).2 [41] = true
      · rw [if_pos h1]
        obtain ⟨he3, t, -, -, hp3, -⟩ := isP_some h1
        exact ⟨_, _, rfl, went_step hp3 he3⟩
      · rw [if_neg h1]
        have hw := ofP_went (l := l) (x := kName) hh.w.hi
        have := went_len hw
        have := went_len hh.w
        obtain ⟨e2, s2, h3, a2⟩ := tot_names l n [(ofP l kName (headP l s).2).1] (ofP l kName (headP l s).2).2 hw.hi (by omega)
        exact ⟨_, _, h3, hw.trans a2⟩
    · rw [if_neg he]
      exact ⟨_, _, rfl, Went.refl hh.w.hi⟩
  obtain ⟨ps, s1, h1, a1⟩ := hps
  unfold funF
  rw [h1]
  simp only
  have := went_len a1
  have := went_len hh.w
  obtain ⟨b, s2, h2, a2⟩ := (tot_stmt l n).block s1 a1.hi (by omega)
  rw [h2]
  exact ⟨_, _, rfl, hh.then (a1.trans a2.w)⟩
theorem tot_parse (l : List Tok) : ∀ n fs s, s.pos ≤ l.length → 40 * (l.length - s.pos) + 10 ≤ n → ∃ e s', parseF l n fs s = some (e, s') ∧ Went l s s' ∧ (s'.err = none → s'.pos = l.length) := by
  intro n
  induction n with
  | zero => intro fs s _ h; omega
  | succ n ih =>
    intro fs s hp hn
    rw [parseF]
    by_cases h1 : (s.err.isNone && decide (s.pos < l.length)) = true
    · rw [if_pos h1]
      have h0 := h1
      simp only [Bool.and_eq_true, decide_eq_true_eq] at h0
      obtain ⟨f, s1, h2, a1⟩ := tot_fun (l := l) (n := n) hp (by omega)
      rw [h2]
      simp only
      cases he1 : s1.err with
      | some z =>
        obtain ⟨n, rfl⟩ : ∃ k, n = k + 1 := ⟨n - 1, by omega⟩
        refine ⟨fs ++ [f], s1, ?_, a1.w, fun e => by rw [he1] at e; cases e⟩
        rw [parseF, if_neg]
        intro h
        simp only [Bool.and_eq_true] at h
        have := none_of h.1
        rw [he1] at this; cases this
      | none =>
        have hlt := a1.adv he1
        have := a1.w.hi
        obtain ⟨e2, s2, h3, a2, e3⟩ := ih (fs ++ [f]) s1 a1.w.hi (by omega)
        exact ⟨_, _, h3, a1.w.trans a2, e3⟩
    · rw [if_neg h1]
      refine ⟨_, _, rfl, Went.refl hp, fun e => ?_⟩
      simp only [Bool.and_eq_true, decide_eq_true_eq, not_and] at h1
      have := h1 (by rw [e]; rfl)
      omega
/-- A program of tokens: the trees; or an error and its place. -/
def s0P : PSt := ⟨0, 0, none⟩
def parseP (l : List Tok) : List PFun × PSt := (parseF l (40 * l.length + 10) [] s0P).getD ([], s0P)
theorem parseP_eq (l : List Tok) : parseF l (40 * l.length + 10) [] s0P = some (parseP l) := by
  obtain ⟨e, s, h, -, -⟩ := tot_parse l (40 * l.length + 10) [] s0P (Nat.zero_le _) (by show 40 * (l.length - 0) + 10 ≤ _; omega)
  unfold parseP
  rw [h]; rfl
end Go.Proofs.YtpfgimohginbdaaDoor

namespace Go.Proofs.YtpfgimohginbdaaDoor
open Go.RowKit

/-! the reference's parser, in plain Lean -/
/-- The level of an op. -/
def levN (x : List UInt8) : Option Nat := levelsB.findIdx? (fun z => z.contains x)
/-- The level of the op that is next. -/
def levR (l : List Tok) (s : PSt) : Option Nat := if s.err.isNone = true then (match l[s.pos]? with
  | none => none
  | some t => if (t.kind == kSign) = true then levN t.text else none) else none
def leB (lv : Nat) : Option Nat → Bool
  | none => false
  | some k => decide (lv ≤ k)
mutual
def exprR (l : List Tok) : Nat → Nat → PSt → Option (PExpr × PSt)
  | 0, _, _ => none
  | n + 1, lv, s => match aheadR l n s with
    | none => none
    | some (e, s1) => loopR l n lv e s1
def loopR (l : List Tok) : Nat → Nat → PExpr → PSt → Option (PExpr × PSt)
  | 0, _, _, _ => none
  | n + 1, lv, e, s => if leB lv (levR l s) = true then
      match exprR l n ((levR l s).getD 0 + 1) s.step with
      | none => none
      | some (r, s1) => loopR l n lv ⟨yTwo, 0, txtP l s, [e, r]⟩ s1
    else some (e, s)
def aheadR (l : List Tok) : Nat → PSt → Option (PExpr × PSt)
  | 0, _ => none
  | n + 1, s => if isP l s [45] = true ∨ isP l s [33] = true then
      if (nestP s).err.isNone = true then
        match aheadR l n (nestP s).step with
        | none => none
        | some (e, s1) => some (⟨yOne, 0, txtP l s, [e]⟩, s1.up)
      else some (zeroE, nestP s)
    else if isP l s [40] = true then
      if (nestP s).err.isNone = true then
        match exprR l n 0 (nestP s).step with
        | none => none
        | some (e, s1) => some (e, (takeP l [41] s1).up)
      else some (zeroE, nestP s)
    else if ofB l kNumber s = true then some (⟨yNum, digV (txtP l s), [], []⟩, s.step)
    else if isP l (ofP l kName s).2 [40] = true then
      if (nestP (ofP l kName s).2).err.isNone = true then
        match argsR l n (nestP (ofP l kName s).2).step with
        | none => none
        | some (ks, s1) => some (⟨yCall, 0, (ofP l kName s).1, ks⟩, s1.up)
      else some (zeroE, nestP (ofP l kName s).2)
    else some (⟨yName, 0, (ofP l kName s).1, []⟩, (ofP l kName s).2)
def argsR (l : List Tok) : Nat → PSt → Option (List PExpr × PSt)
  | 0, _ => none
  | n + 1, s => if isP l s [41] = true then some ([], s.step) else argsL l n [] s
def argsL (l : List Tok) : Nat → List PExpr → PSt → Option (List PExpr × PSt)
  | 0, _, _ => none
  | n + 1, ks, s => if s.err.isNone = true then
      match exprR l n 0 s with
      | none => none
      | some (e, s1) => if isP l s1 [44] = true then argsL l n (ks ++ [e]) s1.step else some (ks ++ [e], takeP l [41] s1)
    else some (ks, s)
end
def assignR (l : List Tok) (n : Nat) (kind : List UInt8) (s : PSt) : Option (PStmt × PSt) :=
  match exprR l n 0 (takeP l [61] (ofP l kName s).2) with
  | none => none
  | some (e, s1) => some (⟨kind, (ofP l kName s).1, e, [], []⟩, takeP l [59] s1)
def tellR (l : List Tok) (n : Nat) (kind : List UInt8) (s : PSt) : Option (PStmt × PSt) :=
  match exprR l n 0 s.step with
  | none => none
  | some (e, s1) => some (⟨kind, [], e, [], []⟩, takeP l [59] s1)
mutual
def blockR (l : List Tok) : Nat → PSt → Option (List PStmt × PSt)
  | 0, _ => none
  | n + 1, s => if isP l s [123] = true then
      if (nestP s).err.isNone = true then
        match stmtsR l n [] (nestP s).step with
        | none => none
        | some (ss, s1) => some (ss, s1.up)
      else some ([], nestP s)
    else some ([], failP s 1)
def stmtsR (l : List Tok) : Nat → List PStmt → PSt → Option (List PStmt × PSt)
  | 0, _, _ => none
  | n + 1, ss, s => if s.err.isNone = true then
      if isP l s [125] = true then some (ss, s.step) else
      match stmtR l n s with
      | none => none
      | some (x, s1) => stmtsR l n (ss ++ [x]) s1
    else some (ss, s)
def stmtR (l : List Tok) : Nat → PSt → Option (PStmt × PSt)
  | 0, _ => none
  | n + 1, s => if isP l s zIf = true then branchR l n zIf s else if isP l s zWhile = true then branchR l n zWhile s
    else if isP l s zReturn = true then tellR l n zReturn s else if isP l s zPrint = true then tellR l n zPrint s
    else if isP l s zVar = true then assignR l n zVar s.step else assignR l n ySet s
def branchR (l : List Tok) : Nat → List UInt8 → PSt → Option (PStmt × PSt)
  | 0, _, _ => none
  | n + 1, kind, s => match exprR l n 0 s.step with
    | none => none
    | some (e, s1) => match blockR l n s1 with
      | none => none
      | some (th, s2) => if ((kind == zIf) && isP l s2 zElse) = true then
          match blockR l n s2.step with
          | none => none
          | some (el, s3) => some (⟨kind, [], e, th, el⟩, s3)
        else some (⟨kind, [], e, th, []⟩, s2)
end
def namesR (l : List Tok) : Nat → List (List UInt8) → PSt → Option (List (List UInt8) × PSt)
  | 0, _, _ => none
  | n + 1, ps, s => if s.err.isNone = true then
      if isP l (ofP l kName s).2 [44] = true then namesR l n (ps ++ [(ofP l kName s).1]) (ofP l kName s).2.step
      else some (ps ++ [(ofP l kName s).1], takeP l [41] (ofP l kName s).2)
    else some (ps, s)
def paramsR (l : List Tok) (n : Nat) (s : PSt) : Option (List (List UInt8) × PSt) :=
  if s.err.isNone = true then (if isP l s [41] = true then some ([], s.step) else namesR l n [] s) else some ([], s)
def funR (l : List Tok) (n : Nat) (s : PSt) : Option (PFun × PSt) :=
  match paramsR l n (headP l s).2 with
  | none => none
  | some (ps, s1) => match blockR l n s1 with
    | none => none
    | some (b, s2) => some (⟨(headP l s).1, ps, b⟩, s2)
def parseR (l : List Tok) : Nat → List PFun → PSt → Option (List PFun × PSt)
  | 0, _, _ => none
  | n + 1, fs, s => if (s.err.isNone && decide (s.pos < l.length)) = true then
      match funR l n s with
      | none => none
      | some (f, s1) => parseR l n (fs ++ [f]) s1
    else some (fs, s)

/-! it ends, too -/
theorem lev_some {l : List Tok} {s : PSt} {lv : Nat} (h : leB lv (levR l s) = true) : s.err = none ∧ ∃ t k, l[s.pos]? = some t ∧ t.kind = kSign ∧ levN t.text = some k ∧ levR l s = some k ∧ lv ≤ k ∧ s.pos < l.length := by
  unfold levR at h ⊢
  by_cases he : s.err.isNone = true
  · rw [if_pos he] at h ⊢
    cases hl : l[s.pos]? with
    | none => rw [hl] at h; cases h
    | some t =>
      rw [hl] at h
      simp only at h ⊢
      by_cases hk : (t.kind == kSign) = true
      · rw [if_pos hk] at h ⊢
        cases hn : levN t.text with
        | none => rw [hn] at h; cases h
        | some k =>
          rw [hn] at h
          exact ⟨none_of he, t, k, rfl, by simpa using hk, hn, rfl, by simpa [leB] using h, (List.getElem?_eq_some_iff.1 hl).1⟩
      · rw [if_neg hk] at h; cases h
  · rw [if_neg he] at h; cases h
theorem lev_le {l : List Tok} {s : PSt} {k : Nat} (h : levR l s = some k) : k < 8 := by
  obtain ⟨-, t, j, -, -, h1, h2, -, -⟩ := lev_some (l := l) (s := s) (lv := 0) (by rw [h]; rfl)
  rw [h] at h2
  cases h2
  unfold levN at h1
  exact (List.findIdx?_eq_some_iff_getElem.1 h1).1
structure TotR (l : List Tok) (n : Nat) : Prop where
  expr : ∀ lv s, s.pos ≤ l.length → 40 * (l.length - s.pos) + 26 ≤ n → ∃ e s', exprR l n lv s = some (e, s') ∧ Adv l s s'
  loop : ∀ lv e s, s.pos ≤ l.length → 40 * (l.length - s.pos) + 1 ≤ n → ∃ e' s', loopR l n lv e s = some (e', s') ∧ Went l s s'
  ahead : ∀ s, s.pos ≤ l.length → 40 * (l.length - s.pos) + 20 ≤ n → ∃ e s', aheadR l n s = some (e, s') ∧ Adv l s s'
  args : ∀ s, s.pos ≤ l.length → 40 * (l.length - s.pos) + 30 ≤ n → ∃ e s', argsR l n s = some (e, s') ∧ Went l s s'
  argl : ∀ ks s, s.pos ≤ l.length → 40 * (l.length - s.pos) + 29 ≤ n → ∃ e s', argsL l n ks s = some (e, s') ∧ Went l s s'
theorem tot_exprR (l : List Tok) : ∀ n, TotR l n := by
  intro n
  induction n with
  | zero => exact ⟨fun _ _ _ h => by omega, fun _ _ _ _ h => by omega, fun _ _ h => by omega, fun _ _ h => by omega, fun _ _ _ h => by omega⟩
  | succ n ih =>
    refine ⟨fun lv s hp hn => ?_, fun lv e s hp hn => ?_, fun s hp hn => ?_, fun s hp hn => ?_, fun ks s hp hn => ?_⟩
    · rw [exprR]
      obtain ⟨e, s1, h1, a1⟩ := ih.ahead s hp (by omega)
      rw [h1]
      have := went_len a1.w
      obtain ⟨e2, s2, h2, a2⟩ := ih.loop lv e s1 a1.w.hi (by omega)
      exact ⟨e2, s2, h2, a1.then a2⟩
    · rw [loopR]
      by_cases ho : leB lv (levR l s) = true
      · rw [if_pos ho]
        obtain ⟨he, t, k, -, -, -, -, -, hlt⟩ := lev_some ho
        have hs := step_len hlt
        obtain ⟨e1, s1, h1, a1⟩ := ih.expr ((levR l s).getD 0 + 1) s.step hs.1 (by omega)
        rw [h1]
        have := went_len a1.w
        obtain ⟨e2, s2, h2, a2⟩ := ih.loop lv ⟨yTwo, 0, txtP l s, [e, e1]⟩ s1 a1.w.hi (by omega)
        exact ⟨e2, s2, h2, (went_step hlt he).trans (a1.w.trans a2)⟩
      · rw [if_neg ho]
        exact ⟨e, s, rfl, Went.refl hp⟩
    · rw [aheadR]
      by_cases ho : isP l s [45] = true ∨ isP l s [33] = true
      · rw [if_pos ho]
        have hx : s.err = none ∧ s.pos < l.length := by
          rcases ho with ho | ho
          · obtain ⟨e, t, -, -, hp, -⟩ := isP_some ho; exact ⟨e, hp⟩
          · obtain ⟨e, t, -, -, hp, -⟩ := isP_some ho; exact ⟨e, hp⟩
        by_cases hne : (nestP s).err.isNone = true
        · rw [if_pos hne]
          have hs := nest_len hx.2
          obtain ⟨e1, s1, h1, a1⟩ := ih.ahead (nestP s).step hs.1 (by omega)
          rw [h1]
          exact ⟨_, _, rfl, Adv.nest (none_of hne) a1.w⟩
        · rw [if_neg hne]
          exact ⟨_, _, rfl, Adv.bad hp hx.1 (some_of hne)⟩
      · rw [if_neg ho]
        by_cases h1 : isP l s [40] = true
        · rw [if_pos h1]
          obtain ⟨he, t, -, -, hlt, -⟩ := isP_some h1
          by_cases hne : (nestP s).err.isNone = true
          · rw [if_pos hne]
            have hs := nest_len hlt
            obtain ⟨e1, s1, h1, a1⟩ := ih.expr 0 (nestP s).step hs.1 (by omega)
            rw [h1]
            exact ⟨_, _, rfl, Adv.nest (none_of hne) (a1.w.trans (takeP_went a1.w.hi))⟩
          · rw [if_neg hne]
            exact ⟨_, _, rfl, Adv.bad hp he (some_of hne)⟩
        · rw [if_neg h1]
          by_cases h2 : ofB l kNumber s = true
          · rw [if_pos h2]
            obtain ⟨he, t, -, -, hlt⟩ := ofB_some h2
            exact ⟨_, _, rfl, Adv.step hlt he rfl (Went.refl (step_len hlt).1)⟩
          · rw [if_neg h2]
            have ha := ofP_adv (x := kName) hp
            by_cases h3 : isP l (ofP l kName s).2 [40] = true
            · rw [if_pos h3]
              obtain ⟨he3, t, -, -, hp3, -⟩ := isP_some h3
              have hl3 := ha.adv he3
              by_cases h4 : (nestP (ofP l kName s).2).err.isNone = true
              · rw [if_pos h4]
                have hs := nest_len hp3
                obtain ⟨e1, s1, h5, a1⟩ := ih.args (nestP (ofP l kName s).2).step hs.1 (by omega)
                rw [h5]
                exact ⟨_, _, rfl, Adv.after ha.w (Adv.nest (none_of h4) a1)⟩
              · rw [if_neg h4]
                exact ⟨_, _, rfl, Adv.after ha.w (Adv.bad ha.w.hi he3 (some_of h4))⟩
            · rw [if_neg h3]
              exact ⟨_, _, rfl, ha⟩
    · rw [argsR]
      by_cases h1 : isP l s [41] = true
      · rw [if_pos h1]
        obtain ⟨he3, t, -, -, hp3, -⟩ := isP_some h1
        exact ⟨_, _, rfl, went_step hp3 he3⟩
      · rw [if_neg h1]
        exact ih.argl [] s hp (by omega)
    · rw [argsL]
      by_cases he : s.err.isNone = true
      · rw [if_pos he]
        obtain ⟨e1, s1, h2, a1⟩ := ih.expr 0 s hp (by omega)
        rw [h2]
        simp only
        have := went_len a1.w
        by_cases h1 : isP l s1 [44] = true
        · rw [if_pos h1]
          obtain ⟨he3, t, -, -, hp3, -⟩ := isP_some h1
          have hs := step_len hp3
          obtain ⟨e2, s2, h3, a2⟩ := ih.argl (ks ++ [e1]) s1.step hs.1 (by omega)
          exact ⟨e2, s2, h3, a1.w.trans ((went_step hp3 he3).trans a2)⟩
        · rw [if_neg h1]
          exact ⟨_, _, rfl, a1.w.trans (takeP_went a1.w.hi)⟩
      · rw [if_neg he]
        exact ⟨_, _, rfl, Went.refl hp⟩
theorem tot_assignR {l : List Tok} {n : Nat} {kind : List UInt8} {s : PSt} (hp : s.pos ≤ l.length) (hn : 40 * (l.length - s.pos) + 26 ≤ n) : ∃ x s', assignR l n kind s = some (x, s') ∧ Adv l s s' := by
  have h1 := ofP_adv (l := l) (x := kName) hp
  have h2 := h1.then (takeP_went (x := [61]) h1.w.hi)
  have := went_len h2.w
  obtain ⟨e, s1, h3, a3⟩ := (tot_exprR l n).expr 0 _ h2.w.hi (by omega)
  unfold assignR
  rw [h3]
  exact ⟨_, _, rfl, h2.then (a3.w.trans (takeP_went a3.w.hi))⟩
theorem tot_tellR {l : List Tok} {n : Nat} {kind : List UInt8} {s : PSt} (hp : s.pos < l.length) (he : s.err = none) (hn : 40 * (l.length - s.pos) ≤ n + 14) : ∃ x s', tellR l n kind s = some (x, s') ∧ Adv l s s' := by
  have hs := step_len hp
  obtain ⟨e, s1, h3, a3⟩ := (tot_exprR l n).expr 0 s.step hs.1 (by omega)
  unfold tellR
  rw [h3]
  exact ⟨_, _, rfl, Adv.step hp he rfl (a3.w.trans (takeP_went a3.w.hi))⟩
structure TotSR (l : List Tok) (n : Nat) : Prop where
  block : ∀ s, s.pos ≤ l.length → 40 * (l.length - s.pos) + 4 ≤ n → ∃ e s', blockR l n s = some (e, s') ∧ Adv l s s'
  stmts : ∀ ss s, s.pos ≤ l.length → 40 * (l.length - s.pos) + 35 ≤ n → ∃ e s', stmtsR l n ss s = some (e, s') ∧ Went l s s'
  stmt : ∀ s, s.pos ≤ l.length → 40 * (l.length - s.pos) + 32 ≤ n → ∃ e s', stmtR l n s = some (e, s') ∧ Adv l s s'
  branch : ∀ kind s, s.pos < l.length → s.err = none → 40 * (l.length - s.pos) + 1 ≤ n → ∃ e s', branchR l n kind s = some (e, s') ∧ Adv l s s'
theorem stmtsR_err {l : List Tok} {n : Nat} {ss : List PStmt} {s : PSt} (he : s.err ≠ none) : stmtsR l (n + 1) ss s = some (ss, s) := by
  rw [stmtsR, if_neg]
  intro h
  exact he (none_of h)
theorem tot_stmtR (l : List Tok) : ∀ n, TotSR l n := by
  intro n
  induction n with
  | zero => exact ⟨fun _ _ h => by omega, fun _ _ _ h => by omega, fun _ _ h => by omega, fun _ _ _ _ h => by omega⟩
  | succ n ih =>
    refine ⟨fun s hp hn => ?_, fun ss s hp hn => ?_, fun s hp hn => ?_, fun kind s hp he hn => ?_⟩
    · rw [blockR]
      by_cases h1 : isP l s [123] = true
      · rw [if_pos h1]
        obtain ⟨he3, t, -, -, hp3, -⟩ := isP_some h1
        by_cases hne : (nestP s).err.isNone = true
        · rw [if_pos hne]
          have hs := nest_len hp3
          obtain ⟨e1, s1, h2, a1⟩ := ih.stmts [] (nestP s).step hs.1 (by omega)
          rw [h2]
          exact ⟨_, _, rfl, Adv.nest (none_of hne) a1⟩
        · rw [if_neg hne]
          exact ⟨_, _, rfl, Adv.bad hp he3 (some_of hne)⟩
      · rw [if_neg h1]
        exact ⟨_, _, rfl, Adv.fail hp⟩
    · rw [stmtsR]
      by_cases h1 : s.err.isNone = true
      · rw [if_pos h1]
        by_cases h2 : isP l s [125] = true
        · rw [if_pos h2]
          obtain ⟨he3, t, -, -, hp3, -⟩ := isP_some h2
          exact ⟨_, _, rfl, went_step hp3 he3⟩
        · rw [if_neg h2]
          obtain ⟨x, s1, h2, a1⟩ := ih.stmt s hp (by omega)
          rw [h2]
          cases he1 : s1.err with
          | some z =>
            obtain ⟨n, rfl⟩ : ∃ k, n = k + 1 := ⟨n - 1, by omega⟩
            exact ⟨_, _, stmtsR_err (by rw [he1]; simp), a1.w⟩
          | none =>
            have hlt := a1.adv he1
            have := a1.w.hi
            obtain ⟨e2, s2, h3, a2⟩ := ih.stmts (ss ++ [x]) s1 a1.w.hi (by omega)
            exact ⟨_, _, h3, a1.w.trans a2⟩
      · rw [if_neg h1]
        exact ⟨_, _, rfl, Went.refl hp⟩
    · rw [stmtR]
      by_cases h1 : isP l s zIf = true
      · rw [if_pos h1]
        obtain ⟨he3, t, -, -, hp3, -⟩ := isP_some h1
        exact ih.branch _ s hp3 he3 (by omega)
      · rw [if_neg h1]
        by_cases h2 : isP l s zWhile = true
        · rw [if_pos h2]
          obtain ⟨he3, t, -, -, hp3, -⟩ := isP_some h2
          exact ih.branch _ s hp3 he3 (by omega)
        · rw [if_neg h2]
          by_cases h3 : isP l s zReturn = true
          · rw [if_pos h3]
            obtain ⟨he3, t, -, -, hp3, -⟩ := isP_some h3
            exact tot_tellR hp3 he3 (by omega)
          · rw [if_neg h3]
            by_cases h4 : isP l s zPrint = true
            · rw [if_pos h4]
              obtain ⟨he3, t, -, -, hp3, -⟩ := isP_some h4
              exact tot_tellR hp3 he3 (by omega)
            · rw [if_neg h4]
              by_cases h5 : isP l s zVar = true
              · rw [if_pos h5]
                obtain ⟨he3, t, -, -, hp3, -⟩ := isP_some h5
                have hs := step_len hp3
                obtain ⟨x, s1, h6, a1⟩ := tot_assignR (l := l) (n := n) (kind := zVar) (s := s.step) hs.1 (by omega)
                exact ⟨x, s1, h6, Adv.step hp3 he3 rfl a1.w⟩
              · rw [if_neg h5]
                exact tot_assignR hp (by omega)
    · rw [branchR]
      have hs := step_len hp
      obtain ⟨e1, s1, h1, a1⟩ := (tot_exprR l n).expr 0 s.step hs.1 (by omega)
      rw [h1]
      simp only
      have := went_len a1.w
      obtain ⟨th, s2, h2, a2⟩ := ih.block s1 a1.w.hi (by omega)
      rw [h2]
      simp only
      have a12 := Adv.step hp he rfl (a1.w.trans a2.w)
      by_cases h3 : ((kind == zIf) && isP l s2 zElse) = true
      · rw [if_pos h3]
        have h4 := (Bool.and_eq_true _ _ ▸ h3 : _ ∧ _).2
        obtain ⟨he4, t, -, -, hp4, -⟩ := isP_some h4
        have hs4 := step_len hp4
        have := went_len a2.w
        obtain ⟨el, s3, h5, a3⟩ := ih.block s2.step hs4.1 (by omega)
        rw [h5]
        exact ⟨_, _, rfl, a12.then ((went_step hp4 he4).trans a3.w)⟩
      · rw [if_neg h3]
        exact ⟨_, _, rfl, a12⟩
end Go.Proofs.YtpfgimohginbdaaDoor
