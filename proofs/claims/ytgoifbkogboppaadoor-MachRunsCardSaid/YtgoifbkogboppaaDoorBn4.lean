import Derived.Test.YtgoifbkogboppaaDoorBn3
set_option linter.unusedVariables false
set_option linter.unusedSimpArgs false
namespace Go.Proofs.YtgoifbkogboppaaDoor
open Go.RowKit

/-! a machine, in plain Lean -/
abbrev Txt := List UInt8
structure PFn where
  name : Txt
  params : Int
  slots : Int
  entry : Int
structure PImg where
  funs : List PFn
  words : List Int
def constT : Txt := [99, 111, 110, 115, 116]
def highT : Txt := [104, 105, 103, 104]
def moveT : Txt := [109, 111, 118, 101]
def loadT : Txt := [108, 111, 97, 100]
def storeT : Txt := [115, 116, 111, 114, 101]
def paramT : Txt := [112, 97, 114, 97, 109]
def argT : Txt := [97, 114, 103]
def callT : Txt := [99, 97, 108, 108]
def tickT : Txt := [116, 105, 99, 107]
def printT : Txt := [112, 114, 105, 110, 116]
def jumpT : Txt := [106, 117, 109, 112]
def ifT : Txt := [105, 102]
def returnT : Txt := [114, 101, 116, 117, 114, 110]
def negT : Txt := [110, 101, 103]
def notT : Txt := [110, 111, 116]
def tiredT : Txt := [116, 105, 114, 101, 100]
def deepT : Txt := [100, 101, 101, 112]
def loudT : Txt := [108, 111, 117, 100]
def doneT : Txt := [100, 111, 110, 101]
def stuckT : Txt := [115, 116, 117, 99, 107]
/-- The bound of an instruction's number (-1: none). -/
def mostW (nw nf : Nat) (op : Txt) : Int :=
  if op = jumpT ∨ op = ifT then nw else if op = callT then nf else if op = loadT ∨ op = storeT then 1000 else if op = paramT ∨ op = argT then 4 else -1
def farW (nw nf : Nat) (i : PIns) : Bool := decide (0 ≤ mostW nw nf i.op) && (decide (i.imm < 0) || decide (mostW nw nf i.op ≤ i.imm))
def wordC (nw nf : Nat) (v : Int) : Nat := if errW v ≠ 0 then errW v else if farW nw nf (insP v) then 2 else 0
def fnameB (before : List PFn) (f : PFn) : Bool := f.name.isEmpty || before.any fun g => g.name == f.name
def fnC (nw : Nat) (before : List PFn) (f : PFn) : Nat :=
  if fnameB before f then 5 else if f.params < 0 ∨ 4 < f.params then 9 else if f.slots < 0 ∨ 1000 < f.slots ∨ f.entry < 0 ∨ (nw : Int) ≤ f.entry then 2 else 0
/-- The first one that is wrong, from number k on. -/
def firstBad (c : Nat → Nat) (n : Nat) : Nat → Nat → Nat × Int
  | 0, _ => (0, -1)
  | j + 1, k => if c k ≠ 0 then (c k, (k : Int)) else firstBad c n j (k + 1)
def funBad (m : PImg) : Nat × Int := firstBad (fun k => match m.funs[k]? with | some f => fnC m.words.length (m.funs.take k) f | none => 0) m.funs.length m.funs.length 0
def wordBad (m : PImg) : Nat × Int := firstBad (fun k => match m.words[k]? with | some v => wordC m.words.length m.funs.length v | none => 0) m.words.length m.words.length 0
def imgC (m : PImg) : Nat × Int :=
  if 8 < m.funs.length ∨ 8000 < m.words.length then (8, -1) else if (funBad m).1 ≠ 0 then funBad m else wordBad m
theorem firstBad_zero {c : Nat → Nat} {n : Nat} : ∀ {j k : Nat}, (firstBad c n j k).1 = 0 ↔ ∀ i, k ≤ i → i < k + j → c i = 0 := by
  intro j
  induction j with
  | zero => intro k; exact ⟨fun _ i h1 h2 => absurd h2 (by omega), fun _ => rfl⟩
  | succ j ih =>
    intro k
    unfold firstBad
    by_cases h : c k = 0
    · rw [if_neg (by simpa using h), ih]
      refine ⟨fun q i h1 h2 => ?_, fun q i h1 h2 => q i (by omega) (by omega)⟩
      by_cases e : i = k
      · rw [e]; exact h
      · exact q i (by omega) (by omega)
    · rw [if_pos h]
      exact ⟨fun q => absurd q h, fun q => absurd (q k (Nat.le_refl _) (by omega)) h⟩
theorem firstBad_none {c : Nat → Nat} {n : Nat} : ∀ {j k : Nat}, (firstBad c n j k).1 = 0 → firstBad c n j k = (0, -1) := by
  intro j
  induction j with
  | zero => intro k _; rfl
  | succ j ih =>
    intro k
    unfold firstBad
    by_cases h : c k = 0
    · rw [if_neg (by simpa using h)]; exact ih
    · rw [if_pos h]; exact fun q => absurd q h
/-- What a right image is. -/
structure GoodI (m : PImg) : Prop where
  nf : m.funs.length ≤ 8
  nw : m.words.length ≤ 8000
  funs : ∀ k (h : k < m.funs.length), fnC m.words.length (m.funs.take k) m.funs[k] = 0
  words : ∀ k (h : k < m.words.length), wordC m.words.length m.funs.length m.words[k] = 0
theorem imgC_good {m : PImg} : (imgC m).1 = 0 ↔ GoodI m := by
  unfold imgC
  by_cases h : 8 < m.funs.length ∨ 8000 < m.words.length
  · rw [if_pos h]
    exact ⟨fun q => absurd q (by decide), fun q => by have := q.nf; have := q.nw; omega⟩
  · rw [if_neg h]
    have e1 : (funBad m).1 = 0 ↔ ∀ k (h : k < m.funs.length), fnC m.words.length (m.funs.take k) m.funs[k] = 0 := by
      unfold funBad
      rw [firstBad_zero]
      refine ⟨fun q k hk => by have := q k (Nat.zero_le _) (by omega); rwa [List.getElem?_eq_getElem hk] at this, fun q k _ hk => ?_⟩
      rw [List.getElem?_eq_getElem (by omega)]
      exact q k (by omega)
    have e2 : (wordBad m).1 = 0 ↔ ∀ k (h : k < m.words.length), wordC m.words.length m.funs.length m.words[k] = 0 := by
      unfold wordBad
      rw [firstBad_zero]
      refine ⟨fun q k hk => by have := q k (Nat.zero_le _) (by omega); rwa [List.getElem?_eq_getElem hk] at this, fun q k _ hk => ?_⟩
      rw [List.getElem?_eq_getElem (by omega)]
      exact q k (by omega)
    by_cases hf : (funBad m).1 = 0
    · rw [if_neg (by simpa using hf), e2]
      exact ⟨fun q => ⟨by omega, by omega, e1.1 hf, q⟩, fun q => q.words⟩
    · rw [if_pos hf]
      exact ⟨fun q => absurd q hf, fun q => absurd (e1.2 q.funs) hf⟩
theorem imgC_none {m : PImg} (h : (imgC m).1 = 0) : imgC m = (0, -1) := by
  unfold imgC at h ⊢
  split at h
  · cases h
  · rename_i h1
    rw [if_neg h1]
    split at h
    · rename_i h2; exact absurd h h2
    · rename_i h2
      rw [if_neg h2]
      exact firstBad_none h

/-! a run -/
structure PFr where
  f : PFn
  r : List Int
  slots : List Int
  args : List Int
  next : List Int
  pc : Nat
  d : Nat
structure PMs where
  how : Txt
  val : Int
  out : List Int
  ticks : Nat
  calls : List PFr
def PMs.over (s : PMs) : Bool := !s.how.isEmpty
def zero4 : List Int := [0, 0, 0, 0]
def zero8 : List Int := [0, 0, 0, 0, 0, 0, 0, 0]
def fn0 : PFn := ⟨[], 0, 0, 0⟩
def endM (how : Txt) (s : PMs) : PMs := { s with how := how }
def tickM (T : Nat) (s : PMs) : PMs := if s.ticks < T then { s with ticks := s.ticks + 1 } else endM tiredT s
def printM (n : Int) (s : PMs) : PMs := if 1000 ≤ s.out.length then endM loudT s else { s with out := s.out ++ [n] }
def newFr (f : PFn) (d : Nat) (args : List Int) : PFr := ⟨f, zero8, List.replicate f.slots.toNat 0, args, zero4, f.entry.toNat, d⟩
def pushM (f : PFn) (d : Nat) (args : List Int) (s : PMs) : PMs := { s with calls := s.calls ++ [newFr f d args] }
/-- A call of function k. -/
def enterM (fs : List PFn) (T k d : Nat) (args : List Int) (s : PMs) : PMs :=
  if (tickM T s).over then tickM T s else if 40 ≤ s.calls.length then endM deepT (tickM T s) else pushM (fs.getD k fn0) d args (tickM T s)
/-- The top frame is turned. -/
def topM (x : PFr) (s : PMs) : PMs := { s with calls := s.calls.dropLast ++ [x] }
def PMs.top (s : PMs) : PFr := s.calls.getLastD ⟨fn0, zero8, [], zero4, zero4, 0, 0⟩
/-- Back to the caller. -/
def backM (v : Int) (s : PMs) : PMs :=
  if s.calls.dropLast = [] then { s with calls := [], how := doneT, val := v }
  else { s with calls := s.calls.dropLast.dropLast ++ [{ s.calls.dropLast.getLastD s.top with r := (s.calls.dropLast.getLastD s.top).r.set s.top.d v }] }
def regM (x : PFr) (n : Int) : Int := x.r.getD n.toNat 0
def putM (x : PFr) (n v : Int) : PFr := { x with r := x.r.set n.toNat v }
def highP (a imm : Int) : Int := wrap64 (wrap64 (a * 4294967296) + imm % 4294967296)
/-- val's op of a machine's (none: it is none). -/
def threeP (op : Txt) : Txt := if findL op < 16 then [] else opsB.getD (findL op - 16) []
def flowB (op : Txt) : Bool := op == tickT || op == printT || op == jumpT || op == ifT || op == returnT || op == callT
def moveB (op : Txt) : Bool := op == constT || op == highT || op == moveT || op == loadT || op == storeT || op == paramT || op == argT
def flowP (fs : List PFn) (T : Nat) (i : PIns) (x : PFr) (s : PMs) : PMs :=
  if i.op = tickT then tickM T s
  else if i.op = printT then printM (regM x i.a) s
  else if i.op = jumpT then topM { x with pc := i.imm.toNat } s
  else if i.op = ifT then (if regM x i.a = 0 then s else topM { x with pc := i.imm.toNat } s)
  else if i.op = returnT then backM (regM x i.a) s
  else if i.b = (fs.getD i.imm.toNat fn0).params then enterM fs T i.imm.toNat i.d.toNat x.next (topM { x with next := zero4 } s)
  else endM stuckT (topM { x with next := zero4 } s)
def farM (i : PIns) (x : PFr) : Bool := ((i.op == loadT || i.op == storeT) && decide (x.f.slots ≤ i.imm)) || (i.op == paramT && decide (x.f.params ≤ i.imm))
def moveP (i : PIns) (x : PFr) (s : PMs) : PMs :=
  if farM i x then endM stuckT s
  else if i.op = constT then topM (putM x i.d i.imm) s
  else if i.op = highT then topM (putM x i.d (highP (regM x i.d) i.imm)) s
  else if i.op = moveT then topM (putM x i.d (regM x i.a)) s
  else if i.op = loadT then topM (putM x i.d (x.slots.getD i.imm.toNat 0)) s
  else if i.op = storeT then topM { x with slots := x.slots.set i.imm.toNat (regM x i.a) } s
  else if i.op = paramT then topM (putM x i.d (x.args.getD i.imm.toNat 0)) s
  else topM { x with next := x.next.set i.imm.toNat (regM x i.a) } s
def sumP (i : PIns) (x : PFr) : Int :=
  if i.op = negT then wrap64 (-(regM x i.a)) else if i.op = notT then bitV (regM x i.a == 0) else valOf (doV (threeP i.op) (regM x i.a) (regM x i.b))
def stepI (fs : List PFn) (T : Nat) (i : PIns) (x : PFr) (s : PMs) : PMs :=
  if flowB i.op then flowP fs T i x s else if moveB i.op then moveP i x s else topM (putM x i.d (sumP i x)) s
/-- A step by a word. -/
def stepM (m : PImg) (T : Nat) (s : PMs) : PMs :=
  if m.words.length ≤ s.top.pc then endM stuckT s
  else stepI m.funs T (insP (m.words.getD s.top.pc 0)) { s.top with pc := s.top.pc + 1 } (topM { s.top with pc := s.top.pc + 1 } s)
/-- So many steps: how it ended (none: it did not). -/
def runN (m : PImg) (T : Nat) : Nat → PMs → Option PMs
  | 0, s => if s.over then some s else none
  | n + 1, s => if s.over then some s else runN m T n (stepM m T s)
def Ms0 : PMs := ⟨[], 0, [], 0, []⟩
def args4 (args : List Int) : List Int := (args ++ zero4).take 4
def startM (m : PImg) (T k : Nat) (args : List Int) : PMs := enterM m.funs T k 0 (args4 args) Ms0
/-- What the document's machine answers, within n steps. -/
def machP (m : PImg) (k : Nat) (args : List Int) (T n : Nat) : Option PMs := runN m T n (startM m T k args)
end Go.Proofs.YtgoifbkogboppaaDoor
