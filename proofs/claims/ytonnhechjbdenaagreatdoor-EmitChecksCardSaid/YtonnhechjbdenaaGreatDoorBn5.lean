import Derived.Test.YtonnhechjbdenaaGreatDoorBn1
import Derived.Test.YtonnhechjbdenaaGreatDoorBn3
import Derived.Test.YtonnhechjbdenaaGreatDoorBn4
set_option linter.unusedVariables false
set_option linter.unusedSimpArgs false
namespace Go.Proofs.YtonnhechjbdenaaGreatDoor
open Go.RowKit

/-! instructions and words of a machine, in plain Lean -/
/-- The table: an op's name, and what it has. -/
def opsT : List (List UInt8 × List UInt8) := [
  ([99, 111, 110, 115, 116], [100, 105]), ([104, 105, 103, 104], [100, 105]), ([109, 111, 118, 101], [100, 97]), ([108, 111, 97, 100], [100, 105]), ([115, 116, 111, 114, 101], [97, 105]),
  ([112, 97, 114, 97, 109], [100, 105]), ([97, 114, 103], [97, 105]), ([99, 97, 108, 108], [100, 98, 105]), ([116, 105, 99, 107], []), ([112, 114, 105, 110, 116], [97]),
  ([106, 117, 109, 112], [105]), ([105, 102], [97, 105]), ([114, 101, 116, 117, 114, 110], [97]), ([110, 101, 103], [100, 97]), ([110, 111, 116], [100, 97]),
  ([97, 100, 100], [100, 97, 98]), ([115, 117, 98], [100, 97, 98]), ([109, 117, 108], [100, 97, 98]), ([100, 105, 118], [100, 97, 98]), ([114, 101, 109], [100, 97, 98]),
  ([97, 110, 100], [100, 97, 98]), ([111, 114], [100, 97, 98]), ([120, 111, 114], [100, 97, 98]), ([115, 104, 108], [100, 97, 98]), ([115, 104, 114], [100, 97, 98]),
  ([108, 101, 115, 115], [100, 97, 98]), ([109, 111, 115, 116], [100, 97, 98]), ([115, 97, 109, 101], [100, 97, 98]), ([111, 116, 104, 101, 114], [100, 97, 98])]
def nameOf (n : Nat) : List UInt8 := (opsT.getD n ([], [])).1
def hasOf (n : Nat) : List UInt8 := (opsT.getD n ([], [])).2
/-- The place of an op in the table, and one; 0: it is none. -/
def findL (op : List UInt8) : Nat := match opsT.findIdx? (fun r => r.1 == op) with | some k => k + 1 | none => 0
structure PIns where
  op : List UInt8
  d : Int
  a : Int
  b : Int
  imm : Int
  deriving DecidableEq
def callN : List UInt8 := [99, 97, 108, 108]
def regP (n : Int) : Bool := decide (0 ≤ n) && decide (n < 8)
def mostB (op : List UInt8) : Int := if op == callN then 4 else 7
/-- The number of what is wrong with an instruction (0: nothing). -/
def errP (h : List UInt8) (i : PIns) : Nat :=
  if (h.contains 100 && !regP i.d) || (h.contains 97 && !regP i.a) || (h.contains 98 && (decide (i.b < 0) || decide (mostB i.op < i.b))) || (h.contains 105 && (decide (i.imm < -2147483648) || decide (2147483647 < i.imm))) then 2
  else if (!h.contains 100 && i.d != 0) || (!h.contains 97 && i.a != 0) || (!h.contains 98 && i.b != 0) || (!h.contains 105 && i.imm != 0) then 3 else 0
def errI (i : PIns) : Nat := if findL i.op = 0 then 4 else errP (hasOf (findL i.op - 1)) i
def lowP (n : Int) : Int := if n < 0 then n + 4294967296 else n
def wordP (i : PIns) : Int := ((findL i.op : Int) * 16777216 + i.d * 65536 + i.a * 256 + i.b) * 4294967296 + lowP i.imm
/-- What a word is, if its number is one. -/
def insP (w : Int) : PIns :=
  let k := (w / 72057594037927936).toNat
  ⟨nameOf (k - 1), w / 281474976710656 % 256, w / 1099511627776 % 256, w / 4294967296 % 256, if w % 4294967296 ≥ 2147483648 then w % 4294967296 - 4294967296 else w % 4294967296⟩
def errW (w : Int) : Nat := if w / 72057594037927936 < 1 ∨ 29 < w / 72057594037927936 then 4 else errP (hasOf ((w / 72057594037927936).toNat - 1)) (insP w)
theorem findL_spec (op : List UInt8) (h : findL op ≠ 0) : findL op ≤ 29 ∧ nameOf (findL op - 1) = op := by
  unfold findL at h ⊢
  cases hf : opsT.findIdx? (fun r => r.1 == op) with
  | none => rw [hf] at h; exact absurd rfl h
  | some k =>
    rw [List.findIdx?_eq_some_iff_getElem] at hf
    obtain ⟨hk, he, _⟩ := hf
    have hk' : k < 29 := hk
    refine ⟨by simp only; omega, ?_⟩
    simp only [Nat.add_sub_cancel]
    unfold nameOf
    rw [List.getD_eq_getElem?_getD, List.getElem?_eq_getElem hk]
    simpa using he
theorem findL_name (n : Nat) (h : n < 29) : findL (nameOf n) = n + 1 := by
  revert n
  decide
theorem errP_zero {h : List UInt8} {i : PIns} (e : errP h i = 0) : (0 ≤ i.d ∧ i.d ≤ 7) ∧ (0 ≤ i.a ∧ i.a ≤ 7) ∧ (0 ≤ i.b ∧ i.b ≤ 7) ∧ (-2147483648 ≤ i.imm ∧ i.imm ≤ 2147483647) ∧
    (h.contains 100 = false → i.d = 0) ∧ (h.contains 97 = false → i.a = 0) ∧ (h.contains 98 = false → i.b = 0) ∧ (h.contains 105 = false → i.imm = 0) := by
  unfold errP at e
  split at e
  · cases e
  · split at e
    · cases e
    · rename_i h1 h2
      simp only [Bool.or_eq_true, Bool.and_eq_true, not_or, not_and, Bool.not_eq_eq_eq_not, Bool.not_true, bne_iff_ne, ne_eq, Decidable.not_not, decide_eq_true_eq] at h1 h2
      obtain ⟨⟨⟨a1, a2⟩, a3⟩, a4⟩ := h1
      obtain ⟨⟨⟨b1, b2⟩, b3⟩, b4⟩ := h2
      have hm : mostB i.op ≤ 7 := by unfold mostB; split <;> omega
      refine ⟨?_, ?_, ?_, ?_, b1, b2, b3, b4⟩
      · cases hc : h.contains 100
        · have := b1 hc; omega
        · have := a1 hc; simp [regP] at this; omega
      · cases hc : h.contains 97
        · have := b2 hc; omega
        · have := a2 hc; simp [regP] at this; omega
      · cases hc : h.contains 98
        · have := b3 hc; omega
        · have := a3 hc; omega
      · cases hc : h.contains 105
        · have := b4 hc; omega
        · have := a4 hc; omega
/-- A word that is an instruction is that instruction's word. -/
theorem word_ins (w : Int) (h : errW w = 0) : errI (insP w) = 0 ∧ wordP (insP w) = w := by
  unfold errW at h
  split at h
  · cases h
  · rename_i hk
    obtain ⟨k, hk2⟩ : ∃ k : Nat, w / 72057594037927936 = k + 1 := ⟨(w / 72057594037927936).toNat - 1, by omega⟩
    have hkn : ((k + 1 : Nat) : Int).toNat - 1 = k := by omega
    have hop : (insP w).op = nameOf k := by
      show nameOf ((w / 72057594037927936).toNat - 1) = _
      rw [hk2, show ((k : Int) + 1).toNat - 1 = k by omega]
    have hf : findL (insP w).op = k + 1 := by rw [hop]; exact findL_name k (by omega)
    refine ⟨?_, ?_⟩
    · unfold errI
      rw [if_neg (by omega), hf]
      rw [hk2, show ((k : Int) + 1).toNat - 1 = k by omega] at h
      exact h
    · obtain ⟨⟨d1, d2⟩, ⟨a1, a2⟩, ⟨b1, b2⟩, ⟨m1, m2⟩, _⟩ := errP_zero h
      unfold wordP
      rw [hf]
      have e1 : (insP w).d = w / 281474976710656 % 256 := rfl
      have e2 : (insP w).a = w / 1099511627776 % 256 := rfl
      have e3 : (insP w).b = w / 4294967296 % 256 := rfl
      have e4 : lowP (insP w).imm = w % 4294967296 := by
        show lowP (if w % 4294967296 ≥ 2147483648 then w % 4294967296 - 4294967296 else w % 4294967296) = _
        unfold lowP; split <;> split <;> omega
      rw [e1, e2, e3, e4]
      omega
end Go.Proofs.YtonnhechjbdenaaGreatDoor

namespace Go.Proofs.YtonnhechjbdenaaGreatDoor
open Go.RowKit

/-! a machine, in plain Lean -/
abbrev Txt := List UInt8
structure PFn where
  name : Txt
  params : Int
  slots : Int
  entry : Int
structure PImg where
  funs : List PFn
  words : List Int
def constT : Txt := [99, 111, 110, 115, 116]
def highT : Txt := [104, 105, 103, 104]
def moveT : Txt := [109, 111, 118, 101]
def loadT : Txt := [108, 111, 97, 100]
def storeT : Txt := [115, 116, 111, 114, 101]
def paramT : Txt := [112, 97, 114, 97, 109]
def argT : Txt := [97, 114, 103]
def callT : Txt := [99, 97, 108, 108]
def tickT : Txt := [116, 105, 99, 107]
def printT : Txt := [112, 114, 105, 110, 116]
def jumpT : Txt := [106, 117, 109, 112]
def ifT : Txt := [105, 102]
def returnT : Txt := [114, 101, 116, 117, 114, 110]
def negT : Txt := [110, 101, 103]
def notT : Txt := [110, 111, 116]
def tiredT : Txt := [116, 105, 114, 101, 100]
def deepT : Txt := [100, 101, 101, 112]
def loudT : Txt := [108, 111, 117, 100]
def doneT : Txt := [100, 111, 110, 101]
def stuckT : Txt := [115, 116, 117, 99, 107]
/-- The bound of an instruction's number (-1: none). -/
def mostW (nw nf : Nat) (op : Txt) : Int :=
  if op = jumpT ∨ op = ifT then nw else if op = callT then nf else if op = loadT ∨ op = storeT then 1000 else if op = paramT ∨ op = argT then 4 else -1
def farW (nw nf : Nat) (i : PIns) : Bool := decide (0 ≤ mostW nw nf i.op) && (decide (i.imm < 0) || decide (mostW nw nf i.op ≤ i.imm))
def wordC (nw nf : Nat) (v : Int) : Nat := if errW v ≠ 0 then errW v else if farW nw nf (insP v) then 2 else 0
def fnameB (before : List PFn) (f : PFn) : Bool := f.name.isEmpty || before.any fun g => g.name == f.name
def fnC (nw : Nat) (before : List PFn) (f : PFn) : Nat :=
  if fnameB before f then 5 else if f.params < 0 ∨ 4 < f.params then 9 else if f.slots < 0 ∨ 1000 < f.slots ∨ f.entry < 0 ∨ (nw : Int) ≤ f.entry then 2 else 0
/-- The first one that is wrong, from number k on. -/
def firstBad (c : Nat → Nat) (n : Nat) : Nat → Nat → Nat × Int
  | 0, _ => (0, -1)
  | j + 1, k => if c k ≠ 0 then (c k, (k : Int)) else firstBad c n j (k + 1)
def funBad (m : PImg) : Nat × Int := firstBad (fun k => match m.funs[k]? with | some f => fnC m.words.length (m.funs.take k) f | none => 0) m.funs.length m.funs.length 0
def wordBad (m : PImg) : Nat × Int := firstBad (fun k => match m.words[k]? with | some v => wordC m.words.length m.funs.length v | none => 0) m.words.length m.words.length 0
def imgC (m : PImg) : Nat × Int :=
  if 8 < m.funs.length ∨ 8000 < m.words.length then (8, -1) else if (funBad m).1 ≠ 0 then funBad m else wordBad m
theorem firstBad_zero {c : Nat → Nat} {n : Nat} : ∀ {j k : Nat}, (firstBad c n j k).1 = 0 ↔ ∀ i, k ≤ i → i < k + j → c i = 0 := by
  intro j
  induction j with
  | zero => intro k; exact ⟨fun _ i h1 h2 => absurd h2 (by omega), fun _ => rfl⟩
  | succ j ih =>
    intro k
    unfold firstBad
    by_cases h : c k = 0
    · rw [if_neg (by simpa using h), ih]
      refine ⟨fun q i h1 h2 => ?_, fun q i h1 h2 => q i (by omega) (by omega)⟩
      by_cases e : i = k
      · rw [e]; exact h
      · exact q i (by omega) (by omega)
    · rw [if_pos h]
      exact ⟨fun q => absurd q h, fun q => absurd (q k (Nat.le_refl _) (by omega)) h⟩
/-- What a right image is. -/
structure GoodI (m : PImg) : Prop where
  nf : m.funs.length ≤ 8
  nw : m.words.length ≤ 8000
  funs : ∀ k (h : k < m.funs.length), fnC m.words.length (m.funs.take k) m.funs[k] = 0
  words : ∀ k (h : k < m.words.length), wordC m.words.length m.funs.length m.words[k] = 0
theorem imgC_good {m : PImg} : (imgC m).1 = 0 ↔ GoodI m := by
  unfold imgC
  by_cases h : 8 < m.funs.length ∨ 8000 < m.words.length
  · rw [if_pos h]
    exact ⟨fun q => absurd q (by decide), fun q => by have := q.nf; have := q.nw; omega⟩
  · rw [if_neg h]
    have e1 : (funBad m).1 = 0 ↔ ∀ k (h : k < m.funs.length), fnC m.words.length (m.funs.take k) m.funs[k] = 0 := by
      unfold funBad
      rw [firstBad_zero]
      refine ⟨fun q k hk => by have := q k (Nat.zero_le _) (by omega); rwa [List.getElem?_eq_getElem hk] at this, fun q k _ hk => ?_⟩
      rw [List.getElem?_eq_getElem (by omega)]
      exact q k (by omega)
    have e2 : (wordBad m).1 = 0 ↔ ∀ k (h : k < m.words.length), wordC m.words.length m.funs.length m.words[k] = 0 := by
      unfold wordBad
      rw [firstBad_zero]
      refine ⟨fun q k hk => by have := q k (Nat.zero_le _) (by omega); rwa [List.getElem?_eq_getElem hk] at this, fun q k _ hk => ?_⟩
      rw [List.getElem?_eq_getElem (by omega)]
      exact q k (by omega)
    by_cases hf : (funBad m).1 = 0
    · rw [if_neg (by simpa using hf), e2]
      exact ⟨fun q => ⟨by omega, by omega, e1.1 hf, q⟩, fun q => q.words⟩
    · rw [if_pos hf]
      exact ⟨fun q => absurd q hf, fun q => absurd (e1.2 q.funs) hf⟩
/-! a run -/
structure PFr where
  f : PFn
  r : List Int
  slots : List Int
  args : List Int
  next : List Int
  pc : Nat
  d : Nat
structure PMs where
  how : Txt
  val : Int
  out : List Int
  ticks : Nat
  calls : List PFr
def PMs.over (s : PMs) : Bool := !s.how.isEmpty
def zero4 : List Int := [0, 0, 0, 0]
def zero8 : List Int := [0, 0, 0, 0, 0, 0, 0, 0]
def fn0 : PFn := ⟨[], 0, 0, 0⟩
def endM (how : Txt) (s : PMs) : PMs := { s with how := how }
def tickM (T : Nat) (s : PMs) : PMs := if s.ticks < T then { s with ticks := s.ticks + 1 } else endM tiredT s
def printM (n : Int) (s : PMs) : PMs := if 1000 ≤ s.out.length then endM loudT s else { s with out := s.out ++ [n] }
def newFr (f : PFn) (d : Nat) (args : List Int) : PFr := ⟨f, zero8, List.replicate f.slots.toNat 0, args, zero4, f.entry.toNat, d⟩
def pushM (f : PFn) (d : Nat) (args : List Int) (s : PMs) : PMs := { s with calls := s.calls ++ [newFr f d args] }
/-- A call of function k. -/
def enterM (fs : List PFn) (T k d : Nat) (args : List Int) (s : PMs) : PMs :=
  if (tickM T s).over then tickM T s else if 40 ≤ s.calls.length then endM deepT (tickM T s) else pushM (fs.getD k fn0) d args (tickM T s)
/-- The top frame is turned. -/
def topM (x : PFr) (s : PMs) : PMs := { s with calls := s.calls.dropLast ++ [x] }
def PMs.top (s : PMs) : PFr := s.calls.getLastD ⟨fn0, zero8, [], zero4, zero4, 0, 0⟩
/-- Back to the caller. -/
def backM (v : Int) (s : PMs) : PMs :=
  if s.calls.dropLast = [] then { s with calls := [], how := doneT, val := v }
  else { s with calls := s.calls.dropLast.dropLast ++ [{ s.calls.dropLast.getLastD s.top with r := (s.calls.dropLast.getLastD s.top).r.set s.top.d v }] }
def regM (x : PFr) (n : Int) : Int := x.r.getD n.toNat 0
def putM (x : PFr) (n v : Int) : PFr := { x with r := x.r.set n.toNat v }
def highP (a imm : Int) : Int := wrap64 (wrap64 (a * 4294967296) + imm % 4294967296)
/-- val's op of a machine's (none: it is none). -/
def threeP (op : Txt) : Txt := if findL op < 16 then [] else opsB.getD (findL op - 16) []
def flowB (op : Txt) : Bool := op == tickT || op == printT || op == jumpT || op == ifT || op == returnT || op == callT
def moveB (op : Txt) : Bool := op == constT || op == highT || op == moveT || op == loadT || op == storeT || op == paramT || op == argT
def flowP (fs : List PFn) (T : Nat) (i : PIns) (x : PFr) (s : PMs) : PMs :=
  if i.op = tickT then tickM T s
  else if i.op = printT then printM (regM x i.a) s
  else if i.op = jumpT then topM { x with pc := i.imm.toNat } s
  else if i.op = ifT then (if regM x i.a = 0 then s else topM { x with pc := i.imm.toNat } s)
  else if i.op = returnT then backM (regM x i.a) s
  else if i.b = (fs.getD i.imm.toNat fn0).params then enterM fs T i.imm.toNat i.d.toNat x.next (topM { x with next := zero4 } s)
  else endM stuckT (topM { x with next := zero4 } s)
def farM (i : PIns) (x : PFr) : Bool := ((i.op == loadT || i.op == storeT) && decide (x.f.slots ≤ i.imm)) || (i.op == paramT && decide (x.f.params ≤ i.imm))
def moveP (i : PIns) (x : PFr) (s : PMs) : PMs :=
  if farM i x then endM stuckT s
  else if i.op = constT then topM (putM x i.d i.imm) s
  else if i.op = highT then topM (putM x i.d (highP (regM x i.d) i.imm)) s
  else if i.op = moveT then topM (putM x i.d (regM x i.a)) s
  else if i.op = loadT then topM (putM x i.d (x.slots.getD i.imm.toNat 0)) s
  else if i.op = storeT then topM { x with slots := x.slots.set i.imm.toNat (regM x i.a) } s
  else if i.op = paramT then topM (putM x i.d (x.args.getD i.imm.toNat 0)) s
  else topM { x with next := x.next.set i.imm.toNat (regM x i.a) } s
def sumP (i : PIns) (x : PFr) : Int :=
  if i.op = negT then wrap64 (-(regM x i.a)) else if i.op = notT then bitV (regM x i.a == 0) else valOf (doV (threeP i.op) (regM x i.a) (regM x i.b))
def stepI (fs : List PFn) (T : Nat) (i : PIns) (x : PFr) (s : PMs) : PMs :=
  if flowB i.op then flowP fs T i x s else if moveB i.op then moveP i x s else topM (putM x i.d (sumP i x)) s
/-- A step by a word. -/
def stepM (m : PImg) (T : Nat) (s : PMs) : PMs :=
  if m.words.length ≤ s.top.pc then endM stuckT s
  else stepI m.funs T (insP (m.words.getD s.top.pc 0)) { s.top with pc := s.top.pc + 1 } (topM { s.top with pc := s.top.pc + 1 } s)
/-- So many steps: how it ended (none: it did not). -/
def runN (m : PImg) (T : Nat) : Nat → PMs → Option PMs
  | 0, s => if s.over then some s else none
  | n + 1, s => if s.over then some s else runN m T n (stepM m T s)
def Ms0 : PMs := ⟨[], 0, [], 0, []⟩
def args4 (args : List Int) : List Int := (args ++ zero4).take 4
def startM (m : PImg) (T k : Nat) (args : List Int) : PMs := enterM m.funs T k 0 (args4 args) Ms0
/-- What the document's machine answers, within n steps. -/
def machP (m : PImg) (k : Nat) (args : List Int) (T n : Nat) : Option PMs := runN m T n (startM m T k args)
end Go.Proofs.YtonnhechjbdenaaGreatDoor

namespace Go.Proofs.YtonnhechjbdenaaGreatDoor
open Go.RowKit

/-! codes of registers as an image, in plain Lean -/
/-- The place of the first code of a name. -/
def firstCd (n : List UInt8) : List PCd → Nat → Int
  | [], _ => -1
  | c :: l, k => if c.name == n then (k : Int) else firstCd n l (k + 1)
theorem firstCd_drop {n : List UInt8} {l : List PCd} {k : Nat} (h : k < l.length) : firstCd n (l.drop k) k = if l[k].name == n then (k : Int) else firstCd n (l.drop (k + 1)) (k + 1) := by
  rw [List.drop_eq_getElem_cons h, firstCd]
/-- The machine's op of one of two numbers. -/
def twoOp (nm : List UInt8) : List UInt8 := match opsB.findIdx? (fun z => z == nm) with | some k => nameOf (15 + k) | none => []
/-- A Low as words. -/
def lowE (l : List PCd) (x : PLow) : List PIns :=
  match kindN x.kind with
  | 2 => if -2147483648 ≤ x.num ∧ x.num ≤ 2147483647 then [⟨constT, x.d, 0, 0, x.num⟩] else [⟨constT, x.d, 0, 0, x.num / 4294967296⟩, ⟨highT, x.d, 0, 0, wrap32 x.num⟩]
  | 4 => [⟨if x.name == [33] then notT else negT, x.d, x.a, 0, 0⟩]
  | 5 => [⟨twoOp x.name, x.d, x.a, x.b, 0⟩]
  | 9 => [⟨callT, x.d, 0, x.num, firstCd x.name l 0⟩]
  | _ => [⟨x.kind, x.d, x.a, 0, x.num⟩]
def endE (b : PBlk) : List PIns :=
  if (b.fin == eJump) = true then [⟨jumpT, 0, 0, 0, b.nx.getD 0 0⟩]
  else if (b.fin == eIf) = true then [⟨ifT, 0, b.a, 0, b.nx.getD 0 0⟩, ⟨jumpT, 0, 0, 0, b.nx.getD 1 0⟩]
  else [⟨returnT, 0, b.a, 0, 0⟩]
def blkE (l : List PCd) (b : PBlk) : List PIns := b.ins.flatMap (lowE l) ++ endE b
def blksE (l : List PCd) (bs : List PBlk) : List PIns := bs.flatMap (blkE l)
/-- Where the blocks begin. -/
def begE (l : List PCd) : Nat → List PBlk → List Int
  | _, [] => []
  | k, b :: bs => (k : Int) :: begE l (k + (blkE l b).length) bs
def goesB (i : PIns) : Bool := i.op == jumpT || i.op == ifT
def placeE (bg : List Int) (i : PIns) : PIns := if goesB i = true then { i with imm := bg.getD i.imm.toNat 0 } else i
/-- A code as words, the first of which has a number. -/
def cdE (l : List PCd) (first : Nat) (c : PCd) : List PIns := (blksE l c.blocks).map (placeE (begE l first c.blocks))
def cdsE (l : List PCd) : Nat → List PCd → List PFn × List PIns
  | _, [] => ([], [])
  | first, c :: cs => (⟨c.name, c.params, c.slots, first⟩ :: (cdsE l (first + (cdE l first c).length) cs).1, cdE l first c ++ (cdsE l (first + (cdE l first c).length) cs).2)
def insE (l : List PCd) : List PIns := (cdsE l 0 l).2
def emitI (l : List PCd) : PImg := ⟨(cdsE l 0 l).1, (insE l).map wordP⟩
/-- What is wrong with code k, alone. -/
def aloneC (l : List PCd) (k : Nat) : Nat := match l[k]? with
  | none => 0
  | some c => if (lowC c).1 ≠ 0 then (lowC c).1 else if 0 ≤ firstCd c.name (l.take k) 0 then 7 else if c.name.isEmpty then 5 else 0
/-- What is wrong with a call. -/
def callC (l : List PCd) (x : PLow) : Nat :=
  if kindN x.kind = 9 then (match l[(firstCd x.name l 0).toNat]? with
    | none => 6
    | some c => if firstCd x.name l 0 < 0 then 6 else if c.params ≠ x.num then 9 else 0) else 0
def firstC {α : Type} (f : α → Nat) : List α → Nat
  | [] => 0
  | x :: l => if f x ≠ 0 then f x else firstC f l
def callsC (l : List PCd) (c : PCd) : Nat := firstC (fun b => firstC (callC l) b.ins) c.blocks
def callsCk (l : List PCd) (k : Nat) : Nat := match l[k]? with | none => 0 | some c => callsC l c
def emitC (l : List PCd) : Nat × Int :=
  if 8 < l.length then (8, -1)
  else if (firstBad (aloneC l) l.length l.length 0).1 ≠ 0 then firstBad (aloneC l) l.length l.length 0
  else if (firstBad (callsCk l) l.length l.length 0).1 ≠ 0 then firstBad (callsCk l) l.length l.length 0
  else if 8000 < (insE l).length then (8, -1) else (0, -1)
end Go.Proofs.YtonnhechjbdenaaGreatDoor

namespace Go.Proofs.YtonnhechjbdenaaGreatDoor
open Go.RowKit

/-! the words of right codes are right -/
theorem regP_of {n : Int} (h : 0 ≤ n ∧ n < 8) : regP n = true := by unfold regP; simp; omega
theorem errI_zero {i : PIns} (h : List UInt8) (hf : findL i.op ≠ 0) (hh : hasOf (findL i.op - 1) = h) (hd : if h.contains 100 = true then 0 ≤ i.d ∧ i.d < 8 else i.d = 0) (ha : if h.contains 97 = true then 0 ≤ i.a ∧ i.a < 8 else i.a = 0)
    (hb : if h.contains 98 = true then 0 ≤ i.b ∧ i.b ≤ mostB i.op else i.b = 0) (hi : if h.contains 105 = true then -2147483648 ≤ i.imm ∧ i.imm ≤ 2147483647 else i.imm = 0) : errI i = 0 := by
  unfold errI
  rw [if_neg hf, hh]
  unfold errP
  have e1 : (h.contains 100 && !regP i.d) = false := by
    cases hc : h.contains 100
    · rfl
    · rw [if_pos hc] at hd; rw [regP_of hd]; rfl
  have e2 : (h.contains 97 && !regP i.a) = false := by
    cases hc : h.contains 97
    · rfl
    · rw [if_pos hc] at ha; rw [regP_of ha]; rfl
  have e3 : (h.contains 98 && (decide (i.b < 0) || decide (mostB i.op < i.b))) = false := by
    cases hc : h.contains 98
    · rfl
    · rw [if_pos hc] at hb; simp; omega
  have e4 : (h.contains 105 && (decide (i.imm < -2147483648) || decide (2147483647 < i.imm))) = false := by
    cases hc : h.contains 105
    · rfl
    · rw [if_pos hc] at hi; simp; omega
  have f1 : (!h.contains 100 && i.d != 0) = false := by
    cases hc : h.contains 100
    · rw [if_neg (by rw [hc]; decide)] at hd; simp [hd]
    · rfl
  have f2 : (!h.contains 97 && i.a != 0) = false := by
    cases hc : h.contains 97
    · rw [if_neg (by rw [hc]; decide)] at ha; simp [ha]
    · rfl
  have f3 : (!h.contains 98 && i.b != 0) = false := by
    cases hc : h.contains 98
    · rw [if_neg (by rw [hc]; decide)] at hb; simp [hb]
    · rfl
  have f4 : (!h.contains 105 && i.imm != 0) = false := by
    cases hc : h.contains 105
    · rw [if_neg (by rw [hc]; decide)] at hi; simp [hi]
    · rfl
  rw [e1, e2, e3, e4, f1, f2, f3, f4]
  rfl
theorem twoOp_ops {nm : List UInt8} (h : (doV nm 0 0).isSome = true) : ∃ k, k < 14 ∧ twoOp nm = nameOf (15 + k) := by
  rw [doV_ops] at h
  have h1 : (opsB.findIdx? (fun z => z == nm)).isSome = true := by rw [List.findIdx?_isSome]; exact h
  obtain ⟨k, hk⟩ := Option.isSome_iff_exists.1 h1
  refine ⟨k, ?_, by unfold twoOp; rw [hk]⟩
  have := (List.findIdx?_eq_some_iff_getElem.1 hk).1
  exact this
theorem two_has : ∀ k, k < 14 → findL (nameOf (15 + k)) ≠ 0 ∧ hasOf (findL (nameOf (15 + k)) - 1) = [100, 97, 98] ∧ mostB (nameOf (15 + k)) = 7 := by decide
/-- What a right Low has not, is 0. -/
theorem low_bare {x : PLow} (h : lowBare x = true) : (lowHas x 100 = false → x.d = 0) ∧ (lowHas x 97 = false → x.a = 0) ∧ (lowHas x 98 = false → x.b = 0) ∧ (lowHas x 110 = false → x.num = 0) := by
  unfold lowBare at h
  simp only [Bool.and_eq_true, Bool.or_eq_true, beq_iff_eq] at h
  obtain ⟨⟨⟨⟨h1, h2⟩, h3⟩, h4⟩, -⟩ := h
  exact ⟨fun e => h1.resolve_left (by simp [e]), fun e => h2.resolve_left (by simp [e]), fun e => h3.resolve_left (by simp [e]), fun e => h4.resolve_left (by simp [e])⟩
theorem firstCd_range (n : List UInt8) : ∀ (l : List PCd) (k : Nat), firstCd n l k = -1 ∨ ((k : Int) ≤ firstCd n l k ∧ firstCd n l k < k + l.length) := by
  intro l
  induction l with
  | nil => intro k; exact .inl rfl
  | cons c l ih =>
    intro k
    unfold firstCd
    split
    · right; simp only [List.length_cons]; omega
    · rcases ih (k + 1) with h | h
      · exact .inl h
      · right; simp only [List.length_cons]; omega
theorem kind_casesE {k : List UInt8} (h : kindN k ≠ 0) : (k = kParam ∧ kindN k = 1) ∨ (k = kConst ∧ kindN k = 2) ∨ (k = kLoad ∧ kindN k = 3) ∨ (k = kOne ∧ kindN k = 4) ∨ (k = kTwo ∧ kindN k = 5) ∨ (k = kMove ∧ kindN k = 6) ∨ (k = kStore ∧ kindN k = 7) ∨ (k = kArg ∧ kindN k = 8) ∨ (k = kCall ∧ kindN k = 9) ∨ (k = kTick ∧ kindN k = 10) ∨ (k = kPrint ∧ kindN k = 11) := by
  by_cases c0 : k = kParam
  · subst c0; exact .inl <| ⟨rfl, rfl⟩
  by_cases c1 : k = kConst
  · subst c1; exact .inr <| .inl <| ⟨rfl, rfl⟩
  by_cases c2 : k = kLoad
  · subst c2; exact .inr <| .inr <| .inl <| ⟨rfl, rfl⟩
  by_cases c3 : k = kOne
  · subst c3; exact .inr <| .inr <| .inr <| .inl <| ⟨rfl, rfl⟩
  by_cases c4 : k = kTwo
  · subst c4; exact .inr <| .inr <| .inr <| .inr <| .inl <| ⟨rfl, rfl⟩
  by_cases c5 : k = kMove
  · subst c5; exact .inr <| .inr <| .inr <| .inr <| .inr <| .inl <| ⟨rfl, rfl⟩
  by_cases c6 : k = kStore
  · subst c6; exact .inr <| .inr <| .inr <| .inr <| .inr <| .inr <| .inl <| ⟨rfl, rfl⟩
  by_cases c7 : k = kArg
  · subst c7; exact .inr <| .inr <| .inr <| .inr <| .inr <| .inr <| .inr <| .inl <| ⟨rfl, rfl⟩
  by_cases c8 : k = kCall
  · subst c8; exact .inr <| .inr <| .inr <| .inr <| .inr <| .inr <| .inr <| .inr <| .inl <| ⟨rfl, rfl⟩
  by_cases c9 : k = kTick
  · subst c9; exact .inr <| .inr <| .inr <| .inr <| .inr <| .inr <| .inr <| .inr <| .inr <| .inl <| ⟨rfl, rfl⟩
  by_cases c10 : k = kPrint
  · subst c10; exact .inr <| .inr <| .inr <| .inr <| .inr <| .inr <| .inr <| .inr <| .inr <| .inr <|  ⟨rfl, rfl⟩
  refine absurd ?_ h
  unfold kindN
  simp only [beq_iff_eq, c0, c1, c2, c3, c4, c5, c6, c7, c8, c9, c10, if_false]
theorem low_fine {l : List PCd} {c : PCd} {x : PLow} (hl : l.length ≤ 8) (hg : GoodA c) (hx : LowOk c x) (h6 : I64 x.num) (hc : callC l x = 0) : ∀ i ∈ lowE l x, errI i = 0 ∧ goesB i = false := by
  have hf := low_facts hx
  obtain ⟨b1, b2, b3, b4⟩ := low_bare hx.bare
  have hp := hg.params
  have hs := hg.slots
  obtain ⟨g1, g2⟩ := h6
  obtain ⟨kd, d, a, b, n, nm⟩ := x
  simp only at g1 g2 b1 b2 b3 b4
  intro i hi
  rcases kind_casesE hf.kind with ⟨e, hk⟩ | ⟨e, hk⟩ | ⟨e, hk⟩ | ⟨e, hk⟩ | ⟨e, hk⟩ | ⟨e, hk⟩ | ⟨e, hk⟩ | ⟨e, hk⟩ | ⟨e, hk⟩ | ⟨e, hk⟩ | ⟨e, hk⟩
  · have e : kd = kParam := e
    subst e
    have hd8 := hf.d (by rw [show kindN _ = _ from hk]; decide)
    simp only at hd8
    have hn := hf.param hk
    simp only at hn
    rw [show lowE l ⟨kParam, d, a, b, n, nm⟩ = [⟨kParam, d, a, 0, n⟩] from rfl, List.mem_singleton] at hi
    subst hi
    exact ⟨errI_zero [100, 105] (by show findL kParam ≠ 0; decide) rfl hd8 (b2 rfl) rfl (by show -2147483648 ≤ n ∧ n ≤ 2147483647; omega), rfl⟩
  · have e : kd = kConst := e
    subst e
    have hd8 := hf.d (by rw [show kindN _ = _ from hk]; decide)
    simp only at hd8
    by_cases hsm : -2147483648 ≤ n ∧ n ≤ 2147483647
    · have e9 : lowE l ⟨kConst, d, a, b, n, nm⟩ = [⟨constT, d, 0, 0, n⟩] := by show (if _ then _ else _) = _; exact if_pos hsm
      rw [e9, List.mem_singleton] at hi; subst hi
      exact ⟨errI_zero [100, 105] (by show findL constT ≠ 0; decide) rfl hd8 rfl rfl hsm, rfl⟩
    · have e9 : lowE l ⟨kConst, d, a, b, n, nm⟩ = [⟨constT, d, 0, 0, n / 4294967296⟩, ⟨highT, d, 0, 0, wrap32 n⟩] := by show (if _ then _ else _) = _; exact if_neg hsm
      rw [e9] at hi
      rcases List.mem_cons.1 hi with hi | hi
      · subst hi; exact ⟨errI_zero [100, 105] (by show findL constT ≠ 0; decide) rfl hd8 rfl rfl (by show -2147483648 ≤ n / 4294967296 ∧ n / 4294967296 ≤ 2147483647; omega), rfl⟩
      · rw [List.mem_singleton] at hi; subst hi; exact ⟨errI_zero [100, 105] (by show findL highT ≠ 0; decide) rfl hd8 rfl rfl (by show -2147483648 ≤ wrap32 n ∧ wrap32 n ≤ 2147483647; unfold wrap32; omega), rfl⟩
  · have e : kd = kLoad := e
    subst e
    have hd8 := hf.d (by rw [show kindN _ = _ from hk]; decide)
    simp only at hd8
    have hn := hf.slot (by rw [show kindN _ = _ from hk]; decide)
    simp only at hn
    rw [show lowE l ⟨kLoad, d, a, b, n, nm⟩ = [⟨kLoad, d, a, 0, n⟩] from rfl, List.mem_singleton] at hi
    subst hi
    exact ⟨errI_zero [100, 105] (by show findL kLoad ≠ 0; decide) rfl hd8 (b2 rfl) rfl (by show -2147483648 ≤ n ∧ n ≤ 2147483647; omega), rfl⟩
  · have e : kd = kOne := e
    subst e
    have hd8 := hf.d (by rw [show kindN _ = _ from hk]; decide)
    simp only at hd8
    have ha8 := hf.a (by rw [show kindN _ = _ from hk]; decide)
    simp only at ha8
    rw [show lowE l ⟨kOne, d, a, b, n, nm⟩ = [⟨if nm == [33] then notT else negT, d, a, 0, 0⟩] from rfl, List.mem_singleton] at hi
    subst hi
    by_cases hnm : (nm == [33]) = true
    · rw [if_pos hnm]; exact ⟨errI_zero [100, 97] (by show findL notT ≠ 0; decide) rfl hd8 ha8 rfl rfl, rfl⟩
    · rw [if_neg hnm]; exact ⟨errI_zero [100, 97] (by show findL negT ≠ 0; decide) rfl hd8 ha8 rfl rfl, rfl⟩
  · have e : kd = kTwo := e
    subst e
    have hd8 := hf.d (by rw [show kindN _ = _ from hk]; decide)
    simp only at hd8
    have ha8 := hf.a (by rw [show kindN _ = _ from hk]; decide)
    simp only at ha8
    have hb8 := hf.b hk
    simp only at hb8
    obtain ⟨j, hj, hop⟩ := twoOp_ops (hf.two hk 0 0)
    rw [show lowE l ⟨kTwo, d, a, b, n, nm⟩ = [⟨twoOp nm, d, a, b, 0⟩] from rfl, List.mem_singleton] at hi
    subst hi
    simp only at hop
    rw [hop]
    obtain ⟨t1, t2, t3⟩ := two_has j hj
    refine ⟨errI_zero [100, 97, 98] t1 t2 hd8 ha8 (by show 0 ≤ b ∧ b ≤ mostB (nameOf (15 + j)); rw [t3]; omega) rfl, ?_⟩
    have : ∀ k, k < 14 → goesB ⟨nameOf (15 + k), 0, 0, 0, 0⟩ = false := by decide
    exact this j hj
  · have e : kd = kMove := e
    subst e
    have hd8 := hf.d (by rw [show kindN _ = _ from hk]; decide)
    simp only at hd8
    have ha8 := hf.a (by rw [show kindN _ = _ from hk]; decide)
    simp only at ha8
    rw [show lowE l ⟨kMove, d, a, b, n, nm⟩ = [⟨kMove, d, a, 0, n⟩] from rfl, List.mem_singleton] at hi
    subst hi
    exact ⟨errI_zero [100, 97] (by show findL kMove ≠ 0; decide) rfl hd8 ha8 rfl (b4 rfl), rfl⟩
  · have e : kd = kStore := e
    subst e
    have ha8 := hf.a (by rw [show kindN _ = _ from hk]; decide)
    simp only at ha8
    have hn := hf.slot (by rw [show kindN _ = _ from hk]; decide)
    simp only at hn
    rw [show lowE l ⟨kStore, d, a, b, n, nm⟩ = [⟨kStore, d, a, 0, n⟩] from rfl, List.mem_singleton] at hi
    subst hi
    exact ⟨errI_zero [97, 105] (by show findL kStore ≠ 0; decide) rfl (b1 rfl) ha8 rfl (by show -2147483648 ≤ n ∧ n ≤ 2147483647; omega), rfl⟩
  · have e : kd = kArg := e
    subst e
    have ha8 := hf.a (by rw [show kindN _ = _ from hk]; decide)
    simp only at ha8
    have hn := hf.arg hk
    simp only at hn
    rw [show lowE l ⟨kArg, d, a, b, n, nm⟩ = [⟨kArg, d, a, 0, n⟩] from rfl, List.mem_singleton] at hi
    subst hi
    exact ⟨errI_zero [97, 105] (by show findL kArg ≠ 0; decide) rfl (b1 rfl) ha8 rfl (by show -2147483648 ≤ n ∧ n ≤ 2147483647; omega), rfl⟩
  · have e : kd = kCall := e
    subst e
    have hd8 := hf.d (by rw [show kindN _ = _ from hk]; decide)
    simp only at hd8
    have hn := hf.call hk
    simp only at hn
    rw [show lowE l ⟨kCall, d, a, b, n, nm⟩ = [⟨callT, d, 0, n, firstCd nm l 0⟩] from rfl, List.mem_singleton] at hi
    subst hi
    have hr : 0 ≤ firstCd nm l 0 ∧ firstCd nm l 0 < 8 := by
      rcases firstCd_range nm l 0 with h | h
      · exfalso
        unfold callC at hc
        rw [if_pos hk] at hc
        simp only [h] at hc
        split at hc
        · exact absurd hc (by decide)
        · rw [if_pos (by decide)] at hc; exact absurd hc (by decide)
      · omega
    exact ⟨errI_zero [100, 98, 105] (by show findL callT ≠ 0; decide) rfl hd8 rfl (by show 0 ≤ n ∧ n ≤ mostB callT; rw [show mostB callT = 4 from rfl]; omega) (by show -2147483648 ≤ firstCd nm l 0 ∧ firstCd nm l 0 ≤ 2147483647; omega), rfl⟩
  · have e : kd = kTick := e
    subst e
    rw [show lowE l ⟨kTick, d, a, b, n, nm⟩ = [⟨kTick, d, a, 0, n⟩] from rfl, List.mem_singleton] at hi
    subst hi
    exact ⟨errI_zero [] (by show findL kTick ≠ 0; decide) rfl (b1 rfl) (b2 rfl) rfl (b4 rfl), rfl⟩
  · have e : kd = kPrint := e
    subst e
    have ha8 := hf.a (by rw [show kindN _ = _ from hk]; decide)
    simp only at ha8
    rw [show lowE l ⟨kPrint, d, a, b, n, nm⟩ = [⟨kPrint, d, a, 0, n⟩] from rfl, List.mem_singleton] at hi
    subst hi
    exact ⟨errI_zero [97] (by show findL kPrint ≠ 0; decide) rfl (b1 rfl) ha8 rfl (b4 rfl), rfl⟩
end Go.Proofs.YtonnhechjbdenaaGreatDoor

namespace Go.Proofs.YtonnhechjbdenaaGreatDoor
open Go.RowKit

/-! the words of right codes are right: all of them -/
structure AllOk (l : List PCd) : Prop where
  few : l.length ≤ 8
  good : ∀ c ∈ l, GoodA c
  calls : ∀ c ∈ l, ∀ b ∈ c.blocks, ∀ x ∈ b.ins, callC l x = 0
  i6 : ∀ c ∈ l, ∀ b ∈ c.blocks, ∀ x ∈ b.ins, I64 x.num
theorem beg_len (l : List PCd) : ∀ (bs : List PBlk) (k : Nat), (begE l k bs).length = bs.length := by
  intro bs
  induction bs with
  | nil => intro k; rfl
  | cons b bs ih => intro k; unfold begE; rw [List.length_cons, List.length_cons, ih]
theorem beg_range (l : List PCd) : ∀ (bs : List PBlk) (k : Nat), ∀ v ∈ begE l k bs, (k : Int) ≤ v ∧ v ≤ k + (blksE l bs).length := by
  intro bs
  induction bs with
  | nil => intro k v hv; cases hv
  | cons b bs ih =>
    intro k v hv
    unfold begE at hv
    unfold blksE
    rw [List.flatMap_cons, List.length_append]
    rcases List.mem_cons.1 hv with rfl | hv
    · omega
    · have := ih _ v hv
      unfold blksE at this
      omega
theorem fin_casesE {b : PBlk} (h : 0 ≤ endN b.fin) : b.fin = eJump ∨ b.fin = eIf ∨ b.fin = eReturn := by
  by_cases h1 : b.fin = eJump
  · exact .inl h1
  · by_cases h2 : b.fin = eIf
    · exact .inr (.inl h2)
    · by_cases h3 : b.fin = eReturn
      · exact .inr (.inr h3)
      · unfold endN at h
        simp [h1, h2, h3] at h
/-- An instruction of a block, before its place is known. -/
def GoesE (n : Nat) (i : PIns) : Prop := goesB i = true ∧ ∃ k : Nat, k < n ∧ (i = ⟨jumpT, 0, 0, 0, k⟩ ∨ ∃ a : Int, (0 ≤ a ∧ a < 8) ∧ i = ⟨ifT, 0, a, 0, k⟩)
theorem end_fine {c : PCd} {b : PBlk} (hb : BlkOk c b) : ∀ i ∈ endE b, (goesB i = false ∧ errI i = 0) ∨ GoesE c.blocks.length i := by
  have hx := hb.nx
  have hto : ∀ j, j < b.nx.length → ∃ k : Nat, k < c.blocks.length ∧ b.nx.getD j 0 = k := fun j hj => by
    have h1 := hb.far b.nx[j] (List.getElem_mem hj)
    refine ⟨b.nx[j].toNat, by omega, ?_⟩
    rw [List.getD_eq_getElem?_getD, List.getElem?_eq_getElem hj, Option.getD_some]
    omega
  intro i hi
  unfold endE at hi
  rcases fin_casesE hb.fin with hf | hf | hf
  · rw [hf] at hi hx
    rw [if_pos (by rfl), List.mem_singleton] at hi
    subst hi
    obtain ⟨k, hk, e⟩ := hto 0 (by have : endN eJump = 1 := rfl; omega)
    exact .inr ⟨rfl, k, hk, .inl (by rw [e])⟩
  · have ha := hb.reg (by rw [hf]; decide)
    rw [hf] at hi hx
    rw [if_neg (by decide), if_pos (by rfl)] at hi
    have h2 : b.nx.length = 2 := by have : endN eIf = 2 := rfl; omega
    rcases List.mem_cons.1 hi with hi | hi
    · subst hi
      obtain ⟨k, hk, e⟩ := hto 0 (by omega)
      exact .inr ⟨rfl, k, hk, .inr ⟨b.a, ha, by rw [e]⟩⟩
    · rw [List.mem_singleton] at hi
      subst hi
      obtain ⟨k, hk, e⟩ := hto 1 (by omega)
      exact .inr ⟨rfl, k, hk, .inl (by rw [e])⟩
  · have ha := hb.reg (by rw [hf]; decide)
    rw [hf] at hi
    rw [if_neg (by decide), if_neg (by decide), List.mem_singleton] at hi
    subst hi
    exact .inl ⟨rfl, errI_zero [97] (by show findL returnT ≠ 0; decide) rfl rfl ha rfl rfl⟩
theorem blk_fine {l : List PCd} (hl : AllOk l) {c : PCd} (hc : c ∈ l) {b : PBlk} (hb : b ∈ c.blocks) : ∀ i ∈ blkE l b, (goesB i = false ∧ errI i = 0) ∨ GoesE c.blocks.length i := by
  intro i hi
  have hbo := (hl.good c hc).blocks b hb
  unfold blkE at hi
  rcases List.mem_append.1 hi with hi | hi
  · obtain ⟨x, hx, hi⟩ := List.mem_flatMap.1 hi
    have := low_fine hl.few (hl.good c hc) (hbo.ins x hx) (hl.i6 c hc b hb x hx) (hl.calls c hc b hb x hx) i hi
    exact .inl ⟨this.2, this.1⟩
  · exact end_fine hbo i hi
theorem cd_fine {l : List PCd} (hl : AllOk l) {c : PCd} (hc : c ∈ l) (first : Nat) (hm : first + (blksE l c.blocks).length ≤ 8000) : ∀ i ∈ cdE l first c, errI i = 0 := by
  intro i hi
  unfold cdE at hi
  obtain ⟨j, hj, rfl⟩ := List.mem_map.1 hi
  unfold blksE at hj
  obtain ⟨b, hb, hj⟩ := List.mem_flatMap.1 hj
  rcases blk_fine hl hc hb j hj with ⟨h1, h2⟩ | ⟨h1, k, hk, h2⟩
  · unfold placeE; rw [if_neg (by rw [h1]; decide)]; exact h2
  · unfold placeE; rw [if_pos h1]
    have hr : 0 ≤ (begE l first c.blocks).getD k 0 ∧ (begE l first c.blocks).getD k 0 ≤ 8000 := by
      have hk2 : k < (begE l first c.blocks).length := by rw [beg_len]; exact hk
      rw [List.getD_eq_getElem?_getD, List.getElem?_eq_getElem hk2, Option.getD_some]
      have := beg_range l c.blocks first _ (List.getElem_mem hk2)
      omega
    rcases h2 with rfl | ⟨a, ha, rfl⟩
    · exact errI_zero [105] (by show findL jumpT ≠ 0; decide) rfl rfl rfl rfl (by show -2147483648 ≤ (begE l first c.blocks).getD k 0 ∧ (begE l first c.blocks).getD k 0 ≤ 2147483647; omega)
    · exact errI_zero [97, 105] (by show findL ifT ≠ 0; decide) rfl rfl ha rfl (by show -2147483648 ≤ (begE l first c.blocks).getD k 0 ∧ (begE l first c.blocks).getD k 0 ≤ 2147483647; omega)
theorem cd_len (l : List PCd) (first : Nat) (c : PCd) : (cdE l first c).length = (blksE l c.blocks).length := by unfold cdE; rw [List.length_map]
theorem cds_fine {l : List PCd} (hl : AllOk l) : ∀ (cs : List PCd) (first : Nat), (∀ c ∈ cs, c ∈ l) → first + (cdsE l first cs).2.length ≤ 8000 → ∀ i ∈ (cdsE l first cs).2, errI i = 0 := by
  intro cs
  induction cs with
  | nil => intro first _ _ i hi; cases hi
  | cons c cs ih =>
    intro first hc hm i hi
    unfold cdsE at hm hi
    simp only [List.length_append] at hm
    rcases List.mem_append.1 hi with hi | hi
    · exact cd_fine hl (hc c List.mem_cons_self) first (by rw [← cd_len l first c]; omega) i hi
    · exact ih _ (fun d hd => hc d (List.mem_cons_of_mem _ hd)) (by omega) i hi
theorem firstBad_at {c : Nat → Nat} {n : Nat} (h : (firstBad c n n 0).1 = 0) : ∀ i, i < n → c i = 0 := fun i hi => firstBad_zero.1 h i (Nat.zero_le _) (by omega)
theorem firstC_zero {α : Type} {f : α → Nat} : ∀ {l : List α}, firstC f l = 0 → ∀ x ∈ l, f x = 0 := by
  intro l
  induction l with
  | nil => intro _ x hx; cases hx
  | cons y l ih =>
    intro h x hx
    unfold firstC at h
    by_cases hy : f y = 0
    · rw [if_neg (by simpa using hy)] at h
      rcases List.mem_cons.1 hx with rfl | hx
      · exact hy
      · exact ih h x hx
    · rw [if_pos hy] at h; exact absurd h hy
theorem emit_ok {l : List PCd} (h6 : ∀ c ∈ l, ∀ b ∈ c.blocks, ∀ x ∈ b.ins, I64 x.num) (h1 : l.length ≤ 8) (h2 : (firstBad (aloneC l) l.length l.length 0).1 = 0) (h3 : (firstBad (callsCk l) l.length l.length 0).1 = 0) : AllOk l := by
  refine ⟨h1, fun c hc => ?_, fun c hc b hb x hx => ?_, h6⟩
  · obtain ⟨k, hk, rfl⟩ := List.mem_iff_getElem.1 hc
    have := firstBad_at h2 k hk
    unfold aloneC at this
    rw [List.getElem?_eq_getElem hk] at this
    simp only at this
    by_cases h9 : (lowC l[k]).1 = 0
    · exact lowC_good h9
    · rw [if_pos h9] at this; exact absurd this h9
  · obtain ⟨k, hk, rfl⟩ := List.mem_iff_getElem.1 hc
    have := firstBad_at h3 k hk
    unfold callsCk at this
    rw [List.getElem?_eq_getElem hk] at this
    exact firstC_zero (firstC_zero this b hb) x hx
theorem emit_fine {l : List PCd} (h6 : ∀ c ∈ l, ∀ b ∈ c.blocks, ∀ x ∈ b.ins, I64 x.num) (h : (emitC l).1 = 0) : AllOk l ∧ (∀ i ∈ insE l, errI i = 0) ∧ (insE l).length ≤ 8000 := by
  unfold emitC at h
  split at h
  · exact absurd h (by decide)
  · rename_i h1
    split at h
    · rename_i h2; exact absurd h h2
    · rename_i h2
      split at h
      · rename_i h3; exact absurd h h3
      · rename_i h3
        split at h
        · exact absurd h (by decide)
        · rename_i h4
          have hok := emit_ok h6 (by omega) (by simpa using h2) (by simpa using h3)
          exact ⟨hok, cds_fine hok l 0 (fun c hc => hc) (by unfold insE at h4; omega), by omega⟩
end Go.Proofs.YtonnhechjbdenaaGreatDoor
