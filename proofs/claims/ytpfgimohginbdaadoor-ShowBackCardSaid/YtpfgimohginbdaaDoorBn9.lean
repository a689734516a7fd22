import Derived.Lib.ItoaNum
import Derived.Test.YtpfgimohginbdaaDoorBn8
import Derived.Test.YtpfgimohginbdaaDoorBn7
set_option linter.unusedVariables false
set_option linter.unusedSimpArgs false
namespace Go.Proofs.YtpfgimohginbdaaDoor
open Go.RowKit

/-! the text of trees -/
def xNum : List UInt8 := [110, 117, 109]
def xName : List UInt8 := [110, 97, 109, 101]
def xCall : List UInt8 := [99, 97, 108, 108]
def xOne : List UInt8 := [111, 110, 101]
def xTwo : List UInt8 := [116, 119, 111]
def opsRows : List (List (List UInt8)) := [[[61, 61], [33, 61]], [[60], [60, 61]], [[124]], [[94]], [[38]], [[60, 60], [62, 62]], [[43], [45]], [[42], [47], [37]]]
def levFrom (s : List UInt8) : List (List (List UInt8)) → Nat → Int
  | [], _ => -1
  | r :: rs, k => if r.contains s then (k : Int) else levFrom s rs (k + 1)
def levelP (s : List UInt8) : Int := levFrom s opsRows 0
theorem levFrom_drop {s : List UInt8} {rs : List (List (List UInt8))} {k : Nat} (h : k < rs.length) : levFrom s (rs.drop k) k = if rs[k].contains s then (k : Int) else levFrom s (rs.drop (k + 1)) (k + 1) := by
  rw [List.drop_eq_getElem_cons h]; rfl
theorem levFrom_range (s : List UInt8) : ∀ (rs : List (List (List UInt8))) (k : Nat), -1 ≤ levFrom s rs k ∧ levFrom s rs k ≤ k + rs.length := by
  intro rs
  induction rs with
  | nil => intro k; simp [levFrom]
  | cons r rs ih =>
    intro k
    unfold levFrom
    have := ih (k + 1)
    simp only [List.length_cons]
    split <;> omega
theorem levelP_range (s : List UInt8) : -1 ≤ levelP s ∧ levelP s ≤ 8 := by
  have := levFrom_range s opsRows 0
  simp [opsRows] at this
  exact this
def bigT : List UInt8 := [40, 48, 32, 45, 32, 57, 50, 50, 51, 51, 55, 50, 48, 51, 54, 56, 53, 52, 55, 55, 53, 56, 48, 55, 32, 45, 32, 49, 41]
def numT (n : Int) : List UInt8 := if n = -9223372036854775808 then bigT else if n < 0 then [40, 48, 32, 45, 32] ++ Lib.itoa (-n) ++ [41] else Lib.itoa n
def joinC : List (List UInt8) → List UInt8
  | [] => []
  | [x] => x
  | x :: xs => x ++ [44, 32] ++ joinC xs
def wrapT (k : PExpr) (least : Int) (t : List UInt8) : List UInt8 := if k.kind = xTwo ∧ levelP k.name < least then [40] ++ t ++ [41] else t
def oneT (name : List UInt8) : List PExpr → List (List UInt8) → List UInt8
  | [k], [t] => name ++ wrapT k 8 t
  | _, _ => []
def twoT (name : List UInt8) : List PExpr → List (List UInt8) → List UInt8
  | [a, b], [s, t] => wrapT a (levelP name) s ++ [32] ++ name ++ [32] ++ wrapT b (levelP name + 1) t
  | _, _ => []
mutual
def textE : PExpr → List UInt8
  | ⟨kind, num, name, kids⟩ =>
    if kind = xNum then numT num
    else if kind = xName then name
    else if kind = xCall then name ++ [40] ++ joinC (textKs kids) ++ [41]
    else if kind = xOne then oneT name kids (textKs kids)
    else if kind = xTwo then twoT name kids (textKs kids)
    else []
def textKs : List PExpr → List (List UInt8)
  | [] => []
  | k :: ks => textE k :: textKs ks
end
theorem textKs_map : ∀ ks, textKs ks = ks.map textE := by
  intro ks
  induction ks with
  | nil => rw [textKs]; rfl
  | cons k ks ih => rw [textKs, ih]; rfl
theorem textE_eq (e : PExpr) : textE e =
    if e.kind = xNum then numT e.num
    else if e.kind = xName then e.name
    else if e.kind = xCall then e.name ++ [40] ++ joinC (e.kids.map textE) ++ [41]
    else if e.kind = xOne then oneT e.name e.kids (e.kids.map textE)
    else if e.kind = xTwo then twoT e.name e.kids (e.kids.map textE)
    else [] := by
  cases e
  rw [textE]
  simp only [textKs_map]
theorem textE_num {e : PExpr} (h : e.kind = xNum) : textE e = numT e.num := by rw [textE_eq, if_pos h]
theorem textE_name {e : PExpr} (h : e.kind = xName) : textE e = e.name := by
  rw [textE_eq, if_neg (by rw [h]; decide), if_pos h]
theorem textE_call {e : PExpr} (h : e.kind = xCall) : textE e = e.name ++ [40] ++ joinC (e.kids.map textE) ++ [41] := by
  rw [textE_eq, if_neg (by rw [h]; decide), if_neg (by rw [h]; decide), if_pos h]
theorem textE_one {e k : PExpr} (h : e.kind = xOne) (hk : e.kids = [k]) : textE e = e.name ++ wrapT k 8 (textE k) := by
  rw [textE_eq, if_neg (by rw [h]; decide), if_neg (by rw [h]; decide), if_neg (by rw [h]; decide), if_pos h, hk]; rfl
theorem textE_one_no {e : PExpr} (h : e.kind = xOne) (hk : e.kids.length ≠ 1) : textE e = [] := by
  rw [textE_eq, if_neg (by rw [h]; decide), if_neg (by rw [h]; decide), if_neg (by rw [h]; decide), if_pos h]
  match h' : e.kids with
  | [] => rfl
  | [k] => rw [h'] at hk; simp at hk
  | a :: b :: r => simp [oneT]
theorem textE_two {e a b : PExpr} (h : e.kind = xTwo) (hk : e.kids = [a, b]) : textE e = wrapT a (levelP e.name) (textE a) ++ [32] ++ e.name ++ [32] ++ wrapT b (levelP e.name + 1) (textE b) := by
  rw [textE_eq, if_neg (by rw [h]; decide), if_neg (by rw [h]; decide), if_neg (by rw [h]; decide), if_neg (by rw [h]; decide), if_pos h, hk]; rfl
theorem textE_two_no {e : PExpr} (h : e.kind = xTwo) (hk : e.kids.length ≠ 2) : textE e = [] := by
  rw [textE_eq, if_neg (by rw [h]; decide), if_neg (by rw [h]; decide), if_neg (by rw [h]; decide), if_neg (by rw [h]; decide), if_pos h]
  match h' : e.kids with
  | [] => rfl
  | [k] => simp [twoT]
  | [a, b] => rw [h'] at hk; simp at hk
  | a :: b :: c :: r => simp [twoT]
theorem textE_none {e : PExpr} (h0 : e.kind ≠ xNum) (h1 : e.kind ≠ xName) (h2 : e.kind ≠ xCall) (h3 : e.kind ≠ xOne) (h4 : e.kind ≠ xTwo) : textE e = [] := by
  rw [textE_eq, if_neg h0, if_neg h1, if_neg h2, if_neg h3, if_neg h4]

/-! statements -/
def sVar : List UInt8 := [118, 97, 114]
def sSet : List UInt8 := [115, 101, 116]
def sReturn : List UInt8 := [114, 101, 116, 117, 114, 110]
def sPrint : List UInt8 := [112, 114, 105, 110, 116]
def sIf : List UInt8 := [105, 102]
def sWhile : List UInt8 := [119, 104, 105, 108, 101]
def lineT (d : Nat) (t : List UInt8) : List UInt8 := List.replicate d 9 ++ t ++ [10]
mutual
def textS : PStmt → Nat → List UInt8
  | ⟨kind, name, e, th, el⟩, d =>
    if kind = sVar then lineT d ([118, 97, 114, 32] ++ name ++ [32, 61, 32] ++ textE e ++ [59])
    else if kind = sSet then lineT d (name ++ [32, 61, 32] ++ textE e ++ [59])
    else if kind = sReturn ∨ kind = sPrint then lineT d (kind ++ [32] ++ textE e ++ [59])
    else if kind = sIf ∨ kind = sWhile then
      lineT d (kind ++ [32] ++ textE e ++ [32, 123]) ++ textB th (d + 1) ++ (if el.length = 0 then [] else lineT d [125, 32, 101, 108, 115, 101, 32, 123] ++ textB el (d + 1)) ++ lineT d [125]
    else []
def textB : List PStmt → Nat → List UInt8
  | [], _ => []
  | s :: ss, d => textS s d ++ textB ss d
end
theorem textB_nil (d : Nat) : textB [] d = [] := by rw [textB]
theorem textB_cons (s : PStmt) (ss : List PStmt) (d : Nat) : textB (s :: ss) d = textS s d ++ textB ss d := by rw [textB]
theorem textS_eq (s : PStmt) (d : Nat) : textS s d =
    if s.kind = sVar then lineT d ([118, 97, 114, 32] ++ s.name ++ [32, 61, 32] ++ textE s.e ++ [59])
    else if s.kind = sSet then lineT d (s.name ++ [32, 61, 32] ++ textE s.e ++ [59])
    else if s.kind = sReturn ∨ s.kind = sPrint then lineT d (s.kind ++ [32] ++ textE s.e ++ [59])
    else if s.kind = sIf ∨ s.kind = sWhile then
      lineT d (s.kind ++ [32] ++ textE s.e ++ [32, 123]) ++ textB s.th (d + 1) ++ (if s.el.length = 0 then [] else lineT d [125, 32, 101, 108, 115, 101, 32, 123] ++ textB s.el (d + 1)) ++ lineT d [125]
    else [] := by
  cases s; rw [textS]
def textF (f : PFun) : List UInt8 := lineT 0 ([102, 110, 32] ++ f.name ++ [40] ++ joinC f.params ++ [41, 32, 123]) ++ textB f.body 1 ++ lineT 0 [125]
def textG : List PFun → List UInt8
  | [] => []
  | f :: fs => textF f ++ textG fs
end Go.Proofs.YtpfgimohginbdaaDoor

namespace Go.Proofs.YtpfgimohginbdaaDoor
open Go.RowKit

/-! numerals -/
theorem digV_end (d : List UInt8) (x : UInt8) : digV (d ++ [x]) = 10 * digV d + ((x.toNat : Int) - 48) := by
  unfold digV
  rw [List.foldl_append]
  rfl
theorem byte48 {k : Nat} (h : k < 10) : (UInt8.ofNat (48 + k)).toNat = 48 + k := by
  rw [UInt8.toNat_ofNat']
  exact Nat.mod_eq_of_lt (by omega)
theorem dec_val (u : Nat) : digV (Lib.decDigits u) = u := by
  induction u using Nat.strongRecOn with
  | _ u ih =>
    rw [Lib.decDigits]
    by_cases h : u < 10
    · rw [dif_pos h]
      unfold digV
      simp only [List.foldl_cons, List.foldl_nil]
      rw [byte48 h]
      omega
    · rw [dif_neg h, digV_end, ih (u / 10) (by omega), byte48 (by omega)]
      omega
theorem dec_digit (u : Nat) : ∀ x ∈ Lib.decDigits u, 48 ≤ x.toNat ∧ x.toNat ≤ 57 := by
  induction u using Nat.strongRecOn with
  | _ u ih =>
    rw [Lib.decDigits]
    by_cases h : u < 10
    · rw [dif_pos h]
      intro x hx
      rw [List.mem_singleton.1 hx, byte48 h]
      omega
    · rw [dif_neg h]
      intro x hx
      rcases List.mem_append.1 hx with hx | hx
      · exact ih (u / 10) (by omega) x hx
      · rw [List.mem_singleton.1 hx, byte48 (by omega)]
        omega
theorem dec_head (u : Nat) : ∃ c r, Lib.decDigits u = c :: r ∧ (r = [] ∨ c.toNat ≠ 48) := by
  induction u using Nat.strongRecOn with
  | _ u ih =>
    rw [Lib.decDigits]
    by_cases h : u < 10
    · rw [dif_pos h]
      exact ⟨_, [], rfl, .inl rfl⟩
    · rw [dif_neg h]
      obtain ⟨c, r, e, hc⟩ := ih (u / 10) (by omega)
      rw [e]
      refine ⟨c, r ++ [_], rfl, .inr fun hz => ?_⟩
      rcases hc with rfl | hc
      · have hv := dec_val (u / 10)
        rw [e] at hv
        unfold digV at hv
        simp only [List.foldl_cons, List.foldl_nil] at hv
        omega
      · exact hc hz
theorem dec_len {u : Nat} (h : u < 1000000000000000000) : (Lib.decDigits u).length ≤ 18 := by
  rw [Lib.decDigits_length]
  by_cases hk : Lib.nDigits u ≤ 18
  · exact hk
  · exfalso
    have key : ∀ (k u : Nat), k < Lib.nDigits u → 1 ≤ k → 10 ^ k ≤ u := by
      intro k
      induction k with
      | zero => intro u _ h; omega
      | succ k ih =>
        intro u hu _
        by_cases h10 : u < 10
        · rw [Lib.nDigits_small h10] at hu; omega
        · rw [Lib.nDigits_big h10] at hu
          rw [Nat.pow_succ]
          by_cases hk : 1 ≤ k
          · have := ih (u / 10) (by omega) hk
            omega
          · obtain rfl : k = 0 := by omega
            simp; omega
    have := key 18 u (by omega) (by omega)
    omega
/-- A numeral of the language. -/
structure GD (t : List UInt8) : Prop where
  pos : 0 < t.length
  len : t.length ≤ 18
  dig : ∀ x ∈ t, 48 ≤ x.toNat ∧ x.toNat ≤ 57
  zero : t.length = 1 ∨ t.head? ≠ some 48
theorem itoa_good {v : Int} (h0 : 0 ≤ v) (h1 : v < 1000000000000000000) : GD (Lib.itoa v) ∧ digV (Lib.itoa v) = v := by
  have e : Lib.itoa v = Lib.decDigits v.toNat := by unfold Lib.itoa; rw [if_neg (by omega)]
  rw [e]
  have hv := dec_val v.toNat
  refine ⟨⟨?_, dec_len (by omega), dec_digit _, ?_⟩, by omega⟩
  · obtain ⟨c, r, e, -⟩ := dec_head v.toNat
    rw [e]; simp
  · obtain ⟨c, r, e, hc⟩ := dec_head v.toNat
    rw [e]
    rcases hc with rfl | hc
    · exact .inl rfl
    · refine .inr fun h => hc ?_
      simp at h
      rw [h]; rfl
theorem dig_bd : ∀ (n : Nat) (d : List UInt8), d.length = n → (∀ x ∈ d, 48 ≤ x.toNat ∧ x.toNat ≤ 57) → 0 ≤ digV d ∧ digV d + 1 ≤ 10 ^ n := by
  intro n
  induction n with
  | zero => intro d h _; rw [List.length_eq_zero_iff.1 h]; unfold digV; simp
  | succ n ih =>
    intro d h hd
    rcases List.eq_nil_or_concat d with rfl | ⟨r, x, rfl⟩
    · simp at h
    · rw [List.concat_eq_append] at *
      have h1 := ih r (by simp at h; omega) (fun y hy => hd y (List.mem_append_left _ hy))
      have h2 := hd x (by simp)
      rw [digV_end, Int.pow_succ]
      omega
theorem dig_lt {t : List UInt8} (h : t.length ≤ 18) (hd : ∀ x ∈ t, 48 ≤ x.toNat ∧ x.toNat ≤ 57) : 0 ≤ digV t ∧ digV t < 1000000000000000000 := by
  have h1 := dig_bd _ t rfl hd
  have h2 : (10 : Int) ^ t.length ≤ 10 ^ 18 := by
    have : (10 : Nat) ^ t.length ≤ 10 ^ 18 := Nat.pow_le_pow_right (by decide) h
    exact_mod_cast this
  have h3 : (10 : Int) ^ 18 = 1000000000000000000 := by decide
  omega
end Go.Proofs.YtpfgimohginbdaaDoor
