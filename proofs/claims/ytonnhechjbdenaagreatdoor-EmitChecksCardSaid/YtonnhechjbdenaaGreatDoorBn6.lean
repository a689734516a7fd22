import Derived.Lib.ItoaNum
import Derived.Lib.Strings
import Derived.Test.YtonnhechjbdenaaGreatDoorShelf
import Derived.Test.YtonnhechjbdenaaGreatDoorBn2
import Derived.Test.YtonnhechjbdenaaGreatDoorBn5
set_option linter.unusedVariables false
set_option linter.unusedSimpArgs false
namespace Go.Proofs.YtonnhechjbdenaaGreatDoor
open Go.RowKit

theorem bytes_same {a b : ByteArray} (h : a.toList = b.toList) : a = b := by
  rw [Lib.toList_data, Lib.toList_data] at h
  cases a; cases b
  simp only at h
  rw [Array.toList_inj.1 h]
theorem mkB_app (a b : List UInt8) : mkB a ++ mkB b = mkB (a ++ b) := by
  apply bytes_same
  rw [mkB_toList, Lib.toList_data, ByteArray.data_append, Array.toList_append]
  rfl
theorem mkB_one (a : List UInt8) (c : UInt8) : mkB a ++ ⟨#[c]⟩ = mkB (a ++ [c]) := mkB_app a [c]
theorem dd_small {u : Nat} (h : u < 10) : Lib.decDigits u = [UInt8.ofNat (48 + u)] := by rw [Lib.decDigits, dif_pos h]
theorem dd_big {u : Nat} (h : ¬ u < 10) : Lib.decDigits u = Lib.decDigits (u / 10) ++ [UInt8.ofNat (48 + u % 10)] := by rw [Lib.decDigits, dif_neg h]
theorem nDigits_le : ∀ (k u : Nat), u < 10 ^ (k + 1) → Lib.nDigits u ≤ k + 1 := by
  intro k
  induction k with
  | zero => intro u h; rw [Lib.nDigits_small (by simpa using h)]; omega
  | succ k ih =>
    intro u h
    by_cases hs : u < 10
    · rw [Lib.nDigits_small hs]; omega
    · rw [Lib.nDigits_big hs]
      have := ih (u / 10) (by rw [Nat.pow_succ] at h; omega)
      omega
theorem itoa_len (n : Int) (h0 : -9223372036854775808 ≤ n) (h1 : n ≤ 9223372036854775807) : (Lib.itoa n).length ≤ 21 := by
  unfold Lib.itoa
  split
  · have := nDigits_le 19 n.natAbs (by have : n.natAbs ≤ 9223372036854775808 := by omega
                                       exact Nat.lt_of_le_of_lt this (by decide))
    rw [List.length_cons, Lib.decDigits_length]; omega
  · have := nDigits_le 19 n.toNat (by have : n.toNat ≤ 9223372036854775808 := by omega
                                      exact Nat.lt_of_le_of_lt this (by decide))
    rw [Lib.decDigits_length]; omega
end Go.Proofs.YtonnhechjbdenaaGreatDoor

namespace Go.Proofs.YtonnhechjbdenaaGreatDoor
open Go.RowKit

/-! an instruction's text, in plain Lean: two instructions have one text only if they are one -/
/-- Words with blanks ahead. -/
def chunkP (b : Bool) (t : List UInt8) : List UInt8 := if b then 32 :: t else []
def textP (h : List UInt8) (i : PIns) : List UInt8 :=
  i.op ++ chunkP (h.contains 100) (114 :: Lib.itoa i.d) ++ chunkP (h.contains 97) (114 :: Lib.itoa i.a) ++ chunkP (h.contains 98) ((if i.op == callN then [] else [114]) ++ Lib.itoa i.b) ++ chunkP (h.contains 105) (Lib.itoa i.imm)
def textI (i : PIns) : List UInt8 := if errI i = 0 then textP (hasOf (findL i.op - 1)) i else []
end Go.Proofs.YtonnhechjbdenaaGreatDoor

namespace Go.Proofs.YtonnhechjbdenaaGreatDoor
open Go.RowKit

/-! the table of ops, as the code has it -/
def rowC (r : List UInt8 × List UInt8) : List Value := [.string (mkB r.1), .string (mkB r.2)]
def namesL : List ByteArray := opsT.map (fun r => mkB r.1)
theorem flat2_get : ∀ (ts : List (List UInt8 × List UInt8)) (k : Nat) (h : k < ts.length) (i : Nat), i < 2 → (ts.flatMap rowC)[k * 2 + i]? = (rowC ts[k])[i]? := by
  intro ts
  induction ts with
  | nil => intro k h; simp at h
  | cons t ts ih =>
    intro k h i hi
    rw [List.flatMap_cons]
    cases k with
    | zero => rw [List.getElem?_append_left (by simp [rowC]; omega)]; simp
    | succ k =>
      rw [List.getElem?_append_right (by simp [rowC]; omega), show (k + 1) * 2 + i - (rowC t).length = k * 2 + i by simp [rowC]; omega, ih k (by simpa using h) i hi]
      rfl
/-- The cells of the k-th row of the table. -/
theorem row_cells {w : World} {b : Nat} (h : Row w (some ⟨b, 0, none⟩) (opsT.flatMap rowC)) {k : Nat} (hk : k < 29) :
    w.cell? ⟨b, k * 2, none⟩ = some (.string (mkB (nameOf k))) ∧ w.cell? ⟨b, k * 2 + 1, none⟩ = some (.string (mkB (hasOf k))) := by
  have hk' : k < opsT.length := hk
  have e : opsT[k] = opsT.getD k ([], []) := by rw [List.getD_eq_getElem?_getD, List.getElem?_eq_getElem hk']; rfl
  obtain ⟨b0, off, e0, h0⟩ := h (k * 2) (.string (mkB (nameOf k))) (by rw [show k * 2 = k * 2 + 0 by omega, flat2_get _ k hk' 0 (by omega), e]; rfl)
  obtain ⟨b1, off1, e1, h1⟩ := h (k * 2 + 1) (.string (mkB (hasOf k))) (by rw [flat2_get _ k hk' 1 (by omega), e]; rfl)
  simp only [Option.some.injEq, Addr.mk.injEq, and_true] at e0 e1
  obtain ⟨rfl, rfl⟩ := e0
  obtain ⟨rfl, rfl⟩ := e1
  rw [Nat.zero_add] at h0 h1
  exact ⟨h0, h1⟩
set_option maxHeartbeats 4000000 in
set_option maxRecDepth 100000 in
theorem table_any (w : World) : Calls Tryz.prog 52 #[] w fun e w' => e = .returned (.slice (some ⟨w.heap.size, 0, none⟩) 29 29) ∧ w' = w.alloc (.cells (opsT.flatMap rowC).toArray 130) := by
  go_enter Tryz.func52, Tryz.ntmps52
  go_wp2
  go_ret
  exact ⟨rfl, rfl⟩
theorem find1_any (a b op : ByteArray) (p : Nat) (w : World) (h : w.cell? ⟨p, 0, none⟩ = some (.string op)) : Calls Tryz.prog 74 #[.agg #[.string a, .string b], .pointer (some ⟨p, 0, none⟩)] w fun e w' => e = .returned (.bool (a.toList == op.toList)) ∧ w' = w.alloc (.cells #[.string a, .string b] 130) := by
  have h2 := Keeps.alloc w (.cells #[.string a, .string b] 130) _ _ h
  go_enter Tryz.func74, Tryz.ntmps74
  go_wp2
  go_ret
  exact ⟨rfl, rfl⟩
theorem names_get (k : Nat) (h : k < namesL.length) : namesL[k] = mkB (nameOf k) := by
  have h2 : k < opsT.length := h
  have e : opsT[k] = opsT.getD k ([], []) := by rw [List.getD_eq_getElem?_getD, List.getElem?_eq_getElem h2]; rfl
  exact (List.getElem_map (fun r : List UInt8 × List UInt8 => mkB r.1) (l := opsT) (h := h)).trans (congrArg (fun r : List UInt8 × List UInt8 => mkB r.1) e)
def firstR (op : ByteArray) (k : Nat) : Int := idxV op (namesL.drop k) k
theorem firstR_yes {op : ByteArray} {k : Nat} (hk : k < 29) (h : ((mkB (nameOf k)).toList == op.toList) = true) : firstR op k = k := by
  unfold firstR
  have hk' : k < namesL.length := hk
  rw [idxV_drop hk']
  rw [names_get k hk', if_pos (by rw [beq_iff_eq] at h ⊢; exact h.symm)]
theorem firstR_no {op : ByteArray} {k : Nat} (hk : k < 29) (h : ((mkB (nameOf k)).toList == op.toList) = false) : firstR op k = firstR op (k + 1) := by
  unfold firstR
  have hk' : k < namesL.length := hk
  rw [idxV_drop hk']
  rw [names_get k hk', if_neg (by rw [beq_iff_eq]; rw [beq_eq_false_iff_ne] at h; exact fun q => h q.symm)]
theorem firstR_end (op : ByteArray) : firstR op 29 = -1 := rfl
theorem findIdx_idxV (op : ByteArray) : ∀ (l : List (List UInt8 × List UInt8)) (k : Nat), idxV op (l.map (fun r => mkB r.1)) k = match l.findIdx? (fun r => r.1 == op.toList) with | some j => ((k + j : Nat) : Int) | none => -1 := by
  intro l
  induction l with
  | nil => intro k; rfl
  | cons r l ih =>
    intro k
    rw [List.map_cons, idxV, mkB_toList, List.findIdx?_cons]
    by_cases h : r.1 = op.toList
    · rw [if_pos (by rw [h]; simp), if_pos (by simp [h])]; simp
    · rw [if_neg (by simpa using fun e => h e.symm), if_neg (by simpa using h), ih (k + 1)]
      cases l.findIdx? (fun r => r.1 == op.toList) with
      | none => rfl
      | some j => show ((k + 1 + j : Nat) : Int) = ((k + (j + 1) : Nat) : Int); congr 1; omega
theorem firstR_find (op : ByteArray) : firstR op 0 + 1 = (findL op.toList : Int) := by
  unfold firstR findL
  rw [List.drop_zero, namesL, findIdx_idxV]
  cases opsT.findIdx? (fun r => r.1 == op.toList) with
  | none => rfl
  | some j => simp
theorem indexFunc_any (op : ByteArray) (b c p : Nat) (w : World) (hr : Row w (some ⟨b, 0, none⟩) (opsT.flatMap rowC)) (h : w.cell? ⟨p, 0, none⟩ = some (.string op)) :
    Calls Tryz.prog 73 #[.slice (some ⟨b, 0, none⟩) 29 c, .func (.func 74) #[] #[.pointer (some ⟨p, 0, none⟩)]] w (Ret (.int .i64 (firstR op 0)) w) := by
  have HR := Lib.hid hr
  have HC := Lib.hid h
  clear hr h
  go_enter Tryz.func73, Tryz.ntmps73
  go_wp2_with fail
  go_loopw [5, 8] (fun _ i wr => ∃ k : Nat, k ≤ 29 ∧ i = .int .i64 k ∧ firstR op 0 = firstR op k ∧ Below w.heap.size w wr) (fun _ i _ => 29 - (intOf i).toNat)
  case atStart => exact ⟨0, by omega, rfl, rfl, Below.refl _ _⟩
  case round =>
    obtain ⟨k, hk, rfl, hf, hW⟩ := hrel
    have HF := Lib.hid hf
    clear hf
    have HW := Lib.hid hW
    by_cases hlt : k < 29
    · obtain ⟨a0, a1⟩ := row_cells (HR.out.keep (.of_below hW)) hlt
      have hp := Keeps.of_below hW _ _ HC.out
      clear hW
      have hlt' : (k : Int) < 29 := by omega
      cases ht : ((mkB (nameOf k)).toList == op.toList)
      · have HN := Lib.hid (firstR_no hlt ht)
        go_wp2_with (go_at_call 74; refine (find1_any _ _ op p _ hp).mono ?_; rintro x w' ⟨rfl, rfl⟩)
        go_roundw
        case rel => exact ⟨k + 1, by omega, by go_num, by rw [HF.out, HN.out], HW.out.alloc HW.out.size _⟩
        case measure => simp [intOf]; omega
      · have HN := Lib.hid (firstR_yes hlt ht)
        go_wp2_with (go_at_call 74; refine (find1_any _ _ op p _ hp).mono ?_; rintro x w' ⟨rfl, rfl⟩)
        go_ret
        exact ⟨by rw [HF.out, HN.out]; rfl, HW.out.alloc HW.out.size _⟩
    · have hk' : k = 29 := by omega
      subst hk'
      clear hW
      go_wp2_with fail
      go_ret
      exact ⟨by rw [HF.out, firstR_end]; rfl, HW.out⟩
theorem find_any (op : ByteArray) (w : World) : Calls Tryz.prog 50 #[.string op] w (Ret (.int .i64 (findL op.toList)) w) := by
  have HF := Lib.hid (firstR_find op)
  have HB := Lib.hid (show firstR op 0 + 1 ≤ 29 ∧ -1 ≤ firstR op 0 by have := idxV_ge op namesL 0; have hl : namesL.length = 29 := rfl; have e : firstR op 0 = idxV op namesL 0 := rfl; rw [firstR_find]; unfold findL; cases hh : opsT.findIdx? (fun r => r.1 == op.toList) with
    | none => simp; omega
    | some j => rw [List.findIdx?_eq_some_iff_getElem] at hh; obtain ⟨q, _⟩ := hh; have q2 : j < 29 := q; simp; omega)
  obtain ⟨f, hf⟩ : ∃ f, firstR op 0 = f := ⟨_, rfl⟩
  have hrow : Row ((w.alloc (.cells #[.string op] 9)).alloc (.cells (opsT.flatMap rowC).toArray 130)) (some ⟨w.heap.size + 1, 0, none⟩) (opsT.flatMap rowC) := by
    have := Row.new (w.alloc (.cells #[.string op] 9)) (opsT.flatMap rowC).toArray 130
    rwa [show (w.alloc (.cells #[.string op] 9)).heap.size = w.heap.size + 1 by simp] at this
  have hcell : ((w.alloc (.cells #[.string op] 9)).alloc (.cells (opsT.flatMap rowC).toArray 130)).cell? ⟨w.heap.size, 0, none⟩ = some (.string op) :=
    Keeps.alloc _ _ _ _ (cell_of_row _ _ 0 _ _ _ (heap_alloc_new w _))
  have HI := Lib.hid (indexFunc_any op _ 29 _ _ hrow hcell)
  rw [hf] at HF HI HB
  clear hf hrow hcell
  have hb1 := HB.out.1
  have hb2 := HB.out.2
  go_enter Tryz.func50, Tryz.ntmps50
  go_wp2_with (first
    | (go_at_call 52; refine (table_any _).mono ?_; rintro x w' ⟨rfl, rfl⟩)
    | (go_at_call 73; (with_reducible refine HI.out.mono ?_); rintro x w' ⟨rfl, hb⟩))
  go_ret
  exact ⟨by rw [← HF.out]; rfl, grow_trans (grow_alloc (grow_alloc (grow_refl _) _) _) hb⟩
end Go.Proofs.YtonnhechjbdenaaGreatDoor
