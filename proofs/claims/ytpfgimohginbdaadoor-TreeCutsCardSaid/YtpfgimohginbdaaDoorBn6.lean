import Derived.Laws.Externs
import Derived.Laws.StandIn
import Derived.Lib.Strings
import Derived.Test.YtpfgimohginbdaaDoorBn5
set_option linter.unusedVariables false
set_option linter.unusedSimpArgs false
namespace Go.Proofs.YtpfgimohginbdaaDoor
open Go.RowKit

def wordsL : List ByteArray := wordsB.map mkB
theorem word_any (s : ByteArray) (w : World) : Calls Tryd.prog 39 #[.string s] w fun e w' => e = .returned (.bool (isIn s wordsL)) ∧ w' = w.alloc (.cells (wordsL.map Value.string).toArray 9) := by
  go_enter Tryd.func39, Tryd.ntmps39
  go_wp2_with (go_at_call 49; refine (Contains_any s _ wordsL _ _ (Row.new w _ _) (by decide)).mono ?_; rintro e w' ⟨rfl, rfl⟩)
  go_ret
  exact ⟨rfl, rfl⟩
def tokV (k t : ByteArray) (n : Nat) : Value := .agg #[.string k, .string t, .int .i64 n]
theorem extract_bytes (s : ByteArray) (a b : Nat) : (s.extract a b).toList = ((bytesL s).drop a).take (b - a) := Lib.extract_toList s a b
theorem isIn_wordsL (s : ByteArray) (k : Nat) : isIn (s.extract k (spanE alnum s k)) wordsL = wordsB.any (fun x => x == ((bytesL s).drop k).take (spanL alnum ((bytesL s).drop k))) := by
  rw [wordsL, isIn_mkB, extract_bytes]
  unfold spanE
  rw [Nat.add_sub_cancel_left]
theorem named_any (s : ByteArray) (hs : s.size ≤ 1000000000) (k : Nat) (hk : k ≤ s.size) (w : World) :
    Calls Tryd.prog 20 #[.string s, .int .i64 k] w fun e w' => e = .returned (.tuple #[tokV (mkB (if isIn (s.extract k (spanE alnum s k)) wordsL then kWord else kName)) (s.extract k (spanE alnum s k)) k, .bool (isIn (s.extract k (spanE alnum s k)) wordsL || decide (spanE alnum s k - k ≤ 8))]) ∧ Below w.heap.size w w' := by
  have h1 := spanE_ge alnum s k
  have h2 := spanE_le alnum s k hk
  obtain ⟨e, he⟩ : ∃ e, spanE alnum s k = e := ⟨_, rfl⟩
  have hspan := span_alnum s hs k hk
  rw [he] at hspan h1 h2 ⊢
  have HS := Lib.hid hspan
  clear hspan he
  cases hw : isIn (s.extract k e) wordsL
  · cases h8 : decide (e - k ≤ 8)
    · have h8' : ¬ ((e - k : Nat) : Int) ≤ 8 := by have := of_decide_eq_false h8; omega
      clear h8
      go_enter Tryd.func20, Tryd.ntmps20
      go_wp2_with (first
        | (go_at_call 10; refine (HS.out _).mono ?_; rintro e w' ⟨rfl, rfl⟩)
        | (go_at_call 39; refine (word_any _ _).mono ?_; rintro e w' ⟨rfl, rfl⟩))
      go_returns
      exact ⟨by rw [decide_eq_false (by omega)]; rfl, grow_alloc (grow_alloc (grow_refl _) _) _⟩
    · have h8' : ((e - k : Nat) : Int) ≤ 8 := by have := of_decide_eq_true h8; omega
      clear h8
      go_enter Tryd.func20, Tryd.ntmps20
      go_wp2_with (first
        | (go_at_call 10; refine (HS.out _).mono ?_; rintro e w' ⟨rfl, rfl⟩)
        | (go_at_call 39; refine (word_any _ _).mono ?_; rintro e w' ⟨rfl, rfl⟩))
      go_returns
      exact ⟨rfl, grow_alloc (grow_alloc (grow_refl _) _) _⟩
  · go_enter Tryd.func20, Tryd.ntmps20
    go_wp2_with (first
      | (go_at_call 10; refine (HS.out _).mono ?_; rintro e w' ⟨rfl, rfl⟩)
      | (go_at_call 39; refine (word_any _ _).mono ?_; rintro e w' ⟨rfl, rfl⟩))
    go_returns
    exact ⟨rfl, grow_alloc (grow_alloc (grow_refl _) _) _⟩

def numOk (s : ByteArray) (k e : Nat) : Bool := decide (e - k ≤ 18) && (decide (e - k = 1) || (bytesL s).getD k 0 != 48) && (decide (e = s.size) || !isLetter ((bytesL s).getD e 0))
theorem bytesL_getD (s : ByteArray) (k : Nat) (h : k < s.size) : (bytesL s).getD k 0 = s[k] := by
  rw [List.getD_eq_getElem?_getD, List.getElem?_eq_getElem (by rw [bytesL_len]; exact h)]; rfl
theorem extract_get0 (s : ByteArray) (k e : Nat) (hk : k < s.size) (h : 0 < (s.extract k e).size) : (s.extract k e)[0]'h = s[k] := by
  rw [ByteArray.getElem_extract]; simp
set_option maxHeartbeats 2000000 in
theorem number_any (s : ByteArray) (hs : s.size ≤ 1000000000) (k : Nat) (hk : k < s.size) (hd : isDigit s[k] = true) (w : World) :
    Calls Tryd.prog 22 #[.string s, .int .i64 k] w fun e w' => e = .returned (.tuple #[tokV (mkB kNumber) (s.extract k (spanE isDigit s k)) k, .bool (numOk s k (spanE isDigit s k))]) ∧ Below w.heap.size w w' := by
  have h1 := spanE_ge isDigit s (k + 1)
  rw [← spanE_yes hk hd] at h1
  have h2 := spanE_le isDigit s k (Nat.le_of_lt hk)
  obtain ⟨e, he⟩ : ∃ e, spanE isDigit s k = e := ⟨_, rfl⟩
  have hspan := span_digit s hs k (Nat.le_of_lt hk)
  rw [he] at hspan h1 h2 ⊢
  have HS := Lib.hid hspan
  clear hspan he
  have hg0 : ∀ h : 0 < (s.extract k e).size, (s.extract k e)[0]'h = s[k] := fun h => extract_get0 s k e hk h
  have HK := Lib.hid (bytesL_getD s k hk)
  have HA18 : ∀ b, decide (e - k ≤ 18) = b → Hid (decide (e - k ≤ 18) = b) := fun _ h => h
  cases hA : decide (e - k ≤ 18)
  · have HN : Hid (numOk s k e = false) := show numOk s k e = false by unfold numOk; rw [hA]; rfl
    have hA' : ¬ ((e - k : Nat) : Int) ≤ 18 := by have := of_decide_eq_false hA; omega
    clear hA HA18
    go_enter Tryd.func22, Tryd.ntmps22
    go_wp2_with (first
      | (go_at_call 10; refine (HS.out _).mono ?_; rintro e w' ⟨rfl, rfl⟩)
      | (go_at_call 19; refine (letter_any _ _).mono ?_; rintro e w' ⟨rfl, rfl⟩))
    go_returns
    exact ⟨by rw [HN.out]; rfl, grow_alloc (grow_refl _) _⟩
  · have hA' : ((e - k : Nat) : Int) ≤ 18 := by have := of_decide_eq_true hA; omega
    have HAA := Lib.hid hA
    clear hA HA18
    cases hB : (decide (e - k = 1) || (bytesL s).getD k 0 != 48)
    · have HN : Hid (numOk s k e = false) := show numOk s k e = false by unfold numOk; rw [HAA.out, hB]; rfl
      rw [Bool.or_eq_false_iff] at hB
      obtain ⟨hB1, hB2⟩ := hB
      have hB1' : (((e - k : Nat) : Int) == 1) = false := by have := of_decide_eq_false hB1; simp; omega
      have hB2' : ((s[k].toNat : Int) == 48) = true := by rw [HK.out] at hB2; have : s[k] = 48 := by simpa using hB2
                                                          rw [this]; rfl
      have hB3' : ((s[k].toNat : Int) != 48) = false := by rw [bne, hB2']; rfl
      clear hB1 hB2 hB2'
      go_enter Tryd.func22, Tryd.ntmps22
      go_wp2_with (first
        | (go_at_call 10; refine (HS.out _).mono ?_; rintro e w' ⟨rfl, rfl⟩)
        | (go_at_call 19; refine (letter_any _ _).mono ?_; rintro e w' ⟨rfl, rfl⟩))
      go_returns
      exact ⟨by rw [HN.out]; rfl, grow_alloc (grow_refl _) _⟩
    · have HBB := Lib.hid hB
      have HN0 : ∀ b, (decide (e = s.size) || !isLetter ((bytesL s).getD e 0)) = b → numOk s k e = b := fun b h => by unfold numOk; rw [HAA.out, HBB.out, h]; rfl
      have HN1 := Lib.hid HN0
      clear HN0 hB
      have hBB : ((((e - k : Nat) : Int) == 1) = true) ∨ ((((e - k : Nat) : Int) == 1) = false ∧ ((s[k].toNat : Int) != 48) = true) := by
        by_cases h1' : e - k = 1
        · exact .inl (by rw [h1']; rfl)
        · refine .inr ⟨by simp; omega, ?_⟩
          have hb := HBB.out
          rw [HK.out, decide_eq_false h1', Bool.false_or] at hb
          have h48 : s[k] ≠ 48 := by simpa using hb
          rw [bne_iff_ne]
          intro h
          exact h48 (UInt8.toNat_inj.1 (by have : s[k].toNat = 48 := by omega
                                           rw [this]; rfl))
      rcases hBB with hB1 | ⟨hB1, hB2⟩
      · by_cases hC : e = s.size
        · have HN := Lib.hid (HN1.out true (by rw [decide_eq_true hC]; rfl))
          subst hC
          go_enter Tryd.func22, Tryd.ntmps22
          go_wp2_with (first
            | (go_at_call 10; refine (HS.out _).mono ?_; rintro e w' ⟨rfl, rfl⟩)
            | (go_at_call 19; refine (letter_any _ _).mono ?_; rintro e w' ⟨rfl, rfl⟩))
          go_returns
          exact ⟨by rw [HN.out]; rfl, grow_alloc (grow_refl _) _⟩
        · have hlt : e < s.size := by omega
          have hC' : ((e : Int) == (s.size : Int)) = false := by simp; omega
          cases hL : isLetter s[e]
          · have HN := Lib.hid (HN1.out true (by rw [bytesL_getD s e hlt, hL]; simp))
            clear hC
            go_enter Tryd.func22, Tryd.ntmps22
            go_wp2_with (first
              | (go_at_call 10; refine (HS.out _).mono ?_; rintro e w' ⟨rfl, rfl⟩)
              | (go_at_call 19; refine (letter_any _ _).mono ?_; rintro e w' ⟨rfl, rfl⟩))
            go_returns
            exact ⟨by rw [HN.out]; rfl, grow_alloc (grow_refl _) _⟩
          · have HN := Lib.hid (HN1.out false (by rw [bytesL_getD s e hlt, hL, decide_eq_false hC]; rfl))
            clear hC
            go_enter Tryd.func22, Tryd.ntmps22
            go_wp2_with (first
              | (go_at_call 10; refine (HS.out _).mono ?_; rintro e w' ⟨rfl, rfl⟩)
              | (go_at_call 19; refine (letter_any _ _).mono ?_; rintro e w' ⟨rfl, rfl⟩))
            go_returns
            exact ⟨by rw [HN.out]; rfl, grow_alloc (grow_refl _) _⟩
      · by_cases hC : e = s.size
        · have HN := Lib.hid (HN1.out true (by rw [decide_eq_true hC]; rfl))
          subst hC
          go_enter Tryd.func22, Tryd.ntmps22
          go_wp2_with (first
            | (go_at_call 10; refine (HS.out _).mono ?_; rintro e w' ⟨rfl, rfl⟩)
            | (go_at_call 19; refine (letter_any _ _).mono ?_; rintro e w' ⟨rfl, rfl⟩))
          go_returns
          exact ⟨by rw [HN.out]; rfl, grow_alloc (grow_refl _) _⟩
        · have hlt : e < s.size := by omega
          have hC' : ((e : Int) == (s.size : Int)) = false := by simp; omega
          cases hL : isLetter s[e]
          · have HN := Lib.hid (HN1.out true (by rw [bytesL_getD s e hlt, hL]; simp))
            clear hC
            go_enter Tryd.func22, Tryd.ntmps22
            go_wp2_with (first
              | (go_at_call 10; refine (HS.out _).mono ?_; rintro e w' ⟨rfl, rfl⟩)
              | (go_at_call 19; refine (letter_any _ _).mono ?_; rintro e w' ⟨rfl, rfl⟩))
            go_returns
            exact ⟨by rw [HN.out]; rfl, grow_alloc (grow_refl _) _⟩
          · have HN := Lib.hid (HN1.out false (by rw [bytesL_getD s e hlt, hL, decide_eq_false hC]; rfl))
            clear hC
            go_enter Tryd.func22, Tryd.ntmps22
            go_wp2_with (first
              | (go_at_call 10; refine (HS.out _).mono ?_; rintro e w' ⟨rfl, rfl⟩)
              | (go_at_call 19; refine (letter_any _ _).mono ?_; rintro e w' ⟨rfl, rfl⟩))
            go_returns
            exact ⟨by rw [HN.out]; rfl, grow_alloc (grow_refl _) _⟩
end Go.Proofs.YtpfgimohginbdaaDoor
