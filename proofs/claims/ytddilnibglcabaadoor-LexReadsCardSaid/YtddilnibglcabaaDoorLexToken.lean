import Derived.Test.YtddilnibglcabaaDoorLexP
import Derived.Test.YtddilnibglcabaaDoorLexSign
import Derived.Test.YtddilnibglcabaaDoorCode
namespace Go.Proofs.YtddilnibglcabaaDoor
open Go.RowKit

theorem bytes_cons {s : ByteArray} {k : Nat} (h : k < s.size) : (bytesL s).drop k = s[k] :: (bytesL s).drop (k + 1) := List.drop_eq_getElem_cons (l := bytesL s) (by rw [bytesL_len]; exact h)
theorem ext_mk (s : ByteArray) (a b : Nat) : s.extract a b = mkB (((bytesL s).drop a).take (b - a)) := eq_mkB (extract_bytes s a b)
theorem spanE_sub (p : UInt8 → Bool) (s : ByteArray) (k : Nat) : spanE p s k - k = spanL p ((bytesL s).drop k) := by unfold spanE; omega
/-- What the token at k is, as the code returns it. -/
def tokR (s : ByteArray) (k : Nat) : Value := .tuple #[tokV (mkB (tokAt ((bytesL s).drop k)).1) (mkB (((bytesL s).drop k).take (tokAt ((bytesL s).drop k)).2.1)) k, .bool (tokAt ((bytesL s).drop k)).2.2]
theorem named_tok (s : ByteArray) (k : Nat) (hk : k < s.size) (h : isLetter s[k] = true) : (.tuple #[tokV (mkB (if isIn (s.extract k (spanE alnum s k)) wordsL then kWord else kName)) (s.extract k (spanE alnum s k)) k, .bool (isIn (s.extract k (spanE alnum s k)) wordsL || decide (spanE alnum s k - k ≤ 8))] : Value) = tokR s k := by
  unfold tokR
  rw [isIn_wordsL, ext_mk, spanE_sub, bytes_cons hk, tokAt_letter _ _ h]
theorem numOk_eq (s : ByteArray) (k : Nat) (hk : k < s.size) : numOk s k (spanE isDigit s k) = numL s[k] ((bytesL s).drop k) (spanL isDigit ((bytesL s).drop k)) := by
  unfold numOk numL
  have h2 := spanE_le isDigit s k (Nat.le_of_lt hk)
  have hq := spanE_sub isDigit s k
  have hd : ((bytesL s).drop k).drop (spanL isDigit ((bytesL s).drop k)) = (bytesL s).drop (spanE isDigit s k) := by rw [List.drop_drop]; rfl
  rw [hd, ← hq, bytesL_getD s k hk]
  clear hd hq
  generalize spanE isDigit s k = e at *
  by_cases h : e = s.size
  · subst h
    rw [List.drop_eq_nil_of_le (by rw [bytesL_len]; omega), decide_eq_true rfl, Bool.true_or]
  · rw [decide_eq_false h, bytesL_getD s _ (by omega), bytes_cons (s := s) (k := e) (by omega), Bool.false_or]
theorem number_tok (s : ByteArray) (k : Nat) (hk : k < s.size) (h : isLetter s[k] = false) (hd : isDigit s[k] = true) : (.tuple #[tokV (mkB kNumber) (s.extract k (spanE isDigit s k)) k, .bool (numOk s k (spanE isDigit s k))] : Value) = tokR s k := by
  unfold tokR
  rw [numOk_eq s k hk, ext_mk, spanE_sub, bytes_cons hk, tokAt_digit _ _ h hd]
theorem sign_tok (s : ByteArray) (k : Nat) (hk : k < s.size) (h : isLetter s[k] = false) (hd : isDigit s[k] = false) : (.tuple #[tokV (mkB kSign) (signTxt (((bytesL s).drop k).take 2) (s.extract k (k + 1))) k, .bool (signOk (((bytesL s).drop k).take 2) s[k])] : Value) = tokR s k := by
  unfold tokR signTxt signOk
  rw [ext_mk, show k + 1 - k = 1 by omega, bytes_cons hk, tokAt_sign _ _ h hd]
  cases twosB.any (fun x => x == (s[k] :: (bytesL s).drop (k + 1)).take 2) <;> rfl
theorem new_row {w w' : World} {cs : Array Value} {t : TypeId} (hb : Below (w.alloc (.cells cs t)).heap.size (w.alloc (.cells cs t)) w') : w'.heap[w.heap.size]? = some (.cells cs t (0, 0)) :=
  (hb.block w.heap.size (by simp)).trans (heap_alloc_new w _)
theorem three_new {w w' : World} {x y z : Value} {t : TypeId} (hb : Below (w.alloc (.cells #[x, y, z] t)).heap.size (w.alloc (.cells #[x, y, z] t)) w') :
    w'.cell? ⟨w.heap.size, 0, none⟩ = some x ∧ w'.cell? ⟨w.heap.size, 1, none⟩ = some y ∧ w'.cell? ⟨w.heap.size, 2, none⟩ = some z ∧ ∀ j, w'.frozen? ⟨w.heap.size, j, none⟩ = false := by
  have h := new_row hb
  exact ⟨cell_of_row w' _ 0 _ _ _ h, cell_of_row w' _ 1 _ _ _ h, cell_of_row w' _ 2 _ _ _ h, fun j => frozen_of_row w' _ j _ _ h⟩
theorem two_new {w w' : World} {x y : Value} {t : TypeId} (hb : Below (w.alloc (.cells #[x, y] t)).heap.size (w.alloc (.cells #[x, y] t)) w') :
    w'.cell? ⟨w.heap.size, 0, none⟩ = some x ∧ w'.cell? ⟨w.heap.size, 1, none⟩ = some y ∧ ∀ j, w'.frozen? ⟨w.heap.size, j, none⟩ = false := by
  have h := new_row hb
  exact ⟨cell_of_row w' _ 0 _ _ _ h, cell_of_row w' _ 1 _ _ _ h, fun j => frozen_of_row w' _ j _ _ h⟩
attribute [local go_sem] tokV
theorem token_any (s : ByteArray) (hs : s.size ≤ 1000000000) (k : Nat) (hk : k < s.size) (w : World) :
    Calls Tryd.prog 49 #[.string s, .int .i64 k] w (Ret (tokR s k) w) := by
  have hkk : (k : Int) < (s.size : Int) := by omega
  cases hl : isLetter s[k]
  · cases hd : isDigit s[k]
    · have H := Lib.hid (sign_tok s k hk hl hd)
      go_enter Tryd.func49, Tryd.ntmps49
      go_wp2_with (first
        | (go_at_call 70; refine (letter_any _ _).mono ?_; rintro e w' ⟨rfl, rfl⟩)
        | (go_at_call 72; refine (digit_any _ _).mono ?_; rintro e w' ⟨rfl, rfl⟩)
        | (go_at_call 74; refine (sign_any s hs k hk _).mono ?_; rintro e w' ⟨rfl, hb⟩; have Hb := Lib.hid hb; obtain ⟨c0, c1, c2, cf⟩ := three_new hb; clear hb))
      (try simp only [Exit.inBlock, Exit.then]); refine bodyPost_ret (by simp [results, Tryd.results49, go_sem, c0, c1, c2]; try rfl) rfl ?_
      exact ⟨by rw [← H.out]; rfl, ((((Below.refl _ _).alloc (Nat.le_refl _) _).trans (Hb.out.mono (by simp))).setCell (Nat.le_refl _) _).setCell (Nat.le_refl _) _ |>.setCell (Nat.le_refl _) _⟩
    · have H := Lib.hid (number_tok s k hk hl hd)
      go_enter Tryd.func49, Tryd.ntmps49
      go_wp2_with (first
        | (go_at_call 70; refine (letter_any _ _).mono ?_; rintro e w' ⟨rfl, rfl⟩)
        | (go_at_call 72; refine (digit_any _ _).mono ?_; rintro e w' ⟨rfl, rfl⟩)
        | (go_at_call 73; refine (number_any s hs k hk (by exact hd) _).mono ?_; rintro e w' ⟨rfl, hb⟩; have Hb := Lib.hid hb; obtain ⟨c0, c1, c2, cf⟩ := three_new hb; clear hb))
      (try simp only [Exit.inBlock, Exit.then]); refine bodyPost_ret (by simp [results, Tryd.results49, go_sem, c0, c1, c2]; try rfl) rfl ?_
      exact ⟨by rw [← H.out]; rfl, ((((Below.refl _ _).alloc (Nat.le_refl _) _).trans (Hb.out.mono (by simp))).setCell (Nat.le_refl _) _).setCell (Nat.le_refl _) _ |>.setCell (Nat.le_refl _) _⟩
  · have hn := fun w => named_any s hs k (Nat.le_of_lt hk) w
    have h := named_tok s k hk hl
    generalize mkB (if isIn (s.extract k (spanE alnum s k)) wordsL then kWord else kName) = K at hn h
    generalize (isIn (s.extract k (spanE alnum s k)) wordsL || decide (spanE alnum s k - k ≤ 8)) = B at hn h
    have H := Lib.hid h
    have HN := Lib.hid hn
    clear h hn
    go_enter Tryd.func49, Tryd.ntmps49
    go_wp2_with (first
      | (go_at_call 70; refine (letter_any _ _).mono ?_; rintro e w' ⟨rfl, rfl⟩)
      | (go_at_call 71; refine (HN.out _).mono ?_; rintro e w' ⟨rfl, hb⟩; have Hb := Lib.hid hb; obtain ⟨c0, c1, c2, cf⟩ := three_new hb; clear hb))
    (try simp only [Exit.inBlock, Exit.then]); refine bodyPost_ret (by simp [results, Tryd.results49, go_sem, c0, c1, c2]; try rfl) rfl ?_
    exact ⟨by rw [← H.out]; rfl, ((((Below.refl _ _).alloc (Nat.le_refl _) _).trans (Hb.out.mono (by simp))).setCell (Nat.le_refl _) _).setCell (Nat.le_refl _) _ |>.setCell (Nat.le_refl _) _⟩
end Go.Proofs.YtddilnibglcabaaDoor
