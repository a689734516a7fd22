import Derived.Laws.Externs
import Derived.Laws.StandIn
import Derived.Lib.Strings
import Derived.Deep.RegionWith
import Derived.IntWalk
import Derived.OwnWalk
import Derived.Laws.OwnMore
import Derived.Deep.CutRange
import Derived.Deep.RegionHeld3
import Derived.Deep.RegionLaw
import Derived.Test.YtpfgimohginbdaaDoorBn22
import Derived.Test.YtpfgimohginbdaaDoorBn7
import Derived.Test.YtpfgimohginbdaaDoorBn15
import Derived.Test.YtpfgimohginbdaaDoorBn3
import Derived.Test.YtpfgimohginbdaaDoorBn8
set_option linter.unusedVariables false
set_option linter.unusedSimpArgs false
namespace Go.Proofs.YtpfgimohginbdaaDoor
open Go.RowKit

theorem RdE.of1 {w : World} {S : Nat → Prop} {b off : Nat} {k : PExpr} {B : Option Addr} {c : Nat} (hS : S b) (h : CellsAt w b off (exprL k B c)) (hn : okN k.num) (hr : RdE w S k.kids B) : RdE w S [k] (some ⟨b, off, none⟩) := by
  refine ⟨_, _, b, off, fun _ => B, fun _ => c, fun _ => ⟨rfl, hS⟩, fun i hi => ?_, fun i hi => ?_, fun i hi => ?_⟩
  all_goals
    obtain rfl : i = 0 := by simp at hi; omega
    simpa using ‹_›
theorem RdE.of2 {w : World} {S : Nat → Prop} {b off : Nat} {k m : PExpr} {B B2 : Option Addr} {c c2 : Nat} (hS : S b) (h : CellsAt w b off (exprL k B c)) (hn : okN k.num) (hr : RdE w S k.kids B)
    (h2 : CellsAt w b (off + 4) (exprL m B2 c2)) (hn2 : okN m.num) (hr2 : RdE w S m.kids B2) : RdE w S [k, m] (some ⟨b, off, none⟩) := by
  refine ⟨_, _, b, off, fun i => if i = 0 then B else B2, fun i => if i = 0 then c else c2, fun _ => ⟨rfl, hS⟩, fun i hi => ?_, fun i hi => ?_, fun i hi => ?_⟩
  all_goals
    rcases (by simp at hi; omega : i = 0 ∨ i = 1) with rfl | rfl
  · simpa using h
  · simpa using h2
  · simpa using hn
  · simpa using hn2
  · simpa using hr
  · simpa using hr2
theorem cellsAt_of {w : World} {b : Nat} {cs : Array Value} {T : TypeId} {fz : Nat × Nat} (h : w.heap[b]? = some (.cells cs T fz)) (o : Nat) (l : List Value) (hl : ∀ (j : Nat) (u : Value), l[j]? = some u → cs[o + j]? = some u) : CellsAt w b o l := fun j u hj =>
  (cell_of_row w b (o + j) cs T fz h).trans (hl j u hj)
def shA : PExpr := ⟨xName, 0, [97], []⟩
def sh2 : PExpr := ⟨xNum, 2, [], []⟩
def shP : PExpr := ⟨xTwo, 0, [43], [shA, sh2]⟩
def shB : PExpr := ⟨xName, 0, [98], []⟩
def shM : PExpr := ⟨xOne, 0, [45], [shB]⟩
def shE : PExpr := ⟨xTwo, 0, [42], [shP, shM]⟩
theorem shE_text : textE shE = [40, 97, 32, 43, 32, 50, 41, 32, 42, 32, 45, 98] := by decide +kernel
theorem shE_ok : OkE shE := by
  have z : okN 0 := by unfold okN; omega
  have t : okN 2 := by unfold okN; omega
  have hA : OkE shA := ⟨_, z, fun k hk => by cases hk⟩
  have h2 : OkE sh2 := ⟨_, t, fun k hk => by cases hk⟩
  have hB : OkE shB := ⟨_, z, fun k hk => by cases hk⟩
  have hP : OkE shP := ⟨_, z, fun k hk => by
    simp only [shP, List.mem_cons, List.not_mem_nil, or_false] at hk
    rcases hk with rfl | rfl
    · exact hA
    · exact h2⟩
  have hM : OkE shM := ⟨_, z, fun k hk => by
    simp only [shM, List.mem_cons, List.not_mem_nil, or_false] at hk
    subst hk; exact hB⟩
  exact ⟨_, z, fun k hk => by
    simp only [shE, List.mem_cons, List.not_mem_nil, or_false] at hk
    rcases hk with rfl | rfl
    · exact hP
    · exact hM⟩
set_option maxRecDepth 100000 in
theorem shE_laid (w : World) : RdE ((((w.alloc (.cells #[.string ⟨#[110, 97, 109, 101]⟩, .int .i64 0, .string ⟨#[97]⟩, .slice none 0 0, .string ⟨#[110, 117, 109]⟩, .int .i64 2, .string ⟨#[]⟩, .slice none 0 0] 42)).alloc (.cells #[.string ⟨#[110, 97, 109, 101]⟩, .int .i64 0, .string ⟨#[98]⟩, .slice none 0 0] 42)).alloc
    (.cells #[.string ⟨#[116, 119, 111]⟩, .int .i64 0, .string ⟨#[43]⟩, .slice (some ⟨w.heap.size, 0, none⟩) 2 2, .string ⟨#[111, 110, 101]⟩, .int .i64 0, .string ⟨#[45]⟩, .slice (some ⟨w.heap.size + 1, 0, none⟩) 1 1] 42)).alloc
    (.cells #[.string ⟨#[116, 119, 111]⟩, .int .i64 0, .string ⟨#[42]⟩, .slice (some ⟨w.heap.size + 1 + 1, 0, none⟩) 2 2] 42)) (fun _ => True) shE.kids (some ⟨w.heap.size + 1 + 1, 0, none⟩) := by
  have e : ∀ (W : World) (o : Obj), (W.alloc o).heap.size = W.heap.size + 1 := fun W o => by simp
  have z : okN 0 := by unfold okN; omega
  have t : okN 2 := by unfold okN; omega
  refine RdE.of2 (k := shP) (m := shM) (B := some ⟨w.heap.size, 0, none⟩) (c := 2) (B2 := some ⟨w.heap.size + 1, 0, none⟩) (c2 := 1) trivial ?_ z ?_ ?_ z ?_
  · refine cellsAt_of (old_blockS _ _ _ (by simp only [e]; omega) (new_blockS _ _ (by simp only [e]))) 0 _ fun j u hj => ?_
    match j, hj with
    | 0, hj => exact hj
    | 1, hj => exact hj
    | 2, hj => exact hj
    | 3, hj => exact hj
  · refine RdE.of2 (k := shA) (m := sh2) (B := none) (c := 0) (B2 := none) (c2 := 0) trivial ?_ z (RdE.nil _ _ _) ?_ t (RdE.nil _ _ _)
    · refine cellsAt_of (old_blockS _ _ _ (by simp only [e]; omega) (old_blockS _ _ _ (by simp only [e]; omega) (old_blockS _ _ _ (by simp only [e]; omega) (new_blockS _ _ rfl)))) 0 _ fun j u hj => ?_
      match j, hj with
      | 0, hj => exact hj
      | 1, hj => exact hj
      | 2, hj => exact hj
      | 3, hj => exact hj
    · refine cellsAt_of (old_blockS _ _ _ (by simp only [e]; omega) (old_blockS _ _ _ (by simp only [e]; omega) (old_blockS _ _ _ (by simp only [e]; omega) (new_blockS _ _ rfl)))) (0 + 4) _ fun j u hj => ?_
      match j, hj with
      | 0, hj => exact hj
      | 1, hj => exact hj
      | 2, hj => exact hj
      | 3, hj => exact hj
  · refine cellsAt_of (old_blockS _ _ _ (by simp only [e]; omega) (new_blockS _ _ (by simp only [e]))) (0 + 4) _ fun j u hj => ?_
    match j, hj with
    | 0, hj => exact hj
    | 1, hj => exact hj
    | 2, hj => exact hj
    | 3, hj => exact hj
  · refine RdE.of1 (k := shB) (B := none) (c := 0) trivial ?_ z (RdE.nil _ _ _)
    refine cellsAt_of (old_blockS _ _ _ (by simp only [e]; omega) (old_blockS _ _ _ (by simp only [e]; omega) (new_blockS _ _ (by simp only [e])))) 0 _ fun j u hj => ?_
    match j, hj with
    | 0, hj => exact hj
    | 1, hj => exact hj
    | 2, hj => exact hj
    | 3, hj => exact hj
set_option maxHeartbeats 2000000 in
set_option maxRecDepth 100000 in
theorem shown_any (w : World) (ht : TabAt w) : Calls Tryd.prog 8 #[] w (Ret (.bool true) w) := by
  have HE : Hid (∀ w', TabAt w' → ∀ A c, RdE w' (fun _ => True) shE.kids A → Calls Tryd.prog 14 #[.agg #[.string ⟨#[116, 119, 111]⟩, .int .i64 0, .string ⟨#[42]⟩, .slice A 2 c]] w' (Ret (.string ⟨#[40, 97, 32, 43, 32, 50, 41, 32, 42, 32, 45, 98]⟩) w')) := fun w' h A c hr => by
    have := ShowExpr_any shE shE_ok (by rw [shE_text]; decide) (fun _ => True) A c w' h hr
    rw [shE_text] at this
    exact this
  have HT := Lib.hid ht
  have HR := Lib.hid (shE_laid w)
  clear ht
  go_enter Tryd.func8, Tryd.ntmps8
  go_wp2_with (go_at_call 14; (with_reducible refine (HE.out _ (HT.out.keep (grow_alloc (grow_alloc (grow_alloc (grow_alloc (grow_refl _) _) _) _) _)) _ _ HR.out).mono ?_); rintro x w1 ⟨rfl, hb1⟩)
  go_ret
  exact ⟨rfl, grow_trans (grow_alloc (grow_alloc (grow_alloc (grow_alloc (grow_refl _) _) _) _) _) hb1⟩
end Go.Proofs.YtpfgimohginbdaaDoor

namespace Go.Proofs.YtpfgimohginbdaaDoor
open Go.RowKit

theorem letter_any (c : UInt8) (w : World) : Calls Tryd.prog 19 #[.int .u8 (c.toNat : Int)] w fun e w' => e = .returned (.bool (isLetter c)) ∧ w' = w := by
  by_cases h1 : (97 : Int) ≤ c.toNat <;> by_cases h2 : (c.toNat : Int) ≤ 122
  all_goals
    have H := Lib.hid (And.intro h1 h2)
    go_enter Tryd.func19, Tryd.ntmps19
    go_wp2_with fail
    go_ret
    exact ⟨by obtain ⟨h1, h2⟩ := H.out; unfold isLetter; simp [h1, h2], rfl⟩
theorem digit_any (c : UInt8) (w : World) : Calls Tryd.prog 21 #[.int .u8 (c.toNat : Int)] w fun e w' => e = .returned (.bool (isDigit c)) ∧ w' = w := by
  by_cases h1 : (48 : Int) ≤ c.toNat <;> by_cases h2 : (c.toNat : Int) ≤ 57
  all_goals
    have H := Lib.hid (And.intro h1 h2)
    go_enter Tryd.func21, Tryd.ntmps21
    go_wp2_with fail
    go_ret
    exact ⟨by obtain ⟨h1, h2⟩ := H.out; unfold isDigit; simp [h1, h2], rfl⟩
theorem blank_any (c : UInt8) (w : World) : Calls Tryd.prog 11 #[.int .u8 (c.toNat : Int)] w fun e w' => e = .returned (.bool (isBlank c)) ∧ w' = w := by
  cases h1 : ((c.toNat : Int) == 32) <;> cases h2 : ((c.toNat : Int) == 9) <;> cases h3 : ((c.toNat : Int) == 10)
  all_goals
    have H : Hid (isBlank c = _) := show isBlank c = _ by unfold isBlank; rw [h1, h2, h3]
    go_enter Tryd.func11, Tryd.ntmps11
    go_wp2_with fail
    go_ret
    exact ⟨by rw [H.out]; rfl, rfl⟩
theorem alnum_any (c : UInt8) (w : World) : Calls Tryd.prog 38 #[.int .u8 (c.toNat : Int)] w fun e w' => e = .returned (.bool (alnum c)) ∧ w' = w := by
  cases h1 : isLetter c <;> cases h2 : isDigit c
  all_goals
    have H : Hid (alnum c = _) := show alnum c = _ by unfold alnum; rw [h1, h2]
    go_enter Tryd.func38, Tryd.ntmps38
    go_wp2_with (first
      | (go_at_call 19; refine (letter_any _ _).mono ?_; rintro e w' ⟨rfl, rfl⟩)
      | (go_at_call 21; refine (digit_any _ _).mono ?_; rintro e w' ⟨rfl, rfl⟩))
    go_ret
    exact ⟨by rw [H.out]; rfl, rfl⟩
theorem spanL_drop (p : UInt8 → Bool) (l : List UInt8) (k : Nat) (h : k < l.length) : spanL p (l.drop k) = if p l[k] then spanL p (l.drop (k + 1)) + 1 else 0 := by
  rw [List.drop_eq_getElem_cons h]; rfl
def bytesL (s : ByteArray) : List UInt8 := s.data.toList
theorem bytesL_len (s : ByteArray) : (bytesL s).length = s.size := by unfold bytesL; rw [Array.length_toList]; rfl
theorem bytesL_get (s : ByteArray) (k : Nat) (h : k < s.size) : (bytesL s)[k]'(by rw [bytesL_len]; exact h) = s[k] := rfl
/-- Where a span that begins at k ends. -/
def spanE (p : UInt8 → Bool) (s : ByteArray) (k : Nat) : Nat := k + spanL p ((bytesL s).drop k)
theorem spanE_yes {p : UInt8 → Bool} {s : ByteArray} {k : Nat} (h : k < s.size) (hp : p s[k] = true) : spanE p s k = spanE p s (k + 1) := by
  unfold spanE
  rw [spanL_drop p (bytesL s) k (by rw [bytesL_len]; exact h), bytesL_get s k h, hp, if_pos rfl]; omega
theorem spanE_no {p : UInt8 → Bool} {s : ByteArray} {k : Nat} (h : k < s.size) (hp : p s[k] = false) : spanE p s k = k := by
  unfold spanE
  rw [spanL_drop p (bytesL s) k (by rw [bytesL_len]; exact h), bytesL_get s k h, hp]; rfl
theorem spanE_end (p : UInt8 → Bool) (s : ByteArray) : spanE p s s.size = s.size := by
  unfold spanE
  rw [List.drop_eq_nil_of_le (by rw [bytesL_len]; omega)]; rfl
theorem spanE_ge (p : UInt8 → Bool) (s : ByteArray) (k : Nat) : k ≤ spanE p s k := by unfold spanE; omega
theorem spanE_le (p : UInt8 → Bool) (s : ByteArray) (k : Nat) (h : k ≤ s.size) : spanE p s k ≤ s.size := by
  unfold spanE
  have := spanL_le p ((bytesL s).drop k)
  rw [List.length_drop, bytesL_len] at this
  omega
end Go.Proofs.YtpfgimohginbdaaDoor

namespace Go.Proofs.YtpfgimohginbdaaDoor
open Go.RowKit

theorem span_alnum (s : ByteArray) (hs : s.size ≤ 1000000000) (k : Nat) (hk : k ≤ s.size) (w : World) :
    Calls Tryd.prog 10 #[.string s, .int .i64 k, .func (.func 38) #[] #[]] w fun e w' => e = .returned (.int .i64 (spanE alnum s k : Nat)) ∧ w' = w := by
  go_enter Tryd.func10, Tryd.ntmps10
  go_wp2_with fail
  go_loop [1] (fun i => ∃ j : Nat, k ≤ j ∧ j ≤ s.size ∧ i = .int .i64 j ∧ spanE alnum s k = spanE alnum s j) (fun i => s.size - (intOf i).toNat)
  case atStart => exact ⟨k, Nat.le_refl _, hk, rfl, rfl⟩
  case round =>
    obtain ⟨j, hj1, hj2, rfl, hj3⟩ := hrel
    have HJ := Lib.hid hj3
    clear hj3
    by_cases hlt : j < s.size
    · cases hp : alnum s[j]
      · have HP := Lib.hid (spanE_no hlt hp)
        go_wp2_with (go_at_call 38; refine (alnum_any _ _).mono ?_; rintro e w' ⟨rfl, rfl⟩)
        go_ret
        exact ⟨by rw [HJ.out, HP.out]; rfl, rfl⟩
      · have HP := Lib.hid (spanE_yes hlt hp)
        go_wp2_with (go_at_call 38; refine (alnum_any _ _).mono ?_; rintro e w' ⟨rfl, rfl⟩)
        go_round
        case rel => exact ⟨j + 1, by omega, by omega, by go_num, by rw [HJ.out, HP.out]⟩
        case measure => simp [intOf]; omega
    · have hj' : j = s.size := by omega
      subst hj'
      go_wp2_with fail
      go_ret
      exact ⟨by rw [HJ.out, spanE_end]; rfl, rfl⟩
theorem span_digit (s : ByteArray) (hs : s.size ≤ 1000000000) (k : Nat) (hk : k ≤ s.size) (w : World) :
    Calls Tryd.prog 10 #[.string s, .int .i64 k, .func (.func 21) #[] #[]] w fun e w' => e = .returned (.int .i64 (spanE isDigit s k : Nat)) ∧ w' = w := by
  go_enter Tryd.func10, Tryd.ntmps10
  go_wp2_with fail
  go_loop [1] (fun i => ∃ j : Nat, k ≤ j ∧ j ≤ s.size ∧ i = .int .i64 j ∧ spanE isDigit s k = spanE isDigit s j) (fun i => s.size - (intOf i).toNat)
  case atStart => exact ⟨k, Nat.le_refl _, hk, rfl, rfl⟩
  case round =>
    obtain ⟨j, hj1, hj2, rfl, hj3⟩ := hrel
    have HJ := Lib.hid hj3
    clear hj3
    by_cases hlt : j < s.size
    · cases hp : isDigit s[j]
      · have HP := Lib.hid (spanE_no hlt hp)
        go_wp2_with (go_at_call 21; refine (digit_any _ _).mono ?_; rintro e w' ⟨rfl, rfl⟩)
        go_ret
        exact ⟨by rw [HJ.out, HP.out]; rfl, rfl⟩
      · have HP := Lib.hid (spanE_yes hlt hp)
        go_wp2_with (go_at_call 21; refine (digit_any _ _).mono ?_; rintro e w' ⟨rfl, rfl⟩)
        go_round
        case rel => exact ⟨j + 1, by omega, by omega, by go_num, by rw [HJ.out, HP.out]⟩
        case measure => simp [intOf]; omega
    · have hj' : j = s.size := by omega
      subst hj'
      go_wp2_with fail
      go_ret
      exact ⟨by rw [HJ.out, spanE_end]; rfl, rfl⟩
theorem span_blank (s : ByteArray) (hs : s.size ≤ 1000000000) (k : Nat) (hk : k ≤ s.size) (w : World) :
    Calls Tryd.prog 10 #[.string s, .int .i64 k, .func (.func 11) #[] #[]] w fun e w' => e = .returned (.int .i64 (spanE isBlank s k : Nat)) ∧ w' = w := by
  go_enter Tryd.func10, Tryd.ntmps10
  go_wp2_with fail
  go_loop [1] (fun i => ∃ j : Nat, k ≤ j ∧ j ≤ s.size ∧ i = .int .i64 j ∧ spanE isBlank s k = spanE isBlank s j) (fun i => s.size - (intOf i).toNat)
  case atStart => exact ⟨k, Nat.le_refl _, hk, rfl, rfl⟩
  case round =>
    obtain ⟨j, hj1, hj2, rfl, hj3⟩ := hrel
    have HJ := Lib.hid hj3
    clear hj3
    by_cases hlt : j < s.size
    · cases hp : isBlank s[j]
      · have HP := Lib.hid (spanE_no hlt hp)
        go_wp2_with (go_at_call 11; refine (blank_any _ _).mono ?_; rintro e w' ⟨rfl, rfl⟩)
        go_ret
        exact ⟨by rw [HJ.out, HP.out]; rfl, rfl⟩
      · have HP := Lib.hid (spanE_yes hlt hp)
        go_wp2_with (go_at_call 11; refine (blank_any _ _).mono ?_; rintro e w' ⟨rfl, rfl⟩)
        go_round
        case rel => exact ⟨j + 1, by omega, by omega, by go_num, by rw [HJ.out, HP.out]⟩
        case measure => simp [intOf]; omega
    · have hj' : j = s.size := by omega
      subst hj'
      go_wp2_with fail
      go_ret
      exact ⟨by rw [HJ.out, spanE_end]; rfl, rfl⟩
end Go.Proofs.YtpfgimohginbdaaDoor

namespace Go.Proofs.YtpfgimohginbdaaDoor
open Go.RowKit

def wordsL : List ByteArray := wordsB.map mkB
theorem word_any (s : ByteArray) (w : World) : Calls Tryd.prog 39 #[.string s] w fun e w' => e = .returned (.bool (isIn s wordsL)) ∧ w' = w.alloc (.cells (wordsL.map Value.string).toArray 9) := by
  go_enter Tryd.func39, Tryd.ntmps39
  go_wp2_with (go_at_call 49; refine (Contains_any s _ wordsL _ _ (Row.new w _ _) (by decide)).mono ?_; rintro e w' ⟨rfl, rfl⟩)
  go_ret
  exact ⟨rfl, rfl⟩
def tokV (k t : ByteArray) (n : Nat) : Value := .agg #[.string k, .string t, .int .i64 n]
theorem extract_bytes (s : ByteArray) (a b : Nat) : (s.extract a b).toList = ((bytesL s).drop a).take (b - a) := Lib.extract_toList s a b
theorem isIn_wordsL (s : ByteArray) (k : Nat) : isIn (s.extract k (spanE alnum s k)) wordsL = wordsB.any (fun x => x == ((bytesL s).drop k).take (spanL alnum ((bytesL s).drop k))) := by
  rw [wordsL, isIn_mkB, extract_bytes]
  unfold spanE
  rw [Nat.add_sub_cancel_left]
theorem named_any (s : ByteArray) (hs : s.size ≤ 1000000000) (k : Nat) (hk : k ≤ s.size) (w : World) :
    Calls Tryd.prog 20 #[.string s, .int .i64 k] w fun e w' => e = .returned (.tuple #[tokV (mkB (if isIn (s.extract k (spanE alnum s k)) wordsL then kWord else kName)) (s.extract k (spanE alnum s k)) k, .bool (isIn (s.extract k (spanE alnum s k)) wordsL || decide (spanE alnum s k - k ≤ 8))]) ∧ Below w.heap.size w w' := by
  have h1 := spanE_ge alnum s k
  have h2 := spanE_le alnum s k hk
  obtain ⟨e, he⟩ : ∃ e, spanE alnum s k = e := ⟨_, rfl⟩
  have hspan := span_alnum s hs k hk
  rw [he] at hspan h1 h2 ⊢
  have HS := Lib.hid hspan
  clear hspan he
  cases hw : isIn (s.extract k e) wordsL
  · cases h8 : decide (e - k ≤ 8)
    · have h8' : ¬ ((e - k : Nat) : Int) ≤ 8 := by have := of_decide_eq_false h8; omega
      clear h8
      go_enter Tryd.func20, Tryd.ntmps20
      go_wp2_with (first
        | (go_at_call 10; refine (HS.out _).mono ?_; rintro e w' ⟨rfl, rfl⟩)
        | (go_at_call 39; refine (word_any _ _).mono ?_; rintro e w' ⟨rfl, rfl⟩))
      go_returns
      exact ⟨by rw [decide_eq_false (by omega)]; rfl, grow_alloc (grow_alloc (grow_refl _) _) _⟩
    · have h8' : ((e - k : Nat) : Int) ≤ 8 := by have := of_decide_eq_true h8; omega
      clear h8
      go_enter Tryd.func20, Tryd.ntmps20
      go_wp2_with (first
        | (go_at_call 10; refine (HS.out _).mono ?_; rintro e w' ⟨rfl, rfl⟩)
        | (go_at_call 39; refine (word_any _ _).mono ?_; rintro e w' ⟨rfl, rfl⟩))
      go_returns
      exact ⟨rfl, grow_alloc (grow_alloc (grow_refl _) _) _⟩
  · go_enter Tryd.func20, Tryd.ntmps20
    go_wp2_with (first
      | (go_at_call 10; refine (HS.out _).mono ?_; rintro e w' ⟨rfl, rfl⟩)
      | (go_at_call 39; refine (word_any _ _).mono ?_; rintro e w' ⟨rfl, rfl⟩))
    go_returns
    exact ⟨rfl, grow_alloc (grow_alloc (grow_refl _) _) _⟩

def numOk (s : ByteArray) (k e : Nat) : Bool := decide (e - k ≤ 18) && (decide (e - k = 1) || (bytesL s).getD k 0 != 48) && (decide (e = s.size) || !isLetter ((bytesL s).getD e 0))
theorem bytesL_getD (s : ByteArray) (k : Nat) (h : k < s.size) : (bytesL s).getD k 0 = s[k] := by
  rw [List.getD_eq_getElem?_getD, List.getElem?_eq_getElem (by rw [bytesL_len]; exact h)]; rfl
theorem extract_get0 (s : ByteArray) (k e : Nat) (hk : k < s.size) (h : 0 < (s.extract k e).size) : (s.extract k e)[0]'h = s[k] := by
  rw [ByteArray.getElem_extract]; simp
set_option maxHeartbeats 2000000 in
theorem number_any (s : ByteArray) (hs : s.size ≤ 1000000000) (k : Nat) (hk : k < s.size) (hd : isDigit s[k] = true) (w : World) :
    Calls Tryd.prog 22 #[.string s, .int .i64 k] w fun e w' => e = .returned (.tuple #[tokV (mkB kNumber) (s.extract k (spanE isDigit s k)) k, .bool (numOk s k (spanE isDigit s k))]) ∧ Below w.heap.size w w' := by
  have h1 := spanE_ge isDigit s (k + 1)
  rw [← spanE_yes hk hd] at h1
  have h2 := spanE_le isDigit s k (Nat.le_of_lt hk)
  obtain ⟨e, he⟩ : ∃ e, spanE isDigit s k = e := ⟨_, rfl⟩
  have hspan := span_digit s hs k (Nat.le_of_lt hk)
  rw [he] at hspan h1 h2 ⊢
  have HS := Lib.hid hspan
  clear hspan he
  have hg0 : ∀ h : 0 < (s.extract k e).size, (s.extract k e)[0]'h = s[k] := fun h => extract_get0 s k e hk h
  have HK := Lib.hid (bytesL_getD s k hk)
  have HA18 : ∀ b, decide (e - k ≤ 18) = b → Hid (decide (e - k ≤ 18) = b) := fun _ h => h
  cases hA : decide (e - k ≤ 18)
  · have HN : Hid (numOk s k e = false) := show numOk s k e = false by unfold numOk; rw [hA]; rfl
    have hA' : ¬ ((e - k : Nat) : Int) ≤ 18 := by have := of_decide_eq_false hA; omega
    clear hA HA18
    go_enter Tryd.func22, Tryd.ntmps22
    go_wp2_with (first
      | (go_at_call 10; refine (HS.out _).mono ?_; rintro e w' ⟨rfl, rfl⟩)
      | (go_at_call 19; refine (letter_any _ _).mono ?_; rintro e w' ⟨rfl, rfl⟩))
    go_returns
    exact ⟨by rw [HN.out]; rfl, grow_alloc (grow_refl _) _⟩
  · have hA' : ((e - k : Nat) : Int) ≤ 18 := by have := of_decide_eq_true hA; omega
    have HAA := Lib.hid hA
    clear hA HA18
    cases hB : (decide (e - k = 1) || (bytesL s).getD k 0 != 48)
    · have HN : Hid (numOk s k e = false) := show numOk s k e = false by unfold numOk; rw [HAA.out, hB]; rfl
      rw [Bool.or_eq_false_iff] at hB
      obtain ⟨hB1, hB2⟩ := hB
      have hB1' : (((e - k : Nat) : Int) == 1) = false := by have := of_decide_eq_false hB1; simp; omega
      have hB2' : ((s[k].toNat : Int) == 48) = true := by rw [HK.out] at hB2; have : s[k] = 48 := by simpa using hB2
                                                          rw [this]; rfl
      have hB3' : ((s[k].toNat : Int) != 48) = false := by rw [bne, hB2']; rfl
      clear hB1 hB2 hB2'
      go_enter Tryd.func22, Tryd.ntmps22
      go_wp2_with (first
        | (go_at_call 10; refine (HS.out _).mono ?_; rintro e w' ⟨rfl, rfl⟩)
        | (go_at_call 19; refine (letter_any _ _).mono ?_; rintro e w' ⟨rfl, rfl⟩))
      go_returns
      exact ⟨by rw [HN.out]; rfl, grow_alloc (grow_refl _) _⟩
    · have HBB := Lib.hid hB
      have HN0 : ∀ b, (decide (e = s.size) || !isLetter ((bytesL s).getD e 0)) = b → numOk s k e = b := fun b h => by unfold numOk; rw [HAA.out, HBB.out, h]; rfl
      have HN1 := Lib.hid HN0
      clear HN0 hB
      have hBB : ((((e - k : Nat) : Int) == 1) = true) ∨ ((((e - k : Nat) : Int) == 1) = false ∧ ((s[k].toNat : Int) != 48) = true) := by
        by_cases h1' : e - k = 1
        · exact .inl (by rw [h1']; rfl)
        · refine .inr ⟨by simp; omega, ?_⟩
          have hb := HBB.out
          rw [HK.out, decide_eq_false h1', Bool.false_or] at hb
          have h48 : s[k] ≠ 48 := by simpa using hb
          rw [bne_iff_ne]
          intro h
          exact h48 (UInt8.toNat_inj.1 (by have : s[k].toNat = 48 := by omega
                                           rw [this]; rfl))
      rcases hBB with hB1 | ⟨hB1, hB2⟩
      · by_cases hC : e = s.size
        · have HN := Lib.hid (HN1.out true (by rw [decide_eq_true hC]; rfl))
          subst hC
          go_enter Tryd.func22, Tryd.ntmps22
          go_wp2_with (first
            | (go_at_call 10; refine (HS.out _).mono ?_; rintro e w' ⟨rfl, rfl⟩)
            | (go_at_call 19; refine (letter_any _ _).mono ?_; rintro e w' ⟨rfl, rfl⟩))
          go_returns
          exact ⟨by rw [HN.out]; rfl, grow_alloc (grow_refl _) _⟩
        · have hlt : e < s.size := by omega
          have hC' : ((e : Int) == (s.size : Int)) = false := by simp; omega
          cases hL : isLetter s[e]
          · have HN := Lib.hid (HN1.out true (by rw [bytesL_getD s e hlt, hL]; simp))
            clear hC
            go_enter Tryd.func22, Tryd.ntmps22
            go_wp2_with (first
              | (go_at_call 10; refine (HS.out _).mono ?_; rintro e w' ⟨rfl, rfl⟩)
              | (go_at_call 19; refine (letter_any _ _).mono ?_; rintro e w' ⟨rfl, rfl⟩))
            go_returns
            exact ⟨by rw [HN.out]; rfl, grow_alloc (grow_refl _) _⟩
          · have HN := Lib.hid (HN1.out false (by rw [bytesL_getD s e hlt, hL, decide_eq_false hC]; rfl))
            clear hC
            go_enter Tryd.func22, Tryd.ntmps22
            go_wp2_with (first
              | (go_at_call 10; refine (HS.out _).mono ?_; rintro e w' ⟨rfl, rfl⟩)
              | (go_at_call 19; refine (letter_any _ _).mono ?_; rintro e w' ⟨rfl, rfl⟩))
            go_returns
            exact ⟨by rw [HN.out]; rfl, grow_alloc (grow_refl _) _⟩
      · by_cases hC : e = s.size
        · have HN := Lib.hid (HN1.out true (by rw [decide_eq_true hC]; rfl))
          subst hC
          go_enter Tryd.func22, Tryd.ntmps22
          go_wp2_with (first
            | (go_at_call 10; refine (HS.out _).mono ?_; rintro e w' ⟨rfl, rfl⟩)
            | (go_at_call 19; refine (letter_any _ _).mono ?_; rintro e w' ⟨rfl, rfl⟩))
          go_returns
          exact ⟨by rw [HN.out]; rfl, grow_alloc (grow_refl _) _⟩
        · have hlt : e < s.size := by omega
          have hC' : ((e : Int) == (s.size : Int)) = false := by simp; omega
          cases hL : isLetter s[e]
          · have HN := Lib.hid (HN1.out true (by rw [bytesL_getD s e hlt, hL]; simp))
            clear hC
            go_enter Tryd.func22, Tryd.ntmps22
            go_wp2_with (first
              | (go_at_call 10; refine (HS.out _).mono ?_; rintro e w' ⟨rfl, rfl⟩)
              | (go_at_call 19; refine (letter_any _ _).mono ?_; rintro e w' ⟨rfl, rfl⟩))
            go_returns
            exact ⟨by rw [HN.out]; rfl, grow_alloc (grow_refl _) _⟩
          · have HN := Lib.hid (HN1.out false (by rw [bytesL_getD s e hlt, hL, decide_eq_false hC]; rfl))
            clear hC
            go_enter Tryd.func22, Tryd.ntmps22
            go_wp2_with (first
              | (go_at_call 10; refine (HS.out _).mono ?_; rintro e w' ⟨rfl, rfl⟩)
              | (go_at_call 19; refine (letter_any _ _).mono ?_; rintro e w' ⟨rfl, rfl⟩))
            go_returns
            exact ⟨by rw [HN.out]; rfl, grow_alloc (grow_refl _) _⟩
end Go.Proofs.YtpfgimohginbdaaDoor

namespace Go.Proofs.YtpfgimohginbdaaDoor
open Go.RowKit

def pfxB (a x : ByteArray) : Bool := decide ((x.size : Int) ≤ a.size) && ((a.extract 0 x.size).toList == x.toList)
theorem hasPrefix_any (a x : ByteArray) (w : World) : Calls Tryd.prog 40 #[.string a, .string x] w fun e w' => e = .returned (.bool (pfxB a x)) ∧ w' = w := by
  by_cases h : (x.size : Int) ≤ a.size
  · have H := Lib.hid (show pfxB a x = ((a.extract 0 x.size).toList == x.toList) by unfold pfxB; rw [decide_eq_true h, Bool.true_and])
    go_enter Tryd.func40, Tryd.ntmps40
    go_wp2
    go_ret
    exact ⟨by rw [H.out]; rfl, rfl⟩
  · have H := Lib.hid (show pfxB a x = false by unfold pfxB; rw [decide_eq_false h, Bool.false_and])
    go_enter Tryd.func40, Tryd.ntmps40
    go_wp2
    go_ret
    exact ⟨by rw [H.out]; rfl, rfl⟩
theorem pfx_two (s : ByteArray) (k : Nat) (hk : k ≤ s.size) (l : List UInt8) (hl : l.length = 2) : pfxB (s.extract k s.size) (mkB l) = (((bytesL s).drop k).take 2 == l) := by
  have hsz : (mkB l).size = 2 := by unfold mkB; rw [← hl]; rfl
  have hL : ((bytesL s).drop k).length = s.size - k := by rw [List.length_drop, bytesL_len]
  unfold pfxB
  rw [hsz, mkB_toList]
  have e1 : ((s.extract k s.size).extract 0 2).toList = ((bytesL s).drop k).take 2 := by
    rw [extract_bytes, show bytesL (s.extract k s.size) = ((bytesL s).drop k).take (s.size - k) from Lib.extract_data s k s.size]
    rw [← hL, List.take_length]; simp
  rw [e1, ByteArray.size_extract]
  by_cases h2 : 2 ≤ s.size - k
  · rw [decide_eq_true (by omega), Bool.true_and]
  · rw [decide_eq_false (by omega), Bool.false_and]
    symm
    rw [beq_eq_false_iff_ne]
    intro e
    have := congrArg List.length e
    rw [List.length_take, hL, hl] at this
    omega
def onesS : ByteArray := ⟨#[43, 45, 42, 47, 37, 38, 124, 94, 60, 33, 61, 40, 41, 123, 125, 44, 59]⟩
theorem firstIdx_ones (c : UInt8) : decide (firstIdx onesS c ≥ 0) = onesB.any (fun x => x == c) := by
  have h : ∀ n : Fin 256, decide (firstIdx onesS (UInt8.ofNat n.val) ≥ 0) = onesB.any (fun x => x == UInt8.ofNat n.val) := by decide +kernel
  have := h ⟨c.toNat, c.toNat_lt⟩
  rwa [show UInt8.ofNat c.toNat = c from UInt8.ofNat_toNat] at this
theorem indexByte_ones (c : UInt8) (w : World) : Calls Tryd.prog 41 #[.string ⟨#[43, 45, 42, 47, 37, 38, 124, 94, 60, 33, 61, 40, 41, 123, 125, 44, 59]⟩, .int .u8 (c.toNat : Int)] w fun e w' => e = .returned (.int .i64 (firstIdx onesS c)) ∧ w' = w := by
  have h1 := @run_callFunc_indexByte Tryd.prog 65 _ Tryd.func65 (by kernel_rfl) (by kernel_rfl) (by kernel_rfl) (by kernel_rfl)
  have h2 := run_indexByte_string (P := Tryd.prog) ⟨#[43, 45, 42, 47, 37, 38, 124, 94, 60, 33, 61, 40, 41, 123, 125, 44, 59]⟩ (c.toNat : Int)
  have h3 : ((c.toNat : Int).toNat.toUInt8) = c := by simp
  go_enter Tryd.func41, Tryd.ntmps41
  go_wp2
  go_ret
  exact ⟨rfl, rfl⟩
def twosS : List ByteArray := twosB.map mkB
theorem bytes_ext {a b : ByteArray} (h : a.toList = b.toList) : a = b := by
  have ha := ByteArray.toList_mk a.data.toList
  have hb := ByteArray.toList_mk b.data.toList
  simp only [Array.toArray_toList] at ha hb
  have : a.data.toList = b.data.toList := by rw [← ha, ← hb]; exact h
  cases a; cases b
  simp only at this
  rw [Array.toList_inj.1 this]
theorem eq_mkB {a : ByteArray} {l : List UInt8} (h : a.toList = l) : a = mkB l := bytes_ext (by rw [mkB_toList, h])
def signTxt (t : List UInt8) (o : ByteArray) : ByteArray := if twosB.any (fun x => x == t) then mkB t else o
def signOk (t : List UInt8) (c : UInt8) : Bool := twosB.any (fun x => x == t) || onesB.any (fun x => x == c)
set_option maxRecDepth 100000 in
/-- Is one of the two-byte signs, from the k-th on, the next word? -/
theorem sign_any (s : ByteArray) (hs : s.size ≤ 1000000000) (k : Nat) (hk : k < s.size) (w : World) :
    Calls Tryd.prog 23 #[.string s, .int .i64 k] w fun e w' => e = .returned (.tuple #[tokV (mkB kSign) (signTxt (((bytesL s).drop k).take 2) (s.extract k (k + 1))) k, .bool (signOk (((bytesL s).drop k).take 2) s[k])]) ∧ Below w.heap.size w w' := by
  obtain ⟨t, ht⟩ : ∃ t, ((bytesL s).drop k).take 2 = t := ⟨_, rfl⟩
  rw [ht]
  have hp : ∀ j (h : j < 5), pfxB (s.extract k s.size) (twosS[j]'h) = ((twosB[j]'h) == t) := by
    intro j h
    rw [show twosS[j]'h = mkB (twosB[j]'h) from List.getElem_map _, pfx_two s k (by omega) _ (by revert j; decide), ht]
    exact BEq.comm
  have HP := Lib.hid hp
  clear hp ht
  have hsz : (s.extract k s.size).size = s.size - k := by rw [ByteArray.size_extract]; omega
  have hrow : ∀ j (h : j < 5), ((w.alloc (Obj.cells #[.string ⟨#[]⟩, .string ⟨#[]⟩, .int .i64 0] 32)).alloc (Obj.cells #[.string ⟨#[60, 60]⟩, .string ⟨#[62, 62]⟩, .string ⟨#[60, 61]⟩, .string ⟨#[61, 61]⟩, .string ⟨#[33, 61]⟩] 9)).cell? ⟨w.heap.size + 1, j, none⟩ = some (.string (twosS[j]'h)) := by
    intro j h
    obtain ⟨b, off, e, hc⟩ := Row.new (w.alloc (Obj.cells #[.string ⟨#[]⟩, .string ⟨#[]⟩, .int .i64 0] 32)) (twosS.map Value.string).toArray 9 j (.string (twosS[j]'h)) (strs_get (xs := twosS) h)
    simp only [Option.some.injEq, Addr.mk.injEq, and_true] at e
    obtain ⟨rfl, rfl⟩ := e
    rw [Nat.zero_add, show (w.alloc (Obj.cells #[.string ⟨#[]⟩, .string ⟨#[]⟩, .int .i64 0] 32)).heap.size = w.heap.size + 1 by simp] at hc
    exact hc
  go_enter Tryd.func23, Tryd.ntmps23
  go_wp2_with fail
  go_loop [10] (fun i => ∃ j : Nat, j ≤ 5 ∧ i = .int .i64 j ∧ twosB.any (fun x => x == t) = (twosB.drop j).any (fun x => x == t)) (fun i => 5 - (intOf i).toNat)
  case atStart => exact ⟨0, by omega, rfl, rfl⟩
  case round =>
    obtain ⟨j, hj, rfl, hJ⟩ := hrel
    have HJ := Lib.hid hJ
    clear hJ
    by_cases hlt : j < 5
    · have hc := hrow j hlt
      clear hrow
      have HD := Lib.hid (show (twosB.drop j).any (fun x => x == t) = ((twosB[j]'hlt == t) || (twosB.drop (j + 1)).any (fun x => x == t)) by rw [List.drop_eq_getElem_cons (by exact hlt), List.any_cons])
      cases hp : pfxB (s.extract k s.size) (twosS[j]'hlt)
      · have HE := Lib.hid (hp.symm.trans (HP.out j hlt))
        go_wp2_with (go_at_call 40; refine (hasPrefix_any _ _ _).mono ?_; rintro e w' ⟨rfl, rfl⟩)
        go_round
        case rel => exact ⟨j + 1, by omega, by go_num, by rw [HJ.out, HD.out, ← HE.out]; rfl⟩
        case measure => simp [intOf]; omega
      · have HE := Lib.hid (hp.symm.trans (HP.out j hlt))
        have HT : Hid (twosS[j]'hlt = mkB t) := by
          have := HE.out.symm
          rw [beq_iff_eq] at this
          rw [← this]
          exact List.getElem_map _
        go_wp2_with (go_at_call 40; refine (hasPrefix_any _ _ _).mono ?_; rintro e w' ⟨rfl, rfl⟩)
        go_returns
        have hany : twosB.any (fun x => x == t) = true := by rw [HJ.out, HD.out, ← HE.out]; rfl
        refine ⟨?_, ?_⟩
        · rw [show signTxt t (s.extract k (k + 1)) = mkB t by unfold signTxt; rw [if_pos hany], show signOk t s[k] = true by unfold signOk; rw [hany]; rfl, ← HT.out]; rfl
        · exact grow_alloc (grow_alloc (grow_refl _) _) _
    · have hj' : j = 5 := by omega
      subst hj'
      have HN : Hid (twosB.any (fun x => x == t) = false) := HJ.out
      have HB := Lib.hid (firstIdx_ones s[k])
      clear hrow
      go_wp2_with fail
      have q1 : IntKind.i64.wrap ((k : Int) + 1) = (k : Int) + 1 := IntWalk.i64_in _ (by omega)
      have q2 : (0 : Int) ≤ (k : Int) + 1 := by omega
      have q3 : ((k : Int) + 1).toNat = k + 1 := by omega
      have q4 : (k : Int) + 1 ≤ (s.size : Int) := by omega
      have q5 : (k : Int) ≤ (k : Int) + 1 := by omega
      have q6 : (k : Int) < (s.size : Int) := by omega
      go_region_with ((go_at_call 41; refine (indexByte_ones _ _).mono ?_; rintro e w' ⟨rfl, rfl⟩))
      all_goals go_wp2_with fail
      all_goals go_returns
      all_goals exact ⟨by rw [show signTxt t (s.extract k (k + 1)) = s.extract k (k + 1) by unfold signTxt; rw [HN.out]; rfl, show signOk t s[k] = decide (0 ≤ firstIdx onesS s[k]) by unfold signOk; rw [HN.out, ← HB.out]; rfl]; rfl, grow_drew (grow_alloc (grow_alloc (grow_refl _) _) _) 1⟩
end Go.Proofs.YtpfgimohginbdaaDoor

namespace Go.Proofs.YtpfgimohginbdaaDoor
open Go.RowKit

theorem bytes_cons {s : ByteArray} {k : Nat} (h : k < s.size) : (bytesL s).drop k = s[k] :: (bytesL s).drop (k + 1) := List.drop_eq_getElem_cons (l := bytesL s) (by rw [bytesL_len]; exact h)
theorem ext_mk (s : ByteArray) (a b : Nat) : s.extract a b = mkB (((bytesL s).drop a).take (b - a)) := eq_mkB (extract_bytes s a b)
theorem spanE_sub (p : UInt8 → Bool) (s : ByteArray) (k : Nat) : spanE p s k - k = spanL p ((bytesL s).drop k) := by unfold spanE; omega
/-- What the token at k is, as the code returns it. -/
def tokR (s : ByteArray) (k : Nat) : Value := .tuple #[tokV (mkB (tokAt ((bytesL s).drop k)).1) (mkB (((bytesL s).drop k).take (tokAt ((bytesL s).drop k)).2.1)) k, .bool (tokAt ((bytesL s).drop k)).2.2]
theorem named_tok (s : ByteArray) (k : Nat) (hk : k < s.size) (h : isLetter s[k] = true) : (.tuple #[tokV (mkB (if isIn (s.extract k (spanE alnum s k)) wordsL then kWord else kName)) (s.extract k (spanE alnum s k)) k, .bool (isIn (s.extract k (spanE alnum s k)) wordsL || decide (spanE alnum s k - k ≤ 8))] : Value) = tokR s k := by
  unfold tokR
  rw [isIn_wordsL, ext_mk, spanE_sub, bytes_cons hk, tokAt_letter _ _ h]
theorem numOk_eq (s : ByteArray) (k : Nat) (hk : k < s.size) : numOk s k (spanE isDigit s k) = numL s[k] ((bytesL s).drop k) (spanL isDigit ((bytesL s).drop k)) := by
  unfold numOk numL
  have h2 := spanE_le isDigit s k (Nat.le_of_lt hk)
  have hq := spanE_sub isDigit s k
  have hd : ((bytesL s).drop k).drop (spanL isDigit ((bytesL s).drop k)) = (bytesL s).drop (spanE isDigit s k) := by rw [List.drop_drop]; rfl
  rw [hd, ← hq, bytesL_getD s k hk]
  clear hd hq
  generalize spanE isDigit s k = e at *
  by_cases h : e = s.size
  · subst h
    rw [List.drop_eq_nil_of_le (by rw [bytesL_len]; omega), decide_eq_true rfl, Bool.true_or]
  · rw [decide_eq_false h, bytesL_getD s _ (by omega), bytes_cons (s := s) (k := e) (by omega), Bool.false_or]
theorem number_tok (s : ByteArray) (k : Nat) (hk : k < s.size) (h : isLetter s[k] = false) (hd : isDigit s[k] = true) : (.tuple #[tokV (mkB kNumber) (s.extract k (spanE isDigit s k)) k, .bool (numOk s k (spanE isDigit s k))] : Value) = tokR s k := by
  unfold tokR
  rw [numOk_eq s k hk, ext_mk, spanE_sub, bytes_cons hk, tokAt_digit _ _ h hd]
theorem sign_tok (s : ByteArray) (k : Nat) (hk : k < s.size) (h : isLetter s[k] = false) (hd : isDigit s[k] = false) : (.tuple #[tokV (mkB kSign) (signTxt (((bytesL s).drop k).take 2) (s.extract k (k + 1))) k, .bool (signOk (((bytesL s).drop k).take 2) s[k])] : Value) = tokR s k := by
  unfold tokR signTxt signOk
  rw [ext_mk, show k + 1 - k = 1 by omega, bytes_cons hk, tokAt_sign _ _ h hd]
  cases twosB.any (fun x => x == (s[k] :: (bytesL s).drop (k + 1)).take 2) <;> rfl
theorem new_row {w w' : World} {cs : Array Value} {t : TypeId} (hb : Below (w.alloc (.cells cs t)).heap.size (w.alloc (.cells cs t)) w') : w'.heap[w.heap.size]? = some (.cells cs t (0, 0)) :=
  (hb.block w.heap.size (by simp)).trans (heap_alloc_new w _)
theorem three_new {w w' : World} {x y z : Value} {t : TypeId} (hb : Below (w.alloc (.cells #[x, y, z] t)).heap.size (w.alloc (.cells #[x, y, z] t)) w') :
    w'.cell? ⟨w.heap.size, 0, none⟩ = some x ∧ w'.cell? ⟨w.heap.size, 1, none⟩ = some y ∧ w'.cell? ⟨w.heap.size, 2, none⟩ = some z ∧ ∀ j, w'.frozen? ⟨w.heap.size, j, none⟩ = false := by
  have h := new_row hb
  exact ⟨cell_of_row w' _ 0 _ _ _ h, cell_of_row w' _ 1 _ _ _ h, cell_of_row w' _ 2 _ _ _ h, fun j => frozen_of_row w' _ j _ _ h⟩
theorem two_new {w w' : World} {x y : Value} {t : TypeId} (hb : Below (w.alloc (.cells #[x, y] t)).heap.size (w.alloc (.cells #[x, y] t)) w') :
    w'.cell? ⟨w.heap.size, 0, none⟩ = some x ∧ w'.cell? ⟨w.heap.size, 1, none⟩ = some y ∧ ∀ j, w'.frozen? ⟨w.heap.size, j, none⟩ = false := by
  have h := new_row hb
  exact ⟨cell_of_row w' _ 0 _ _ _ h, cell_of_row w' _ 1 _ _ _ h, fun j => frozen_of_row w' _ j _ _ h⟩
attribute [local go_sem] tokV
theorem token_any (s : ByteArray) (hs : s.size ≤ 1000000000) (k : Nat) (hk : k < s.size) (w : World) :
    Calls Tryd.prog 12 #[.string s, .int .i64 k] w (Ret (tokR s k) w) := by
  have hkk : (k : Int) < (s.size : Int) := by omega
  cases hl : isLetter s[k]
  · cases hd : isDigit s[k]
    · have H := Lib.hid (sign_tok s k hk hl hd)
      go_enter Tryd.func12, Tryd.ntmps12
      go_wp2_with (first
        | (go_at_call 19; refine (letter_any _ _).mono ?_; rintro e w' ⟨rfl, rfl⟩)
        | (go_at_call 21; refine (digit_any _ _).mono ?_; rintro e w' ⟨rfl, rfl⟩)
        | (go_at_call 23; refine (sign_any s hs k hk _).mono ?_; rintro e w' ⟨rfl, hb⟩; have Hb := Lib.hid hb; obtain ⟨c0, c1, c2, cf⟩ := three_new hb; clear hb))
      (try simp only [Exit.inBlock, Exit.then]); refine bodyPost_ret (by simp [results, Tryd.results12, go_sem, c0, c1, c2]; try rfl) rfl ?_
      exact ⟨by rw [← H.out]; rfl, ((((Below.refl _ _).alloc (Nat.le_refl _) _).trans (Hb.out.mono (by simp))).setCell (Nat.le_refl _) _).setCell (Nat.le_refl _) _ |>.setCell (Nat.le_refl _) _⟩
    · have H := Lib.hid (number_tok s k hk hl hd)
      go_enter Tryd.func12, Tryd.ntmps12
      go_wp2_with (first
        | (go_at_call 19; refine (letter_any _ _).mono ?_; rintro e w' ⟨rfl, rfl⟩)
        | (go_at_call 21; refine (digit_any _ _).mono ?_; rintro e w' ⟨rfl, rfl⟩)
        | (go_at_call 22; refine (number_any s hs k hk (by exact hd) _).mono ?_; rintro e w' ⟨rfl, hb⟩; have Hb := Lib.hid hb; obtain ⟨c0, c1, c2, cf⟩ := three_new hb; clear hb))
      (try simp only [Exit.inBlock, Exit.then]); refine bodyPost_ret (by simp [results, Tryd.results12, go_sem, c0, c1, c2]; try rfl) rfl ?_
      exact ⟨by rw [← H.out]; rfl, ((((Below.refl _ _).alloc (Nat.le_refl _) _).trans (Hb.out.mono (by simp))).setCell (Nat.le_refl _) _).setCell (Nat.le_refl _) _ |>.setCell (Nat.le_refl _) _⟩
  · have hn := fun w => named_any s hs k (Nat.le_of_lt hk) w
    have h := named_tok s k hk hl
    generalize mkB (if isIn (s.extract k (spanE alnum s k)) wordsL then kWord else kName) = K at hn h
    generalize (isIn (s.extract k (spanE alnum s k)) wordsL || decide (spanE alnum s k - k ≤ 8)) = B at hn h
    have H := Lib.hid h
    have HN := Lib.hid hn
    clear h hn
    go_enter Tryd.func12, Tryd.ntmps12
    go_wp2_with (first
      | (go_at_call 19; refine (letter_any _ _).mono ?_; rintro e w' ⟨rfl, rfl⟩)
      | (go_at_call 20; refine (HN.out _).mono ?_; rintro e w' ⟨rfl, hb⟩; have Hb := Lib.hid hb; obtain ⟨c0, c1, c2, cf⟩ := three_new hb; clear hb))
    (try simp only [Exit.inBlock, Exit.then]); refine bodyPost_ret (by simp [results, Tryd.results12, go_sem, c0, c1, c2]; try rfl) rfl ?_
    exact ⟨by rw [← H.out]; rfl, ((((Below.refl _ _).alloc (Nat.le_refl _) _).trans (Hb.out.mono (by simp))).setCell (Nat.le_refl _) _).setCell (Nat.le_refl _) _ |>.setCell (Nat.le_refl _) _⟩
end Go.Proofs.YtpfgimohginbdaaDoor

namespace Go.Proofs.YtpfgimohginbdaaDoor
open Go.RowKit

theorem tokInfo : (Tryd.prog.info? 32).map (fun i => (i.zero, i.size, i.bytes)) = some (some (.agg #[.string ⟨#[]⟩, .string ⟨#[]⟩, .int .i64 0]), 3, 40) := by kernel_rfl
theorem mkB_size (l : List UInt8) : (mkB l).size = l.length := rfl
def tokCells (t : Tok) : List Value := [.string (mkB t.kind), .string (mkB t.text), .int .i64 t.pos]
theorem tokCells_len (ts : List Tok) : (ts.flatMap tokCells).length = ts.length * 3 := by
  induction ts with
  | nil => rfl
  | cons t ts ih => rw [List.flatMap_cons, List.length_append, ih]; simp [tokCells]; omega
theorem read_step (s : ByteArray) (j : Nat) (hj : j ≤ s.size) : ∃ e, spanE isBlank s j = e ∧ j ≤ e ∧ e ≤ s.size ∧ (e = s.size → lexA ((bytesL s).drop j) j = ([], none)) ∧
    (e < s.size → ∃ K T n b, tokR s e = .tuple #[tokV K T e, .bool b] ∧ T.size = n ∧ 0 < n ∧ e + n ≤ s.size ∧ (b = false → lexA ((bytesL s).drop j) j = ([], some e)) ∧
      (b = true → ∃ t : Tok, tokCells t = [.string K, .string T, .int .i64 e] ∧ lexA ((bytesL s).drop j) j = (t :: (lexA ((bytesL s).drop (e + n)) (e + n)).1, (lexA ((bytesL s).drop (e + n)) (e + n)).2))) := by
  have hd : ((bytesL s).drop j).drop (spanL isBlank ((bytesL s).drop j)) = (bytesL s).drop (spanE isBlank s j) := by rw [List.drop_drop]; rfl
  have hE : j + spanL isBlank ((bytesL s).drop j) = spanE isBlank s j := rfl
  have h1 := spanE_ge isBlank s j
  have h2 := spanE_le isBlank s j hj
  refine ⟨_, rfl, h1, h2, ?_, ?_⟩
  · intro he
    exact lexA_nil _ _ (by rw [hd, he]; exact List.drop_eq_nil_of_le (by rw [bytesL_len]; omega))
  · intro hlt
    have hc := bytes_cons hlt
    have hb := tokAt_bounds s[spanE isBlank s j] ((bytesL s).drop (spanE isBlank s j + 1))
    rw [← hc, List.length_drop, bytesL_len] at hb
    refine ⟨_, _, (tokAt ((bytesL s).drop (spanE isBlank s j))).2.1, _, rfl, ?_, hb.1, by omega, ?_, ?_⟩
    · rw [mkB_size, List.length_take, List.length_drop, bytesL_len]; omega
    · intro hf
      rw [lexA_bad _ _ _ _ (hd.trans hc) (by rw [← hc]; exact hf), hE]
    · intro hf
      refine ⟨⟨_, _, spanE isBlank s j⟩, rfl, ?_⟩
      rw [lexA_tok _ _ _ _ (hd.trans hc) (by rw [← hc]; exact hf), ← hc, hE, List.drop_drop]
/-- What lex.Read leaves: a slice of tokens and an error. -/
def ReadVal (s : ByteArray) (KT KB KF : Addr) (w : World) (base : Nat) (sl er : Value) : Prop :=
  (4000 < s.size ∧ sl = .slice none 0 0 ∧ er = esV KB) ∨
  (s.size ≤ 4000 ∧ ∃ p fb : Nat, (lexA (bytesL s) 0).2 = some p ∧ sl = .slice none 0 0 ∧ er = ftV ⟨fb, 0, none⟩ ∧ w.cell? ⟨fb, 0, none⟩ = some (.int .i64 p) ∧ w.cell? ⟨fb, 1, none⟩ = some (esV KT)) ∨
  (s.size ≤ 4000 ∧ (lexA (bytesL s) 0).2 = none ∧ 1000 < (lexA (bytesL s) 0).1.length ∧ sl = .slice none 0 0 ∧ er = esV KF) ∨
  (s.size ≤ 4000 ∧ (lexA (bytesL s) 0).2 = none ∧ (lexA (bytesL s) 0).1.length ≤ 1000 ∧ er = .nilIface ∧ w.ownsRow base 32 3 sl (lexA (bytesL s) 0).1.length ((lexA (bytesL s) 0).1.flatMap tokCells))
attribute [local go_sem] tokV
set_option maxRecDepth 100000 in
set_option maxHeartbeats 1000000 in
theorem Read_any (s : ByteArray) (hs : s.size ≤ 1000000000) (KT KB KF : Addr) (w : World) (hT : w.cell? ⟨1, 0, none⟩ = some (esV KT)) (hB : w.cell? ⟨0, 0, none⟩ = some (esV KB)) (hF : w.cell? ⟨2, 0, none⟩ = some (esV KF)) :
    Calls Tryd.prog 6 #[.string s] w fun e w' => ∃ sl er, e = .returned (.tuple #[sl, er]) ∧ ReadVal s KT KB KF w' w.heap.size sl er ∧ Below w.heap.size w w' := by
  have gT := World.block_lt_of_cell? w _ hT
  have gB := World.block_lt_of_cell? w _ hB
  have gF := World.block_lt_of_cell? w _ hF
  obtain ⟨ti, hi, hz0, hz1, hz2⟩ := info_parts tokInfo
  by_cases h4 : s.size ≤ 4000
  · have h4' : (s.size : Int) ≤ 4000 := by omega
    have H4 := Lib.hid h4
    clear h4
    go_enter Tryd.func6, Tryd.ntmps6
    go_wp2_with fail
    go_loopw [4, 5] (fun v i wr => ∃ (j : Nat) (ts : List Tok), j ≤ s.size ∧ ts.length ≤ j ∧ i = .int .i64 j ∧ lexA (bytesL s) 0 = (ts ++ (lexA ((bytesL s).drop j) j).1, (lexA ((bytesL s).drop j) j).2) ∧ wr.ownsRow w.heap.size 32 3 v ts.length (ts.flatMap tokCells) ∧ Below w.heap.size w wr) (fun _ i _ => s.size - (intOf i).toNat)
    case atStart => exact ⟨0, [], Nat.zero_le _, Nat.le_refl _, rfl, rfl, World.ownsRow_nil _ _ _ _, Below.refl _ _⟩
    case round =>
      obtain ⟨j, ts, hj, htj, rfl, hL, hO, hW⟩ := hrel
      obtain ⟨e, he, hje, hes, hend, hgo⟩ := read_step s j hj
      have HL := Lib.hid hL
      have HE := Lib.hid (show ∀ w, Calls Tryd.prog 10 #[.string s, .int .i64 j, .func (.func 11) #[] #[]] w fun x w' => x = .returned (.int .i64 (e : Nat)) ∧ w' = w from fun w => he ▸ span_blank s hs j hj w)
      clear hL he
      by_cases hlt : e < s.size
      · obtain ⟨K, T, n, b, hR, hTn, hn0, hns, hbf, hbt⟩ := hgo hlt
        have HT := Lib.hid (show ∀ w, Calls Tryd.prog 12 #[.string s, .int .i64 e] w (Ret (.tuple #[tokV K T e, .bool b]) w) from fun w => hR ▸ token_any s hs e hlt w)
        have HF := Lib.hid hbf
        have HG := Lib.hid hbt
        clear hgo hR hbf hbt hend
        have hne : ((e : Int) == (s.size : Int)) = false := by simp; omega
        have hT0 : ∀ w', Below w.heap.size w w' → w'.cell? ⟨1, 0, none⟩ = some (esV KT) := fun w' h => (h.cell gT).trans hT
        have HT0 := Lib.hid hT0
        clear hT0
        cases b
        · have HX : Hid ((lexA (bytesL s) 0).2 = some e) := by have := HL.out; rw [HF.out rfl] at this; rw [this]; rfl
          have HO := Lib.hid hO
          clear hO
          go_wp2_with (first
            | (go_at_call 10; refine (HE.out _).mono ?_; rintro x wr ⟨rfl, rfl⟩)
            | (go_at_call 12; refine (HT.out _).mono ?_; rintro x w' ⟨rfl, hb⟩; have hT1 := HT0.out w' (hW.trans (hb.mono hW.size))))
          have hT2 : (w'.alloc (.cells #[.string K, .string T, .int .i64 e] 32)).cell? ⟨1, 0, none⟩ = some (esV KT) := HT0.out _ ((hW.trans (hb.mono hW.size)).alloc (Nat.le_trans hW.size hb.size) _)
          go_region
          all_goals go_wp2_with fail
          all_goals go_ret2
          all_goals refine ⟨_, _, rfl, .inr (.inl ⟨H4.out, e, _, HX.out, rfl, rfl, ?_, ?_⟩), ?_⟩
          · simp
          · simp
          · exact ((((hW.trans (hb.mono hW.size)).alloc (Nat.le_trans hW.size hb.size) _).alloc (by simp; have := hW.size; have := hb.size; omega) _).drew)
        · have HO := Lib.hid hO
          clear hO
          obtain ⟨t, ht, hlt2⟩ := HG.out rfl
          have HQ := Lib.hid (And.intro ht hlt2)
          clear ht hlt2 HG HF
          go_wp2_with (first
            | (go_at_call 10; refine (HE.out _).mono ?_; rintro x wr ⟨rfl, rfl⟩)
            | (go_at_call 12; refine (HT.out _).mono ?_; rintro x w' ⟨rfl, hb⟩)
            | (at_builtin; refine wpList_append_own _ rfl _ _ 23 rfl w.heap.size 32 ti _ 3 40 Tryd.underlying23 hi hz0 hz1 hz2 rfl (by decide) _ _ _ rfl (((ownsRow_below HO.out hb).alloc _).alloc _) ⟨w'.heap.size + 1, 0, none⟩ 1 1 [.string K, .string T, .int .i64 e] rfl rfl ?c1 ?c2 ?c3 ?c4 ?c5 ?_))
          case c1 =>
            intro i u hu
            match i, hu with
            | 0, hu => simp at hu; subst hu; simp [Addr.add]
            | 1, hu => simp at hu; subst hu; simp [Addr.add]
            | 2, hu => simp at hu; subst hu; simp [Addr.add]
          case c2 => intro u hu; simp at hu; rcases hu with rfl | rfl | rfl <;> rfl
          case c3 => unfold maxLen; omega
          case c4 => omega
          case c5 => have := hW.size; have := hb.size; simp; omega
          · intro v' w1 hown' hgrow _
            have hbl := HO.out.lt
            have f1 : w1.cell? ⟨w'.heap.size, 1, none⟩ = some (.string T) := hgrow.cell (by simp) (fun h => by have q : w'.heap.size < wr.heap.size := (hbl _ h.symm).2; have := hb.size; omega)
            have hW1 : Below w.heap.size w w1 := Below.grown (((hW.trans (hb.mono hW.size)).alloc (Nat.le_trans hW.size hb.size) _).alloc (by simp; have := hW.size; have := hb.size; omega) _) hgrow (by simp; have := hW.size; have := hb.size; omega) (fun k hk => (hbl k hk).1)
            have HO1 : Hid (w1.ownsRow w.heap.size 32 3 v' (ts ++ [t]).length ((ts ++ [t]).flatMap tokCells)) := by
              have := HQ.out.1
              show w1.ownsRow _ _ _ _ _ _
              rw [List.flatMap_append, List.length_append, List.flatMap_singleton, this]
              exact hown'
            have HL1 : Hid (lexA (bytesL s) 0 = ((ts ++ [t]) ++ (lexA ((bytesL s).drop (e + n)) (e + n)).1, (lexA ((bytesL s).drop (e + n)) (e + n)).2)) := by
              have := HL.out
              rw [HQ.out.2] at this
              show lexA _ _ = _
              rw [this, List.append_assoc]; rfl
            clear hown' hgrow hbl hb
            have HW1 := Lib.hid hW1
            clear hW1 hW
            go_wp2_with fail
            go_roundw
            case rel => exact ⟨e + n, ts ++ [t], hns, by simp; omega, by go_num, HL1.out, HO1.out, HW1.out⟩
            case measure => simp [intOf]; omega
      · have hes' : e = s.size := by omega
        subst hes'
        have HN : Hid (lexA (bytesL s) 0 = (ts, none)) := HL.out.trans (by rw [hend rfl, List.append_nil])
        have hee : ((s.size : Int) == (s.size : Int)) = true := by simp
        clear hend hgo
        obtain ⟨A, c, rfl⟩ := owns_slice hO
        have HO := Lib.hid hO
        clear hO
        by_cases hk : (1000 : Int) < ts.length
        · have hF1 : wr.cell? ⟨2, 0, none⟩ = some (esV KF) := (hW.cell gF).trans hF
          go_wp2_with (go_at_call 10; refine (HE.out _).mono ?_; rintro x wr ⟨rfl, rfl⟩)
          go_quiet (fail)
          go_wp2_with fail
          go_ret2
          exact ⟨_, _, rfl, .inr (.inr (.inl ⟨H4.out, by rw [HN.out], by rw [HN.out]; show 1000 < ts.length; omega, rfl, rfl⟩)), below_drewN hW _⟩
        · have hk' : (ts.length : Int) ≤ 1000 := by omega
          go_wp2_with (go_at_call 10; refine (HE.out _).mono ?_; rintro x wr ⟨rfl, rfl⟩)
          go_ret2
          exact ⟨_, _, rfl, .inr (.inr (.inr ⟨H4.out, by rw [HN.out], by rw [HN.out]; show ts.length ≤ 1000; omega, rfl, by rw [HN.out]; exact HO.out⟩)), hW⟩
  · have h4' : ¬ (s.size : Int) ≤ 4000 := by omega
    go_enter Tryd.func6, Tryd.ntmps6
    go_wp2_with fail
    go_quiet (fail)
    go_wp2_with fail
    go_ret2
    exact ⟨_, _, rfl, .inl ⟨by omega, rfl, rfl⟩, below_drewN (Below.refl _ _) _⟩
end Go.Proofs.YtpfgimohginbdaaDoor

namespace Go.Proofs.YtpfgimohginbdaaDoor
open Go.RowKit

/-! the package's parser in memory -/
/-- w' is w with new blocks, and block q turned. -/
structure But (q : Nat) (w w' : World) : Prop where
  os : w'.os = w.os
  tape : w'.tape = w.tape
  output : w'.output = w.output
  size : w.heap.size ≤ w'.heap.size
  block : ∀ k, k < w.heap.size → k ≠ q → w'.heap[k]? = w.heap[k]?
theorem But.refl (q : Nat) (w : World) : But q w w := ⟨rfl, rfl, rfl, Nat.le_refl _, fun _ _ _ => rfl⟩
theorem But.trans {q : Nat} {a b c : World} (h : But q a b) (k : But q b c) : But q a c :=
  ⟨k.os.trans h.os, k.tape.trans h.tape, k.output.trans h.output, Nat.le_trans h.size k.size, fun i hi hq => (k.block i (Nat.lt_of_lt_of_le hi h.size) hq).trans (h.block i hi hq)⟩
theorem But.of_below {q : Nat} {w w' : World} (h : Below w.heap.size w w') : But q w w' := ⟨h.os, h.tape, h.output, h.size, fun k hk _ => h.block k hk⟩
theorem But.alloc {q : Nat} {w w' : World} (h : But q w w') (o : Obj) : But q w (w'.alloc o) := h.trans (But.of_below ((Below.refl _ _).alloc (Nat.le_refl _) o))
theorem But.drewN {q : Nat} {w w' : World} (h : But q w w') (n : Nat) : But q w (w'.drewN n) := h.trans (But.of_below (below_drewN (Below.refl _ _) n))
theorem But.set {q : Nat} {w w' : World} (h : But q w w') (j : Nat) (u : Value) : But q w (w'.setCell ⟨q, j, none⟩ u) :=
  h.trans ⟨rfl, rfl, rfl, by simp, fun k _ hk => Below.heap_setCell _ _ _ _ hk⟩
theorem But.below {q base : Nat} {w w' : World} (h : But q w w') (h1 : base ≤ w.heap.size) (h2 : base ≤ q) : Below base w w' :=
  ⟨h.os, h.tape, h.output, h.size, fun k hk => h.block k (by omega) (by omega)⟩
/-- What the parser's error is, in memory. -/
def ErV (E : Nat → Addr) (w : World) (v : Value) : Option (Nat × Nat) → Prop
  | none => v = .nilIface
  | some p => 1 ≤ p.1 ∧ p.1 ≤ 10 ∧ ∃ fb, v = ftV ⟨fb, 0, none⟩ ∧ w.heap[fb]? = some (.cells #[.int .i64 (p.2 : Nat), esV (E (p.1 - 1))] 51 (0, 0))
section
variable (E : Nat → Addr) (l : List Tok) (pb : Nat) (A : Option Addr) (c : Nat) (w0 : World)
structure PaAt (s : PSt) (w : World) : Prop where
  bel : Below w0.heap.size w0 w
  lo : w0.heap.size ≤ pb
  blk : ∃ v, w.heap[pb]? = some (.cells #[.slice A l.length c, .int .i64 (s.pos : Nat), .int .i64 s.deep, v] 54 (0, 0)) ∧ ErV E w v s.err
/-- What stands from the start on: the errors, the tokens. -/
structure PaIn : Prop where
  laid : Laid E w0
  toks : Row w0 A (l.flatMap tokCells)
  len : l.length ≤ 100000
end
section
variable {E : Nat → Addr} {l : List Tok} {pb : Nat} {A : Option Addr} {c : Nat} {w0 : World} {s s' : PSt} {w w' : World}
theorem PaAt.lt (h : PaAt E l pb A c w0 s w) : pb < w.heap.size := by
  obtain ⟨v, hb, -⟩ := h.blk
  exact (Array.getElem?_eq_some_iff.1 hb).1
theorem PaAt.under (h : PaAt E l pb A c w0 s w) : w0.heap.size ≤ w.heap.size := h.bel.size
theorem ErV.keep {v : Value} {er : Option (Nat × Nat)} (h : ErV E w v er) (hb : ∀ k, k < w.heap.size → k ≠ pb → w'.heap[k]? = w.heap[k]?) (hp : ∃ cs, w.heap[pb]? = some (.cells cs 54 (0, 0))) : ErV E w' v er := by
  cases er with
  | none => exact h
  | some p =>
    obtain ⟨h1, h2, fb, h3, h4⟩ := h
    obtain ⟨cs, hp⟩ := hp
    refine ⟨h1, h2, fb, h3, (hb fb (Array.getElem?_eq_some_iff.1 h4).1 (fun e => ?_)).trans h4⟩
    subst e
    rw [hp] at h4
    injection h4 with h4
    injection h4 with _ h4 _
    exact absurd h4 (by decide)
/-- The state is as it was where the parser's block is. -/
theorem PaAt.keep (h : PaAt E l pb A c w0 s w) (hb : Below w.heap.size w w') : PaAt E l pb A c w0 s w' := by
  obtain ⟨v, h1, h2⟩ := h.blk
  exact ⟨h.bel.trans (hb.mono h.under), h.lo, v, (hb.block _ h.lt).trans h1, h2.keep (fun k hk _ => hb.block k hk) ⟨_, h1⟩⟩
theorem PaAt.drewN (h : PaAt E l pb A c w0 s w) (n : Nat) : PaAt E l pb A c w0 s (w.drewN n) := h.keep (below_drewN (Below.refl _ _) n)
theorem PaAt.cells (h : PaAt E l pb A c w0 s w) : ∃ v, w.cell? ⟨pb, 0, none⟩ = some (.slice A l.length c) ∧ w.cell? ⟨pb, 1, none⟩ = some (.int .i64 (s.pos : Nat)) ∧ w.cell? ⟨pb, 2, none⟩ = some (.int .i64 s.deep) ∧ w.cell? ⟨pb, 3, none⟩ = some v ∧ ErV E w v s.err := by
  obtain ⟨v, h1, h2⟩ := h.blk
  exact ⟨v, cell_of_row _ _ 0 _ _ _ h1, cell_of_row _ _ 1 _ _ _ h1, cell_of_row _ _ 2 _ _ _ h1, cell_of_row _ _ 3 _ _ _ h1, h2⟩
theorem PaAt.frozen (h : PaAt E l pb A c w0 s w) (j : Nat) : w.frozen? ⟨pb, j, none⟩ = false := by
  obtain ⟨v, h1, h2⟩ := h.blk
  exact row_frozen h1 j
/-- The place is turned. -/
theorem PaAt.setPos (h : PaAt E l pb A c w0 s w) (n : Nat) : PaAt E l pb A c w0 { s with pos := n } (w.setCell ⟨pb, 1, none⟩ (.int .i64 (n : Nat))) := by
  obtain ⟨v, h1, h2⟩ := h.blk
  exact ⟨h.bel.setCell h.lo _, h.lo, v, row_set (j := 1) _ h1 (by simp), h2.keep (fun k _ hk => Below.heap_setCell _ _ _ _ hk) ⟨_, h1⟩⟩
theorem PaAt.setDeep (h : PaAt E l pb A c w0 s w) (n : Int) : PaAt E l pb A c w0 { s with deep := n } (w.setCell ⟨pb, 2, none⟩ (.int .i64 n)) := by
  obtain ⟨v, h1, h2⟩ := h.blk
  exact ⟨h.bel.setCell h.lo _, h.lo, v, row_set (j := 2) _ h1 (by simp), h2.keep (fun k _ hk => Below.heap_setCell _ _ _ _ hk) ⟨_, h1⟩⟩
/-- The error is laid. -/
theorem PaAt.setErr (h : PaAt E l pb A c w0 s w) {z fb : Nat} (h1 : 1 ≤ z) (h10 : z ≤ 10) (hf : w.heap[fb]? = some (.cells #[.int .i64 (s.pos : Nat), esV (E (z - 1))] 51 (0, 0))) :
    PaAt E l pb A c w0 { s with err := some (z, s.pos) } (w.setCell ⟨pb, 3, none⟩ (ftV ⟨fb, 0, none⟩)) := by
  obtain ⟨v, h1', h2⟩ := h.blk
  have hne : fb ≠ pb := fun e => by
    rw [e, h1'] at hf
    injection hf with hf
    injection hf with _ hf _
    exact absurd hf (by decide)
  exact ⟨h.bel.setCell h.lo _, h.lo, _, row_set (j := 3) _ h1' (by simp), h1, h10, fb, rfl, (Below.heap_setCell _ _ _ _ hne).trans hf⟩
/-- Token k in memory. -/
theorem PaIn.tok (h : PaIn E l A w0) (hb : Below w0.heap.size w0 w) {k : Nat} (hk : k < l.length) : ∃ b off, A = some ⟨b, off, none⟩ ∧ w.cell? ⟨b, off + k * 3, none⟩ = some (.string (mkB l[k].kind)) ∧ w.cell? ⟨b, off + k * 3 + 1, none⟩ = some (.string (mkB l[k].text)) := by
  have hg : ∀ j u, (tokCells l[k])[j]? = some u → (l.flatMap tokCells)[k * 3 + j]? = some u := fun j u hj => flat_cells (n := 3) (F := tokCells) (fun x _ => rfl) hk hj
  have hr := h.toks.keep (Keeps.of_below hb)
  obtain ⟨b, off, e, h0⟩ := hr (k * 3 + 0) _ (hg 0 _ rfl)
  obtain ⟨b', off', e', h1⟩ := hr (k * 3 + 1) _ (hg 1 _ rfl)
  rw [e] at e'; injection e' with e'; injection e' with e1 e2 _
  subst e1; subst e2
  exact ⟨b, off, e, h0, by rw [Nat.add_assoc]; exact h1⟩
theorem PaIn.err (h : PaIn E l A w0) (hb : Below w0.heap.size w0 w) : Laid E w := h.laid.keep hb
end
/-- The call returns v; the parser's state is turned. -/
def PaRet (E : Nat → Addr) (l : List Tok) (pb : Nat) (A : Option Addr) (c : Nat) (w0 : World) (v : Value) (s : PSt) (w : World) : Ending → World → Prop := fun e w' => e = .returned v ∧ PaAt E l pb A c w0 s w' ∧ But pb w w'
end Go.Proofs.YtpfgimohginbdaaDoor
