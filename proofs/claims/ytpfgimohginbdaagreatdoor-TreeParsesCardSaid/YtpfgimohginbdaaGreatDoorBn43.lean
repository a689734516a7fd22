import Derived.Deep.AppendLies
import Derived.Test.YtpfgimohginbdaaGreatDoorBn11
import Derived.Test.YtpfgimohginbdaaGreatDoorBn4
set_option linter.unusedVariables false
set_option linter.unusedSimpArgs false
namespace Go.Proofs.YtpfgimohginbdaaGreatDoor
open Go.RowKit

theorem rletter_any (c : UInt8) (w : World) : Calls Tryz.prog 13 #[.int .u8 (c.toNat : Int)] w fun e w' => e = .returned (.bool (isLetter c)) ∧ w' = w := by
  by_cases h1 : (97 : Int) ≤ c.toNat <;> by_cases h2 : (c.toNat : Int) ≤ 122
  all_goals
    have H := Lib.hid (And.intro h1 h2)
    go_enter Tryz.func13, Tryz.ntmps13
    go_wp2_with fail
    go_ret
    exact ⟨by obtain ⟨h1, h2⟩ := H.out; unfold isLetter; simp [h1, h2], rfl⟩
theorem rdigit_any (c : UInt8) (w : World) : Calls Tryz.prog 14 #[.int .u8 (c.toNat : Int)] w fun e w' => e = .returned (.bool (isDigit c)) ∧ w' = w := by
  by_cases h1 : (48 : Int) ≤ c.toNat <;> by_cases h2 : (c.toNat : Int) ≤ 57
  all_goals
    have H := Lib.hid (And.intro h1 h2)
    go_enter Tryz.func14, Tryz.ntmps14
    go_wp2_with fail
    go_ret
    exact ⟨by obtain ⟨h1, h2⟩ := H.out; unfold isDigit; simp [h1, h2], rfl⟩
theorem rword_any (s : ByteArray) (w : World) : Calls Tryz.prog 15 #[.string s] w fun e w' => e = .returned (.bool (isIn s wordsL)) ∧ w' = w.alloc (.cells (wordsL.map Value.string).toArray 9) := by
  go_enter Tryz.func15, Tryz.ntmps15
  go_wp2_with (go_at_call 16; refine (IsIn_any s _ wordsL _ _ (Row.new w _ _) (by decide)).mono ?_; rintro e w' ⟨rfl, rfl⟩)
  go_ret
  exact ⟨rfl, rfl⟩
theorem bare_any (c : Int) (w : World) : Calls Tryz.prog 12 #[.int .i64 c] w (Ret (.agg #[.int .i64 c, .int .i64 (-1)]) w) := by
  go_enter Tryz.func12, Tryz.ntmps12
  go_wp2_with fail
  go_returns
  exact ⟨rfl, (Below.refl _ _).alloc (Nat.le_refl _) _⟩
theorem fine_any (w : World) : Calls Tryz.prog 17 #[] w (Ret (.agg #[.int .i64 0, .int .i64 (-1)]) w) := by
  go_enter Tryz.func17, Tryz.ntmps17
  go_wp2_with fail
  go_returns
  exact ⟨rfl, (Below.refl _ _).alloc (Nat.le_refl _) _⟩
theorem refInfo : (Tryz.prog.info? 54).map (fun i => (i.zero, i.size, i.bytes)) = some (some (.agg #[.string ⟨#[]⟩, .string ⟨#[]⟩, .int .i64 0]), 3, 40) := by kernel_rfl
theorem lexA_blank (c : UInt8) (l : List UInt8) (k : Nat) (h : isBlank c = true) : lexA (c :: l) k = lexA l (k + 1) := by
  have hs : spanL isBlank (c :: l) = spanL isBlank l + 1 := by simp only [spanL, h, if_true]
  cases hr : l.drop (spanL isBlank l) with
  | nil => rw [lexA_nil l (k + 1) hr, lexA_nil (c :: l) k (by rw [hs, List.drop_succ_cons]; exact hr)]
  | cons d r =>
    have hr' : (c :: l).drop (spanL isBlank (c :: l)) = d :: r := by rw [hs, List.drop_succ_cons]; exact hr
    have e : k + spanL isBlank (c :: l) = k + 1 + spanL isBlank l := by omega
    cases ht : (tokAt (d :: r)).2.2
    · rw [lexA_bad _ _ _ _ hr ht, lexA_bad _ _ _ _ hr' ht, e]
    · rw [lexA_tok _ _ _ _ hr ht, lexA_tok _ _ _ _ hr' ht, e]
theorem not_both {c : UInt8} (h : isLetter c = true) : isDigit c = false := by
  unfold isLetter at h
  unfold isDigit
  rw [Bool.and_eq_true, decide_eq_true_iff, decide_eq_true_iff] at h
  rw [decide_eq_false (p := (c.toNat : Int) ≤ 57) (by omega), Bool.and_false]
/-- What begins at a byte that is no blank. -/
theorem at_tok (s : ByteArray) (j : Nat) (K T : ByteArray) (b : Bool) (E : Nat) (hlt : j < s.size) (hbl : isBlank s[j] = false) (hR : (.tuple #[tokV K T j, .bool b] : Value) = tokR s j) (hE : j + T.size = E) :
    0 < T.size ∧ j + T.size ≤ s.size ∧ (b = false → lexA ((bytesL s).drop j) j = ([], some j)) ∧
      (b = true → ∃ t : Tok, tokCells t = [.string K, .string T, .int .i64 j] ∧ lexA ((bytesL s).drop j) j = (t :: (lexA ((bytesL s).drop E) E).1, (lexA ((bytesL s).drop E) E).2)) := by
  subst hE
  obtain ⟨e, he, h1, h2, _, h4⟩ := read_step s j (Nat.le_of_lt hlt)
  rw [spanE_no hlt hbl] at he
  subst he
  obtain ⟨K', T', n, b', hR', rfl, q1, q2, q3, q4⟩ := h4 hlt
  rw [hR', tokV, tokV] at hR
  simp only [Value.tuple.injEq, Array.mk.injEq, List.cons.injEq, Value.agg.injEq, Value.string.injEq, Value.bool.injEq, and_true] at hR
  obtain ⟨⟨rfl, rfl⟩, rfl⟩ := hR
  exact ⟨q1, q2, q3, q4⟩
theorem news3 {W : World} {x y z : Value} {t : TypeId} {b : Nat} (hb : W.heap.size = b) : ∀ j u, [x, y, z][j]? = some u → (W.alloc (.cells #[x, y, z] t)).cell? ((⟨b, 0, none⟩ : Addr).add j) = some u := by
  subst hb
  intro j u hu
  match j, hu with
  | 0, hu => simp at hu; subst hu; simp [Addr.add]
  | 1, hu => simp at hu; subst hu; simp [Addr.add]
  | 2, hu => simp at hu; subst hu; simp [Addr.add]
theorem one3 (K T : ByteArray) (p : Int) : ∀ u ∈ [Value.string K, Value.string T, Value.int .i64 p], u.oneCell' = true := by
  intro u hu; simp at hu; rcases hu with rfl | rfl | rfl <;> rfl
theorem add_tok {W : World} {base : Nat} {e : TypeId} {v : Value} {ts : List Tok} {t : Tok} {us : List Value} (ho : W.ownsRow base e 3 v (ts.length + 1) (ts.flatMap tokCells ++ us)) (ht : tokCells t = us) : W.ownsRow base e 3 v (ts ++ [t]).length ((ts ++ [t]).flatMap tokCells) := by
  rw [List.flatMap_append, List.length_append, List.flatMap_singleton, ht]
  exact ho
theorem add_lex {L : List Tok × Option Nat} {ts : List Tok} {a b : List Tok × Option Nat} {t : Tok} (h : L = (ts ++ a.1, a.2)) (h1 : a = (t :: b.1, b.2)) : L = ((ts ++ [t]) ++ b.1, b.2) := by
  rw [h, h1, List.append_assoc]; rfl
theorem numOk_t (s : ByteArray) (j e : Nat) (hj : j < s.size) (h18 : e - j ≤ 18) (h1 : e - j = 1 ∨ s[j] ≠ 48) (hf : e = s.size ∨ ∃ h : e < s.size, isLetter s[e] = false) : numOk s j e = true := by
  unfold numOk
  rw [decide_eq_true h18, bytesL_getD s j hj, Bool.true_and]
  have a : (decide (e - j = 1) || s[j] != 48) = true := by rcases h1 with h | h <;> simp [h]
  rw [a, Bool.true_and]
  rcases hf with h | ⟨h, hl⟩
  · simp [h]
  · rw [bytesL_getD s e h, hl]; simp
theorem numOk_f1 (s : ByteArray) (j e : Nat) (h18 : ¬ e - j ≤ 18) : numOk s j e = false := by
  unfold numOk; rw [decide_eq_false h18]; rfl
theorem numOk_f2 (s : ByteArray) (j e : Nat) (hj : j < s.size) (h1 : ¬ e - j = 1) (h : s[j] = 48) : numOk s j e = false := by
  unfold numOk; rw [decide_eq_false h1, bytesL_getD s j hj, h]; simp
theorem numOk_f3 (s : ByteArray) (j e : Nat) (h : e < s.size) (hl : isLetter s[e] = true) : numOk s j e = false := by
  unfold numOk; rw [bytesL_getD s e h, hl, decide_eq_false (p := e = s.size) (by omega)]; simp
theorem ne48 {c : UInt8} (h : c ≠ 48) : ((c.toNat : Int) == 48) = false := by
  rw [beq_eq_false_iff_ne]
  intro e
  exact h (UInt8.toNat_inj.1 (by have : c.toNat = 48 := by omega
                                 rw [this]; rfl))
def onesT : List ByteArray := (onesB.map (fun c => [c])).map mkB
theorem isin_one (x : ByteArray) (w : World) (b c : Nat) (hb : w.heap.size = b) : Calls Tryz.prog 16 #[.string x, .slice (some ⟨b, 0, none⟩) 17 c] (w.alloc (.cells #[.string ⟨#[43]⟩, .string ⟨#[45]⟩, .string ⟨#[42]⟩, .string ⟨#[47]⟩, .string ⟨#[37]⟩, .string ⟨#[38]⟩, .string ⟨#[124]⟩, .string ⟨#[94]⟩, .string ⟨#[60]⟩, .string ⟨#[33]⟩, .string ⟨#[61]⟩, .string ⟨#[40]⟩, .string ⟨#[41]⟩, .string ⟨#[123]⟩, .string ⟨#[125]⟩, .string ⟨#[44]⟩, .string ⟨#[59]⟩] 9)) fun e w' => e = .returned (.bool (isIn x onesT)) ∧ w' = w.alloc (.cells #[.string ⟨#[43]⟩, .string ⟨#[45]⟩, .string ⟨#[42]⟩, .string ⟨#[47]⟩, .string ⟨#[37]⟩, .string ⟨#[38]⟩, .string ⟨#[124]⟩, .string ⟨#[94]⟩, .string ⟨#[60]⟩, .string ⟨#[33]⟩, .string ⟨#[61]⟩, .string ⟨#[40]⟩, .string ⟨#[41]⟩, .string ⟨#[123]⟩, .string ⟨#[125]⟩, .string ⟨#[44]⟩, .string ⟨#[59]⟩] 9) := by
  subst hb
  exact IsIn_any x _ onesT c _ (Row.new w (onesT.map Value.string).toArray _) (by decide)
theorem isin_two (x : ByteArray) (w : World) (b c : Nat) (hb : w.heap.size = b) : Calls Tryz.prog 16 #[.string x, .slice (some ⟨b, 0, none⟩) 5 c] (w.alloc (.cells #[.string ⟨#[60, 60]⟩, .string ⟨#[62, 62]⟩, .string ⟨#[60, 61]⟩, .string ⟨#[61, 61]⟩, .string ⟨#[33, 61]⟩] 9)) fun e w' => e = .returned (.bool (isIn x twosS)) ∧ w' = w.alloc (.cells #[.string ⟨#[60, 60]⟩, .string ⟨#[62, 62]⟩, .string ⟨#[60, 61]⟩, .string ⟨#[61, 61]⟩, .string ⟨#[33, 61]⟩] 9) := by
  subst hb
  exact IsIn_any x _ twosS c _ (Row.new w (twosS.map Value.string).toArray _) (by decide)
theorem signTwo (s : ByteArray) (j : Nat) (_h : j + 1 < s.size) : twosB.any (fun x => x == ((bytesL s).drop j).take 2) = isIn (s.extract j (j + 2)) twosS := by
  rw [twosS, isIn_mkB, extract_bytes, show j + 2 - j = 2 by omega]
theorem signEnd (s : ByteArray) (j : Nat) (hj : j < s.size) (h : ¬ j + 1 < s.size) : twosB.any (fun x => x == ((bytesL s).drop j).take 2) = false := by
  rw [Bool.eq_false_iff]
  intro ht
  have := twos_len ht
  rw [List.length_take, List.length_drop, bytesL_len] at this
  omega
theorem signOk_eq (s : ByteArray) (j : Nat) (hj : j < s.size) : signOk (((bytesL s).drop j).take 2) s[j] = (twosB.any (fun x => x == ((bytesL s).drop j).take 2) || isIn (s.extract j (j + 1)) onesT) := by
  unfold signOk
  congr 1
  rw [onesT, isIn_mkB, extract_bytes, show j + 1 - j = 1 by omega, bytes_cons hj, List.any_map]
  congr 1
  funext x
  simp [Function.comp]
theorem signTxt_one (s : ByteArray) (j : Nat) (h1 : j + 1 < s.size) (h : isIn (s.extract j (j + 2)) twosS = false) : signTxt (((bytesL s).drop j).take 2) (s.extract j (j + 1)) = s.extract j (j + 1) := by
  unfold signTxt; rw [signTwo s j h1, h]; rfl
theorem signTxt_two (s : ByteArray) (j : Nat) (h1 : j + 1 < s.size) (h : isIn (s.extract j (j + 2)) twosS = true) : signTxt (((bytesL s).drop j).take 2) (s.extract j (j + 1)) = s.extract j (j + 2) := by
  unfold signTxt; rw [signTwo s j h1, h, if_pos rfl, ext_mk s j (j + 2), show j + 2 - j = 2 by omega]
theorem signTxt_end (s : ByteArray) (j : Nat) (hj : j < s.size) (h : ¬ j + 1 < s.size) : signTxt (((bytesL s).drop j).take 2) (s.extract j (j + 1)) = s.extract j (j + 1) := by
  unfold signTxt; rw [signEnd s j hj h]; rfl
theorem owns_set2 {w : World} {b : Nat} {e : TypeId} {v : Value} {n : Nat} {xs : List Value} {x y : Value} (h : w.ownsRow (b + 1) e 3 v n xs) : ((w.setCell ⟨b, 0, none⟩ x).setCell ⟨b, 1, none⟩ y).ownsRow b e 3 v n xs := by
  refine ⟨h.1, ?_⟩
  rcases h.2 with h0 | ⟨g, cap, cur, h1, h2, h3, h4⟩
  · exact .inl h0
  · refine .inr ⟨g, cap, cur, h1, by omega, ?_, h4⟩
    rw [heap_setCell_other _ _ _ _ (show g ≠ b by omega), heap_setCell_other _ _ _ _ (show g ≠ b by omega), h3]
def LexVal (s : ByteArray) (w : World) (base : Nat) (sl : Value) (c a : Int) : Prop :=
  (4000 < s.size ∧ sl = .slice none 0 0 ∧ c = 2 ∧ a = -1) ∨
  (s.size ≤ 4000 ∧ ∃ p : Nat, (lexA (bytesL s) 0).2 = some p ∧ sl = .slice none 0 0 ∧ c = 1 ∧ a = p) ∨
  (s.size ≤ 4000 ∧ (lexA (bytesL s) 0).2 = none ∧ 1000 < (lexA (bytesL s) 0).1.length ∧ sl = .slice none 0 0 ∧ c = 8 ∧ a = -1) ∨
  (s.size ≤ 4000 ∧ (lexA (bytesL s) 0).2 = none ∧ (lexA (bytesL s) 0).1.length ≤ 1000 ∧ c = 0 ∧ a = -1 ∧ w.ownsRow base 54 3 sl (lexA (bytesL s) 0).1.length ((lexA (bytesL s) 0).1.flatMap tokCells))
set_option maxRecDepth 100000 in
set_option maxHeartbeats 40000000 in
theorem LexOf_any (s : ByteArray) (hs : s.size ≤ 1000000000) (w : World) :
    Calls Tryz.prog 5 #[.string s] w fun e w' => ∃ sl c a, e = .returned (.tuple #[sl, .agg #[.int .i64 c, .int .i64 a]]) ∧ LexVal s w' w.heap.size sl c a ∧ Below w.heap.size w w' := by
  obtain ⟨ti, hi, hz0, hz1, hz2⟩ := info_parts refInfo
  by_cases h4 : s.size ≤ 4000
  · have h4' : (s.size : Int) ≤ 4000 := by omega
    have H4 := Lib.hid h4
    clear h4
    go_enter Tryz.func5, Tryz.ntmps5
    go_wp2_with fail
    go_loopw [4, 5] (fun v i wr => ∃ (j : Nat) (ts : List Tok), j ≤ s.size ∧ ts.length ≤ j ∧ i = .int .i64 j ∧ lexA (bytesL s) 0 = (ts ++ (lexA ((bytesL s).drop j) j).1, (lexA ((bytesL s).drop j) j).2) ∧ wr.ownsRow (w.heap.size + 1) 54 3 v ts.length (ts.flatMap tokCells) ∧ Below (w.heap.size + 1) (w.alloc (.cells #[.int .i64 0, .int .i64 0] 25)) wr) (fun _ i _ => s.size - (intOf i).toNat)
    case atStart => exact ⟨0, [], Nat.zero_le _, Nat.le_refl _, rfl, rfl, World.ownsRow_nil _ _ _ _, Below.refl _ _⟩
    case round =>
      obtain ⟨j, ts, hj, htj, rfl, hL, hO, hW⟩ := hrel
      have HL := Lib.hid hL
      clear hL
      by_cases hlt : j < s.size
      · have hltI : (j : Int) < (s.size : Int) := by omega
        cases hbl : isBlank s[j]
        · have hs0 : ((s[j].toNat : Int) == 32) = false := by unfold isBlank at hbl; simp only [Bool.or_eq_false_iff] at hbl; exact hbl.1.1
          have hs1 : ((s[j].toNat : Int) == 9) = false := by unfold isBlank at hbl; simp only [Bool.or_eq_false_iff] at hbl; exact hbl.1.2
          have hs2 : ((s[j].toNat : Int) == 10) = false := by unfold isBlank at hbl; simp only [Bool.or_eq_false_iff] at hbl; exact hbl.2
          have HBL := Lib.hid hbl
          clear hbl
          have hsz : w.heap.size + 1 ≤ wr.heap.size := by simpa using hW.size
          obtain ⟨c0, c1, cf⟩ := two_new (x := .int .i64 0) (y := .int .i64 0) (by simpa using hW)
          have c0a : ∀ o o', ((wr.alloc o).alloc o').cell? ⟨w.heap.size, 0, none⟩ = some (.int .i64 0) := fun o o' => ((hW.alloc hsz o).alloc (Nat.le_trans hsz (by simp)) o' |> fun h => (two_new (by simpa using h)).1)
          have c1a : ∀ o o', ((wr.alloc o).alloc o').cell? ⟨w.heap.size, 1, none⟩ = some (.int .i64 0) := fun o o' => ((hW.alloc hsz o).alloc (Nat.le_trans hsz (by simp)) o' |> fun h => (two_new (by simpa using h)).2.1)
          have cfa : ∀ o o' j, ((wr.alloc o).alloc o').frozen? ⟨w.heap.size, j, none⟩ = false := fun o o' => ((hW.alloc hsz o).alloc (Nat.le_trans hsz (by simp)) o' |> fun h => (two_new (by simpa using h)).2.2)
          have cf1 : ∀ o j, (wr.alloc o).frozen? ⟨w.heap.size, j, none⟩ = false := fun o => ((hW.alloc hsz o) |> fun h => (two_new (by simpa using h)).2.2)
          have cq0 : ∀ o, (wr.alloc o).cell? ⟨w.heap.size, 0, none⟩ = some (.int .i64 0) := fun o => ((hW.alloc hsz o) |> fun h => (two_new (by simpa using h)).1)
          have cq1 : ∀ o, (wr.alloc o).cell? ⟨w.heap.size, 1, none⟩ = some (.int .i64 0) := fun o => ((hW.alloc hsz o) |> fun h => (two_new (by simpa using h)).2.1)
          have ct0 : ∀ o o' o'', (((wr.alloc o).alloc o').alloc o'').cell? ⟨w.heap.size, 0, none⟩ = some (.int .i64 0) := fun o o' o'' => (((hW.alloc hsz o).alloc (Nat.le_trans hsz (by simp)) o').alloc (Nat.le_trans hsz (by simp; omega)) o'' |> fun h => (two_new (by simpa using h)).1)
          have ct1 : ∀ o o' o'', (((wr.alloc o).alloc o').alloc o'').cell? ⟨w.heap.size, 1, none⟩ = some (.int .i64 0) := fun o o' o'' => (((hW.alloc hsz o).alloc (Nat.le_trans hsz (by simp)) o').alloc (Nat.le_trans hsz (by simp; omega)) o'' |> fun h => (two_new (by simpa using h)).2.1)
          have ctf : ∀ o o' o'' j, (((wr.alloc o).alloc o').alloc o'').frozen? ⟨w.heap.size, j, none⟩ = false := fun o o' o'' => (((hW.alloc hsz o).alloc (Nat.le_trans hsz (by simp)) o').alloc (Nat.le_trans hsz (by simp; omega)) o'' |> fun h => (two_new (by simpa using h)).2.2)
          have HO := Lib.hid hO
          have HW := Lib.hid hW
          clear hO hW
          cases hl : isLetter s[j]
          · cases hd : isDigit s[j]
            · have hT := sign_tok s j hlt hl hd
              rw [signOk_eq s j hlt] at hT
              by_cases h1 : j + 1 < s.size
              · have h1' : (j : Int) + 1 < (s.size : Int) := by omega
                cases h2 : isIn (s.extract j (j + 2)) twosS
                · rw [signTxt_one s j h1 h2, signTwo s j h1, h2, Bool.false_or] at hT
                  cases h3 : isIn (s.extract j (j + 1)) onesT
                  · rw [h3] at hT
                    have HA := Lib.hid (at_tok s j _ _ _ (j + 1) hlt HBL.out hT (by rw [ByteArray.size_extract]; omega))
                    clear hT
                    go_wp2_with (first
                      | (go_at_call 13; refine (rletter_any _ _).mono ?_; rintro x wr ⟨rfl, rfl⟩)
                      | (go_at_call 14; refine (rdigit_any _ _).mono ?_; rintro x wr ⟨rfl, rfl⟩)
                      | (go_at_call 16; (with_reducible refine (isin_two _ _ _ _ (by simp)).mono ?_); rintro x w' ⟨rfl, rfl⟩)
                      | (go_at_call 16; (with_reducible refine (isin_one _ _ _ _ (by simp)).mono ?_); rintro x w' ⟨rfl, rfl⟩))
                    (try simp only [Exit.inBlock, Exit.then]); refine bodyPost_ret (by simp [results, Tryz.results5, go_sem, cq0, cq1, c0a, c1a, ct0, ct1]; try rfl) rfl ?_
                    obtain ⟨-, -, hA, -⟩ := HA.out
                    exact ⟨_, _, _, rfl, .inr (.inl ⟨H4.out, j, by rw [HL.out, hA (by trivial)], rfl, rfl, rfl⟩), (((((((Below.refl _ _).alloc (Nat.le_refl _) _).trans (HW.out.mono (Nat.le_succ _))).alloc (by omega) _).alloc (by simp; omega) _).alloc (by simp; omega) _).setCell (Nat.le_refl _) _).setCell (Nat.le_refl _) _⟩
                  · rw [h3] at hT
                    have HA := Lib.hid (at_tok s j _ _ _ (j + 1) hlt HBL.out hT (by rw [ByteArray.size_extract]; omega))
                    clear hT
                    go_wp2_with (first
                      | (go_at_call 13; refine (rletter_any _ _).mono ?_; rintro x wr ⟨rfl, rfl⟩)
                      | (go_at_call 14; refine (rdigit_any _ _).mono ?_; rintro x wr ⟨rfl, rfl⟩)
                      | (go_at_call 16; (with_reducible refine (isin_two _ _ _ _ (by simp)).mono ?_); rintro x w' ⟨rfl, rfl⟩)
                      | (go_at_call 16; (with_reducible refine (isin_one _ _ _ _ (by simp)).mono ?_); rintro x w' ⟨rfl, rfl⟩)
                      | (at_builtin; refine wpList_append_own _ rfl _ _ 23 rfl (w.heap.size + 1) 54 ti _ 3 40 Tryz.underlying23 hi hz0 hz1 hz2 rfl (by decide) _ _ _ rfl ((((((((HO.out).alloc _)).alloc _)).alloc _)).alloc _) ⟨wr.heap.size + 3, 0, none⟩ 1 1 [.string ⟨#[115, 105, 103, 110]⟩, .string (s.extract j (j + 1)), .int .i64 j] rfl rfl (news3 (by simp)) (one3 _ _ _) (by unfold maxLen; omega) (by omega) (by simp; omega) ?_))
                    intro v' w1 hown' hgrow _
                    obtain ⟨-, -, -, hA⟩ := HA.out
                    obtain ⟨t, ht, hl1⟩ := hA (by trivial)
                    have HW1 := Lib.hid (Below.grown (((((HW.out).alloc (by omega) _).alloc (by simp; omega) _).alloc (by simp; omega) _).alloc (by simp; omega) _) hgrow (by simp; omega) (fun k hk => (HO.out.lt k hk).1))
                    have HO1 := Lib.hid (add_tok hown' ht)
                    have HL1 := Lib.hid (add_lex HL.out hl1)
                    clear hown' hgrow ht hl1 hA
                    go_wp2_with fail
                    go_roundw
                    case rel => exact ⟨(j + 1), ts ++ [t], by omega, by simp; omega, by go_num, HL1.out, HO1.out, HW1.out⟩
                    case measure => simp [intOf]; omega
                · rw [signTxt_two s j h1 h2, signTwo s j h1, h2, Bool.true_or] at hT
                  have HA := Lib.hid (at_tok s j _ _ _ (j + 2) hlt HBL.out hT (by rw [ByteArray.size_extract]; omega))
                  clear hT
                  go_wp2_with (first
                    | (go_at_call 13; refine (rletter_any _ _).mono ?_; rintro x wr ⟨rfl, rfl⟩)
                    | (go_at_call 14; refine (rdigit_any _ _).mono ?_; rintro x wr ⟨rfl, rfl⟩)
                    | (go_at_call 16; (with_reducible refine (isin_two _ _ _ _ (by simp)).mono ?_); rintro x w' ⟨rfl, rfl⟩)
                    | (go_at_call 16; (with_reducible refine (isin_one _ _ _ _ (by simp)).mono ?_); rintro x w' ⟨rfl, rfl⟩)
                    | (at_builtin; refine wpList_append_own _ rfl _ _ 23 rfl (w.heap.size + 1) 54 ti _ 3 40 Tryz.underlying23 hi hz0 hz1 hz2 rfl (by decide) _ _ _ rfl ((((((HO.out).alloc _)).alloc _)).alloc _) ⟨wr.heap.size + 2, 0, none⟩ 1 1 [.string ⟨#[115, 105, 103, 110]⟩, .string (s.extract j (j + 2)), .int .i64 j] rfl rfl (news3 (by simp)) (one3 _ _ _) (by unfold maxLen; omega) (by omega) (by simp; omega) ?_))
                  intro v' w1 hown' hgrow _
                  obtain ⟨-, -, -, hA⟩ := HA.out
                  obtain ⟨t, ht, hl1⟩ := hA (by trivial)
                  have HW1 := Lib.hid (Below.grown ((((HW.out).alloc (by omega) _).alloc (by simp; omega) _).alloc (by simp; omega) _) hgrow (by simp; omega) (fun k hk => (HO.out.lt k hk).1))
                  have HO1 := Lib.hid (add_tok hown' ht)
                  have HL1 := Lib.hid (add_lex HL.out hl1)
                  clear hown' hgrow ht hl1 hA
                  go_wp2_with fail
                  go_roundw
                  case rel => exact ⟨(j + 2), ts ++ [t], by omega, by simp; omega, by go_num, HL1.out, HO1.out, HW1.out⟩
                  case measure => simp [intOf]; omega
              · have h1' : ¬ (j : Int) + 1 < (s.size : Int) := by omega
                rw [signTxt_end s j hlt h1, signEnd s j hlt h1, Bool.false_or] at hT
                cases h3 : isIn (s.extract j (j + 1)) onesT
                · rw [h3] at hT
                  have HA := Lib.hid (at_tok s j _ _ _ (j + 1) hlt HBL.out hT (by rw [ByteArray.size_extract]; omega))
                  clear hT
                  go_wp2_with (first
                    | (go_at_call 13; refine (rletter_any _ _).mono ?_; rintro x wr ⟨rfl, rfl⟩)
                    | (go_at_call 14; refine (rdigit_any _ _).mono ?_; rintro x wr ⟨rfl, rfl⟩)
                    | (go_at_call 16; (with_reducible refine (isin_two _ _ _ _ (by simp)).mono ?_); rintro x w' ⟨rfl, rfl⟩)
                    | (go_at_call 16; (with_reducible refine (isin_one _ _ _ _ (by simp)).mono ?_); rintro x w' ⟨rfl, rfl⟩))
                  (try simp only [Exit.inBlock, Exit.then]); refine bodyPost_ret (by simp [results, Tryz.results5, go_sem, cq0, cq1, c0a, c1a, ct0, ct1]; try rfl) rfl ?_
                  obtain ⟨-, -, hA, -⟩ := HA.out
                  exact ⟨_, _, _, rfl, .inr (.inl ⟨H4.out, j, by rw [HL.out, hA (by trivial)], rfl, rfl, rfl⟩), ((((((Below.refl _ _).alloc (Nat.le_refl _) _).trans (HW.out.mono (Nat.le_succ _))).alloc (by omega) _).alloc (by simp; omega) _).setCell (Nat.le_refl _) _).setCell (Nat.le_refl _) _⟩
                · rw [h3] at hT
                  have HA := Lib.hid (at_tok s j _ _ _ (j + 1) hlt HBL.out hT (by rw [ByteArray.size_extract]; omega))
                  clear hT
                  go_wp2_with (first
                    | (go_at_call 13; refine (rletter_any _ _).mono ?_; rintro x wr ⟨rfl, rfl⟩)
                    | (go_at_call 14; refine (rdigit_any _ _).mono ?_; rintro x wr ⟨rfl, rfl⟩)
                    | (go_at_call 16; (with_reducible refine (isin_two _ _ _ _ (by simp)).mono ?_); rintro x w' ⟨rfl, rfl⟩)
                    | (go_at_call 16; (with_reducible refine (isin_one _ _ _ _ (by simp)).mono ?_); rintro x w' ⟨rfl, rfl⟩)
                    | (at_builtin; refine wpList_append_own _ rfl _ _ 23 rfl (w.heap.size + 1) 54 ti _ 3 40 Tryz.underlying23 hi hz0 hz1 hz2 rfl (by decide) _ _ _ rfl ((((((HO.out).alloc _)).alloc _)).alloc _) ⟨wr.heap.size + 2, 0, none⟩ 1 1 [.string ⟨#[115, 105, 103, 110]⟩, .string (s.extract j (j + 1)), .int .i64 j] rfl rfl (news3 (by simp)) (one3 _ _ _) (by unfold maxLen; omega) (by omega) (by simp; omega) ?_))
                  intro v' w1 hown' hgrow _
                  obtain ⟨-, -, -, hA⟩ := HA.out
                  obtain ⟨t, ht, hl1⟩ := hA (by trivial)
                  have HW1 := Lib.hid (Below.grown ((((HW.out).alloc (by omega) _).alloc (by simp; omega) _).alloc (by simp; omega) _) hgrow (by simp; omega) (fun k hk => (HO.out.lt k hk).1))
                  have HO1 := Lib.hid (add_tok hown' ht)
                  have HL1 := Lib.hid (add_lex HL.out hl1)
                  clear hown' hgrow ht hl1 hA
                  go_wp2_with fail
                  go_roundw
                  case rel => exact ⟨(j + 1), ts ++ [t], by omega, by simp; omega, by go_num, HL1.out, HO1.out, HW1.out⟩
                  case measure => simp [intOf]; omega
            · have hE1 : j + 1 ≤ spanE isDigit s j := by rw [spanE_yes hlt hd]; exact spanE_ge isDigit s (j + 1)
              have hE2 := spanE_le isDigit s j hj
              have hT := number_tok s j hlt hl hd
              obtain ⟨E, hE⟩ : ∃ E, spanE isDigit s j = E := ⟨_, rfl⟩
              rw [hE] at hE1 hE2 hT
              have HE := Lib.hid hE
              have HT := Lib.hid hT
              have HX := Lib.hid (show j + (s.extract j E).size = E by rw [ByteArray.size_extract]; omega)
              clear hE hT
              go_wp2_with (first
                | (go_at_call 13; refine (rletter_any _ _).mono ?_; rintro x wr ⟨rfl, rfl⟩)
                | (go_at_call 14; refine (rdigit_any _ _).mono ?_; rintro x wr ⟨rfl, rfl⟩))
              go_loop [8, 11, 12] (fun i _ _ => ∃ q : Nat, j ≤ q ∧ q ≤ s.size ∧ i = .int .i64 q ∧ E = spanE isDigit s q) (fun i _ _ => s.size - (intOf i).toNat)
              case atStart => exact ⟨j, by omega, by omega, rfl, HE.out.symm⟩
              case round =>
                obtain ⟨q, hq1, hq2, rfl, hq3⟩ := hrel
                have HQ := Lib.hid hq3
                clear hq3
                by_cases hqs : q < s.size
                · cases hx : isLetter s[q] <;> cases hy : isDigit s[q]
                  · have hEq : E = q := HQ.out.trans (spanE_no hqs (by exact hy))
                    subst hEq
                    by_cases h18 : E - j ≤ 18
                    · have h18' : ((E - j : Nat) : Int) ≤ 18 := by omega
                      by_cases h1 : E - j = 1
                      · have h1' : ¬ (1 : Int) < ((E - j : Nat) : Int) := by omega
                        have hT := HT.out
                        have hN := numOk_t s j E hlt h18 (.inl h1) (.inr ⟨hqs, hx⟩)
                        rw [hN] at hT
                        have HA := Lib.hid (at_tok s j _ _ _ E hlt HBL.out hT HX.out)
                        clear hT hN
                        go_wp2_with (first
                          | (go_at_call 13; refine (rletter_any _ _).mono ?_; rintro x wr ⟨rfl, rfl⟩)
                          | (go_at_call 14; refine (rdigit_any _ _).mono ?_; rintro x wr ⟨rfl, rfl⟩)
                          | (at_builtin; refine wpList_append_own _ rfl _ _ 23 rfl (w.heap.size + 1) 54 ti _ 3 40 Tryz.underlying23 hi hz0 hz1 hz2 rfl (by decide) _ _ _ rfl ((((HO.out).alloc _)).alloc _) ⟨wr.heap.size + 1, 0, none⟩ 1 1 [.string ⟨#[110, 117, 109, 98, 101, 114]⟩, .string (s.extract j E), .int .i64 j] rfl rfl (news3 (by simp)) (one3 _ _ _) (by unfold maxLen; omega) (by omega) (by simp; omega) ?_))
                        intro v' w1 hown' hgrow _
                        obtain ⟨-, -, -, hA⟩ := HA.out
                        obtain ⟨t, ht, hl1⟩ := hA (by trivial)
                        have HW1 := Lib.hid (Below.grown (((HW.out).alloc (by omega) _).alloc (by simp; omega) _) hgrow (by simp; omega) (fun k hk => (HO.out.lt k hk).1))
                        have HO1 := Lib.hid (add_tok hown' ht)
                        have HL1 := Lib.hid (add_lex HL.out hl1)
                        clear hown' hgrow ht hl1 hA
                        go_wp2_with fail
                        go_roundw
                        case rel => exact ⟨E, ts ++ [t], by omega, by simp; omega, by go_num, HL1.out, HO1.out, HW1.out⟩
                        case measure => simp [intOf]; omega
                      · have h1' : (1 : Int) < ((E - j : Nat) : Int) := by omega
                        by_cases h48 : s[j] = 48
                        · have h48' : ((s[j].toNat : Int) == 48) = true := by rw [h48]; rfl
                          have hT := HT.out
                          have hN := numOk_f2 s j E hlt h1 h48
                          rw [hN] at hT
                          have HA := Lib.hid (at_tok s j _ _ _ E hlt HBL.out hT HX.out)
                          clear hT hN
                          clear h48
                          go_wp2_with (first
                            | (go_at_call 13; refine (rletter_any _ _).mono ?_; rintro x wr ⟨rfl, rfl⟩)
                            | (go_at_call 14; refine (rdigit_any _ _).mono ?_; rintro x wr ⟨rfl, rfl⟩))
                          (try simp only [Exit.inBlock, Exit.then]); refine bodyPost_ret (by simp [results, Tryz.results5, go_sem, cq0, cq1, c0a, c1a, ct0, ct1]; try rfl) rfl ?_
                          obtain ⟨-, -, hA, -⟩ := HA.out
                          exact ⟨_, _, _, rfl, .inr (.inl ⟨H4.out, j, by rw [HL.out, hA (by trivial)], rfl, rfl, rfl⟩), (((((Below.refl _ _).alloc (Nat.le_refl _) _).trans (HW.out.mono (Nat.le_succ _))).alloc (by omega) _).setCell (Nat.le_refl _) _).setCell (Nat.le_refl _) _⟩
                        · have h48' : ((s[j].toNat : Int) == 48) = false := ne48 h48
                          have hT := HT.out
                          have hN := numOk_t s j E hlt h18 (.inr h48) (.inr ⟨hqs, hx⟩)
                          rw [hN] at hT
                          have HA := Lib.hid (at_tok s j _ _ _ E hlt HBL.out hT HX.out)
                          clear hT hN
                          go_wp2_with (first
                            | (go_at_call 13; refine (rletter_any _ _).mono ?_; rintro x wr ⟨rfl, rfl⟩)
                            | (go_at_call 14; refine (rdigit_any _ _).mono ?_; rintro x wr ⟨rfl, rfl⟩)
                            | (at_builtin; refine wpList_append_own _ rfl _ _ 23 rfl (w.heap.size + 1) 54 ti _ 3 40 Tryz.underlying23 hi hz0 hz1 hz2 rfl (by decide) _ _ _ rfl ((((HO.out).alloc _)).alloc _) ⟨wr.heap.size + 1, 0, none⟩ 1 1 [.string ⟨#[110, 117, 109, 98, 101, 114]⟩, .string (s.extract j E), .int .i64 j] rfl rfl (news3 (by simp)) (one3 _ _ _) (by unfold maxLen; omega) (by omega) (by simp; omega) ?_))
                          intro v' w1 hown' hgrow _
                          obtain ⟨-, -, -, hA⟩ := HA.out
                          obtain ⟨t, ht, hl1⟩ := hA (by trivial)
                          have HW1 := Lib.hid (Below.grown (((HW.out).alloc (by omega) _).alloc (by simp; omega) _) hgrow (by simp; omega) (fun k hk => (HO.out.lt k hk).1))
                          have HO1 := Lib.hid (add_tok hown' ht)
                          have HL1 := Lib.hid (add_lex HL.out hl1)
                          clear hown' hgrow ht hl1 hA
                          go_wp2_with fail
                          go_roundw
                          case rel => exact ⟨E, ts ++ [t], by omega, by simp; omega, by go_num, HL1.out, HO1.out, HW1.out⟩
                          case measure => simp [intOf]; omega
                    · have h18' : ¬ ((E - j : Nat) : Int) ≤ 18 := by omega
                      have hT := HT.out
                      have hN := numOk_f1 s j E h18
                      rw [hN] at hT
                      have HA := Lib.hid (at_tok s j _ _ _ E hlt HBL.out hT HX.out)
                      clear hT hN
                      go_wp2_with (first
                        | (go_at_call 13; refine (rletter_any _ _).mono ?_; rintro x wr ⟨rfl, rfl⟩)
                        | (go_at_call 14; refine (rdigit_any _ _).mono ?_; rintro x wr ⟨rfl, rfl⟩))
                      (try simp only [Exit.inBlock, Exit.then]); refine bodyPost_ret (by simp [results, Tryz.results5, go_sem, cq0, cq1, c0a, c1a, ct0, ct1]; try rfl) rfl ?_
                      obtain ⟨-, -, hA, -⟩ := HA.out
                      exact ⟨_, _, _, rfl, .inr (.inl ⟨H4.out, j, by rw [HL.out, hA (by trivial)], rfl, rfl, rfl⟩), (((((Below.refl _ _).alloc (Nat.le_refl _) _).trans (HW.out.mono (Nat.le_succ _))).alloc (by omega) _).setCell (Nat.le_refl _) _).setCell (Nat.le_refl _) _⟩
                  · have HY := Lib.hid (spanE_yes hqs (show isDigit s[q] = true by exact hy))
                    go_wp2_with (first
                      | (go_at_call 13; refine (rletter_any _ _).mono ?_; rintro x wr ⟨rfl, rfl⟩)
                      | (go_at_call 14; refine (rdigit_any _ _).mono ?_; rintro x wr ⟨rfl, rfl⟩))
                    go_round
                    case rel => exact ⟨q + 1, by omega, by omega, by go_num, by rw [HQ.out, HY.out]⟩
                    case measure => simp [intOf]; omega
                  · have hEq : E = q := HQ.out.trans (spanE_no hqs (by exact hy))
                    subst hEq
                    have hT := HT.out
                    have hN := numOk_f3 s j E hqs hx
                    rw [hN] at hT
                    have HA := Lib.hid (at_tok s j _ _ _ E hlt HBL.out hT HX.out)
                    clear hT hN
                    go_wp2_with (first
                      | (go_at_call 13; refine (rletter_any _ _).mono ?_; rintro x wr ⟨rfl, rfl⟩)
                      | (go_at_call 14; refine (rdigit_any _ _).mono ?_; rintro x wr ⟨rfl, rfl⟩))
                    (try simp only [Exit.inBlock, Exit.then]); refine bodyPost_ret (by simp [results, Tryz.results5, go_sem, cq0, cq1, c0a, c1a, ct0, ct1]; try rfl) rfl ?_
                    obtain ⟨-, -, hA, -⟩ := HA.out
                    exact ⟨_, _, _, rfl, .inr (.inl ⟨H4.out, j, by rw [HL.out, hA (by trivial)], rfl, rfl, rfl⟩), (((((Below.refl _ _).alloc (Nat.le_refl _) _).trans (HW.out.mono (Nat.le_succ _))).alloc (by omega) _).setCell (Nat.le_refl _) _).setCell (Nat.le_refl _) _⟩
                  · exact absurd (not_both hx) (by rw [hy]; simp)
                · have hq' : q = s.size := by omega
                  subst hq'
                  have hEq : E = s.size := HQ.out.trans (spanE_end _ _)
                  subst hEq
                  by_cases h18 : s.size - j ≤ 18
                  · have h18' : ((s.size - j : Nat) : Int) ≤ 18 := by omega
                    by_cases h1 : s.size - j = 1
                    · have h1' : ¬ (1 : Int) < ((s.size - j : Nat) : Int) := by omega
                      have hT := HT.out
                      have hN := numOk_t s j s.size hlt h18 (.inl h1) (.inl rfl)
                      rw [hN] at hT
                      have HA := Lib.hid (at_tok s j _ _ _ s.size hlt HBL.out hT HX.out)
                      clear hT hN
                      go_wp2_with (first
                        | (go_at_call 13; refine (rletter_any _ _).mono ?_; rintro x wr ⟨rfl, rfl⟩)
                        | (go_at_call 14; refine (rdigit_any _ _).mono ?_; rintro x wr ⟨rfl, rfl⟩)
                        | (at_builtin; refine wpList_append_own _ rfl _ _ 23 rfl (w.heap.size + 1) 54 ti _ 3 40 Tryz.underlying23 hi hz0 hz1 hz2 rfl (by decide) _ _ _ rfl ((((HO.out).alloc _)).alloc _) ⟨wr.heap.size + 1, 0, none⟩ 1 1 [.string ⟨#[110, 117, 109, 98, 101, 114]⟩, .string (s.extract j s.size), .int .i64 j] rfl rfl (news3 (by simp)) (one3 _ _ _) (by unfold maxLen; omega) (by omega) (by simp; omega) ?_))
                      intro v' w1 hown' hgrow _
                      obtain ⟨-, -, -, hA⟩ := HA.out
                      obtain ⟨t, ht, hl1⟩ := hA (by trivial)
                      have HW1 := Lib.hid (Below.grown (((HW.out).alloc (by omega) _).alloc (by simp; omega) _) hgrow (by simp; omega) (fun k hk => (HO.out.lt k hk).1))
                      have HO1 := Lib.hid (add_tok hown' ht)
                      have HL1 := Lib.hid (add_lex HL.out hl1)
                      clear hown' hgrow ht hl1 hA
                      go_wp2_with fail
                      go_roundw
                      case rel => exact ⟨s.size, ts ++ [t], by omega, by simp; omega, by go_num, HL1.out, HO1.out, HW1.out⟩
                      case measure => simp [intOf]; omega
                    · have h1' : (1 : Int) < ((s.size - j : Nat) : Int) := by omega
                      by_cases h48 : s[j] = 48
                      · have h48' : ((s[j].toNat : Int) == 48) = true := by rw [h48]; rfl
                        have hT := HT.out
                        have hN := numOk_f2 s j s.size hlt h1 h48
                        rw [hN] at hT
                        have HA := Lib.hid (at_tok s j _ _ _ s.size hlt HBL.out hT HX.out)
                        clear hT hN
                        clear h48
                        go_wp2_with (first
                          | (go_at_call 13; refine (rletter_any _ _).mono ?_; rintro x wr ⟨rfl, rfl⟩)
                          | (go_at_call 14; refine (rdigit_any _ _).mono ?_; rintro x wr ⟨rfl, rfl⟩))
                        (try simp only [Exit.inBlock, Exit.then]); refine bodyPost_ret (by simp [results, Tryz.results5, go_sem, cq0, cq1, c0a, c1a, ct0, ct1]; try rfl) rfl ?_
                        obtain ⟨-, -, hA, -⟩ := HA.out
                        exact ⟨_, _, _, rfl, .inr (.inl ⟨H4.out, j, by rw [HL.out, hA (by trivial)], rfl, rfl, rfl⟩), (((((Below.refl _ _).alloc (Nat.le_refl _) _).trans (HW.out.mono (Nat.le_succ _))).alloc (by omega) _).setCell (Nat.le_refl _) _).setCell (Nat.le_refl _) _⟩
                      · have h48' : ((s[j].toNat : Int) == 48) = false := ne48 h48
                        have hT := HT.out
                        have hN := numOk_t s j s.size hlt h18 (.inr h48) (.inl rfl)
                        rw [hN] at hT
                        have HA := Lib.hid (at_tok s j _ _ _ s.size hlt HBL.out hT HX.out)
                        clear hT hN
                        go_wp2_with (first
                          | (go_at_call 13; refine (rletter_any _ _).mono ?_; rintro x wr ⟨rfl, rfl⟩)
                          | (go_at_call 14; refine (rdigit_any _ _).mono ?_; rintro x wr ⟨rfl, rfl⟩)
                          | (at_builtin; refine wpList_append_own _ rfl _ _ 23 rfl (w.heap.size + 1) 54 ti _ 3 40 Tryz.underlying23 hi hz0 hz1 hz2 rfl (by decide) _ _ _ rfl ((((HO.out).alloc _)).alloc _) ⟨wr.heap.size + 1, 0, none⟩ 1 1 [.string ⟨#[110, 117, 109, 98, 101, 114]⟩, .string (s.extract j s.size), .int .i64 j] rfl rfl (news3 (by simp)) (one3 _ _ _) (by unfold maxLen; omega) (by omega) (by simp; omega) ?_))
                        intro v' w1 hown' hgrow _
                        obtain ⟨-, -, -, hA⟩ := HA.out
                        obtain ⟨t, ht, hl1⟩ := hA (by trivial)
                        have HW1 := Lib.hid (Below.grown (((HW.out).alloc (by omega) _).alloc (by simp; omega) _) hgrow (by simp; omega) (fun k hk => (HO.out.lt k hk).1))
                        have HO1 := Lib.hid (add_tok hown' ht)
                        have HL1 := Lib.hid (add_lex HL.out hl1)
                        clear hown' hgrow ht hl1 hA
                        go_wp2_with fail
                        go_roundw
                        case rel => exact ⟨s.size, ts ++ [t], by omega, by simp; omega, by go_num, HL1.out, HO1.out, HW1.out⟩
                        case measure => simp [intOf]; omega
                  · have h18' : ¬ ((s.size - j : Nat) : Int) ≤ 18 := by omega
                    have hT := HT.out
                    have hN := numOk_f1 s j s.size h18
                    rw [hN] at hT
                    have HA := Lib.hid (at_tok s j _ _ _ s.size hlt HBL.out hT HX.out)
                    clear hT hN
                    go_wp2_with (first
                      | (go_at_call 13; refine (rletter_any _ _).mono ?_; rintro x wr ⟨rfl, rfl⟩)
                      | (go_at_call 14; refine (rdigit_any _ _).mono ?_; rintro x wr ⟨rfl, rfl⟩))
                    (try simp only [Exit.inBlock, Exit.then]); refine bodyPost_ret (by simp [results, Tryz.results5, go_sem, cq0, cq1, c0a, c1a, ct0, ct1]; try rfl) rfl ?_
                    obtain ⟨-, -, hA, -⟩ := HA.out
                    exact ⟨_, _, _, rfl, .inr (.inl ⟨H4.out, j, by rw [HL.out, hA (by trivial)], rfl, rfl, rfl⟩), (((((Below.refl _ _).alloc (Nat.le_refl _) _).trans (HW.out.mono (Nat.le_succ _))).alloc (by omega) _).setCell (Nat.le_refl _) _).setCell (Nat.le_refl _) _⟩
          · have hd : isDigit s[j] = false := not_both hl
            have hE1 : j + 1 ≤ spanE alnum s j := by rw [spanE_yes hlt (by unfold alnum; rw [hl]; rfl)]; exact spanE_ge alnum s (j + 1)
            have hE2 := spanE_le alnum s j hj
            have hT := named_tok s j hlt hl
            obtain ⟨E, hE⟩ : ∃ E, spanE alnum s j = E := ⟨_, rfl⟩
            rw [hE] at hE1 hE2 hT
            have HE := Lib.hid hE
            clear hE
            have hx1 : j + (s.extract j E).size = E := by rw [ByteArray.size_extract]; omega
            cases hw : isIn (s.extract j E) wordsL
            · by_cases h8 : E - j ≤ 8
              · rw [hw, decide_eq_true h8] at hT
                have HA := Lib.hid (at_tok s j _ _ _ E hlt HBL.out hT hx1)
                clear hT hx1
                have h8' : ((E - j : Nat) : Int) ≤ 8 := by omega
                go_wp2_with (first
                  | (go_at_call 13; refine (rletter_any _ _).mono ?_; rintro x wr ⟨rfl, rfl⟩)
                  | (go_at_call 14; refine (rdigit_any _ _).mono ?_; rintro x wr ⟨rfl, rfl⟩))
                go_loop [8, 11, 12] (fun i _ _ => ∃ q : Nat, j ≤ q ∧ q ≤ s.size ∧ i = .int .i64 q ∧ E = spanE alnum s q) (fun i _ _ => s.size - (intOf i).toNat)
                case atStart => exact ⟨j, by omega, by omega, rfl, HE.out.symm⟩
                case round =>
                  obtain ⟨q, hq1, hq2, rfl, hq3⟩ := hrel
                  have HQ := Lib.hid hq3
                  clear hq3
                  by_cases hqs : q < s.size
                  · cases hx : isLetter s[q] <;> cases hy : isDigit s[q]
                    · have hEq : E = q := HQ.out.trans (spanE_no hqs (by unfold alnum; rw [hx, hy]; rfl))
                      subst hEq
                      go_wp2_with (first
                        | (go_at_call 13; refine (rletter_any _ _).mono ?_; rintro x wr ⟨rfl, rfl⟩)
                        | (go_at_call 14; refine (rdigit_any _ _).mono ?_; rintro x wr ⟨rfl, rfl⟩)
                        | (go_at_call 15; refine (rword_any _ _).mono ?_; rintro x w' ⟨rfl, rfl⟩)
                        | (at_builtin; refine wpList_append_own _ rfl _ _ 23 rfl (w.heap.size + 1) 54 ti _ 3 40 Tryz.underlying23 hi hz0 hz1 hz2 rfl (by decide) _ _ _ rfl ((((((HO.out).alloc _)).alloc _)).alloc _) ⟨wr.heap.size + 2, 0, none⟩ 1 1 [.string ⟨#[110, 97, 109, 101]⟩, .string (s.extract j E), .int .i64 j] rfl rfl (news3 (by simp)) (one3 _ _ _) (by unfold maxLen; omega) (by omega) (by simp; omega) ?_))
                      intro v' w1 hown' hgrow _
                      obtain ⟨-, -, -, hA⟩ := HA.out
                      obtain ⟨t, ht, hl1⟩ := hA (by trivial)
                      have HW1 := Lib.hid (Below.grown ((((HW.out).alloc (by omega) _).alloc (by simp; omega) _).alloc (by simp; omega) _) hgrow (by simp; omega) (fun k hk => (HO.out.lt k hk).1))
                      have HO1 := Lib.hid (add_tok hown' ht)
                      have HL1 := Lib.hid (add_lex HL.out hl1)
                      clear hown' hgrow ht hl1 hA
                      go_wp2_with fail
                      go_roundw
                      case rel => exact ⟨E, ts ++ [t], by omega, by simp; omega, by go_num, HL1.out, HO1.out, HW1.out⟩
                      case measure => simp [intOf]; omega
                    · have HY := Lib.hid (spanE_yes hqs (show alnum s[q] = true by unfold alnum; rw [hx, hy]; rfl))
                      go_wp2_with (first
                        | (go_at_call 13; refine (rletter_any _ _).mono ?_; rintro x wr ⟨rfl, rfl⟩)
                        | (go_at_call 14; refine (rdigit_any _ _).mono ?_; rintro x wr ⟨rfl, rfl⟩))
                      go_round
                      case rel => exact ⟨q + 1, by omega, by omega, by go_num, by rw [HQ.out, HY.out]⟩
                      case measure => simp [intOf]; omega
                    · have HY := Lib.hid (spanE_yes hqs (show alnum s[q] = true by unfold alnum; rw [hx, hy]; rfl))
                      go_wp2_with (first
                        | (go_at_call 13; refine (rletter_any _ _).mono ?_; rintro x wr ⟨rfl, rfl⟩)
                        | (go_at_call 14; refine (rdigit_any _ _).mono ?_; rintro x wr ⟨rfl, rfl⟩))
                      go_round
                      case rel => exact ⟨q + 1, by omega, by omega, by go_num, by rw [HQ.out, HY.out]⟩
                      case measure => simp [intOf]; omega
                    · have HY := Lib.hid (spanE_yes hqs (show alnum s[q] = true by unfold alnum; rw [hx, hy]; rfl))
                      go_wp2_with (first
                        | (go_at_call 13; refine (rletter_any _ _).mono ?_; rintro x wr ⟨rfl, rfl⟩)
                        | (go_at_call 14; refine (rdigit_any _ _).mono ?_; rintro x wr ⟨rfl, rfl⟩))
                      go_round
                      case rel => exact ⟨q + 1, by omega, by omega, by go_num, by rw [HQ.out, HY.out]⟩
                      case measure => simp [intOf]; omega
                  · have hq' : q = s.size := by omega
                    subst hq'
                    have hEq : E = s.size := HQ.out.trans (spanE_end _ _)
                    subst hEq
                    go_wp2_with (first
                      | (go_at_call 13; refine (rletter_any _ _).mono ?_; rintro x wr ⟨rfl, rfl⟩)
                      | (go_at_call 14; refine (rdigit_any _ _).mono ?_; rintro x wr ⟨rfl, rfl⟩)
                      | (go_at_call 15; refine (rword_any _ _).mono ?_; rintro x w' ⟨rfl, rfl⟩)
                      | (at_builtin; refine wpList_append_own _ rfl _ _ 23 rfl (w.heap.size + 1) 54 ti _ 3 40 Tryz.underlying23 hi hz0 hz1 hz2 rfl (by decide) _ _ _ rfl ((((((HO.out).alloc _)).alloc _)).alloc _) ⟨wr.heap.size + 2, 0, none⟩ 1 1 [.string ⟨#[110, 97, 109, 101]⟩, .string (s.extract j s.size), .int .i64 j] rfl rfl (news3 (by simp)) (one3 _ _ _) (by unfold maxLen; omega) (by omega) (by simp; omega) ?_))
                    intro v' w1 hown' hgrow _
                    obtain ⟨-, -, -, hA⟩ := HA.out
                    obtain ⟨t, ht, hl1⟩ := hA (by trivial)
                    have HW1 := Lib.hid (Below.grown ((((HW.out).alloc (by omega) _).alloc (by simp; omega) _).alloc (by simp; omega) _) hgrow (by simp; omega) (fun k hk => (HO.out.lt k hk).1))
                    have HO1 := Lib.hid (add_tok hown' ht)
                    have HL1 := Lib.hid (add_lex HL.out hl1)
                    clear hown' hgrow ht hl1 hA
                    go_wp2_with fail
                    go_roundw
                    case rel => exact ⟨s.size, ts ++ [t], by omega, by simp; omega, by go_num, HL1.out, HO1.out, HW1.out⟩
                    case measure => simp [intOf]; omega
              · rw [hw, decide_eq_false h8] at hT
                have HA := Lib.hid (at_tok s j _ _ _ E hlt HBL.out hT hx1)
                clear hT hx1
                have h8' : ¬ ((E - j : Nat) : Int) ≤ 8 := by omega
                go_wp2_with (first
                  | (go_at_call 13; refine (rletter_any _ _).mono ?_; rintro x wr ⟨rfl, rfl⟩)
                  | (go_at_call 14; refine (rdigit_any _ _).mono ?_; rintro x wr ⟨rfl, rfl⟩))
                go_loop [8, 11, 12] (fun i _ _ => ∃ q : Nat, j ≤ q ∧ q ≤ s.size ∧ i = .int .i64 q ∧ E = spanE alnum s q) (fun i _ _ => s.size - (intOf i).toNat)
                case atStart => exact ⟨j, by omega, by omega, rfl, HE.out.symm⟩
                case round =>
                  obtain ⟨q, hq1, hq2, rfl, hq3⟩ := hrel
                  have HQ := Lib.hid hq3
                  clear hq3
                  by_cases hqs : q < s.size
                  · cases hx : isLetter s[q] <;> cases hy : isDigit s[q]
                    · have hEq : E = q := HQ.out.trans (spanE_no hqs (by unfold alnum; rw [hx, hy]; rfl))
                      subst hEq
                      go_wp2_with (first
                        | (go_at_call 13; refine (rletter_any _ _).mono ?_; rintro x wr ⟨rfl, rfl⟩)
                        | (go_at_call 14; refine (rdigit_any _ _).mono ?_; rintro x wr ⟨rfl, rfl⟩)
                        | (go_at_call 15; refine (rword_any _ _).mono ?_; rintro x w' ⟨rfl, rfl⟩))
                      (try simp only [Exit.inBlock, Exit.then]); refine bodyPost_ret (by simp [results, Tryz.results5, go_sem, cq0, cq1, c0a, c1a, ct0, ct1]; try rfl) rfl ?_
                      obtain ⟨-, -, hA, -⟩ := HA.out
                      exact ⟨_, _, _, rfl, .inr (.inl ⟨H4.out, j, by rw [HL.out, hA (by trivial)], rfl, rfl, rfl⟩), ((((((Below.refl _ _).alloc (Nat.le_refl _) _).trans (HW.out.mono (Nat.le_succ _))).alloc (by omega) _).alloc (by simp; omega) _).setCell (Nat.le_refl _) _).setCell (Nat.le_refl _) _⟩
                    · have HY := Lib.hid (spanE_yes hqs (show alnum s[q] = true by unfold alnum; rw [hx, hy]; rfl))
                      go_wp2_with (first
                        | (go_at_call 13; refine (rletter_any _ _).mono ?_; rintro x wr ⟨rfl, rfl⟩)
                        | (go_at_call 14; refine (rdigit_any _ _).mono ?_; rintro x wr ⟨rfl, rfl⟩))
                      go_round
                      case rel => exact ⟨q + 1, by omega, by omega, by go_num, by rw [HQ.out, HY.out]⟩
                      case measure => simp [intOf]; omega
                    · have HY := Lib.hid (spanE_yes hqs (show alnum s[q] = true by unfold alnum; rw [hx, hy]; rfl))
                      go_wp2_with (first
                        | (go_at_call 13; refine (rletter_any _ _).mono ?_; rintro x wr ⟨rfl, rfl⟩)
                        | (go_at_call 14; refine (rdigit_any _ _).mono ?_; rintro x wr ⟨rfl, rfl⟩))
                      go_round
                      case rel => exact ⟨q + 1, by omega, by omega, by go_num, by rw [HQ.out, HY.out]⟩
                      case measure => simp [intOf]; omega
                    · have HY := Lib.hid (spanE_yes hqs (show alnum s[q] = true by unfold alnum; rw [hx, hy]; rfl))
                      go_wp2_with (first
                        | (go_at_call 13; refine (rletter_any _ _).mono ?_; rintro x wr ⟨rfl, rfl⟩)
                        | (go_at_call 14; refine (rdigit_any _ _).mono ?_; rintro x wr ⟨rfl, rfl⟩))
                      go_round
                      case rel => exact ⟨q + 1, by omega, by omega, by go_num, by rw [HQ.out, HY.out]⟩
                      case measure => simp [intOf]; omega
                  · have hq' : q = s.size := by omega
                    subst hq'
                    have hEq : E = s.size := HQ.out.trans (spanE_end _ _)
                    subst hEq
                    go_wp2_with (first
                      | (go_at_call 13; refine (rletter_any _ _).mono ?_; rintro x wr ⟨rfl, rfl⟩)
                      | (go_at_call 14; refine (rdigit_any _ _).mono ?_; rintro x wr ⟨rfl, rfl⟩)
                      | (go_at_call 15; refine (rword_any _ _).mono ?_; rintro x w' ⟨rfl, rfl⟩))
                    (try simp only [Exit.inBlock, Exit.then]); refine bodyPost_ret (by simp [results, Tryz.results5, go_sem, cq0, cq1, c0a, c1a, ct0, ct1]; try rfl) rfl ?_
                    obtain ⟨-, -, hA, -⟩ := HA.out
                    exact ⟨_, _, _, rfl, .inr (.inl ⟨H4.out, j, by rw [HL.out, hA (by trivial)], rfl, rfl, rfl⟩), ((((((Below.refl _ _).alloc (Nat.le_refl _) _).trans (HW.out.mono (Nat.le_succ _))).alloc (by omega) _).alloc (by simp; omega) _).setCell (Nat.le_refl _) _).setCell (Nat.le_refl _) _⟩
            · rw [hw] at hT
              have HA := Lib.hid (at_tok s j _ _ _ E hlt HBL.out hT hx1)
              clear hT hx1
              go_wp2_with (first
                | (go_at_call 13; refine (rletter_any _ _).mono ?_; rintro x wr ⟨rfl, rfl⟩)
                | (go_at_call 14; refine (rdigit_any _ _).mono ?_; rintro x wr ⟨rfl, rfl⟩))
              go_loop [8, 11, 12] (fun i _ _ => ∃ q : Nat, j ≤ q ∧ q ≤ s.size ∧ i = .int .i64 q ∧ E = spanE alnum s q) (fun i _ _ => s.size - (intOf i).toNat)
              case atStart => exact ⟨j, by omega, by omega, rfl, HE.out.symm⟩
              case round =>
                obtain ⟨q, hq1, hq2, rfl, hq3⟩ := hrel
                have HQ := Lib.hid hq3
                clear hq3
                by_cases hqs : q < s.size
                · cases hx : isLetter s[q] <;> cases hy : isDigit s[q]
                  · have hEq : E = q := HQ.out.trans (spanE_no hqs (by unfold alnum; rw [hx, hy]; rfl))
                    subst hEq
                    go_wp2_with (first
                      | (go_at_call 13; refine (rletter_any _ _).mono ?_; rintro x wr ⟨rfl, rfl⟩)
                      | (go_at_call 14; refine (rdigit_any _ _).mono ?_; rintro x wr ⟨rfl, rfl⟩)
                      | (go_at_call 15; refine (rword_any _ _).mono ?_; rintro x w' ⟨rfl, rfl⟩)
                      | (at_builtin; refine wpList_append_own _ rfl _ _ 23 rfl (w.heap.size + 1) 54 ti _ 3 40 Tryz.underlying23 hi hz0 hz1 hz2 rfl (by decide) _ _ _ rfl ((((((HO.out).alloc _)).alloc _)).alloc _) ⟨wr.heap.size + 2, 0, none⟩ 1 1 [.string ⟨#[119, 111, 114, 100]⟩, .string (s.extract j E), .int .i64 j] rfl rfl (news3 (by simp)) (one3 _ _ _) (by unfold maxLen; omega) (by omega) (by simp; omega) ?_))
                    intro v' w1 hown' hgrow _
                    obtain ⟨-, -, -, hA⟩ := HA.out
                    obtain ⟨t, ht, hl1⟩ := hA (by trivial)
                    have HW1 := Lib.hid (Below.grown ((((HW.out).alloc (by omega) _).alloc (by simp; omega) _).alloc (by simp; omega) _) hgrow (by simp; omega) (fun k hk => (HO.out.lt k hk).1))
                    have HO1 := Lib.hid (add_tok hown' ht)
                    have HL1 := Lib.hid (add_lex HL.out hl1)
                    clear hown' hgrow ht hl1 hA
                    go_wp2_with fail
                    go_roundw
                    case rel => exact ⟨E, ts ++ [t], by omega, by simp; omega, by go_num, HL1.out, HO1.out, HW1.out⟩
                    case measure => simp [intOf]; omega
                  · have HY := Lib.hid (spanE_yes hqs (show alnum s[q] = true by unfold alnum; rw [hx, hy]; rfl))
                    go_wp2_with (first
                      | (go_at_call 13; refine (rletter_any _ _).mono ?_; rintro x wr ⟨rfl, rfl⟩)
                      | (go_at_call 14; refine (rdigit_any _ _).mono ?_; rintro x wr ⟨rfl, rfl⟩))
                    go_round
                    case rel => exact ⟨q + 1, by omega, by omega, by go_num, by rw [HQ.out, HY.out]⟩
                    case measure => simp [intOf]; omega
                  · have HY := Lib.hid (spanE_yes hqs (show alnum s[q] = true by unfold alnum; rw [hx, hy]; rfl))
                    go_wp2_with (first
                      | (go_at_call 13; refine (rletter_any _ _).mono ?_; rintro x wr ⟨rfl, rfl⟩)
                      | (go_at_call 14; refine (rdigit_any _ _).mono ?_; rintro x wr ⟨rfl, rfl⟩))
                    go_round
                    case rel => exact ⟨q + 1, by omega, by omega, by go_num, by rw [HQ.out, HY.out]⟩
                    case measure => simp [intOf]; omega
                  · have HY := Lib.hid (spanE_yes hqs (show alnum s[q] = true by unfold alnum; rw [hx, hy]; rfl))
                    go_wp2_with (first
                      | (go_at_call 13; refine (rletter_any _ _).mono ?_; rintro x wr ⟨rfl, rfl⟩)
                      | (go_at_call 14; refine (rdigit_any _ _).mono ?_; rintro x wr ⟨rfl, rfl⟩))
                    go_round
                    case rel => exact ⟨q + 1, by omega, by omega, by go_num, by rw [HQ.out, HY.out]⟩
                    case measure => simp [intOf]; omega
                · have hq' : q = s.size := by omega
                  subst hq'
                  have hEq : E = s.size := HQ.out.trans (spanE_end _ _)
                  subst hEq
                  go_wp2_with (first
                    | (go_at_call 13; refine (rletter_any _ _).mono ?_; rintro x wr ⟨rfl, rfl⟩)
                    | (go_at_call 14; refine (rdigit_any _ _).mono ?_; rintro x wr ⟨rfl, rfl⟩)
                    | (go_at_call 15; refine (rword_any _ _).mono ?_; rintro x w' ⟨rfl, rfl⟩)
                    | (at_builtin; refine wpList_append_own _ rfl _ _ 23 rfl (w.heap.size + 1) 54 ti _ 3 40 Tryz.underlying23 hi hz0 hz1 hz2 rfl (by decide) _ _ _ rfl ((((((HO.out).alloc _)).alloc _)).alloc _) ⟨wr.heap.size + 2, 0, none⟩ 1 1 [.string ⟨#[119, 111, 114, 100]⟩, .string (s.extract j s.size), .int .i64 j] rfl rfl (news3 (by simp)) (one3 _ _ _) (by unfold maxLen; omega) (by omega) (by simp; omega) ?_))
                  intro v' w1 hown' hgrow _
                  obtain ⟨-, -, -, hA⟩ := HA.out
                  obtain ⟨t, ht, hl1⟩ := hA (by trivial)
                  have HW1 := Lib.hid (Below.grown ((((HW.out).alloc (by omega) _).alloc (by simp; omega) _).alloc (by simp; omega) _) hgrow (by simp; omega) (fun k hk => (HO.out.lt k hk).1))
                  have HO1 := Lib.hid (add_tok hown' ht)
                  have HL1 := Lib.hid (add_lex HL.out hl1)
                  clear hown' hgrow ht hl1 hA
                  go_wp2_with fail
                  go_roundw
                  case rel => exact ⟨s.size, ts ++ [t], by omega, by simp; omega, by go_num, HL1.out, HO1.out, HW1.out⟩
                  case measure => simp [intOf]; omega
        · have HB : Hid (lexA ((bytesL s).drop j) j = lexA ((bytesL s).drop (j + 1)) (j + 1)) := by
            show lexA _ _ = _
            rw [bytes_cons hlt]; exact lexA_blank _ _ _ hbl
          have hbl3 : (((s[j].toNat : Int) == 32) = true) ∨ (((s[j].toNat : Int) == 32) = false ∧ ((s[j].toNat : Int) == 9) = true) ∨ (((s[j].toNat : Int) == 32) = false ∧ ((s[j].toNat : Int) == 9) = false ∧ ((s[j].toNat : Int) == 10) = true) := by
            unfold isBlank at hbl
            revert hbl
            cases ((s[j].toNat : Int) == 32) <;> cases ((s[j].toNat : Int) == 9) <;> cases ((s[j].toNat : Int) == 10) <;> simp
          have HO := Lib.hid hO
          have HW := Lib.hid hW
          clear hbl hO hW
          rcases hbl3 with h1 | ⟨h1, h2⟩ | ⟨h1, h2, h3⟩
          all_goals
            go_wp2_with fail
            go_roundw
            case rel => exact ⟨j + 1, ts, by omega, by omega, by go_num, by rw [HL.out, HB.out], HO.out, HW.out⟩
            case measure => simp [intOf]; omega
      · have hj' : j = s.size := by omega
        subst hj'
        have HN : Hid (lexA (bytesL s) 0 = (ts, none)) := HL.out.trans (by rw [lexA_nil _ _ (by rw [List.drop_eq_nil_of_le (by rw [List.length_drop, bytesL_len]; omega)]), List.append_nil])
        obtain ⟨A, c, rfl⟩ := owns_slice hO
        have hsz : w.heap.size + 1 ≤ wr.heap.size := by simpa using hW.size
        have HO := Lib.hid hO
        have HW := Lib.hid hW
        clear hO hW
        by_cases hk : (1000 : Int) < ts.length
        · go_wp2_with (go_at_call 12; refine (bare_any _ _).mono ?_; rintro x w' ⟨rfl, hb⟩; obtain ⟨k0, k1, kf⟩ := two_new (by simpa using (HW.out.trans (hb.mono hsz))); have HB := Lib.hid hb; clear hb)
          (try simp only [Exit.inBlock, Exit.then]); refine bodyPost_ret (by simp [results, Tryz.results5, go_sem, k0, k1]; try rfl) rfl ?_
          exact ⟨_, _, _, rfl, .inr (.inr (.inl ⟨H4.out, by rw [HN.out], by rw [HN.out]; show 1000 < ts.length; omega, rfl, rfl, rfl⟩)), ((((Below.refl _ _).alloc (Nat.le_refl _) _).trans ((HW.out.trans (HB.out.mono hsz)).mono (Nat.le_succ _))).setCell (Nat.le_refl _) _).setCell (Nat.le_refl _) _⟩
        · have hk' : (ts.length : Int) ≤ 1000 := by omega
          go_wp2_with (go_at_call 17; refine (fine_any _).mono ?_; rintro x w' ⟨rfl, hb⟩; obtain ⟨k0, k1, kf⟩ := two_new (by simpa using (HW.out.trans (hb.mono hsz))); have HB := Lib.hid hb; clear hb)
          (try simp only [Exit.inBlock, Exit.then]); refine bodyPost_ret (by simp [results, Tryz.results5, go_sem, k0, k1]; try rfl) rfl ?_
          refine ⟨_, _, _, rfl, .inr (.inr (.inr ⟨H4.out, by rw [HN.out], by rw [HN.out]; show ts.length ≤ 1000; omega, rfl, rfl, ?_⟩)), ((((Below.refl _ _).alloc (Nat.le_refl _) _).trans ((HW.out.trans (HB.out.mono hsz)).mono (Nat.le_succ _))).setCell (Nat.le_refl _) _).setCell (Nat.le_refl _) _⟩
          rw [HN.out]
          exact owns_set2 (ownsRow_below HO.out HB.out)
  · have h4' : ¬ (s.size : Int) ≤ 4000 := by omega
    go_enter Tryz.func5, Tryz.ntmps5
    go_wp2_with (go_at_call 12; refine (bare_any _ _).mono ?_; rintro x w' ⟨rfl, hb⟩; obtain ⟨k0, k1, kf⟩ := two_new hb; have HB := Lib.hid hb; clear hb)
    (try simp only [Exit.inBlock, Exit.then]); refine bodyPost_ret (by simp [results, Tryz.results5, go_sem, k0, k1]; try rfl) rfl ?_
    exact ⟨_, _, _, rfl, .inl ⟨by omega, rfl, rfl, rfl⟩, ((((Below.refl _ _).alloc (Nat.le_refl _) _).trans (HB.out.mono (by simp))).setCell (Nat.le_refl _) _).setCell (Nat.le_refl _) _⟩
end Go.Proofs.YtpfgimohginbdaaGreatDoor
