import Derived.OwnWalk
import Derived.Laws.OwnMore
import Derived.Test.YtpfgimohginbdaaGreatDoorBn7
import Derived.Test.YtpfgimohginbdaaGreatDoorBn10
import Derived.Test.YtpfgimohginbdaaGreatDoorBn4
set_option linter.unusedVariables false
set_option linter.unusedSimpArgs false
namespace Go.Proofs.YtpfgimohginbdaaGreatDoor
open Go.RowKit

theorem bytes_cons {s : ByteArray} {k : Nat} (h : k < s.size) : (bytesL s).drop k = s[k] :: (bytesL s).drop (k + 1) := List.drop_eq_getElem_cons (l := bytesL s) (by rw [bytesL_len]; exact h)
theorem ext_mk (s : ByteArray) (a b : Nat) : s.extract a b = mkB (((bytesL s).drop a).take (b - a)) := eq_mkB (extract_bytes s a b)
theorem spanE_sub (p : UInt8 → Bool) (s : ByteArray) (k : Nat) : spanE p s k - k = spanL p ((bytesL s).drop k) := by unfold spanE; omega
/-- What the token at k is, as the code returns it. -/
def tokR (s : ByteArray) (k : Nat) : Value := .tuple #[tokV (mkB (tokAt ((bytesL s).drop k)).1) (mkB (((bytesL s).drop k).take (tokAt ((bytesL s).drop k)).2.1)) k, .bool (tokAt ((bytesL s).drop k)).2.2]
theorem named_tok (s : ByteArray) (k : Nat) (hk : k < s.size) (h : isLetter s[k] = true) : (.tuple #[tokV (mkB (if isIn (s.extract k (spanE alnum s k)) wordsL then kWord else kName)) (s.extract k (spanE alnum s k)) k, .bool (isIn (s.extract k (spanE alnum s k)) wordsL || decide (spanE alnum s k - k ≤ 8))] : Value) = tokR s k := by
  unfold tokR
  rw [isIn_wordsL, ext_mk, spanE_sub, bytes_cons hk, tokAt_letter _ _ h]
theorem numOk_eq (s : ByteArray) (k : Nat) (hk : k < s.size) : numOk s k (spanE isDigit s k) = numL s[k] ((bytesL s).drop k) (spanL isDigit ((bytesL s).drop k)) := by
  unfold numOk numL
  have h2 := spanE_le isDigit s k (Nat.le_of_lt hk)
  have hq := spanE_sub isDigit s k
  have hd : ((bytesL s).drop k).drop (spanL isDigit ((bytesL s).drop k)) = (bytesL s).drop (spanE isDigit s k) := by rw [List.drop_drop]; rfl
  rw [hd, ← hq, bytesL_getD s k hk]
  clear hd hq
  generalize spanE isDigit s k = e at *
  by_cases h : e = s.size
  · subst h
    rw [List.drop_eq_nil_of_le (by rw [bytesL_len]; omega), decide_eq_true rfl, Bool.true_or]
  · rw [decide_eq_false h, bytesL_getD s _ (by omega), bytes_cons (s := s) (k := e) (by omega), Bool.false_or]
theorem number_tok (s : ByteArray) (k : Nat) (hk : k < s.size) (h : isLetter s[k] = false) (hd : isDigit s[k] = true) : (.tuple #[tokV (mkB kNumber) (s.extract k (spanE isDigit s k)) k, .bool (numOk s k (spanE isDigit s k))] : Value) = tokR s k := by
  unfold tokR
  rw [numOk_eq s k hk, ext_mk, spanE_sub, bytes_cons hk, tokAt_digit _ _ h hd]
theorem sign_tok (s : ByteArray) (k : Nat) (hk : k < s.size) (h : isLetter s[k] = false) (hd : isDigit s[k] = false) : (.tuple #[tokV (mkB kSign) (signTxt (((bytesL s).drop k).take 2) (s.extract k (k + 1))) k, .bool (signOk (((bytesL s).drop k).take 2) s[k])] : Value) = tokR s k := by
  unfold tokR signTxt signOk
  rw [ext_mk, show k + 1 - k = 1 by omega, bytes_cons hk, tokAt_sign _ _ h hd]
  cases twosB.any (fun x => x == (s[k] :: (bytesL s).drop (k + 1)).take 2) <;> rfl
theorem new_row {w w' : World} {cs : Array Value} {t : TypeId} (hb : Below (w.alloc (.cells cs t)).heap.size (w.alloc (.cells cs t)) w') : w'.heap[w.heap.size]? = some (.cells cs t (0, 0)) :=
  (hb.block w.heap.size (by simp)).trans (heap_alloc_new w _)
theorem three_new {w w' : World} {x y z : Value} {t : TypeId} (hb : Below (w.alloc (.cells #[x, y, z] t)).heap.size (w.alloc (.cells #[x, y, z] t)) w') :
    w'.cell? ⟨w.heap.size, 0, none⟩ = some x ∧ w'.cell? ⟨w.heap.size, 1, none⟩ = some y ∧ w'.cell? ⟨w.heap.size, 2, none⟩ = some z ∧ ∀ j, w'.frozen? ⟨w.heap.size, j, none⟩ = false := by
  have h := new_row hb
  exact ⟨cell_of_row w' _ 0 _ _ _ h, cell_of_row w' _ 1 _ _ _ h, cell_of_row w' _ 2 _ _ _ h, fun j => frozen_of_row w' _ j _ _ h⟩
theorem two_new {w w' : World} {x y : Value} {t : TypeId} (hb : Below (w.alloc (.cells #[x, y] t)).heap.size (w.alloc (.cells #[x, y] t)) w') :
    w'.cell? ⟨w.heap.size, 0, none⟩ = some x ∧ w'.cell? ⟨w.heap.size, 1, none⟩ = some y ∧ ∀ j, w'.frozen? ⟨w.heap.size, j, none⟩ = false := by
  have h := new_row hb
  exact ⟨cell_of_row w' _ 0 _ _ _ h, cell_of_row w' _ 1 _ _ _ h, fun j => frozen_of_row w' _ j _ _ h⟩
attribute [local go_sem] tokV
theorem token_any (s : ByteArray) (hs : s.size ≤ 1000000000) (k : Nat) (hk : k < s.size) (w : World) :
    Calls Tryz.prog 28 #[.string s, .int .i64 k] w (Ret (tokR s k) w) := by
  have hkk : (k : Int) < (s.size : Int) := by omega
  cases hl : isLetter s[k]
  · cases hd : isDigit s[k]
    · have H := Lib.hid (sign_tok s k hk hl hd)
      go_enter Tryz.func28, Tryz.ntmps28
      go_wp2_with (first
        | (go_at_call 41; refine (letter_any _ _).mono ?_; rintro e w' ⟨rfl, rfl⟩)
        | (go_at_call 43; refine (digit_any _ _).mono ?_; rintro e w' ⟨rfl, rfl⟩)
        | (go_at_call 45; refine (sign_any s hs k hk _).mono ?_; rintro e w' ⟨rfl, hb⟩; have Hb := Lib.hid hb; obtain ⟨c0, c1, c2, cf⟩ := three_new hb; clear hb))
      (try simp only [Exit.inBlock, Exit.then]); refine bodyPost_ret (by simp [results, Tryz.results28, go_sem, c0, c1, c2]; try rfl) rfl ?_
      exact ⟨by rw [← H.out]; rfl, ((((Below.refl _ _).alloc (Nat.le_refl _) _).trans (Hb.out.mono (by simp))).setCell (Nat.le_refl _) _).setCell (Nat.le_refl _) _ |>.setCell (Nat.le_refl _) _⟩
    · have H := Lib.hid (number_tok s k hk hl hd)
      go_enter Tryz.func28, Tryz.ntmps28
      go_wp2_with (first
        | (go_at_call 41; refine (letter_any _ _).mono ?_; rintro e w' ⟨rfl, rfl⟩)
        | (go_at_call 43; refine (digit_any _ _).mono ?_; rintro e w' ⟨rfl, rfl⟩)
        | (go_at_call 44; refine (number_any s hs k hk (by exact hd) _).mono ?_; rintro e w' ⟨rfl, hb⟩; have Hb := Lib.hid hb; obtain ⟨c0, c1, c2, cf⟩ := three_new hb; clear hb))
      (try simp only [Exit.inBlock, Exit.then]); refine bodyPost_ret (by simp [results, Tryz.results28, go_sem, c0, c1, c2]; try rfl) rfl ?_
      exact ⟨by rw [← H.out]; rfl, ((((Below.refl _ _).alloc (Nat.le_refl _) _).trans (Hb.out.mono (by simp))).setCell (Nat.le_refl _) _).setCell (Nat.le_refl _) _ |>.setCell (Nat.le_refl _) _⟩
  · have hn := fun w => named_any s hs k (Nat.le_of_lt hk) w
    have h := named_tok s k hk hl
    generalize mkB (if isIn (s.extract k (spanE alnum s k)) wordsL then kWord else kName) = K at hn h
    generalize (isIn (s.extract k (spanE alnum s k)) wordsL || decide (spanE alnum s k - k ≤ 8)) = B at hn h
    have H := Lib.hid h
    have HN := Lib.hid hn
    clear h hn
    go_enter Tryz.func28, Tryz.ntmps28
    go_wp2_with (first
      | (go_at_call 41; refine (letter_any _ _).mono ?_; rintro e w' ⟨rfl, rfl⟩)
      | (go_at_call 42; refine (HN.out _).mono ?_; rintro e w' ⟨rfl, hb⟩; have Hb := Lib.hid hb; obtain ⟨c0, c1, c2, cf⟩ := three_new hb; clear hb))
    (try simp only [Exit.inBlock, Exit.then]); refine bodyPost_ret (by simp [results, Tryz.results28, go_sem, c0, c1, c2]; try rfl) rfl ?_
    exact ⟨by rw [← H.out]; rfl, ((((Below.refl _ _).alloc (Nat.le_refl _) _).trans (Hb.out.mono (by simp))).setCell (Nat.le_refl _) _).setCell (Nat.le_refl _) _ |>.setCell (Nat.le_refl _) _⟩
end Go.Proofs.YtpfgimohginbdaaGreatDoor

namespace Go.Proofs.YtpfgimohginbdaaGreatDoor
open Go.RowKit

theorem tokInfo : (Tryz.prog.info? 62).map (fun i => (i.zero, i.size, i.bytes)) = some (some (.agg #[.string ⟨#[]⟩, .string ⟨#[]⟩, .int .i64 0]), 3, 40) := by kernel_rfl
theorem mkB_size (l : List UInt8) : (mkB l).size = l.length := rfl
def tokCells (t : Tok) : List Value := [.string (mkB t.kind), .string (mkB t.text), .int .i64 t.pos]
theorem tokCells_len (ts : List Tok) : (ts.flatMap tokCells).length = ts.length * 3 := by
  induction ts with
  | nil => rfl
  | cons t ts ih => rw [List.flatMap_cons, List.length_append, ih]; simp [tokCells]; omega
theorem ownsRow_below {w w' : World} {base : Nat} {e : TypeId} {size : Nat} {v : Value} {n : Nat} {xs : List Value} (h : w.ownsRow base e size v n xs) (hb : Below w.heap.size w w') : w'.ownsRow base e size v n xs :=
  h.kept (row := none) ⟨hb.os, hb.tape, hb.output, hb.size, fun k hk _ => hb.block k hk⟩ (by cases v.ownBlock <;> simp)
theorem owns_slice {w : World} {base : Nat} {e : TypeId} {size : Nat} {v : Value} {n : Nat} {xs : List Value} (h : w.ownsRow base e size v n xs) : ∃ A c, v = .slice A n c := by
  rcases h.2 with ⟨rfl, rfl⟩ | ⟨g, cap, cur, rfl, _⟩
  · exact ⟨none, 0, rfl⟩
  · exact ⟨_, _, rfl⟩
theorem read_step (s : ByteArray) (j : Nat) (hj : j ≤ s.size) : ∃ e, spanE isBlank s j = e ∧ j ≤ e ∧ e ≤ s.size ∧ (e = s.size → lexA ((bytesL s).drop j) j = ([], none)) ∧
    (e < s.size → ∃ K T n b, tokR s e = .tuple #[tokV K T e, .bool b] ∧ T.size = n ∧ 0 < n ∧ e + n ≤ s.size ∧ (b = false → lexA ((bytesL s).drop j) j = ([], some e)) ∧
      (b = true → ∃ t : Tok, tokCells t = [.string K, .string T, .int .i64 e] ∧ lexA ((bytesL s).drop j) j = (t :: (lexA ((bytesL s).drop (e + n)) (e + n)).1, (lexA ((bytesL s).drop (e + n)) (e + n)).2))) := by
  have hd : ((bytesL s).drop j).drop (spanL isBlank ((bytesL s).drop j)) = (bytesL s).drop (spanE isBlank s j) := by rw [List.drop_drop]; rfl
  have hE : j + spanL isBlank ((bytesL s).drop j) = spanE isBlank s j := rfl
  have h1 := spanE_ge isBlank s j
  have h2 := spanE_le isBlank s j hj
  refine ⟨_, rfl, h1, h2, ?_, ?_⟩
  · intro he
    exact lexA_nil _ _ (by rw [hd, he]; exact List.drop_eq_nil_of_le (by rw [bytesL_len]; omega))
  · intro hlt
    have hc := bytes_cons hlt
    have hb := tokAt_bounds s[spanE isBlank s j] ((bytesL s).drop (spanE isBlank s j + 1))
    rw [← hc, List.length_drop, bytesL_len] at hb
    refine ⟨_, _, (tokAt ((bytesL s).drop (spanE isBlank s j))).2.1, _, rfl, ?_, hb.1, by omega, ?_, ?_⟩
    · rw [mkB_size, List.length_take, List.length_drop, bytesL_len]; omega
    · intro hf
      rw [lexA_bad _ _ _ _ (hd.trans hc) (by rw [← hc]; exact hf), hE]
    · intro hf
      refine ⟨⟨_, _, spanE isBlank s j⟩, rfl, ?_⟩
      rw [lexA_tok _ _ _ _ (hd.trans hc) (by rw [← hc]; exact hf), ← hc, hE, List.drop_drop]
/-- What lex.Read leaves: a slice of tokens and an error. -/
def ReadVal (s : ByteArray) (KT KB KF : Addr) (w : World) (base : Nat) (sl er : Value) : Prop :=
  (4000 < s.size ∧ sl = .slice none 0 0 ∧ er = esV KB) ∨
  (s.size ≤ 4000 ∧ ∃ p fb : Nat, (lexA (bytesL s) 0).2 = some p ∧ sl = .slice none 0 0 ∧ er = ftV ⟨fb, 0, none⟩ ∧ w.cell? ⟨fb, 0, none⟩ = some (.int .i64 p) ∧ w.cell? ⟨fb, 1, none⟩ = some (esV KT)) ∨
  (s.size ≤ 4000 ∧ (lexA (bytesL s) 0).2 = none ∧ 1000 < (lexA (bytesL s) 0).1.length ∧ sl = .slice none 0 0 ∧ er = esV KF) ∨
  (s.size ≤ 4000 ∧ (lexA (bytesL s) 0).2 = none ∧ (lexA (bytesL s) 0).1.length ≤ 1000 ∧ er = .nilIface ∧ w.ownsRow base 62 3 sl (lexA (bytesL s) 0).1.length ((lexA (bytesL s) 0).1.flatMap tokCells))
attribute [local go_sem] tokV
set_option maxRecDepth 100000 in
set_option maxHeartbeats 1000000 in
theorem Read_any (s : ByteArray) (hs : s.size ≤ 1000000000) (KT KB KF : Addr) (w : World) (hT : w.cell? ⟨1, 0, none⟩ = some (esV KT)) (hB : w.cell? ⟨0, 0, none⟩ = some (esV KB)) (hF : w.cell? ⟨2, 0, none⟩ = some (esV KF)) :
    Calls Tryz.prog 11 #[.string s] w fun e w' => ∃ sl er, e = .returned (.tuple #[sl, er]) ∧ ReadVal s KT KB KF w' w.heap.size sl er ∧ Below w.heap.size w w' := by
  have gT := World.block_lt_of_cell? w _ hT
  have gB := World.block_lt_of_cell? w _ hB
  have gF := World.block_lt_of_cell? w _ hF
  obtain ⟨ti, hi, hz0, hz1, hz2⟩ := info_parts tokInfo
  by_cases h4 : s.size ≤ 4000
  · have h4' : (s.size : Int) ≤ 4000 := by omega
    have H4 := Lib.hid h4
    clear h4
    go_enter Tryz.func11, Tryz.ntmps11
    go_wp2_with fail
    go_loopw [4, 5] (fun v i wr => ∃ (j : Nat) (ts : List Tok), j ≤ s.size ∧ ts.length ≤ j ∧ i = .int .i64 j ∧ lexA (bytesL s) 0 = (ts ++ (lexA ((bytesL s).drop j) j).1, (lexA ((bytesL s).drop j) j).2) ∧ wr.ownsRow w.heap.size 62 3 v ts.length (ts.flatMap tokCells) ∧ Below w.heap.size w wr) (fun _ i _ => s.size - (intOf i).toNat)
    case atStart => exact ⟨0, [], Nat.zero_le _, Nat.le_refl _, rfl, rfl, World.ownsRow_nil _ _ _ _, Below.refl _ _⟩
    case round =>
      obtain ⟨j, ts, hj, htj, rfl, hL, hO, hW⟩ := hrel
      obtain ⟨e, he, hje, hes, hend, hgo⟩ := read_step s j hj
      have HL := Lib.hid hL
      have HE := Lib.hid (show ∀ w, Calls Tryz.prog 26 #[.string s, .int .i64 j, .func (.func 27) #[] #[]] w fun x w' => x = .returned (.int .i64 (e : Nat)) ∧ w' = w from fun w => he ▸ span_blank s hs j hj w)
      clear hL he
      by_cases hlt : e < s.size
      · obtain ⟨K, T, n, b, hR, hTn, hn0, hns, hbf, hbt⟩ := hgo hlt
        have HT := Lib.hid (show ∀ w, Calls Tryz.prog 28 #[.string s, .int .i64 e] w (Ret (.tuple #[tokV K T e, .bool b]) w) from fun w => hR ▸ token_any s hs e hlt w)
        have HF := Lib.hid hbf
        have HG := Lib.hid hbt
        clear hgo hR hbf hbt hend
        have hne : ((e : Int) == (s.size : Int)) = false := by simp; omega
        have hT0 : ∀ w', Below w.heap.size w w' → w'.cell? ⟨1, 0, none⟩ = some (esV KT) := fun w' h => (h.cell gT).trans hT
        have HT0 := Lib.hid hT0
        clear hT0
        cases b
        · have HX : Hid ((lexA (bytesL s) 0).2 = some e) := by have := HL.out; rw [HF.out rfl] at this; rw [this]; rfl
          have HO := Lib.hid hO
          clear hO
          go_wp2_with (first
            | (go_at_call 26; refine (HE.out _).mono ?_; rintro x wr ⟨rfl, rfl⟩)
            | (go_at_call 28; refine (HT.out _).mono ?_; rintro x w' ⟨rfl, hb⟩; have hT1 := HT0.out w' (hW.trans (hb.mono hW.size))))
          have hT2 : (w'.alloc (.cells #[.string K, .string T, .int .i64 e] 62)).cell? ⟨1, 0, none⟩ = some (esV KT) := HT0.out _ ((hW.trans (hb.mono hW.size)).alloc (Nat.le_trans hW.size hb.size) _)
          go_region
          all_goals go_wp2_with fail
          all_goals go_ret2
          all_goals refine ⟨_, _, rfl, .inr (.inl ⟨H4.out, e, _, HX.out, rfl, rfl, ?_, ?_⟩), ?_⟩
          · simp
          · simp
          · exact ((((hW.trans (hb.mono hW.size)).alloc (Nat.le_trans hW.size hb.size) _).alloc (by simp; have := hW.size; have := hb.size; omega) _).drew)
        · have HO := Lib.hid hO
          clear hO
          obtain ⟨t, ht, hlt2⟩ := HG.out rfl
          have HQ := Lib.hid (And.intro ht hlt2)
          clear ht hlt2 HG HF
          go_wp2_with (first
            | (go_at_call 26; refine (HE.out _).mono ?_; rintro x wr ⟨rfl, rfl⟩)
            | (go_at_call 28; refine (HT.out _).mono ?_; rintro x w' ⟨rfl, hb⟩)
            | (at_builtin; refine wpList_append_own _ rfl _ _ 33 rfl w.heap.size 62 ti _ 3 40 Tryz.underlying33 hi hz0 hz1 hz2 rfl (by decide) _ _ _ rfl (((ownsRow_below HO.out hb).alloc _).alloc _) ⟨w'.heap.size + 1, 0, none⟩ 1 1 [.string K, .string T, .int .i64 e] rfl rfl ?c1 ?c2 ?c3 ?c4 ?c5 ?_))
          case c1 =>
            intro i u hu
            match i, hu with
            | 0, hu => simp at hu; subst hu; simp [Addr.add]
            | 1, hu => simp at hu; subst hu; simp [Addr.add]
            | 2, hu => simp at hu; subst hu; simp [Addr.add]
          case c2 => intro u hu; simp at hu; rcases hu with rfl | rfl | rfl <;> rfl
          case c3 => unfold maxLen; omega
          case c4 => omega
          case c5 => have := hW.size; have := hb.size; simp; omega
          · intro v' w1 hown' hgrow _
            have hbl := HO.out.lt
            have f1 : w1.cell? ⟨w'.heap.size, 1, none⟩ = some (.string T) := hgrow.cell (by simp) (fun h => by have q : w'.heap.size < wr.heap.size := (hbl _ h.symm).2; have := hb.size; omega)
            have hW1 : Below w.heap.size w w1 := Below.grown (((hW.trans (hb.mono hW.size)).alloc (Nat.le_trans hW.size hb.size) _).alloc (by simp; have := hW.size; have := hb.size; omega) _) hgrow (by simp; have := hW.size; have := hb.size; omega) (fun k hk => (hbl k hk).1)
            have HO1 : Hid (w1.ownsRow w.heap.size 62 3 v' (ts ++ [t]).length ((ts ++ [t]).flatMap tokCells)) := by
              have := HQ.out.1
              show w1.ownsRow _ _ _ _ _ _
              rw [List.flatMap_append, List.length_append, List.flatMap_singleton, this]
              exact hown'
            have HL1 : Hid (lexA (bytesL s) 0 = ((ts ++ [t]) ++ (lexA ((bytesL s).drop (e + n)) (e + n)).1, (lexA ((bytesL s).drop (e + n)) (e + n)).2)) := by
              have := HL.out
              rw [HQ.out.2] at this
              show lexA _ _ = _
              rw [this, List.append_assoc]; rfl
            clear hown' hgrow hbl hb
            have HW1 := Lib.hid hW1
            clear hW1 hW
            go_wp2_with fail
            go_roundw
            case rel => exact ⟨e + n, ts ++ [t], hns, by simp; omega, by go_num, HL1.out, HO1.out, HW1.out⟩
            case measure => simp [intOf]; omega
      · have hes' : e = s.size := by omega
        subst hes'
        have HN : Hid (lexA (bytesL s) 0 = (ts, none)) := HL.out.trans (by rw [hend rfl, List.append_nil])
        have hee : ((s.size : Int) == (s.size : Int)) = true := by simp
        clear hend hgo
        obtain ⟨A, c, rfl⟩ := owns_slice hO
        have HO := Lib.hid hO
        clear hO
        by_cases hk : (1000 : Int) < ts.length
        · have hF1 : wr.cell? ⟨2, 0, none⟩ = some (esV KF) := (hW.cell gF).trans hF
          go_wp2_with (go_at_call 26; refine (HE.out _).mono ?_; rintro x wr ⟨rfl, rfl⟩)
          go_quiet (fail)
          go_wp2_with fail
          go_ret2
          exact ⟨_, _, rfl, .inr (.inr (.inl ⟨H4.out, by rw [HN.out], by rw [HN.out]; show 1000 < ts.length; omega, rfl, rfl⟩)), below_drewN hW _⟩
        · have hk' : (ts.length : Int) ≤ 1000 := by omega
          go_wp2_with (go_at_call 26; refine (HE.out _).mono ?_; rintro x wr ⟨rfl, rfl⟩)
          go_ret2
          exact ⟨_, _, rfl, .inr (.inr (.inr ⟨H4.out, by rw [HN.out], by rw [HN.out]; show ts.length ≤ 1000; omega, rfl, by rw [HN.out]; exact HO.out⟩)), hW⟩
  · have h4' : ¬ (s.size : Int) ≤ 4000 := by omega
    go_enter Tryz.func11, Tryz.ntmps11
    go_wp2_with fail
    go_quiet (fail)
    go_wp2_with fail
    go_ret2
    exact ⟨_, _, rfl, .inl ⟨by omega, rfl, rfl⟩, below_drewN (Below.refl _ _) _⟩
end Go.Proofs.YtpfgimohginbdaaGreatDoor
