import Derived.Test.YteifmgcbafemeaaGreatDoorCheckN
import Derived.Test.YteifmgcbafemeaaGreatDoorShelf
import Derived.Shelf.Strings.SlTrimAscii
import Derived.Test.YteifmgcbafemeaaGreatDoorTreeAsE
namespace Go.Proofs.YteifmgcbafemeaaGreatDoor
open Go.RowKit

/-! lex.Name -/
theorem llet_any (c : UInt8) (w : World) : Calls Tryz.prog 70 #[.int .u8 (c.toNat : Int)] w fun e w' => e = .returned (.bool (isLetter c)) ∧ w' = w := by
  by_cases h1 : (97 : Int) ≤ c.toNat <;> by_cases h2 : (c.toNat : Int) ≤ 122
  all_goals
    have H := Lib.hid (And.intro h1 h2)
    go_enter Tryz.func70, Tryz.ntmps70
    go_wp2_with fail
    go_ret
    exact ⟨by obtain ⟨h1, h2⟩ := H.out; unfold isLetter; simp [h1, h2], rfl⟩
theorem lwrd_any (n : Nm) (w : World) : Calls Tryz.prog 72 #[strV n] w (Ret (.bool (wordsB.contains n)) w) := by
  have H := Lib.hid (isIn_words2 n)
  unfold strV
  go_enter Tryz.func72, Tryz.ntmps72
  go_wp2_with (go_at_call 36; refine (Contains_any _ _ wordsL2 _ _ (Row.new w _ _) (by decide)).mono ?_; rintro e w' ⟨rfl, rfl⟩)
  go_ret
  exact ⟨by rw [← H.out]; rfl, grow_alloc (grow_refl _) _⟩
def lettersB : List UInt8 := [97, 98, 99, 100, 101, 102, 103, 104, 105, 106, 107, 108, 109, 110, 111, 112, 113, 114, 115, 116, 117, 118, 119, 120, 121, 122, 48, 49, 50, 51, 52, 53, 54, 55, 56, 57]
theorem letters_alnum (c : UInt8) : lettersB.contains c = alnum c := by
  have h : ∀ k : Fin 256, lettersB.contains (UInt8.ofNat k.val) = alnum (UInt8.ofNat k.val) := by decide +kernel
  have := h ⟨c.toNat, c.toNat_lt⟩
  simpa using this
theorem dropWhile_nil {p : UInt8 → Bool} : ∀ (l : List UInt8), (l.dropWhile p = []) ↔ l.all p = true := by
  intro l
  induction l with
  | nil => simp
  | cons c l ih =>
    rw [List.dropWhile_cons, List.all_cons]
    cases h : p c <;> simp [ih]
theorem trim_nil (n : Nm) : (Lib.trimS n lettersB = []) ↔ n.all alnum = true := by
  have hf : (fun c => lettersB.contains c) = alnum := funext letters_alnum
  unfold Lib.trimS Lib.trimLeftS Lib.trimRightS
  rw [hf, dropWhile_nil]
  constructor
  · intro h
    have h2 : n.reverse.dropWhile alnum = [] := by
      cases hd : n.reverse.dropWhile alnum with
      | nil => rfl
      | cons c r =>
        rw [hd] at h
        have hc : alnum c = false := by
          have := List.head?_dropWhile_not (p := alnum) n.reverse
          rw [hd] at this
          simpa using this
        simp [hc] at h
    rw [dropWhile_nil] at h2
    simpa using h2
  · intro h
    have h2 : n.reverse.dropWhile alnum = [] := (dropWhile_nil _).2 (by simpa using h)
    rw [h2]; rfl
theorem ltrim_any (s : ByteArray) (n : Nm) (hn : s.data.toList = n) (hl : n.length ≤ 8) (w : World) (cs : ByteArray) (hc : cs.data.toList = lettersB) :
    Calls Tryz.prog 71 #[.string s, .string cs] w (Ret (strV (Lib.trimS n lettersB)) w) := by
  have hsz : s.size ≤ 9223372036854775807 := by
    have : s.size = n.length := by rw [← hn]; rfl
    omega
  have hcs : cs.size < 4294967281 := by
    have : cs.size = lettersB.length := by rw [← hc]; rfl
    rw [this]; decide
  have h := Any.strings_Trim_laid Tryz.lays160 (by kernel_rfl) s cs w hsz hcs (by rw [hc]; exact ascii_of_all (by decide))
  rw [hn, hc] at h
  exact h
set_option maxHeartbeats 1000000 in
theorem lexName_s (s : ByteArray) (w : World) (n : Nm) (hn : s.data.toList = n) : Calls Tryz.prog 49 #[.string s] w (Ret (.bool (nmOk n)) w) := by
  have hsz : s.size = n.length := by rw [← hn]; rfl
  have HS := Lib.hid hsz
  have HB := Lib.hid hn
  have hsn : s = mkB n := by rw [← hn]; rfl
  have htl : s.toList = n := by rw [hsn, mkB_toList]
  have hT : n.length ≤ 8 → ∀ w' cs, cs.data.toList = lettersB → Calls Tryz.prog 71 #[.string s, .string cs] w' (Ret (strV (Lib.trimS n lettersB)) w') := fun hl w' cs hc => ltrim_any s n hn hl w' cs hc
  have hW := lwrd_any n
  unfold strV at hT
  unfold strV at hW
  rw [← hsn] at hW
  have HW := Lib.hid hW
  clear hn hsn hW hsz
  by_cases h0 : n = []
  · subst h0
    have q0 : s.toList.isEmpty = true := by rw [htl]; rfl
    have HE : Hid (nmOk [] = false) := show _ = _ by rfl
    clear htl hT
    go_enter Tryz.func49, Tryz.ntmps49
    go_wp2_with fail
    go_ret
    exact ⟨by rw [HE.out]; rfl, grow_refl _⟩
  · have q0 : s.toList.isEmpty = false := by rw [htl]; cases n with
      | nil => exact absurd rfl h0
      | cons c l => rfl
    have hn1 : 1 ≤ n.length := by cases n with
      | nil => exact absurd rfl h0
      | cons c l => simp
    have hs1 : 0 < s.size := by rw [HS.out]; omega
    by_cases h8 : 8 < n.length
    · have q1 : ¬ ((s.size : Int) ≤ 8) := by rw [HS.out]; omega
      have HE : Hid (nmOk n = false) := show _ = _ by unfold nmOk; rw [decide_eq_false (p := n.length ≤ 8) (by omega)]; simp
      clear htl hT h0 h8
      go_enter Tryz.func49, Tryz.ntmps49
      go_wp2_with fail
      go_ret
      exact ⟨by rw [HE.out]; rfl, grow_refl _⟩
    · have q1 : (s.size : Int) ≤ 8 := by rw [HS.out]; omega
      have hhd : s[0] = n.headD 0 := by
        have := HB.out
        subst this
        cases hd : s.data.toList with
        | nil => exact absurd hd h0
        | cons c l =>
          have e : s[0] = s.data.toList[0]'(by rw [hd]; simp) := rfl
          rw [e]; simp [hd]
      have HE : Hid (nmOk n = (isLetter s[0] && n.all alnum && !wordsB.contains n)) := show _ = _ by
        unfold nmOk; rw [decide_eq_true (p := n.length ≤ 8) (by omega), decide_eq_true (p := 1 ≤ n.length) hn1, hhd]; simp
      have HT := Lib.hid (hT (by omega))
      clear htl hT h0 h8 hhd
      cases hlt : isLetter s[0]
      · have HF : Hid (nmOk n = false) := show _ = _ by rw [HE.out, hlt]; rfl
        go_enter Tryz.func49, Tryz.ntmps49
        go_wp2_with (go_at_call 70; (with_reducible refine (llet_any _ _).mono ?_); rintro e w' ⟨rfl, rfl⟩)
        go_ret
        exact ⟨by rw [HF.out]; rfl, grow_refl _⟩
      · cases hal : n.all alnum
        · have hne : Lib.trimS n lettersB ≠ [] := fun e => by rw [trim_nil] at e; rw [e] at hal; cases hal
          have HF : Hid (nmOk n = false) := show _ = _ by rw [HE.out, hal]; simp
          obtain ⟨t, ht⟩ : ∃ t, Lib.trimS n lettersB = t := ⟨_, rfl⟩
          rw [ht] at HT hne
          have q3 : (mkB t).toList.isEmpty = false := by rw [mkB_toList]; cases t with
            | nil => exact absurd rfl hne
            | cons c l => rfl
          have q4 : ((mkB t).toList == []) = false := by rw [mkB_toList]; cases t with
            | nil => exact absurd rfl hne
            | cons c l => rfl
          clear hne ht hal
          go_enter Tryz.func49, Tryz.ntmps49
          go_wp2_with (first
            | (go_at_call 70; (with_reducible refine (llet_any _ _).mono ?_); rintro e w' ⟨rfl, rfl⟩)
            | (go_at_call 71; (with_reducible refine (HT.out _ _ (by decide)).mono ?_); rintro e w1 ⟨rfl, hb1⟩))
          go_ret
          exact ⟨by rw [HF.out]; rfl, hb1⟩
        · rw [(trim_nil n).2 hal, show mkB [] = ⟨#[]⟩ from rfl] at HT
          have HF : Hid (nmOk n = !wordsB.contains n) := show _ = _ by rw [HE.out, hal, hlt]; simp
          clear hal
          cases hw : wordsB.contains n
          all_goals
            rw [hw] at HW HF
            go_enter Tryz.func49, Tryz.ntmps49
            go_wp2_with (first
              | (go_at_call 70; (with_reducible refine (llet_any _ _).mono ?_); rintro e w' ⟨rfl, rfl⟩)
              | (go_at_call 71; (with_reducible refine (HT.out _ _ (by decide)).mono ?_); rintro e w1 ⟨rfl, hb1⟩)
              | (go_at_call 72; (with_reducible refine (HW.out _).mono ?_); rintro e w2 ⟨rfl, hb2⟩))
            go_ret
            exact ⟨by rw [HF.out]; rfl, grow_trans hb1 hb2⟩
theorem lexName_any (n : Nm) (w : World) : Calls Tryz.prog 49 #[strV n] w (Ret (.bool (nmOk n)) w) := lexName_s (mkB n) w n rfl
end Go.Proofs.YteifmgcbafemeaaGreatDoor
