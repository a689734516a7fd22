import Derived.Test.YteifmgcbafemeaaGreatDoorCheckP
import Derived.Test.YteifmgcbafemeaaGreatDoorRet
import Derived.Test.YteifmgcbafemeaaGreatDoorStrs
import Derived.Test.YteifmgcbafemeaaGreatDoorStrV
namespace Go.Proofs.YteifmgcbafemeaaGreatDoor
open Go.RowKit

/-! names -/
theorem mkB_size (l : List UInt8) : (mkB l).size = l.length := rfl
theorem mkB_get (l : List UInt8) (k : Nat) (_h : k < (mkB l).size) (h' : k < l.length) : (mkB l)[k] = l[k] := rfl
theorem rlet_any (c : UInt8) (w : World) : Calls Tryz.prog 75 #[.int .u8 (c.toNat : Int)] w fun e w' => e = .returned (.bool (isLetter c)) ∧ w' = w := by
  by_cases h1 : (97 : Int) ≤ c.toNat <;> by_cases h2 : (c.toNat : Int) ≤ 122
  all_goals
    have H := Lib.hid (And.intro h1 h2)
    go_enter Tryz.func75, Tryz.ntmps75
    go_wp2_with fail
    go_ret
    exact ⟨by obtain ⟨h1, h2⟩ := H.out; unfold isLetter; simp [h1, h2], rfl⟩
theorem rdig_any (c : UInt8) (w : World) : Calls Tryz.prog 76 #[.int .u8 (c.toNat : Int)] w fun e w' => e = .returned (.bool (isDigit c)) ∧ w' = w := by
  by_cases h1 : (48 : Int) ≤ c.toNat <;> by_cases h2 : (c.toNat : Int) ≤ 57
  all_goals
    have H := Lib.hid (And.intro h1 h2)
    go_enter Tryz.func76, Tryz.ntmps76
    go_wp2_with fail
    go_ret
    exact ⟨by obtain ⟨h1, h2⟩ := H.out; unfold isDigit; simp [h1, h2], rfl⟩
def wordsL2 : List ByteArray := wordsB.map mkB
theorem isIn_words2 (n : Nm) : isIn (mkB n) wordsL2 = wordsB.contains n := isIn_strV n wordsB
theorem rwrd_any (n : Nm) (w : World) : Calls Tryz.prog 77 #[strV n] w (Ret (.bool (wordsB.contains n)) w) := by
  have H := Lib.hid (isIn_words2 n)
  unfold strV
  go_enter Tryz.func77, Tryz.ntmps77
  go_wp2_with (go_at_call 38; refine (IsIn_any _ _ wordsL2 _ _ (Row.new w _ _) (by decide)).mono ?_; rintro e w' ⟨rfl, rfl⟩)
  go_ret
  exact ⟨by rw [← H.out]; rfl, grow_alloc (grow_refl _) _⟩
/-- What is left to be asked of a name at its k-th byte. -/
def nmFrom (n : Nm) (k : Nat) : Bool := (decide (0 < k) || isLetter (n.headD 0)) && (n.drop k).all alnum
theorem nmFrom_step {n : Nm} {k : Nat} (h : k < n.length) : nmFrom n k = ((isLetter n[k] || (isDigit n[k] && decide (0 < k))) && nmFrom n (k + 1)) := by
  unfold nmFrom
  rw [List.drop_eq_getElem_cons h, List.all_cons]
  have e1 : alnum n[k] = (isLetter n[k] || isDigit n[k]) := rfl
  have hd : n.headD 0 = n[0]'(by omega) := by cases n with
    | nil => simp at h
    | cons c l => rfl
  rw [e1, hd]
  cases k with
  | zero => cases h1 : isLetter n[0] <;> simp [h1]
  | succ k => simp
theorem nmFrom_end (n : Nm) (h : 0 < n.length) : nmFrom n n.length = true := by simp [nmFrom, h]
theorem nmOk_from (n : Nm) : nmOk n = (decide (1 ≤ n.length) && decide (n.length ≤ 8) && nmFrom n 0 && !wordsB.contains n) := by
  unfold nmOk nmFrom
  simp only [List.drop_zero, Nat.lt_irrefl, decide_false, Bool.false_or, Bool.and_assoc]
set_option maxHeartbeats 1000000 in
theorem IsName_s (s : ByteArray) (w : World) (n : Nm) (hn : s.data.toList = n) : Calls Tryz.prog 55 #[.string s] w (Ret (.bool (nmOk n)) w) := by
  have hsz : s.size = n.length := by rw [← hn]; rfl
  have HB := Lib.hid hn
  have hsn : s = mkB n := by rw [← hn]; rfl
  have HSN := Lib.hid hsn
  clear hn hsn
  have HN := Lib.hid (nmOk_from n)
  have HS := Lib.hid hsz
  clear hsz
  by_cases h1 : n.length < 1
  · have q1 : (s.size : Int) < 1 := by rw [HS.out]; omega
    have HE : Hid (nmOk n = false) := show _ = _ by rw [HN.out, decide_eq_false (by omega)]; simp
    go_enter Tryz.func55, Tryz.ntmps55
    go_wp2_with fail
    go_ret
    exact ⟨by rw [HE.out]; rfl, grow_refl _⟩
  · have q1 : ¬ (s.size : Int) < 1 := by rw [HS.out]; omega
    by_cases h2 : 8 < n.length
    · have q2 : (8 : Int) < (s.size : Int) := by rw [HS.out]; omega
      have HE : Hid (nmOk n = false) := show _ = _ by rw [HN.out, decide_eq_false (p := n.length ≤ 8) (by omega)]; simp
      go_enter Tryz.func55, Tryz.ntmps55
      go_wp2_with fail
      go_ret
      exact ⟨by rw [HE.out]; rfl, grow_refl _⟩
    · have q2 : ¬ (8 : Int) < (s.size : Int) := by rw [HS.out]; omega
      have HE : Hid (nmOk n = (nmFrom n 0 && !wordsB.contains n)) := show _ = _ by rw [HN.out, decide_eq_true (p := n.length ≤ 8) (by omega), decide_eq_true (p := 1 ≤ n.length) (by omega)]; simp
      have hs8 : s.size ≤ 8 := by rw [HS.out]; omega
      have hs1 : 1 ≤ s.size := by rw [HS.out]; omega
      clear h1 h2
      go_enter Tryz.func55, Tryz.ntmps55
      go_wp2_with fail
      go_loop [3] (fun i => ∃ k : Nat, k ≤ s.size ∧ i = .int .i64 k ∧ nmFrom n 0 = nmFrom n k) (fun i => s.size - (intOf i).toNat)
      case atStart => exact ⟨0, by omega, rfl, rfl⟩
      case round =>
        obtain ⟨k, hk, rfl, hI⟩ := hrel
        have HI := Lib.hid hI
        clear hI
        by_cases hlt : k < s.size
        · have hl : k < n.length := by rw [HS.out] at hlt; exact hlt
          have HT := Lib.hid (nmFrom_step hl)
          have HG : Hid (s[k] = n[k]) := show s[k] = n[k] by have := HB.out; subst this; rfl
          rw [← HG.out] at HT
          cases ha : isLetter s[k]
          · cases hb : isDigit s[k]
            · have HF : Hid (nmOk n = false) := show _ = _ by rw [HE.out, HI.out, HT.out, ha, hb]; simp
              go_wp2_with (first
                | (go_at_call 75; (with_reducible refine (rlet_any _ _).mono ?_); rintro e w' ⟨rfl, rfl⟩)
                | (go_at_call 76; (with_reducible refine (rdig_any _ _).mono ?_); rintro e w' ⟨rfl, rfl⟩))
              go_ret
              exact ⟨by rw [HF.out]; rfl, grow_refl _⟩
            · by_cases h0 : k = 0
              · subst h0
                have HF : Hid (nmOk n = false) := show _ = _ by rw [HE.out, HI.out, HT.out, ha]; simp
                go_wp2_with (first
                  | (go_at_call 75; (with_reducible refine (rlet_any _ _).mono ?_); rintro e w' ⟨rfl, rfl⟩)
                  | (go_at_call 76; (with_reducible refine (rdig_any _ _).mono ?_); rintro e w' ⟨rfl, rfl⟩))
                go_ret
                exact ⟨by rw [HF.out]; rfl, grow_refl _⟩
              · have hk0 : ((k : Int) == 0) = false := beq_eq_false_iff_ne.2 (by omega)
                have HF : Hid (nmFrom n 0 = nmFrom n (k + 1)) := show _ = _ by rw [HI.out, HT.out, ha, hb, decide_eq_true (p := 0 < k) (by omega)]; simp
                clear h0
                go_wp2_with (first
                  | (go_at_call 75; (with_reducible refine (rlet_any _ _).mono ?_); rintro e w' ⟨rfl, rfl⟩)
                  | (go_at_call 76; (with_reducible refine (rdig_any _ _).mono ?_); rintro e w' ⟨rfl, rfl⟩))
                go_round
                case rel => exact ⟨k + 1, by omega, by go_num, HF.out⟩
                case measure => simp [intOf]; omega
          · have HF : Hid (nmFrom n 0 = nmFrom n (k + 1)) := show _ = _ by rw [HI.out, HT.out, ha]; simp
            go_wp2_with (first
              | (go_at_call 75; (with_reducible refine (rlet_any _ _).mono ?_); rintro e w' ⟨rfl, rfl⟩)
              | (go_at_call 76; (with_reducible refine (rdig_any _ _).mono ?_); rintro e w' ⟨rfl, rfl⟩))
            go_round
            case rel => exact ⟨k + 1, by omega, by go_num, HF.out⟩
            case measure => simp [intOf]; omega
        · have hk' : k = n.length := by rw [HS.out] at hlt hk; omega
          have HF : Hid (nmOk n = !wordsB.contains n) := show _ = _ by rw [HE.out, HI.out, hk', nmFrom_end n (by rw [HS.out] at hs1; omega)]; simp
          have hw1 := rwrd_any n w
          unfold strV at hw1
          rw [← HSN.out] at hw1
          have HW := Lib.hid hw1
          clear hw1
          cases hw : wordsB.contains n
          all_goals
            rw [hw] at HW HF
            go_wp2_with (go_at_call 77; (with_reducible refine HW.out.mono ?_); rintro e w' ⟨rfl, hb⟩)
            go_ret
            exact ⟨by rw [HF.out]; rfl, hb⟩
theorem IsName_any (n : Nm) (w : World) : Calls Tryz.prog 55 #[strV n] w (Ret (.bool (nmOk n)) w) := IsName_s (mkB n) w n rfl
end Go.Proofs.YteifmgcbafemeaaGreatDoor
