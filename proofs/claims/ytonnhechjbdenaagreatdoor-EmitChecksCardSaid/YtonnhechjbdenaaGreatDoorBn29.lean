import Derived.Deep.DeepCutAuto
import Derived.Test.YtonnhechjbdenaaGreatDoorBn7
set_option linter.unusedVariables false
set_option linter.unusedSimpArgs false
namespace Go.Proofs.YtonnhechjbdenaaGreatDoor
open Go.RowKit

/-! the document's machine: ops and what they have -/
theorem hasof_0 (w : World) : Calls Tryz.prog 42 #[.string ⟨#[99, 111, 110, 115, 116]⟩] w fun e w' => e = .returned (.string ⟨#[100, 105]⟩) ∧ w = w' := by
  go_enter Tryz.func42, Tryz.ntmps42
  go_wp2
  go_ret
  exact ⟨rfl, rfl⟩
theorem hasof_1 (w : World) : Calls Tryz.prog 42 #[.string ⟨#[104, 105, 103, 104]⟩] w fun e w' => e = .returned (.string ⟨#[100, 105]⟩) ∧ w = w' := by
  go_enter Tryz.func42, Tryz.ntmps42
  go_wp2
  go_ret
  exact ⟨rfl, rfl⟩
theorem hasof_2 (w : World) : Calls Tryz.prog 42 #[.string ⟨#[109, 111, 118, 101]⟩] w fun e w' => e = .returned (.string ⟨#[100, 97]⟩) ∧ w = w' := by
  go_enter Tryz.func42, Tryz.ntmps42
  go_wp2
  go_ret
  exact ⟨rfl, rfl⟩
theorem hasof_3 (w : World) : Calls Tryz.prog 42 #[.string ⟨#[108, 111, 97, 100]⟩] w fun e w' => e = .returned (.string ⟨#[100, 105]⟩) ∧ w = w' := by
  go_enter Tryz.func42, Tryz.ntmps42
  go_wp2
  go_ret
  exact ⟨rfl, rfl⟩
theorem hasof_4 (w : World) : Calls Tryz.prog 42 #[.string ⟨#[115, 116, 111, 114, 101]⟩] w fun e w' => e = .returned (.string ⟨#[97, 105]⟩) ∧ w = w' := by
  go_enter Tryz.func42, Tryz.ntmps42
  go_wp2
  go_ret
  exact ⟨rfl, rfl⟩
theorem hasof_5 (w : World) : Calls Tryz.prog 42 #[.string ⟨#[112, 97, 114, 97, 109]⟩] w fun e w' => e = .returned (.string ⟨#[100, 105]⟩) ∧ w = w' := by
  go_enter Tryz.func42, Tryz.ntmps42
  go_wp2
  go_ret
  exact ⟨rfl, rfl⟩
theorem hasof_6 (w : World) : Calls Tryz.prog 42 #[.string ⟨#[97, 114, 103]⟩] w fun e w' => e = .returned (.string ⟨#[97, 105]⟩) ∧ w = w' := by
  go_enter Tryz.func42, Tryz.ntmps42
  go_wp2
  go_ret
  exact ⟨rfl, rfl⟩
theorem hasof_7 (w : World) : Calls Tryz.prog 42 #[.string ⟨#[99, 97, 108, 108]⟩] w fun e w' => e = .returned (.string ⟨#[100, 98, 105]⟩) ∧ w = w' := by
  go_enter Tryz.func42, Tryz.ntmps42
  go_wp2
  go_ret
  exact ⟨rfl, rfl⟩
theorem hasof_8 (w : World) : Calls Tryz.prog 42 #[.string ⟨#[116, 105, 99, 107]⟩] w fun e w' => e = .returned (.string ⟨#[]⟩) ∧ w = w' := by
  go_enter Tryz.func42, Tryz.ntmps42
  go_wp2
  go_ret
  exact ⟨rfl, rfl⟩
theorem hasof_9 (w : World) : Calls Tryz.prog 42 #[.string ⟨#[112, 114, 105, 110, 116]⟩] w fun e w' => e = .returned (.string ⟨#[97]⟩) ∧ w = w' := by
  go_enter Tryz.func42, Tryz.ntmps42
  go_wp2
  go_ret
  exact ⟨rfl, rfl⟩
theorem hasof_10 (w : World) : Calls Tryz.prog 42 #[.string ⟨#[106, 117, 109, 112]⟩] w fun e w' => e = .returned (.string ⟨#[105]⟩) ∧ w = w' := by
  go_enter Tryz.func42, Tryz.ntmps42
  go_wp2
  go_ret
  exact ⟨rfl, rfl⟩
theorem hasof_11 (w : World) : Calls Tryz.prog 42 #[.string ⟨#[105, 102]⟩] w fun e w' => e = .returned (.string ⟨#[97, 105]⟩) ∧ w = w' := by
  go_enter Tryz.func42, Tryz.ntmps42
  go_wp2
  go_ret
  exact ⟨rfl, rfl⟩
theorem hasof_12 (w : World) : Calls Tryz.prog 42 #[.string ⟨#[114, 101, 116, 117, 114, 110]⟩] w fun e w' => e = .returned (.string ⟨#[97]⟩) ∧ w = w' := by
  go_enter Tryz.func42, Tryz.ntmps42
  go_wp2
  go_ret
  exact ⟨rfl, rfl⟩
theorem hasof_13 (w : World) : Calls Tryz.prog 42 #[.string ⟨#[110, 101, 103]⟩] w fun e w' => e = .returned (.string ⟨#[100, 97]⟩) ∧ w = w' := by
  go_enter Tryz.func42, Tryz.ntmps42
  go_wp2
  go_ret
  exact ⟨rfl, rfl⟩
theorem hasof_14 (w : World) : Calls Tryz.prog 42 #[.string ⟨#[110, 111, 116]⟩] w fun e w' => e = .returned (.string ⟨#[100, 97]⟩) ∧ w = w' := by
  go_enter Tryz.func42, Tryz.ntmps42
  go_wp2
  go_ret
  exact ⟨rfl, rfl⟩
theorem hasof_15 (w : World) : Calls Tryz.prog 42 #[.string ⟨#[97, 100, 100]⟩] w fun e w' => e = .returned (.string ⟨#[100, 97, 98]⟩) ∧ w = w' := by
  go_enter Tryz.func42, Tryz.ntmps42
  go_wp2
  go_ret
  exact ⟨rfl, rfl⟩
theorem hasof_16 (w : World) : Calls Tryz.prog 42 #[.string ⟨#[115, 117, 98]⟩] w fun e w' => e = .returned (.string ⟨#[100, 97, 98]⟩) ∧ w = w' := by
  go_enter Tryz.func42, Tryz.ntmps42
  go_wp2
  go_ret
  exact ⟨rfl, rfl⟩
theorem hasof_17 (w : World) : Calls Tryz.prog 42 #[.string ⟨#[109, 117, 108]⟩] w fun e w' => e = .returned (.string ⟨#[100, 97, 98]⟩) ∧ w = w' := by
  go_enter Tryz.func42, Tryz.ntmps42
  go_wp2
  go_ret
  exact ⟨rfl, rfl⟩
theorem hasof_18 (w : World) : Calls Tryz.prog 42 #[.string ⟨#[100, 105, 118]⟩] w fun e w' => e = .returned (.string ⟨#[100, 97, 98]⟩) ∧ w = w' := by
  go_enter Tryz.func42, Tryz.ntmps42
  go_wp2
  go_ret
  exact ⟨rfl, rfl⟩
theorem hasof_19 (w : World) : Calls Tryz.prog 42 #[.string ⟨#[114, 101, 109]⟩] w fun e w' => e = .returned (.string ⟨#[100, 97, 98]⟩) ∧ w = w' := by
  go_enter Tryz.func42, Tryz.ntmps42
  go_wp2
  go_ret
  exact ⟨rfl, rfl⟩
theorem hasof_20 (w : World) : Calls Tryz.prog 42 #[.string ⟨#[97, 110, 100]⟩] w fun e w' => e = .returned (.string ⟨#[100, 97, 98]⟩) ∧ w = w' := by
  go_enter Tryz.func42, Tryz.ntmps42
  go_wp2
  go_ret
  exact ⟨rfl, rfl⟩
theorem hasof_21 (w : World) : Calls Tryz.prog 42 #[.string ⟨#[111, 114]⟩] w fun e w' => e = .returned (.string ⟨#[100, 97, 98]⟩) ∧ w = w' := by
  go_enter Tryz.func42, Tryz.ntmps42
  go_wp2
  go_ret
  exact ⟨rfl, rfl⟩
theorem hasof_22 (w : World) : Calls Tryz.prog 42 #[.string ⟨#[120, 111, 114]⟩] w fun e w' => e = .returned (.string ⟨#[100, 97, 98]⟩) ∧ w = w' := by
  go_enter Tryz.func42, Tryz.ntmps42
  go_wp2
  go_ret
  exact ⟨rfl, rfl⟩
theorem hasof_23 (w : World) : Calls Tryz.prog 42 #[.string ⟨#[115, 104, 108]⟩] w fun e w' => e = .returned (.string ⟨#[100, 97, 98]⟩) ∧ w = w' := by
  go_enter Tryz.func42, Tryz.ntmps42
  go_wp2
  go_ret
  exact ⟨rfl, rfl⟩
theorem hasof_24 (w : World) : Calls Tryz.prog 42 #[.string ⟨#[115, 104, 114]⟩] w fun e w' => e = .returned (.string ⟨#[100, 97, 98]⟩) ∧ w = w' := by
  go_enter Tryz.func42, Tryz.ntmps42
  go_wp2
  go_ret
  exact ⟨rfl, rfl⟩
theorem hasof_25 (w : World) : Calls Tryz.prog 42 #[.string ⟨#[108, 101, 115, 115]⟩] w fun e w' => e = .returned (.string ⟨#[100, 97, 98]⟩) ∧ w = w' := by
  go_enter Tryz.func42, Tryz.ntmps42
  go_wp2
  go_ret
  exact ⟨rfl, rfl⟩
theorem hasof_26 (w : World) : Calls Tryz.prog 42 #[.string ⟨#[109, 111, 115, 116]⟩] w fun e w' => e = .returned (.string ⟨#[100, 97, 98]⟩) ∧ w = w' := by
  go_enter Tryz.func42, Tryz.ntmps42
  go_wp2
  go_ret
  exact ⟨rfl, rfl⟩
theorem hasof_27 (w : World) : Calls Tryz.prog 42 #[.string ⟨#[115, 97, 109, 101]⟩] w fun e w' => e = .returned (.string ⟨#[100, 97, 98]⟩) ∧ w = w' := by
  go_enter Tryz.func42, Tryz.ntmps42
  go_wp2
  go_ret
  exact ⟨rfl, rfl⟩
theorem hasof_28 (w : World) : Calls Tryz.prog 42 #[.string ⟨#[111, 116, 104, 101, 114]⟩] w fun e w' => e = .returned (.string ⟨#[100, 97, 98]⟩) ∧ w = w' := by
  go_enter Tryz.func42, Tryz.ntmps42
  go_wp2
  go_ret
  exact ⟨rfl, rfl⟩
theorem HasOf_any (k : Nat) (hk : k < 29) (w : World) : Calls Tryz.prog 42 #[.string (mkB (nameOf k))] w fun e w' => e = .returned (.string (mkB (hasOf k))) ∧ w = w' :=
  match k, hk with
  | 0, _ => hasof_0 w
  | 1, _ => hasof_1 w
  | 2, _ => hasof_2 w
  | 3, _ => hasof_3 w
  | 4, _ => hasof_4 w
  | 5, _ => hasof_5 w
  | 6, _ => hasof_6 w
  | 7, _ => hasof_7 w
  | 8, _ => hasof_8 w
  | 9, _ => hasof_9 w
  | 10, _ => hasof_10 w
  | 11, _ => hasof_11 w
  | 12, _ => hasof_12 w
  | 13, _ => hasof_13 w
  | 14, _ => hasof_14 w
  | 15, _ => hasof_15 w
  | 16, _ => hasof_16 w
  | 17, _ => hasof_17 w
  | 18, _ => hasof_18 w
  | 19, _ => hasof_19 w
  | 20, _ => hasof_20 w
  | 21, _ => hasof_21 w
  | 22, _ => hasof_22 w
  | 23, _ => hasof_23 w
  | 24, _ => hasof_24 w
  | 25, _ => hasof_25 w
  | 26, _ => hasof_26 w
  | 27, _ => hasof_27 w
  | 28, _ => hasof_28 w
  | k + 29, h => absurd h (by omega)
theorem mops_any (w : World) : Calls Tryz.prog 40 #[] w fun e w' => e = .returned (.slice (some ⟨w.heap.size, 0, none⟩) 29 29) ∧ w' = w.alloc (.cells (namesL.map Value.string).toArray 9) := by
  go_enter Tryz.func40, Tryz.ntmps40
  go_wp2
  go_ret
  exact ⟨rfl, rfl⟩
theorem names_cell (w : World) (k : Nat) (hk : k < 29) : (w.alloc (.cells (namesL.map Value.string).toArray 9)).cell? ⟨w.heap.size, k, none⟩ = some (.string (mkB (nameOf k))) := by
  have hk' : k < namesL.length := hk
  obtain ⟨b, off, e, hc⟩ := Row.new w (namesL.map Value.string).toArray 9 k (.string namesL[k]) (strs_get hk')
  simp only [Option.some.injEq, Addr.mk.injEq, and_true] at e
  obtain ⟨rfl, rfl⟩ := e
  rw [Nat.zero_add, names_get k hk'] at hc
  exact hc
theorem NumberOf_any (op : ByteArray) (w : World) : Calls Tryz.prog 61 #[.string op] w (Ret (.int .i64 (findL op.toList)) w) := by
  have HF := Lib.hid (firstR_find op)
  have HN := Lib.hid (names_cell w)
  go_enter Tryz.func61, Tryz.ntmps61
  go_wp2_with (go_at_call 40; refine (mops_any _).mono ?_; rintro x w' ⟨rfl, rfl⟩)
  go_loop [4] (fun i => ∃ k : Nat, k ≤ 29 ∧ i = .int .i64 k ∧ firstR op 0 = firstR op k) (fun i => 29 - (intOf i).toNat)
  case atStart => exact ⟨0, by omega, rfl, rfl⟩
  case round =>
    obtain ⟨k, hk, rfl, hf⟩ := hrel
    have HQ := Lib.hid hf
    clear hf
    by_cases hlt : k < 29
    · have hc := HN.out k hlt
      have hlt' : (k : Int) < 29 := by omega
      cases ht : ((mkB (nameOf k)).toList == op.toList)
      · have HP := Lib.hid (firstR_no hlt ht)
        go_wp2_with fail
        go_round
        case rel => exact ⟨k + 1, by omega, by go_num, by rw [HQ.out, HP.out]⟩
        case measure => simp [intOf]; omega
      · have HP := Lib.hid (firstR_yes hlt ht)
        go_wp2_with fail
        go_ret
        exact ⟨by rw [← HF.out, HQ.out, HP.out]; rfl, grow_alloc (grow_refl _) _⟩
    · have hk' : k = 29 := by omega
      subst hk'
      go_wp2_with fail
      go_ret
      exact ⟨by rw [← HF.out, HQ.out, firstR_end]; rfl, grow_alloc (grow_refl _) _⟩
theorem isReg_any (n : Int) (w : World) : Calls Tryz.prog 53 #[.int .i64 n] w fun e w' => e = .returned (.bool (regP n)) ∧ w = w' := by
  by_cases h1 : (0 : Int) ≤ n <;> by_cases h2 : n < 8
  all_goals
    have H := Lib.hid (And.intro h1 h2)
    go_enter Tryz.func53, Tryz.ntmps53
    go_wp2_with fail
    go_ret
    exact ⟨by obtain ⟨h1, h2⟩ := H.out; unfold regP; simp [h1, h2], rfl⟩
theorem contains_drop (s : ByteArray) (c : UInt8) (j : Nat) (h : j < s.size) : (s.toList.drop j).contains c = ((s[j] == c) || (s.toList.drop (j + 1)).contains c) := by
  have hl : j < s.toList.length := by rw [toList_data, Array.length_toList]; exact h
  rw [List.drop_eq_getElem_cons hl, List.contains_cons]
  have e : s.toList[j] = s[j] := by
    have : s.toList = s.data.toList := toList_data s
    simp only [this]; rfl
  rw [e]
  congr 1
  exact BEq.comm
def conD (s : ByteArray) (c : UInt8) (j : Nat) : Bool := (s.toList.drop j).contains c
theorem isOf_is (s : ByteArray) (hs : s.size ≤ 1000) (c : UInt8) (n : Int) (hn : n = (c.toNat : Int)) (v : Bool) (hv : s.toList.contains c = v) (w : World) : Calls Tryz.prog 43 #[.string s, .int .u8 n] w fun e w' => e = .returned (.bool v) ∧ w = w' := by
  have HN := Lib.hid hn
  have HV : Hid (conD s c 0 = v) := hv
  clear hn hv
  go_enter Tryz.func43, Tryz.ntmps43
  go_wp2_with fail
  go_loop [5] (fun i => ∃ j : Nat, j ≤ s.size ∧ i = .int .i64 j ∧ conD s c j = v) (fun i => s.size - (intOf i).toNat)
  case atStart => exact ⟨0, by omega, rfl, HV.out⟩
  case round =>
    obtain ⟨j, hj, rfl, hf⟩ := hrel
    have HQ := Lib.hid hf
    clear hf
    by_cases hlt : j < s.size
    · have HD : Hid (conD s c j = ((s[j] == c) || conD s c (j + 1))) := contains_drop s c j hlt
      have hlt' : (j : Int) < (s.size : Int) := by omega
      cases ht : ((s[j].toNat : Int) == n)
      · have HT : Hid (conD s c (j + 1) = v) := by
          show conD s c (j + 1) = v
          have h1 : (s[j] == c) = false := by
            rw [beq_eq_false_iff_ne] at ht ⊢
            exact fun e => ht (by rw [e, HN.out])
          rw [← HQ.out, HD.out, h1, Bool.false_or]
        go_wp2_with fail
        go_round
        case rel => exact ⟨j + 1, by omega, by go_num, HT.out⟩
        case measure => simp [intOf]; omega
      · have HT : Hid (true = v) := by
          show true = v
          have h1 : (s[j] == c) = true := by
            rw [beq_iff_eq] at ht ⊢
            exact UInt8.toNat_inj.1 (by have := HN.out; omega)
          rw [← HQ.out, HD.out, h1, Bool.true_or]
        go_wp2_with fail
        go_ret
        exact ⟨by rw [← HT.out]; rfl, rfl⟩
    · have hj' : j = s.size := by omega
      subst hj'
      have HT : Hid (false = v) := by
        show false = v
        rw [← HQ.out]
        unfold conD
        rw [List.drop_eq_nil_of_le (by rw [toList_data, Array.length_toList]; exact Nat.le_refl _)]; rfl
      go_wp2_with fail
      go_ret
      exact ⟨by rw [← HT.out]; rfl, rfl⟩
end Go.Proofs.YtonnhechjbdenaaGreatDoor

namespace Go.Proofs.YtonnhechjbdenaaGreatDoor
open Go.RowKit

theorem insError_none (i : PIns) (w : World) (h : findL i.op = 0) : Calls Tryz.prog 41 #[insV i] w (Ret (.int .i64 (errI i)) w) := by
  have HE : Hid (errI i = 4) := show errI i = 4 by unfold errI; rw [if_pos h]
  have HF := Lib.hid (fun w => NumberOf_any (mkB i.op) w)
  have e : (findL (mkB i.op).toList : Int) = 0 := by rw [mkB_toList, h]; rfl
  rw [e] at HF
  obtain ⟨op, d, a, b, imm⟩ := i
  clear h e
  unfold insV
  go_enter Tryz.func41, Tryz.ntmps41
  go_wp2_with (go_at_call 61; (with_reducible refine (HF.out _).mono ?_); rintro x w1 ⟨rfl, hb1⟩)
  go_ret
  exact ⟨by rw [HE.out]; rfl, grow_trans (grow_alloc (grow_refl _) _) hb1⟩
theorem has_len : ∀ k, k < 29 → (mkB (hasOf k)).size ≤ 3 := by decide
def outQ (dB aB bB : Bool) (most d a b : Int) : Bool := (dB && !regP d) || (aB && !regP a) || (bB && (decide (b < 0) || decide (most ≤ b)))
def outN (nB : Bool) (imm : Int) : Bool := nB && (decide (imm < -2147483648) || decide (2147483647 < imm))
theorem outP_split (dB aB bB nB : Bool) (most d a b imm : Int) : outP dB aB bB nB most d a b imm = (outQ dB aB bB (most + 1) d a b || outN nB imm) := by
  unfold outP outQ outN
  rw [show decide (most + 1 ≤ b) = decide (most < b) from rfl]
set_option maxHeartbeats 8000000 in
set_option maxRecDepth 100000 in
theorem insError_some (i : PIns) (w : World) (k : Nat) (h : findL i.op = k + 1) : Calls Tryz.prog 41 #[insV i] w (Ret (.int .i64 (errI i)) w) := by
  have hk29 : k < 29 := by have := (findL_spec i.op (by omega)).1; omega
  have hnm : nameOf k = i.op := by have := (findL_spec i.op (by omega)).2; rwa [h] at this
  have HF := Lib.hid (fun w => NumberOf_any (mkB i.op) w)
  have e : (findL (mkB i.op).toList : Int) = (k : Int) + 1 := by rw [mkB_toList, h]; rfl
  rw [e] at HF
  have hh := HasOf_any k hk29
  rw [hnm] at hh
  have HH := Lib.hid hh
  have hsz : (mkB (hasOf k)).size ≤ 1000 := Nat.le_trans (has_len k hk29) (by omega)
  obtain ⟨dB, hd⟩ : ∃ v, (hasOf k).contains 100 = v := ⟨_, rfl⟩
  obtain ⟨aB, ha⟩ : ∃ v, (hasOf k).contains 97 = v := ⟨_, rfl⟩
  obtain ⟨bB, hb⟩ : ∃ v, (hasOf k).contains 98 = v := ⟨_, rfl⟩
  obtain ⟨nB, hn⟩ : ∃ v, (hasOf k).contains 105 = v := ⟨_, rfl⟩
  have HD := Lib.hid (isOf_is (mkB (hasOf k)) hsz 100 100 rfl dB (by rw [mkB_toList]; exact hd))
  have HA := Lib.hid (isOf_is (mkB (hasOf k)) hsz 97 97 rfl aB (by rw [mkB_toList]; exact ha))
  have HB := Lib.hid (isOf_is (mkB (hasOf k)) hsz 98 98 rfl bB (by rw [mkB_toList]; exact hb))
  have HI := Lib.hid (isOf_is (mkB (hasOf k)) hsz 105 105 rfl nB (by rw [mkB_toList]; exact hn))
  obtain ⟨most, hm⟩ : ∃ m, mostB i.op + 1 = m := ⟨_, rfl⟩
  have HE : Hid (errI i = if outQ dB aB bB most i.d i.a i.b then 2 else if outN nB i.imm then 2 else if ownP dB aB bB nB i.d i.a i.b i.imm then 3 else 0) := by
    show errI i = _
    unfold errI
    rw [if_neg (by omega), h, Nat.add_sub_cancel, errP_eq, hd, ha, hb, hn, outP_split, hm]
    cases outQ dB aB bB most i.d i.a i.b <;> cases outN nB i.imm <;> rfl
  have hq : (((mkB i.op).toList == [99, 97, 108, 108]) = true ∧ most = 5) ∨ (((mkB i.op).toList == [99, 97, 108, 108]) = false ∧ most = 8) := by
    rw [mkB_toList, ← hm]; unfold mostB
    show ((i.op == callN) = true ∧ _) ∨ ((i.op == callN) = false ∧ _)
    cases i.op == callN <;> simp
  have HQ := Lib.hid hq
  obtain ⟨op, d, a, b, imm⟩ := i
  simp only at HE HQ
  clear h e hnm hh hd ha hb hn hm hq hsz
  unfold insV
  obtain ⟨e1, he1⟩ : ∃ e, (d != 0) = e := ⟨_, rfl⟩
  obtain ⟨e2, he2⟩ : ∃ e, (a != 0) = e := ⟨_, rfl⟩
  obtain ⟨e3, he3⟩ : ∃ e, (b != 0) = e := ⟨_, rfl⟩
  obtain ⟨e4, he4⟩ : ∃ e, (imm != 0) = e := ⟨_, rfl⟩
  have HE2 : Hid (ownP dB aB bB nB d a b imm = (((!dB && e1) || (!aB && e2)) || ((!bB && e3) || (!nB && e4)))) := by
    show ownP _ _ _ _ _ _ _ _ = _
    unfold ownP; rw [he1, he2, he3, he4]
    cases dB <;> cases aB <;> cases bB <;> cases nB <;> cases e1 <;> cases e2 <;> cases e3 <;> cases e4 <;> rfl
  have HW := Lib.hid (heap_alloc_new w (.cells #[.string (mkB op), .int .i64 d, .int .i64 a, .int .i64 b, .int .i64 imm] 65))
  have hk1 : ((k : Int) + 1 == 0) = false := by simp; omega
  go_enter Tryz.func41, Tryz.ntmps41
  go_upto_if 28 with (first
    | (go_at_call 61; (with_reducible refine (HF.out _).mono ?_); rintro x w1 ⟨rfl, hb1⟩; have hw1 := (hb1.block w.heap.size (by simp)).trans HW.out; have r0 := cell_of_row w1 _ 0 _ _ _ hw1; have r1 := cell_of_row w1 _ 1 _ _ _ hw1; have r2 := cell_of_row w1 _ 2 _ _ _ hw1; have r3 := cell_of_row w1 _ 3 _ _ _ hw1; have r4 := cell_of_row w1 _ 4 _ _ _ hw1; have HB1 := Lib.hid (grow_trans (grow_alloc (grow_refl w) (.cells #[.string (mkB op), .int .i64 d, .int .i64 a, .int .i64 b, .int .i64 imm] 65)) hb1); clear hw1 hb1)
    | (go_at_call 42; (with_reducible refine (HH.out _).mono ?_); rintro x w' ⟨rfl, rfl⟩)
    | (go_at_call 43; (with_reducible refine (HD.out _).mono ?_); rintro x w' ⟨rfl, rfl⟩)
    | (go_at_call 43; (with_reducible refine (HA.out _).mono ?_); rintro x w' ⟨rfl, rfl⟩)
    | (go_at_call 43; (with_reducible refine (HB.out _).mono ?_); rintro x w' ⟨rfl, rfl⟩)
    | (go_at_call 43; (with_reducible refine (HI.out _).mono ?_); rintro x w' ⟨rfl, rfl⟩))
  go_cut [8] (fun v wx => v = .int .i64 most ∧ w1 = wx)
  case first =>
    rcases HQ.out with ⟨hq, rfl⟩ | ⟨hq, rfl⟩
    all_goals go_wp2_with fail
    all_goals (go_meet; first | exact ⟨rfl, rfl⟩ | (exfalso; simp_all))
  case rest =>
    obtain ⟨rfl, rfl⟩ := hcut
    go_upto_region 13 with (go_at_call 53; refine (isReg_any _ _).mono ?_; rintro x w' ⟨rfl, rfl⟩)
    go_cut [4, 5, 6, 9, 10, 60] (fun v4 v5 v6 v9 v10 v wx => v4 = .bool dB ∧ v5 = .bool aB ∧ v6 = .bool bB ∧ v9 = .bool (regP d) ∧ v10 = .bool (regP a) ∧ v = .bool (outQ dB aB bB most d a b) ∧ w1 = wx)
    case first =>
      go_wp2_with fail
      all_goals go_meet
      all_goals refine ⟨?_, ?_, ?_, ?_, ?_, ?_, rfl⟩
      all_goals simp [outQ, *]
    case rest =>
      obtain ⟨rfl, rfl, rfl, rfl, rfl, rfl, rfl⟩ := hcut
      cases ho : outQ dB aB bB most d a b
      · have HO := Lib.hid ho
        clear ho
        go_upto_region 15 with fail
        go_cut [7, 71] (fun v7 v wx => v7 = .bool nB ∧ v = .bool (outN nB imm) ∧ w1 = wx)
        case first =>
          go_wp2_with fail
          all_goals go_meet
          all_goals refine ⟨?_, ?_, rfl⟩
          all_goals simp [outN, *]
        case rest =>
          obtain ⟨rfl, rfl, rfl⟩ := hcut
          cases hn : outN nB imm
          · have HN := Lib.hid hn
            clear hn
            go_upto_region 17 with fail
            go_cut [4, 5, 87] (fun v4 v5 v wx => v4 = .bool dB ∧ v5 = .bool aB ∧ v = .bool ((!dB && e1) || (!aB && e2)) ∧ w1 = wx)
            case first =>
              go_wp2_with fail
              all_goals go_meet
              all_goals refine ⟨?_, ?_, ?_, rfl⟩
              all_goals simp [*]
            case rest =>
              obtain ⟨rfl, rfl, rfl, rfl⟩ := hcut
              cases hp : ((!dB && e1) || (!aB && e2))
              · have HP := Lib.hid hp
                clear hp
                go_upto_region 19 with fail
                go_cut [6, 7, 103] (fun v6 v7 v wx => v6 = .bool bB ∧ v7 = .bool nB ∧ v = .bool ((!bB && e3) || (!nB && e4)) ∧ w1 = wx)
                case first =>
                  go_wp2_with fail
                  all_goals go_meet
                  all_goals refine ⟨?_, ?_, ?_, rfl⟩
                  all_goals simp [*]
                case rest =>
                  obtain ⟨rfl, rfl, rfl, rfl⟩ := hcut
                  cases hr : ((!bB && e3) || (!nB && e4))
                  · have HR := Lib.hid hr
                    clear hr
                    go_wp2_with fail
                    go_ret
                    exact ⟨by rw [HE.out, HO.out, HN.out, HE2.out, HP.out, HR.out]; rfl, HB1.out⟩
                  · have HR := Lib.hid hr
                    clear hr
                    go_wp2_with fail
                    go_ret
                    exact ⟨by rw [HE.out, HO.out, HN.out, HE2.out, HP.out, HR.out]; rfl, HB1.out⟩
              · have HP := Lib.hid hp
                clear hp
                go_wp2_with fail
                go_ret
                exact ⟨by rw [HE.out, HO.out, HN.out, HE2.out, HP.out]; rfl, HB1.out⟩
          · have HN := Lib.hid hn
            clear hn
            go_wp2_with fail
            go_ret
            exact ⟨by rw [HE.out, HO.out, HN.out]; rfl, HB1.out⟩
      · have HO := Lib.hid ho
        clear ho
        go_wp2_with fail
        go_ret
        exact ⟨by rw [HE.out, HO.out]; rfl, HB1.out⟩
theorem InsError_any (i : PIns) (w : World) : Calls Tryz.prog 41 #[insV i] w (Ret (.int .i64 (errI i)) w) := by
  cases h : findL i.op with
  | zero => exact insError_none i w h
  | succ k => exact insError_some i w k h
end Go.Proofs.YtonnhechjbdenaaGreatDoor
