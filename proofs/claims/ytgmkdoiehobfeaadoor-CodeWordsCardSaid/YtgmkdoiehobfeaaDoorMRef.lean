import Derived.Test.YtgmkdoiehobfeaaDoorCodeX
namespace Go.Proofs.YtgmkdoiehobfeaaDoor
open Go.RowKit

/-! the document's machine: ops and what they have -/
theorem hasof_0 (w : World) : Calls Tryd.prog 20 #[.string ⟨#[99, 111, 110, 115, 116]⟩] w fun e w' => e = .returned (.string ⟨#[100, 105]⟩) ∧ w = w' := by
  go_enter Tryd.func20, Tryd.ntmps20
  go_wp2
  go_ret
  exact ⟨rfl, rfl⟩
theorem hasof_1 (w : World) : Calls Tryd.prog 20 #[.string ⟨#[104, 105, 103, 104]⟩] w fun e w' => e = .returned (.string ⟨#[100, 105]⟩) ∧ w = w' := by
  go_enter Tryd.func20, Tryd.ntmps20
  go_wp2
  go_ret
  exact ⟨rfl, rfl⟩
theorem hasof_2 (w : World) : Calls Tryd.prog 20 #[.string ⟨#[109, 111, 118, 101]⟩] w fun e w' => e = .returned (.string ⟨#[100, 97]⟩) ∧ w = w' := by
  go_enter Tryd.func20, Tryd.ntmps20
  go_wp2
  go_ret
  exact ⟨rfl, rfl⟩
theorem hasof_3 (w : World) : Calls Tryd.prog 20 #[.string ⟨#[108, 111, 97, 100]⟩] w fun e w' => e = .returned (.string ⟨#[100, 105]⟩) ∧ w = w' := by
  go_enter Tryd.func20, Tryd.ntmps20
  go_wp2
  go_ret
  exact ⟨rfl, rfl⟩
theorem hasof_4 (w : World) : Calls Tryd.prog 20 #[.string ⟨#[115, 116, 111, 114, 101]⟩] w fun e w' => e = .returned (.string ⟨#[97, 105]⟩) ∧ w = w' := by
  go_enter Tryd.func20, Tryd.ntmps20
  go_wp2
  go_ret
  exact ⟨rfl, rfl⟩
theorem hasof_5 (w : World) : Calls Tryd.prog 20 #[.string ⟨#[112, 97, 114, 97, 109]⟩] w fun e w' => e = .returned (.string ⟨#[100, 105]⟩) ∧ w = w' := by
  go_enter Tryd.func20, Tryd.ntmps20
  go_wp2
  go_ret
  exact ⟨rfl, rfl⟩
theorem hasof_6 (w : World) : Calls Tryd.prog 20 #[.string ⟨#[97, 114, 103]⟩] w fun e w' => e = .returned (.string ⟨#[97, 105]⟩) ∧ w = w' := by
  go_enter Tryd.func20, Tryd.ntmps20
  go_wp2
  go_ret
  exact ⟨rfl, rfl⟩
theorem hasof_7 (w : World) : Calls Tryd.prog 20 #[.string ⟨#[99, 97, 108, 108]⟩] w fun e w' => e = .returned (.string ⟨#[100, 98, 105]⟩) ∧ w = w' := by
  go_enter Tryd.func20, Tryd.ntmps20
  go_wp2
  go_ret
  exact ⟨rfl, rfl⟩
theorem hasof_8 (w : World) : Calls Tryd.prog 20 #[.string ⟨#[116, 105, 99, 107]⟩] w fun e w' => e = .returned (.string ⟨#[]⟩) ∧ w = w' := by
  go_enter Tryd.func20, Tryd.ntmps20
  go_wp2
  go_ret
  exact ⟨rfl, rfl⟩
theorem hasof_9 (w : World) : Calls Tryd.prog 20 #[.string ⟨#[112, 114, 105, 110, 116]⟩] w fun e w' => e = .returned (.string ⟨#[97]⟩) ∧ w = w' := by
  go_enter Tryd.func20, Tryd.ntmps20
  go_wp2
  go_ret
  exact ⟨rfl, rfl⟩
theorem hasof_10 (w : World) : Calls Tryd.prog 20 #[.string ⟨#[106, 117, 109, 112]⟩] w fun e w' => e = .returned (.string ⟨#[105]⟩) ∧ w = w' := by
  go_enter Tryd.func20, Tryd.ntmps20
  go_wp2
  go_ret
  exact ⟨rfl, rfl⟩
theorem hasof_11 (w : World) : Calls Tryd.prog 20 #[.string ⟨#[105, 102]⟩] w fun e w' => e = .returned (.string ⟨#[97, 105]⟩) ∧ w = w' := by
  go_enter Tryd.func20, Tryd.ntmps20
  go_wp2
  go_ret
  exact ⟨rfl, rfl⟩
theorem hasof_12 (w : World) : Calls Tryd.prog 20 #[.string ⟨#[114, 101, 116, 117, 114, 110]⟩] w fun e w' => e = .returned (.string ⟨#[97]⟩) ∧ w = w' := by
  go_enter Tryd.func20, Tryd.ntmps20
  go_wp2
  go_ret
  exact ⟨rfl, rfl⟩
theorem hasof_13 (w : World) : Calls Tryd.prog 20 #[.string ⟨#[110, 101, 103]⟩] w fun e w' => e = .returned (.string ⟨#[100, 97]⟩) ∧ w = w' := by
  go_enter Tryd.func20, Tryd.ntmps20
  go_wp2
  go_ret
  exact ⟨rfl, rfl⟩
theorem hasof_14 (w : World) : Calls Tryd.prog 20 #[.string ⟨#[110, 111, 116]⟩] w fun e w' => e = .returned (.string ⟨#[100, 97]⟩) ∧ w = w' := by
  go_enter Tryd.func20, Tryd.ntmps20
  go_wp2
  go_ret
  exact ⟨rfl, rfl⟩
theorem hasof_15 (w : World) : Calls Tryd.prog 20 #[.string ⟨#[97, 100, 100]⟩] w fun e w' => e = .returned (.string ⟨#[100, 97, 98]⟩) ∧ w = w' := by
  go_enter Tryd.func20, Tryd.ntmps20
  go_wp2
  go_ret
  exact ⟨rfl, rfl⟩
theorem hasof_16 (w : World) : Calls Tryd.prog 20 #[.string ⟨#[115, 117, 98]⟩] w fun e w' => e = .returned (.string ⟨#[100, 97, 98]⟩) ∧ w = w' := by
  go_enter Tryd.func20, Tryd.ntmps20
  go_wp2
  go_ret
  exact ⟨rfl, rfl⟩
theorem hasof_17 (w : World) : Calls Tryd.prog 20 #[.string ⟨#[109, 117, 108]⟩] w fun e w' => e = .returned (.string ⟨#[100, 97, 98]⟩) ∧ w = w' := by
  go_enter Tryd.func20, Tryd.ntmps20
  go_wp2
  go_ret
  exact ⟨rfl, rfl⟩
theorem hasof_18 (w : World) : Calls Tryd.prog 20 #[.string ⟨#[100, 105, 118]⟩] w fun e w' => e = .returned (.string ⟨#[100, 97, 98]⟩) ∧ w = w' := by
  go_enter Tryd.func20, Tryd.ntmps20
  go_wp2
  go_ret
  exact ⟨rfl, rfl⟩
theorem hasof_19 (w : World) : Calls Tryd.prog 20 #[.string ⟨#[114, 101, 109]⟩] w fun e w' => e = .returned (.string ⟨#[100, 97, 98]⟩) ∧ w = w' := by
  go_enter Tryd.func20, Tryd.ntmps20
  go_wp2
  go_ret
  exact ⟨rfl, rfl⟩
theorem hasof_20 (w : World) : Calls Tryd.prog 20 #[.string ⟨#[97, 110, 100]⟩] w fun e w' => e = .returned (.string ⟨#[100, 97, 98]⟩) ∧ w = w' := by
  go_enter Tryd.func20, Tryd.ntmps20
  go_wp2
  go_ret
  exact ⟨rfl, rfl⟩
theorem hasof_21 (w : World) : Calls Tryd.prog 20 #[.string ⟨#[111, 114]⟩] w fun e w' => e = .returned (.string ⟨#[100, 97, 98]⟩) ∧ w = w' := by
  go_enter Tryd.func20, Tryd.ntmps20
  go_wp2
  go_ret
  exact ⟨rfl, rfl⟩
theorem hasof_22 (w : World) : Calls Tryd.prog 20 #[.string ⟨#[120, 111, 114]⟩] w fun e w' => e = .returned (.string ⟨#[100, 97, 98]⟩) ∧ w = w' := by
  go_enter Tryd.func20, Tryd.ntmps20
  go_wp2
  go_ret
  exact ⟨rfl, rfl⟩
theorem hasof_23 (w : World) : Calls Tryd.prog 20 #[.string ⟨#[115, 104, 108]⟩] w fun e w' => e = .returned (.string ⟨#[100, 97, 98]⟩) ∧ w = w' := by
  go_enter Tryd.func20, Tryd.ntmps20
  go_wp2
  go_ret
  exact ⟨rfl, rfl⟩
theorem hasof_24 (w : World) : Calls Tryd.prog 20 #[.string ⟨#[115, 104, 114]⟩] w fun e w' => e = .returned (.string ⟨#[100, 97, 98]⟩) ∧ w = w' := by
  go_enter Tryd.func20, Tryd.ntmps20
  go_wp2
  go_ret
  exact ⟨rfl, rfl⟩
theorem hasof_25 (w : World) : Calls Tryd.prog 20 #[.string ⟨#[108, 101, 115, 115]⟩] w fun e w' => e = .returned (.string ⟨#[100, 97, 98]⟩) ∧ w = w' := by
  go_enter Tryd.func20, Tryd.ntmps20
  go_wp2
  go_ret
  exact ⟨rfl, rfl⟩
theorem hasof_26 (w : World) : Calls Tryd.prog 20 #[.string ⟨#[109, 111, 115, 116]⟩] w fun e w' => e = .returned (.string ⟨#[100, 97, 98]⟩) ∧ w = w' := by
  go_enter Tryd.func20, Tryd.ntmps20
  go_wp2
  go_ret
  exact ⟨rfl, rfl⟩
theorem hasof_27 (w : World) : Calls Tryd.prog 20 #[.string ⟨#[115, 97, 109, 101]⟩] w fun e w' => e = .returned (.string ⟨#[100, 97, 98]⟩) ∧ w = w' := by
  go_enter Tryd.func20, Tryd.ntmps20
  go_wp2
  go_ret
  exact ⟨rfl, rfl⟩
theorem hasof_28 (w : World) : Calls Tryd.prog 20 #[.string ⟨#[111, 116, 104, 101, 114]⟩] w fun e w' => e = .returned (.string ⟨#[100, 97, 98]⟩) ∧ w = w' := by
  go_enter Tryd.func20, Tryd.ntmps20
  go_wp2
  go_ret
  exact ⟨rfl, rfl⟩
theorem HasOf_any (k : Nat) (hk : k < 29) (w : World) : Calls Tryd.prog 20 #[.string (mkB (nameOf k))] w fun e w' => e = .returned (.string (mkB (hasOf k))) ∧ w = w' :=
  match k, hk with
  | 0, _ => hasof_0 w
  | 1, _ => hasof_1 w
  | 2, _ => hasof_2 w
  | 3, _ => hasof_3 w
  | 4, _ => hasof_4 w
  | 5, _ => hasof_5 w
  | 6, _ => hasof_6 w
  | 7, _ => hasof_7 w
  | 8, _ => hasof_8 w
  | 9, _ => hasof_9 w
  | 10, _ => hasof_10 w
  | 11, _ => hasof_11 w
  | 12, _ => hasof_12 w
  | 13, _ => hasof_13 w
  | 14, _ => hasof_14 w
  | 15, _ => hasof_15 w
  | 16, _ => hasof_16 w
  | 17, _ => hasof_17 w
  | 18, _ => hasof_18 w
  | 19, _ => hasof_19 w
  | 20, _ => hasof_20 w
  | 21, _ => hasof_21 w
  | 22, _ => hasof_22 w
  | 23, _ => hasof_23 w
  | 24, _ => hasof_24 w
  | 25, _ => hasof_25 w
  | 26, _ => hasof_26 w
  | 27, _ => hasof_27 w
  | 28, _ => hasof_28 w
  | k + 29, h => absurd h (by omega)
theorem mops_any (w : World) : Calls Tryd.prog 25 #[] w fun e w' => e = .returned (.slice (some ⟨w.heap.size, 0, none⟩) 29 29) ∧ w' = w.alloc (.cells (namesL.map Value.string).toArray 9) := by
  go_enter Tryd.func25, Tryd.ntmps25
  go_wp2
  go_ret
  exact ⟨rfl, rfl⟩
theorem names_cell (w : World) (k : Nat) (hk : k < 29) : (w.alloc (.cells (namesL.map Value.string).toArray 9)).cell? ⟨w.heap.size, k, none⟩ = some (.string (mkB (nameOf k))) := by
  have hk' : k < namesL.length := hk
  obtain ⟨b, off, e, hc⟩ := Row.new w (namesL.map Value.string).toArray 9 k (.string namesL[k]) (strs_get hk')
  simp only [Option.some.injEq, Addr.mk.injEq, and_true] at e
  obtain ⟨rfl, rfl⟩ := e
  rw [Nat.zero_add, names_get k hk'] at hc
  exact hc
theorem firstR_le (op : ByteArray) : -1 ≤ firstR op 0 ∧ firstR op 0 ≤ 28 := by
  have h := firstR_find op
  unfold findL at h
  cases hh : opsT.findIdx? (fun r => r.1 == op.toList) with
  | none => rw [hh] at h; simp at h; omega
  | some j =>
    rw [hh] at h
    rw [List.findIdx?_eq_some_iff_getElem] at hh
    obtain ⟨q, _⟩ := hh
    have q2 : j < 29 := q
    simp at h
    omega
theorem NumberOf_any (op : ByteArray) (w : World) : Calls Tryd.prog 19 #[.string op] w (Ret (.int .i64 (findL op.toList)) w) := by
  have HF := Lib.hid (firstR_find op)
  have HN := Lib.hid (names_cell w)
  go_enter Tryd.func19, Tryd.ntmps19
  go_wp2_with (go_at_call 25; refine (mops_any _).mono ?_; rintro x w' ⟨rfl, rfl⟩)
  go_loop [4] (fun i => ∃ k : Nat, k ≤ 29 ∧ i = .int .i64 k ∧ firstR op 0 = firstR op k) (fun i => 29 - (intOf i).toNat)
  case atStart => exact ⟨0, by omega, rfl, rfl⟩
  case round =>
    obtain ⟨k, hk, rfl, hf⟩ := hrel
    have HQ := Lib.hid hf
    clear hf
    by_cases hlt : k < 29
    · have hc := HN.out k hlt
      have hlt' : (k : Int) < 29 := by omega
      cases ht : ((mkB (nameOf k)).toList == op.toList)
      · have HP := Lib.hid (firstR_no hlt ht)
        go_wp2_with fail
        go_round
        case rel => exact ⟨k + 1, by omega, by go_num, by rw [HQ.out, HP.out]⟩
        case measure => simp [intOf]; omega
      · have HP := Lib.hid (firstR_yes hlt ht)
        go_wp2_with fail
        go_ret
        exact ⟨by rw [← HF.out, HQ.out, HP.out]; rfl, grow_alloc (grow_refl _) _⟩
    · have hk' : k = 29 := by omega
      subst hk'
      go_wp2_with fail
      go_ret
      exact ⟨by rw [← HF.out, HQ.out, firstR_end]; rfl, grow_alloc (grow_refl _) _⟩
theorem isReg_any (n : Int) (w : World) : Calls Tryd.prog 22 #[.int .i64 n] w fun e w' => e = .returned (.bool (regP n)) ∧ w = w' := by
  by_cases h1 : (0 : Int) ≤ n <;> by_cases h2 : n < 8
  all_goals
    have H := Lib.hid (And.intro h1 h2)
    go_enter Tryd.func22, Tryd.ntmps22
    go_wp2_with fail
    go_ret
    exact ⟨by obtain ⟨h1, h2⟩ := H.out; unfold regP; simp [h1, h2], rfl⟩
theorem contains_drop (s : ByteArray) (c : UInt8) (j : Nat) (h : j < s.size) : (s.toList.drop j).contains c = ((s[j] == c) || (s.toList.drop (j + 1)).contains c) := by
  have hl : j < s.toList.length := by rw [toList_data, Array.length_toList]; exact h
  rw [List.drop_eq_getElem_cons hl, List.contains_cons]
  have e : s.toList[j] = s[j] := by
    have : s.toList = s.data.toList := toList_data s
    simp only [this]; rfl
  rw [e]
  congr 1
  exact BEq.comm
def conD (s : ByteArray) (c : UInt8) (j : Nat) : Bool := (s.toList.drop j).contains c
theorem isOf_is (s : ByteArray) (hs : s.size ≤ 1000) (c : UInt8) (n : Int) (hn : n = (c.toNat : Int)) (v : Bool) (hv : s.toList.contains c = v) (w : World) : Calls Tryd.prog 21 #[.string s, .int .u8 n] w fun e w' => e = .returned (.bool v) ∧ w = w' := by
  have HN := Lib.hid hn
  have HV : Hid (conD s c 0 = v) := hv
  clear hn hv
  go_enter Tryd.func21, Tryd.ntmps21
  go_wp2_with fail
  go_loop [5] (fun i => ∃ j : Nat, j ≤ s.size ∧ i = .int .i64 j ∧ conD s c j = v) (fun i => s.size - (intOf i).toNat)
  case atStart => exact ⟨0, by omega, rfl, HV.out⟩
  case round =>
    obtain ⟨j, hj, rfl, hf⟩ := hrel
    have HQ := Lib.hid hf
    clear hf
    by_cases hlt : j < s.size
    · have HD : Hid (conD s c j = ((s[j] == c) || conD s c (j + 1))) := contains_drop s c j hlt
      have hlt' : (j : Int) < (s.size : Int) := by omega
      cases ht : ((s[j].toNat : Int) == n)
      · have HT : Hid (conD s c (j + 1) = v) := by
          show conD s c (j + 1) = v
          have h1 : (s[j] == c) = false := by
            rw [beq_eq_false_iff_ne] at ht ⊢
            exact fun e => ht (by rw [e, HN.out])
          rw [← HQ.out, HD.out, h1, Bool.false_or]
        go_wp2_with fail
        go_round
        case rel => exact ⟨j + 1, by omega, by go_num, HT.out⟩
        case measure => simp [intOf]; omega
      · have HT : Hid (true = v) := by
          show true = v
          have h1 : (s[j] == c) = true := by
            rw [beq_iff_eq] at ht ⊢
            exact UInt8.toNat_inj.1 (by have := HN.out; omega)
          rw [← HQ.out, HD.out, h1, Bool.true_or]
        go_wp2_with fail
        go_ret
        exact ⟨by rw [← HT.out]; rfl, rfl⟩
    · have hj' : j = s.size := by omega
      subst hj'
      have HT : Hid (false = v) := by
        show false = v
        rw [← HQ.out]
        unfold conD
        rw [List.drop_eq_nil_of_le (by rw [toList_data, Array.length_toList]; exact Nat.le_refl _)]; rfl
      go_wp2_with fail
      go_ret
      exact ⟨by rw [← HT.out]; rfl, rfl⟩
end Go.Proofs.YtgmkdoiehobfeaaDoor
