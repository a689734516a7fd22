import Derived.Test.YtgmkdoiehobfeaaDoorMRef
import Derived.Deep.DeepCutAuto
namespace Go.Proofs.YtgmkdoiehobfeaaDoor
open Go.RowKit

theorem insError_none (i : PIns) (w : World) (h : findL i.op = 0) : Calls Tryd.prog 9 #[insV i] w (Ret (.int .i64 (errI i)) w) := by
  have HE : Hid (errI i = 4) := show errI i = 4 by unfold errI; rw [if_pos h]
  have HF := Lib.hid (fun w => NumberOf_any (mkB i.op) w)
  have e : (findL (mkB i.op).toList : Int) = 0 := by rw [mkB_toList, h]; rfl
  rw [e] at HF
  obtain ⟨op, d, a, b, imm⟩ := i
  clear h e
  unfold insV
  go_enter Tryd.func9, Tryd.ntmps9
  go_wp2_with (go_at_call 19; (with_reducible refine (HF.out _).mono ?_); rintro x w1 ⟨rfl, hb1⟩)
  go_ret
  exact ⟨by rw [HE.out]; rfl, grow_trans (grow_alloc (grow_refl _) _) hb1⟩
theorem has_len : ∀ k, k < 29 → (mkB (hasOf k)).size ≤ 3 := by decide
def outQ (dB aB bB : Bool) (most d a b : Int) : Bool := (dB && !regP d) || (aB && !regP a) || (bB && (decide (b < 0) || decide (most ≤ b)))
def outN (nB : Bool) (imm : Int) : Bool := nB && (decide (imm < -2147483648) || decide (2147483647 < imm))
theorem outP_split (dB aB bB nB : Bool) (most d a b imm : Int) : outP dB aB bB nB most d a b imm = (outQ dB aB bB (most + 1) d a b || outN nB imm) := by
  unfold outP outQ outN
  rw [show decide (most + 1 ≤ b) = decide (most < b) from rfl]
set_option maxHeartbeats 8000000 in
set_option maxRecDepth 100000 in
theorem insError_some (i : PIns) (w : World) (k : Nat) (h : findL i.op = k + 1) : Calls Tryd.prog 9 #[insV i] w (Ret (.int .i64 (errI i)) w) := by
  have hk29 : k < 29 := by have := (findL_spec i.op (by omega)).1; omega
  have hnm : nameOf k = i.op := by have := (findL_spec i.op (by omega)).2; rwa [h] at this
  have HF := Lib.hid (fun w => NumberOf_any (mkB i.op) w)
  have e : (findL (mkB i.op).toList : Int) = (k : Int) + 1 := by rw [mkB_toList, h]; rfl
  rw [e] at HF
  have hh := HasOf_any k hk29
  rw [hnm] at hh
  have HH := Lib.hid hh
  have hsz : (mkB (hasOf k)).size ≤ 1000 := Nat.le_trans (has_len k hk29) (by omega)
  obtain ⟨dB, hd⟩ : ∃ v, (hasOf k).contains 100 = v := ⟨_, rfl⟩
  obtain ⟨aB, ha⟩ : ∃ v, (hasOf k).contains 97 = v := ⟨_, rfl⟩
  obtain ⟨bB, hb⟩ : ∃ v, (hasOf k).contains 98 = v := ⟨_, rfl⟩
  obtain ⟨nB, hn⟩ : ∃ v, (hasOf k).contains 105 = v := ⟨_, rfl⟩
  have HD := Lib.hid (isOf_is (mkB (hasOf k)) hsz 100 100 rfl dB (by rw [mkB_toList]; exact hd))
  have HA := Lib.hid (isOf_is (mkB (hasOf k)) hsz 97 97 rfl aB (by rw [mkB_toList]; exact ha))
  have HB := Lib.hid (isOf_is (mkB (hasOf k)) hsz 98 98 rfl bB (by rw [mkB_toList]; exact hb))
  have HI := Lib.hid (isOf_is (mkB (hasOf k)) hsz 105 105 rfl nB (by rw [mkB_toList]; exact hn))
  obtain ⟨most, hm⟩ : ∃ m, mostB i.op + 1 = m := ⟨_, rfl⟩
  have HE : Hid (errI i = if outQ dB aB bB most i.d i.a i.b then 2 else if outN nB i.imm then 2 else if ownP dB aB bB nB i.d i.a i.b i.imm then 3 else 0) := by
    show errI i = _
    unfold errI
    rw [if_neg (by omega), h, Nat.add_sub_cancel, errP_eq, hd, ha, hb, hn, outP_split, hm]
    cases outQ dB aB bB most i.d i.a i.b <;> cases outN nB i.imm <;> rfl
  have hq : (((mkB i.op).toList == [99, 97, 108, 108]) = true ∧ most = 5) ∨ (((mkB i.op).toList == [99, 97, 108, 108]) = false ∧ most = 8) := by
    rw [mkB_toList, ← hm]; unfold mostB
    show ((i.op == callN) = true ∧ _) ∨ ((i.op == callN) = false ∧ _)
    cases i.op == callN <;> simp
  have HQ := Lib.hid hq
  obtain ⟨op, d, a, b, imm⟩ := i
  simp only at HE HQ
  clear h e hnm hh hd ha hb hn hm hq hsz
  unfold insV
  obtain ⟨e1, he1⟩ : ∃ e, (d != 0) = e := ⟨_, rfl⟩
  obtain ⟨e2, he2⟩ : ∃ e, (a != 0) = e := ⟨_, rfl⟩
  obtain ⟨e3, he3⟩ : ∃ e, (b != 0) = e := ⟨_, rfl⟩
  obtain ⟨e4, he4⟩ : ∃ e, (imm != 0) = e := ⟨_, rfl⟩
  have HE2 : Hid (ownP dB aB bB nB d a b imm = (((!dB && e1) || (!aB && e2)) || ((!bB && e3) || (!nB && e4)))) := by
    show ownP _ _ _ _ _ _ _ _ = _
    unfold ownP; rw [he1, he2, he3, he4]
    cases dB <;> cases aB <;> cases bB <;> cases nB <;> cases e1 <;> cases e2 <;> cases e3 <;> cases e4 <;> rfl
  have HW := Lib.hid (heap_alloc_new w (.cells #[.string (mkB op), .int .i64 d, .int .i64 a, .int .i64 b, .int .i64 imm] 24))
  have hk1 : ((k : Int) + 1 == 0) = false := by simp; omega
  go_enter Tryd.func9, Tryd.ntmps9
  go_upto_if 28 with (first
    | (go_at_call 19; (with_reducible refine (HF.out _).mono ?_); rintro x w1 ⟨rfl, hb1⟩; have hw1 := (hb1.block w.heap.size (by simp)).trans HW.out; have r0 := cell_of_row w1 _ 0 _ _ _ hw1; have r1 := cell_of_row w1 _ 1 _ _ _ hw1; have r2 := cell_of_row w1 _ 2 _ _ _ hw1; have r3 := cell_of_row w1 _ 3 _ _ _ hw1; have r4 := cell_of_row w1 _ 4 _ _ _ hw1; have HB1 := Lib.hid (grow_trans (grow_alloc (grow_refl w) (.cells #[.string (mkB op), .int .i64 d, .int .i64 a, .int .i64 b, .int .i64 imm] 24)) hb1); clear hw1 hb1)
    | (go_at_call 20; (with_reducible refine (HH.out _).mono ?_); rintro x w' ⟨rfl, rfl⟩)
    | (go_at_call 21; (with_reducible refine (HD.out _).mono ?_); rintro x w' ⟨rfl, rfl⟩)
    | (go_at_call 21; (with_reducible refine (HA.out _).mono ?_); rintro x w' ⟨rfl, rfl⟩)
    | (go_at_call 21; (with_reducible refine (HB.out _).mono ?_); rintro x w' ⟨rfl, rfl⟩)
    | (go_at_call 21; (with_reducible refine (HI.out _).mono ?_); rintro x w' ⟨rfl, rfl⟩))
  go_cut [8] (fun v wx => v = .int .i64 most ∧ w1 = wx)
  case first =>
    rcases HQ.out with ⟨hq, rfl⟩ | ⟨hq, rfl⟩
    all_goals go_wp2_with fail
    all_goals (go_meet; first | exact ⟨rfl, rfl⟩ | (exfalso; simp_all))
  case rest =>
    obtain ⟨rfl, rfl⟩ := hcut
    go_upto_region 13 with (go_at_call 22; refine (isReg_any _ _).mono ?_; rintro x w' ⟨rfl, rfl⟩)
    go_cut [4, 5, 6, 9, 10, 60] (fun v4 v5 v6 v9 v10 v wx => v4 = .bool dB ∧ v5 = .bool aB ∧ v6 = .bool bB ∧ v9 = .bool (regP d) ∧ v10 = .bool (regP a) ∧ v = .bool (outQ dB aB bB most d a b) ∧ w1 = wx)
    case first =>
      go_wp2_with fail
      all_goals go_meet
      all_goals refine ⟨?_, ?_, ?_, ?_, ?_, ?_, rfl⟩
      all_goals simp [outQ, *]
    case rest =>
      obtain ⟨rfl, rfl, rfl, rfl, rfl, rfl, rfl⟩ := hcut
      cases ho : outQ dB aB bB most d a b
      · have HO := Lib.hid ho
        clear ho
        go_upto_region 15 with fail
        go_cut [7, 71] (fun v7 v wx => v7 = .bool nB ∧ v = .bool (outN nB imm) ∧ w1 = wx)
        case first =>
          go_wp2_with fail
          all_goals go_meet
          all_goals refine ⟨?_, ?_, rfl⟩
          all_goals simp [outN, *]
        case rest =>
          obtain ⟨rfl, rfl, rfl⟩ := hcut
          cases hn : outN nB imm
          · have HN := Lib.hid hn
            clear hn
            go_upto_region 17 with fail
            go_cut [4, 5, 87] (fun v4 v5 v wx => v4 = .bool dB ∧ v5 = .bool aB ∧ v = .bool ((!dB && e1) || (!aB && e2)) ∧ w1 = wx)
            case first =>
              go_wp2_with fail
              all_goals go_meet
              all_goals refine ⟨?_, ?_, ?_, rfl⟩
              all_goals simp [*]
            case rest =>
              obtain ⟨rfl, rfl, rfl, rfl⟩ := hcut
              cases hp : ((!dB && e1) || (!aB && e2))
              · have HP := Lib.hid hp
                clear hp
                go_upto_region 19 with fail
                go_cut [6, 7, 103] (fun v6 v7 v wx => v6 = .bool bB ∧ v7 = .bool nB ∧ v = .bool ((!bB && e3) || (!nB && e4)) ∧ w1 = wx)
                case first =>
                  go_wp2_with fail
                  all_goals go_meet
                  all_goals refine ⟨?_, ?_, ?_, rfl⟩
                  all_goals simp [*]
                case rest =>
                  obtain ⟨rfl, rfl, rfl, rfl⟩ := hcut
                  cases hr : ((!bB && e3) || (!nB && e4))
                  · have HR := Lib.hid hr
                    clear hr
                    go_wp2_with fail
                    go_ret
                    exact ⟨by rw [HE.out, HO.out, HN.out, HE2.out, HP.out, HR.out]; rfl, HB1.out⟩
                  · have HR := Lib.hid hr
                    clear hr
                    go_wp2_with fail
                    go_ret
                    exact ⟨by rw [HE.out, HO.out, HN.out, HE2.out, HP.out, HR.out]; rfl, HB1.out⟩
              · have HP := Lib.hid hp
                clear hp
                go_wp2_with fail
                go_ret
                exact ⟨by rw [HE.out, HO.out, HN.out, HE2.out, HP.out]; rfl, HB1.out⟩
          · have HN := Lib.hid hn
            clear hn
            go_wp2_with fail
            go_ret
            exact ⟨by rw [HE.out, HO.out, HN.out]; rfl, HB1.out⟩
      · have HO := Lib.hid ho
        clear ho
        go_wp2_with fail
        go_ret
        exact ⟨by rw [HE.out, HO.out]; rfl, HB1.out⟩
theorem InsError_any (i : PIns) (w : World) : Calls Tryd.prog 9 #[insV i] w (Ret (.int .i64 (errI i)) w) := by
  cases h : findL i.op with
  | zero => exact insError_none i w h
  | succ k => exact insError_some i w k h
end Go.Proofs.YtgmkdoiehobfeaaDoor
