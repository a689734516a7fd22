import Derived.Test.YtgmkdoiehobfeaaDoorMDec
import Derived.Deep.DeepCutAuto
namespace Go.Proofs.YtgmkdoiehobfeaaDoor
open Go.RowKit

theorem has_len3 : ∀ k, k < 29 → (mkB (hasOf k)).size ≤ 3 := by decide
theorem part_yes_r (p t u : List UInt8) (v : Bool) (h : v = true) (hu : u = 114 :: t) : mkB p ++ ⟨#[32, 114]⟩ ++ mkB t = mkB (p ++ chunkP v u) := by
  subst h; subst hu
  rw [show mkB p ++ (⟨#[32, 114]⟩ : ByteArray) = mkB (p ++ [32, 114]) from mkB_app p [32, 114], mkB_app]; simp [chunkP]
set_option maxHeartbeats 16000000 in
set_option maxRecDepth 100000 in
theorem TextOf_any (i : PIns) (w : World) (h : errI i = 0) : Calls Tryd.prog 12 #[insV i] w (Ret (textV i) w) := by
  have hf : findL i.op ≠ 0 := by intro e; unfold errI at h; rw [if_pos e] at h; cases h
  obtain ⟨k, hk⟩ : ∃ k, findL i.op = k + 1 := ⟨findL i.op - 1, by omega⟩
  have hk29 : k < 29 := by have := (findL_spec i.op hf).1; omega
  have hnm : nameOf k = i.op := by have := (findL_spec i.op hf).2; rwa [hk] at this
  have hp : errP (hasOf k) i = 0 := by unfold errI at h; rw [if_neg hf, hk] at h; exact h
  have HT : Hid (textI i = textP (hasOf k) i) := show textI i = _ by unfold textI; rw [if_pos h, hk]; rfl
  obtain ⟨⟨d0, d1⟩, ⟨a0, a1⟩, ⟨b0, b1⟩, ⟨m0, m1⟩, -⟩ := errP_zero hp
  have hh := HasOf_any k hk29
  rw [hnm] at hh
  have HH := Lib.hid hh
  have hsz : (mkB (hasOf k)).size ≤ 1000 := Nat.le_trans (has_len3 k hk29) (by omega)
  obtain ⟨dB, hd⟩ : ∃ v, (hasOf k).contains 100 = v := ⟨_, rfl⟩
  obtain ⟨aB, ha⟩ : ∃ v, (hasOf k).contains 97 = v := ⟨_, rfl⟩
  obtain ⟨bB, hb⟩ : ∃ v, (hasOf k).contains 98 = v := ⟨_, rfl⟩
  obtain ⟨nB, hn⟩ : ∃ v, (hasOf k).contains 105 = v := ⟨_, rfl⟩
  have HD := Lib.hid (isOf_is (mkB (hasOf k)) hsz 100 100 rfl dB (by rw [mkB_toList]; exact hd))
  have HA := Lib.hid (isOf_is (mkB (hasOf k)) hsz 97 97 rfl aB (by rw [mkB_toList]; exact ha))
  have HB := Lib.hid (isOf_is (mkB (hasOf k)) hsz 98 98 rfl bB (by rw [mkB_toList]; exact hb))
  have HI := Lib.hid (isOf_is (mkB (hasOf k)) hsz 105 105 rfl nB (by rw [mkB_toList]; exact hn))
  obtain ⟨op, d, a, b, imm⟩ := i
  simp only at d0 d1 a0 a1 b0 b1 m0 m1
  have l1 : (mkB (Lib.itoa d)).size ≤ 21 := itoa_len d (by omega) (by omega)
  have l2 : (mkB (Lib.itoa a)).size ≤ 21 := itoa_len a (by omega) (by omega)
  have l3 : (mkB (Lib.itoa b)).size ≤ 21 := itoa_len b (by omega) (by omega)
  have l4 : (mkB (Lib.itoa imm)).size ≤ 21 := itoa_len imm (by omega) (by omega)
  have HPL : Hid (∀ j, (mkB (partT ⟨op, d, a, b, imm⟩ (hasOf k) j)).size ≤ 200) := fun j => by
    have := part_len ⟨op, d, a, b, imm⟩ (hasOf k) j l1 l2 l3 l4
    have h6 : op.length ≤ 6 := by rw [← (show nameOf k = op from hnm)]; exact name_len k hk29
    rw [mkB_size]
    simp only at this
    omega
  have HI1 := Lib.hid (fun w' => decimal_any d (by omega) (by omega) w')
  have HI2 := Lib.hid (fun w' => decimal_any a (by omega) (by omega) w')
  have HI3 := Lib.hid (fun w' => decimal_any b (by omega) (by omega) w')
  have HI4 := Lib.hid (fun w' => decimal_any imm (by omega) (by omega) w')
  have HW := Lib.hid (heap_alloc_new w (.cells #[.string (mkB op), .int .i64 d, .int .i64 a, .int .i64 b, .int .i64 imm] 24))
  have HHD := Lib.hid hd
  have HHA := Lib.hid ha
  have HHB := Lib.hid hb
  have HHN := Lib.hid hn
  have ho : ((mkB op).toList == [99, 97, 108, 108]) = true ∧ (op == callN) = true ∨ ((mkB op).toList == [99, 97, 108, 108]) = false ∧ (op == callN) = false := by
    rw [mkB_toList]
    show (op == callN) = true ∧ _ ∨ (op == callN) = false ∧ _
    cases op == callN <;> simp
  clear h hf hk hk29 hnm hp hh hsz hd ha hb hn d0 d1 a0 a1 b0 b1 m0 m1
  unfold insV
  go_enter Tryd.func12, Tryd.ntmps12
  go_upto_if 11 with (first
    | (go_at_call 20; (with_reducible refine (HH.out _).mono ?_); rintro x w' ⟨rfl, rfl⟩)
    | (go_at_call 21; (with_reducible refine (HD.out _).mono ?_); rintro x w' ⟨rfl, rfl⟩))
  have HBJ0 := Lib.hid (Below.refl (w.alloc (.cells #[.string (mkB op), .int .i64 d, .int .i64 a, .int .i64 b, .int .i64 imm] 24)).heap.size (w.alloc (.cells #[.string (mkB op), .int .i64 d, .int .i64 a, .int .i64 b, .int .i64 imm] 24)))
  have hwj := (HBJ0.out.block w.heap.size (by simp)).trans HW.out
  have r0 := cell_of_row _ _ 0 _ _ _ hwj
  have r1 := cell_of_row _ _ 1 _ _ _ hwj
  have r2 := cell_of_row _ _ 2 _ _ _ hwj
  have r3 := cell_of_row _ _ 3 _ _ _ hwj
  have r4 := cell_of_row _ _ 4 _ _ _ hwj
  have hz : (mkB op).size ≤ 200 := HPL.out 0
  clear hwj
  go_cut [4] (fun v wx => v = .string (mkB (partT ⟨op, d, a, b, imm⟩ (hasOf k) 1)) ∧ Below (w.alloc (.cells #[.string (mkB op), .int .i64 d, .int .i64 a, .int .i64 b, .int .i64 imm] 24)).heap.size (w.alloc (.cells #[.string (mkB op), .int .i64 d, .int .i64 a, .int .i64 b, .int .i64 imm] 24)) wx)
  case first =>
    cases dB
    · have HP := Lib.hid (part_no (partT ⟨op, d, a, b, imm⟩ (hasOf k) 0) (114 :: Lib.itoa d) _ HHD.out)
      go_wp2_with fail
      go_meet
      exact ⟨congrArg Value.string HP.out, HBJ0.out⟩
    · have HP := Lib.hid (part_yes_r (partT ⟨op, d, a, b, imm⟩ (hasOf k) 0) (Lib.itoa d) (114 :: Lib.itoa d) _ HHD.out rfl)
      go_wp2_with (go_at_call 24; (with_reducible refine (HI1.out _).mono ?_); rintro x w2 ⟨rfl, hb2⟩)
      go_meet
      exact ⟨congrArg Value.string HP.out, grow_trans HBJ0.out hb2⟩
  case rest =>
    obtain ⟨rfl, hbx⟩ := hcut
    have HBJ1 := Lib.hid hbx
    clear hbx r0 r1 r2 r3 r4 hz
    have hwj := (HBJ1.out.block w.heap.size (by simp)).trans HW.out
    have r0 := cell_of_row _ _ 0 _ _ _ hwj
    have r1 := cell_of_row _ _ 1 _ _ _ hwj
    have r2 := cell_of_row _ _ 2 _ _ _ hwj
    have r3 := cell_of_row _ _ 3 _ _ _ hwj
    have r4 := cell_of_row _ _ 4 _ _ _ hwj
    have hz := HPL.out 1
    clear hwj
    go_upto_if 19 with (go_at_call 21; (with_reducible refine (HA.out _).mono ?_); rintro x w' ⟨rfl, rfl⟩)
    go_cut [4] (fun v wx => v = .string (mkB (partT ⟨op, d, a, b, imm⟩ (hasOf k) 2)) ∧ Below (w.alloc (.cells #[.string (mkB op), .int .i64 d, .int .i64 a, .int .i64 b, .int .i64 imm] 24)).heap.size (w.alloc (.cells #[.string (mkB op), .int .i64 d, .int .i64 a, .int .i64 b, .int .i64 imm] 24)) wx)
    case first =>
      cases aB
      · have HP := Lib.hid (part_no (partT ⟨op, d, a, b, imm⟩ (hasOf k) 1) (114 :: Lib.itoa a) _ HHA.out)
        go_wp2_with fail
        go_meet
        exact ⟨congrArg Value.string HP.out, HBJ1.out⟩
      · have HP := Lib.hid (part_yes_r (partT ⟨op, d, a, b, imm⟩ (hasOf k) 1) (Lib.itoa a) (114 :: Lib.itoa a) _ HHA.out rfl)
        go_wp2_with (go_at_call 24; (with_reducible refine (HI2.out _).mono ?_); rintro x w2 ⟨rfl, hb2⟩)
        go_meet
        exact ⟨congrArg Value.string HP.out, grow_trans HBJ1.out hb2⟩
    case rest =>
      obtain ⟨rfl, hbx⟩ := hcut
      have HBJ2 := Lib.hid hbx
      clear hbx r0 r1 r2 r3 r4 hz
      have hwj := (HBJ2.out.block w.heap.size (by simp)).trans HW.out
      have r0 := cell_of_row _ _ 0 _ _ _ hwj
      have r1 := cell_of_row _ _ 1 _ _ _ hwj
      have r2 := cell_of_row _ _ 2 _ _ _ hwj
      have r3 := cell_of_row _ _ 3 _ _ _ hwj
      have r4 := cell_of_row _ _ 4 _ _ _ hwj
      have hz := HPL.out 2
      clear hwj
      go_upto_if 27 with (go_at_call 21; (with_reducible refine (HB.out _).mono ?_); rintro x w' ⟨rfl, rfl⟩)
      go_cut [4] (fun v wx => v = .string (mkB (partT ⟨op, d, a, b, imm⟩ (hasOf k) 3)) ∧ Below (w.alloc (.cells #[.string (mkB op), .int .i64 d, .int .i64 a, .int .i64 b, .int .i64 imm] 24)).heap.size (w.alloc (.cells #[.string (mkB op), .int .i64 d, .int .i64 a, .int .i64 b, .int .i64 imm] 24)) wx)
      case first =>
        cases bB
        · have HP := Lib.hid (part_no (partT ⟨op, d, a, b, imm⟩ (hasOf k) 2) ((if op == callN then [] else [114]) ++ Lib.itoa b) _ HHB.out)
          go_wp2_with fail
          go_meet
          exact ⟨congrArg Value.string HP.out, HBJ2.out⟩
        · rcases ho with ⟨ho, hoc⟩ | ⟨ho, hoc⟩
          · have HP := Lib.hid (part_yes2 (partT ⟨op, d, a, b, imm⟩ (hasOf k) 2) (Lib.itoa b) ((if op == callN then [] else [114]) ++ Lib.itoa b) _ HHB.out (by rw [hoc]; rfl))
            clear hoc
            go_wp2_with (go_at_call 24; (with_reducible refine (HI3.out _).mono ?_); rintro x w2 ⟨rfl, hb2⟩)
            go_meet
            exact ⟨congrArg Value.string HP.out, grow_trans HBJ2.out hb2⟩
          · have HP := Lib.hid (part_yes_r (partT ⟨op, d, a, b, imm⟩ (hasOf k) 2) (Lib.itoa b) ((if op == callN then [] else [114]) ++ Lib.itoa b) _ HHB.out (by rw [hoc]; rfl))
            clear hoc
            go_wp2_with (go_at_call 24; (with_reducible refine (HI3.out _).mono ?_); rintro x w2 ⟨rfl, hb2⟩)
            go_meet
            exact ⟨congrArg Value.string HP.out, grow_trans HBJ2.out hb2⟩
      case rest =>
        obtain ⟨rfl, hbx⟩ := hcut
        have HBJ3 := Lib.hid hbx
        clear hbx r0 r1 r2 r3 r4 hz
        have hwj := (HBJ3.out.block w.heap.size (by simp)).trans HW.out
        have r0 := cell_of_row _ _ 0 _ _ _ hwj
        have r1 := cell_of_row _ _ 1 _ _ _ hwj
        have r2 := cell_of_row _ _ 2 _ _ _ hwj
        have r3 := cell_of_row _ _ 3 _ _ _ hwj
        have r4 := cell_of_row _ _ 4 _ _ _ hwj
        have hz := HPL.out 3
        clear hwj
        go_upto_if 44 with (go_at_call 21; (with_reducible refine (HI.out _).mono ?_); rintro x w' ⟨rfl, rfl⟩)
        go_cut [4] (fun v wx => v = .string (mkB (partT ⟨op, d, a, b, imm⟩ (hasOf k) 4)) ∧ Below (w.alloc (.cells #[.string (mkB op), .int .i64 d, .int .i64 a, .int .i64 b, .int .i64 imm] 24)).heap.size (w.alloc (.cells #[.string (mkB op), .int .i64 d, .int .i64 a, .int .i64 b, .int .i64 imm] 24)) wx)
        case first =>
          cases nB
          · have HP := Lib.hid (part_no (partT ⟨op, d, a, b, imm⟩ (hasOf k) 3) (Lib.itoa imm) _ HHN.out)
            go_wp2_with fail
            go_meet
            exact ⟨congrArg Value.string HP.out, HBJ3.out⟩
          · have HP := Lib.hid (part_yes2 (partT ⟨op, d, a, b, imm⟩ (hasOf k) 3) (Lib.itoa imm) (Lib.itoa imm) _ HHN.out rfl)
            go_wp2_with (go_at_call 24; (with_reducible refine (HI4.out _).mono ?_); rintro x w2 ⟨rfl, hb2⟩)
            go_meet
            exact ⟨congrArg Value.string HP.out, grow_trans HBJ3.out hb2⟩
        case rest =>
          obtain ⟨rfl, hbx⟩ := hcut
          have HBJ4 := Lib.hid hbx
          clear hbx r0 r1 r2 r3 r4 hz
          go_wp2_with fail
          go_ret
          exact ⟨by unfold textV; rw [HT.out]; rfl, grow_trans (grow_alloc (grow_refl _) _) HBJ4.out⟩
end Go.Proofs.YtgmkdoiehobfeaaDoor
