import Derived.Deep.RegionWith
import Derived.IntWalk
import Derived.Test.YtpfgimohginbdaaGreatDoorBn9
set_option linter.unusedVariables false
set_option linter.unusedSimpArgs false
namespace Go.Proofs.YtpfgimohginbdaaGreatDoor
open Go.RowKit

def pfxB (a x : ByteArray) : Bool := decide ((x.size : Int) ≤ a.size) && ((a.extract 0 x.size).toList == x.toList)
theorem hasPrefix_any (a x : ByteArray) (w : World) : Calls Tryz.prog 59 #[.string a, .string x] w fun e w' => e = .returned (.bool (pfxB a x)) ∧ w' = w := by
  by_cases h : (x.size : Int) ≤ a.size
  · have H := Lib.hid (show pfxB a x = ((a.extract 0 x.size).toList == x.toList) by unfold pfxB; rw [decide_eq_true h, Bool.true_and])
    go_enter Tryz.func59, Tryz.ntmps59
    go_wp2
    go_ret
    exact ⟨by rw [H.out]; rfl, rfl⟩
  · have H := Lib.hid (show pfxB a x = false by unfold pfxB; rw [decide_eq_false h, Bool.false_and])
    go_enter Tryz.func59, Tryz.ntmps59
    go_wp2
    go_ret
    exact ⟨by rw [H.out]; rfl, rfl⟩
theorem pfx_two (s : ByteArray) (k : Nat) (hk : k ≤ s.size) (l : List UInt8) (hl : l.length = 2) : pfxB (s.extract k s.size) (mkB l) = (((bytesL s).drop k).take 2 == l) := by
  have hsz : (mkB l).size = 2 := by unfold mkB; rw [← hl]; rfl
  have hL : ((bytesL s).drop k).length = s.size - k := by rw [List.length_drop, bytesL_len]
  unfold pfxB
  rw [hsz, mkB_toList]
  have e1 : ((s.extract k s.size).extract 0 2).toList = ((bytesL s).drop k).take 2 := by
    rw [extract_bytes, show bytesL (s.extract k s.size) = ((bytesL s).drop k).take (s.size - k) from Lib.extract_data s k s.size]
    rw [← hL, List.take_length]; simp
  rw [e1, ByteArray.size_extract]
  by_cases h2 : 2 ≤ s.size - k
  · rw [decide_eq_true (by omega), Bool.true_and]
  · rw [decide_eq_false (by omega), Bool.false_and]
    symm
    rw [beq_eq_false_iff_ne]
    intro e
    have := congrArg List.length e
    rw [List.length_take, hL, hl] at this
    omega
def onesS : ByteArray := ⟨#[43, 45, 42, 47, 37, 38, 124, 94, 60, 33, 61, 40, 41, 123, 125, 44, 59]⟩
theorem firstIdx_ones (c : UInt8) : decide (firstIdx onesS c ≥ 0) = onesB.any (fun x => x == c) := by
  have h : ∀ n : Fin 256, decide (firstIdx onesS (UInt8.ofNat n.val) ≥ 0) = onesB.any (fun x => x == UInt8.ofNat n.val) := by decide +kernel
  have := h ⟨c.toNat, c.toNat_lt⟩
  rwa [show UInt8.ofNat c.toNat = c from UInt8.ofNat_toNat] at this
theorem indexByte_ones (c : UInt8) (w : World) : Calls Tryz.prog 60 #[.string ⟨#[43, 45, 42, 47, 37, 38, 124, 94, 60, 33, 61, 40, 41, 123, 125, 44, 59]⟩, .int .u8 (c.toNat : Int)] w fun e w' => e = .returned (.int .i64 (firstIdx onesS c)) ∧ w' = w := by
  have h1 := @run_callFunc_indexByte Tryz.prog 75 _ Tryz.func75 (by kernel_rfl) (by kernel_rfl) (by kernel_rfl) (by kernel_rfl)
  have h2 := run_indexByte_string (P := Tryz.prog) ⟨#[43, 45, 42, 47, 37, 38, 124, 94, 60, 33, 61, 40, 41, 123, 125, 44, 59]⟩ (c.toNat : Int)
  have h3 : ((c.toNat : Int).toNat.toUInt8) = c := by simp
  go_enter Tryz.func60, Tryz.ntmps60
  go_wp2
  go_ret
  exact ⟨rfl, rfl⟩
def twosS : List ByteArray := twosB.map mkB
theorem bytes_ext {a b : ByteArray} (h : a.toList = b.toList) : a = b := by
  have ha := ByteArray.toList_mk a.data.toList
  have hb := ByteArray.toList_mk b.data.toList
  simp only [Array.toArray_toList] at ha hb
  have : a.data.toList = b.data.toList := by rw [← ha, ← hb]; exact h
  cases a; cases b
  simp only at this
  rw [Array.toList_inj.1 this]
theorem eq_mkB {a : ByteArray} {l : List UInt8} (h : a.toList = l) : a = mkB l := bytes_ext (by rw [mkB_toList, h])
def signTxt (t : List UInt8) (o : ByteArray) : ByteArray := if twosB.any (fun x => x == t) then mkB t else o
def signOk (t : List UInt8) (c : UInt8) : Bool := twosB.any (fun x => x == t) || onesB.any (fun x => x == c)
set_option maxRecDepth 100000 in
/-- Is one of the two-byte signs, from the k-th on, the next word? -/
theorem sign_any (s : ByteArray) (hs : s.size ≤ 1000000000) (k : Nat) (hk : k < s.size) (w : World) :
    Calls Tryz.prog 45 #[.string s, .int .i64 k] w fun e w' => e = .returned (.tuple #[tokV (mkB kSign) (signTxt (((bytesL s).drop k).take 2) (s.extract k (k + 1))) k, .bool (signOk (((bytesL s).drop k).take 2) s[k])]) ∧ Below w.heap.size w w' := by
  obtain ⟨t, ht⟩ : ∃ t, ((bytesL s).drop k).take 2 = t := ⟨_, rfl⟩
  rw [ht]
  have hp : ∀ j (h : j < 5), pfxB (s.extract k s.size) (twosS[j]'h) = ((twosB[j]'h) == t) := by
    intro j h
    rw [show twosS[j]'h = mkB (twosB[j]'h) from List.getElem_map _, pfx_two s k (by omega) _ (by revert j; decide), ht]
    exact BEq.comm
  have HP := Lib.hid hp
  clear hp ht
  have hsz : (s.extract k s.size).size = s.size - k := by rw [ByteArray.size_extract]; omega
  have hrow : ∀ j (h : j < 5), ((w.alloc (Obj.cells #[.string ⟨#[]⟩, .string ⟨#[]⟩, .int .i64 0] 62)).alloc (Obj.cells #[.string ⟨#[60, 60]⟩, .string ⟨#[62, 62]⟩, .string ⟨#[60, 61]⟩, .string ⟨#[61, 61]⟩, .string ⟨#[33, 61]⟩] 9)).cell? ⟨w.heap.size + 1, j, none⟩ = some (.string (twosS[j]'h)) := by
    intro j h
    obtain ⟨b, off, e, hc⟩ := Row.new (w.alloc (Obj.cells #[.string ⟨#[]⟩, .string ⟨#[]⟩, .int .i64 0] 62)) (twosS.map Value.string).toArray 9 j (.string (twosS[j]'h)) (strs_get (xs := twosS) h)
    simp only [Option.some.injEq, Addr.mk.injEq, and_true] at e
    obtain ⟨rfl, rfl⟩ := e
    rw [Nat.zero_add, show (w.alloc (Obj.cells #[.string ⟨#[]⟩, .string ⟨#[]⟩, .int .i64 0] 62)).heap.size = w.heap.size + 1 by simp] at hc
    exact hc
  go_enter Tryz.func45, Tryz.ntmps45
  go_wp2_with fail
  go_loop [10] (fun i => ∃ j : Nat, j ≤ 5 ∧ i = .int .i64 j ∧ twosB.any (fun x => x == t) = (twosB.drop j).any (fun x => x == t)) (fun i => 5 - (intOf i).toNat)
  case atStart => exact ⟨0, by omega, rfl, rfl⟩
  case round =>
    obtain ⟨j, hj, rfl, hJ⟩ := hrel
    have HJ := Lib.hid hJ
    clear hJ
    by_cases hlt : j < 5
    · have hc := hrow j hlt
      clear hrow
      have HD := Lib.hid (show (twosB.drop j).any (fun x => x == t) = ((twosB[j]'hlt == t) || (twosB.drop (j + 1)).any (fun x => x == t)) by rw [List.drop_eq_getElem_cons (by exact hlt), List.any_cons])
      cases hp : pfxB (s.extract k s.size) (twosS[j]'hlt)
      · have HE := Lib.hid (hp.symm.trans (HP.out j hlt))
        go_wp2_with (go_at_call 59; refine (hasPrefix_any _ _ _).mono ?_; rintro e w' ⟨rfl, rfl⟩)
        go_round
        case rel => exact ⟨j + 1, by omega, by go_num, by rw [HJ.out, HD.out, ← HE.out]; rfl⟩
        case measure => simp [intOf]; omega
      · have HE := Lib.hid (hp.symm.trans (HP.out j hlt))
        have HT : Hid (twosS[j]'hlt = mkB t) := by
          have := HE.out.symm
          rw [beq_iff_eq] at this
          rw [← this]
          exact List.getElem_map _
        go_wp2_with (go_at_call 59; refine (hasPrefix_any _ _ _).mono ?_; rintro e w' ⟨rfl, rfl⟩)
        go_returns
        have hany : twosB.any (fun x => x == t) = true := by rw [HJ.out, HD.out, ← HE.out]; rfl
        refine ⟨?_, ?_⟩
        · rw [show signTxt t (s.extract k (k + 1)) = mkB t by unfold signTxt; rw [if_pos hany], show signOk t s[k] = true by unfold signOk; rw [hany]; rfl, ← HT.out]; rfl
        · exact grow_alloc (grow_alloc (grow_refl _) _) _
    · have hj' : j = 5 := by omega
      subst hj'
      have HN : Hid (twosB.any (fun x => x == t) = false) := HJ.out
      have HB := Lib.hid (firstIdx_ones s[k])
      clear hrow
      go_wp2_with fail
      have q1 : IntKind.i64.wrap ((k : Int) + 1) = (k : Int) + 1 := IntWalk.i64_in _ (by omega)
      have q2 : (0 : Int) ≤ (k : Int) + 1 := by omega
      have q3 : ((k : Int) + 1).toNat = k + 1 := by omega
      have q4 : (k : Int) + 1 ≤ (s.size : Int) := by omega
      have q5 : (k : Int) ≤ (k : Int) + 1 := by omega
      have q6 : (k : Int) < (s.size : Int) := by omega
      go_region_with ((go_at_call 60; refine (indexByte_ones _ _).mono ?_; rintro e w' ⟨rfl, rfl⟩))
      all_goals go_wp2_with fail
      all_goals go_returns
      all_goals exact ⟨by rw [show signTxt t (s.extract k (k + 1)) = s.extract k (k + 1) by unfold signTxt; rw [HN.out]; rfl, show signOk t s[k] = decide (0 ≤ firstIdx onesS s[k]) by unfold signOk; rw [HN.out, ← HB.out]; rfl]; rfl, grow_drew (grow_alloc (grow_alloc (grow_refl _) _) _) 1⟩
end Go.Proofs.YtpfgimohginbdaaGreatDoor
