import Derived.Laws.IdiomStrings
import Derived.Deep.DeepCutAuto
import Derived.Lib.SmallJoins
import Derived.Lib.LaidTab
import Derived.Test.YtonnhechjbdenaaGreatDoorBn25
import Derived.Test.YtonnhechjbdenaaGreatDoorBn18
import Derived.Test.YtonnhechjbdenaaGreatDoorBn17
import Derived.Test.YtonnhechjbdenaaGreatDoorBn6
import Derived.Test.YtonnhechjbdenaaGreatDoorBn29
import Derived.Test.YtonnhechjbdenaaGreatDoorBn1
import Derived.Test.YtonnhechjbdenaaGreatDoorBn7
import Derived.Test.YtonnhechjbdenaaGreatDoorBn3
set_option linter.unusedVariables false
set_option linter.unusedSimpArgs false
namespace Go.Proofs.YtonnhechjbdenaaGreatDoor
open Go.RowKit

/-! emit.List -/
def lineP (v : Int) : List UInt8 := if errW v = 0 then textI (insP v) else []
def lineVs (l : List Int) : List Value := l.map fun v => .string (mkB (lineP v))
theorem strInfoE : (Tryz.prog.info? 9).map (fun i => (i.zero, i.size, i.bytes)) = some (some (.string ⟨#[]⟩), 1, 16) := by kernel_rfl
theorem lineVs_take {l : List Int} {k : Nat} (h : k < l.length) : lineVs (l.take (k + 1)) = lineVs (l.take k) ++ [.string (mkB (lineP l[k]))] := by
  unfold lineVs
  rw [List.take_succ_eq_append_getElem h, List.map_append, List.map_singleton]
set_option maxHeartbeats 8000000 in
set_option maxRecDepth 100000 in
theorem List_any (KB KS KK : Addr) (ws : List Int) (hn : ws.length ≤ 100000) (h64 : ∀ n ∈ ws, 0 ≤ n ∧ n < 18446744073709551616) (A B : Option Addr) (nf cf cw : Nat) (w : World) (hL : CodeLaid KB KS KK w) (hB : Row w B (u64Vs ws)) :
    Calls Tryz.prog 19 #[.agg #[.slice A nf cf, .slice B ws.length cw]] w (fun e w' => ∃ v, e = .returned v ∧ w'.ownsRow w.heap.size 9 1 v ws.length (lineVs ws) ∧ Below w.heap.size w w') := by
  obtain ⟨q, hq⟩ : ∃ q, w.heap.size = q := ⟨_, rfl⟩
  obtain ⟨bx, hbx⟩ : ∃ bx, w.alloc (.cells #[.slice A nf cf, .slice B ws.length cw] 37) = bx := ⟨_, rfl⟩
  have hb : Below w.heap.size w bx := by rw [← hbx]; exact grow_alloc (grow_refl _) _
  have hm : bx.heap[q]? = some (.cells #[.slice A nf cf, .slice B ws.length cw] 37 (0, 0)) := by rw [← hbx, ← hq]; exact heap_alloc_new w _
  obtain ⟨q0, q1⟩ := row2m hm
  have HX : Hid (∀ w', Below bx.heap.size bx w' → CodeLaid KB KS KK w' ∧ Row w' B (u64Vs ws) ∧ Below w.heap.size w w') := fun w' hb' => ⟨hL.below (grow_trans hb hb'), hB.keep (Keeps.of_below (grow_trans hb hb')), grow_trans hb hb'⟩
  have HBX := Lib.hid (And.intro hbx hq)
  have H64 := Lib.hid h64
  have HSZ : Hid (w.heap.size ≤ bx.heap.size) := show _ ≤ _ from hb.size
  obtain ⟨i0, hi, hz0, hz1, hz2⟩ := info_parts strInfoE
  clear hbx hq hb hm h64 hL hB
  go_enter Tryz.func19, Tryz.ntmps19
  go_upto_region 2 with fail
  change Code.wp _ _ _ _ (w.alloc (.cells #[.slice A nf cf, .slice B ws.length cw] 37))
  rw [HBX.out.1, HBX.out.2]
  go_wp2_with fail
  go_loopw [3, 5, 6, 7, 8, 12] (fun lv _ _ _ _ i wx => ∃ k : Nat, k ≤ ws.length ∧ i = .int .i64 k ∧ wx.ownsRow bx.heap.size 9 1 lv (ws.take k).length (lineVs (ws.take k)) ∧ Below bx.heap.size bx wx) (fun _ _ _ _ _ i _ => ws.length - (intOf i).toNat)
  case atStart => exact ⟨0, Nat.zero_le _, rfl, World.ownsRow_nil _ _ _ _, grow_refl _⟩
  case round =>
    obtain ⟨k, hk, rfl, ho, hbel⟩ := hrel
    by_cases hlt : k < ws.length
    · have hlt' : (k : Int) < (ws.length : Int) := by omega
      obtain ⟨hLr, hBr, -⟩ := HX.out wr hbel
      obtain ⟨b, off, rfl, cw0⟩ := hBr k _ (u64_get hlt)
      have hv := H64.out ws[k] (List.getElem_mem hlt)
      have HTK := Lib.hid (lineVs_take hlt)
      obtain ⟨v, hvv⟩ : ∃ v, ws[k] = v := ⟨_, rfl⟩
      rw [hvv] at cw0 hv HTK
      have hD := Decode_any v hv.1 hv.2 KB KS KK wr hLr.b hLr.s hLr.k
      have HT : Hid (∀ i w', Below wr.heap.size wr w' → Calls Tryz.prog 39 #[insV i] w' (Ret (textV i) w')) := fun i w' hb' => by
        have h := hLr.below hb'
        exact Text_any i KB KS KK w' h.b h.s h.k h.tab.here
      obtain ⟨tk, htk⟩ : ∃ z, ws.take k = z := ⟨_, rfl⟩
      rw [htk] at ho HTK
      obtain ⟨AL, cL, rfl⟩ := own_slice ho
      have hkl : tk.length ≤ 100000 := by rw [← htk, List.length_take]; omega
      have HKL : Hid ((ws.take (k + 1)).length = tk.length + 1) := show _ = _ by rw [← htk, List.length_take, List.length_take]; omega
      have HO := Lib.hid ho
      have HLT := Lib.hid hlt
      have HBL := Lib.hid hbel
      have hsz := hbel.size
      have HOB : Hid (∀ w', Below wr.heap.size wr w' → w'.ownsRow bx.heap.size 9 1 (.slice AL tk.length cL) tk.length (lineVs tk)) := fun w' hb' => own_same ho fun j hj => hb'.block _ (own_lt ho hj).2
      clear hLr hBr hv ho hlt hvv hbel htk
      by_cases h0 : errW v = 0
      · unfold decV at hD
        rw [h0] at hD
        have HLP : Hid (lineP v = textI (insP v)) := show _ = _ by unfold lineP; rw [if_pos h0]
        obtain ⟨y, hy⟩ : ∃ y, insP v = y := ⟨_, rfl⟩
        rw [hy] at hD HLP
        have HD : Hid (Calls Tryz.prog 38 #[.int .u64 v] wr (Ret (.tuple #[.agg #[.string (mkB y.op), .int .i64 y.d, .int .i64 y.a, .int .i64 y.b, .int .i64 y.imm], .nilIface]) wr)) := hD
        have HTY : Hid (∀ w', Below wr.heap.size wr w' → Calls Tryz.prog 39 #[.agg #[.string (mkB y.op), .int .i64 y.d, .int .i64 y.a, .int .i64 y.b, .int .i64 y.imm]] w' (Ret (.string (mkB (lineP v))) w')) := fun w' hb' => by rw [HLP.out]; exact HT.out y w' hb'
        clear hD hy h0
        go_wp2_with (first
          | (go_at_call 38; (with_reducible refine HD.out.mono ?_); rintro z w1 ⟨rfl, hb1⟩)
          | (go_at_call 39; (with_reducible refine (HTY.out _ (grow_alloc hb1 _)).mono ?_); rintro z w2 ⟨rfl, hb2⟩; have hb3 := grow_trans (grow_alloc hb1 (.cells #[.string (mkB y.op), .int .i64 y.d, .int .i64 y.a, .int .i64 y.b, .int .i64 y.imm] 90)) hb2; have HO2 := Lib.hid (HOB.out w2 hb3); have HB2 := Lib.hid (grow_trans HBL.out hb3); have hs2 := HB2.out.size)
          | (at_builtin; (refine wpList_append_lies _ rfl (.tmp 25) (.tmp 27) 62 rfl bx.heap.size 9 i0 _ 1 16 Tryz.underlying62 hi hz0 hz1 hz2 rfl (by decide) _ tk.length (lineVs tk) rfl (World.ownsRow.alloc HO2.out _) ⟨w2.heap.size, 0, none⟩ 1 1 [.string (mkB (lineP v))] rfl rfl (World.news_of_block (heap_alloc_new w2 _)) (fun u hu => by simp at hu; subst hu; rfl) (by decide) (by unfold maxLen; omega) (by omega) (by simp; omega) _ rfl ?_; intro g cap w9 hown hgrow _ _; have H9 := Lib.hid hown; have HB9 := Lib.hid (Below.grown (HB2.out.alloc (by omega) _) hgrow (by simp; omega) (fun j hj => (own_lt HO2.out hj).1)); clear hown hgrow)))
        go_roundw
        case rel => exact ⟨k + 1, by have := HLT.out; omega, by go_num, by rw [HTK.out, HKL.out]; exact H9.out, HB9.out⟩
        case measure => have := HLT.out; simp [intOf]; omega
      · obtain ⟨K, hK⟩ := errV_bad KB KS KK (errW v) h0
        unfold decV at hD
        rw [if_neg h0, hK] at hD
        unfold noIns at hD
        have HLP : Hid ((.string (mkB (lineP v)) : Value) = .string ⟨#[]⟩) := show _ = _ by unfold lineP; rw [if_neg h0]; rfl
        have HD := Lib.hid hD
        clear hD h0 hK
        go_upto_region 9 with (go_at_call 38; (with_reducible refine HD.out.mono ?_); rintro z w2 ⟨rfl, hb1⟩; have hb3 := grow_alloc hb1 (.cells #[.string ⟨#[]⟩, .int .i64 0, .int .i64 0, .int .i64 0, .int .i64 0] 90); have HO2 := Lib.hid (HOB.out _ hb3); have HB2 := Lib.hid (grow_trans HBL.out hb3); have hs2 := HB2.out.size)
        obtain ⟨wI, hwI⟩ : ∃ wI, w2.alloc (.cells #[.string ⟨#[]⟩, .int .i64 0, .int .i64 0, .int .i64 0, .int .i64 0] 90) = wI := ⟨_, rfl⟩
        rw [hwI] at HO2 HB2 hs2
        rw [hwI]
        clear hwI
        go_wp2_with (at_builtin; (refine wpList_append_lies _ rfl (.tmp 25) (.tmp 27) 62 rfl bx.heap.size 9 i0 _ 1 16 Tryz.underlying62 hi hz0 hz1 hz2 rfl (by decide) _ tk.length (lineVs tk) rfl (World.ownsRow.alloc HO2.out _) ⟨wI.heap.size, 0, none⟩ 1 1 [.string ⟨#[]⟩] rfl rfl (World.news_of_block (heap_alloc_new wI _)) (fun u hu => by simp at hu; subst hu; rfl) (by decide) (by unfold maxLen; omega) (by omega) (by simp; omega) _ rfl ?_; intro g cap w9 hown hgrow _ _; have H9 := Lib.hid hown; have HB9 := Lib.hid (Below.grown (HB2.out.alloc (by omega) _) hgrow (by simp; omega) (fun j hj => (own_lt HO2.out hj).1)); clear hown hgrow))
        go_roundw
        case rel => exact ⟨k + 1, by have := HLT.out; omega, by go_num, by rw [HTK.out, HKL.out, HLP.out]; exact H9.out, HB9.out⟩
        case measure => have := HLT.out; simp [intOf]; omega
    · have hk' : k = ws.length := by omega
      subst hk'
      rw [List.take_length] at ho
      have HO := Lib.hid ho
      clear ho hk hlt
      go_wp2_with fail
      go_ret
      exact ⟨_, rfl, World.ownsRow.mono HO.out HSZ.out, (HX.out wr hbel).2.2⟩
end Go.Proofs.YtonnhechjbdenaaGreatDoor

namespace Go.Proofs.YtonnhechjbdenaaGreatDoor
open Go.RowKit

def dgB (n : Nat) : ByteArray := mkB [UInt8.ofNat n]
set_option maxRecDepth 100000 in
theorem byte_any (n : Nat) (h1 : n < 256) (w : World) : Calls Tryz.prog 88 #[.int .i64 (n : Int)] w (Ret (.string (dgB n)) w) := by
  have hn : (UInt8.ofNat n).toNat = n := by rw [UInt8.toNat_ofNat']; omega
  have hcv := run_convert_bytes_back (P := Tryz.prog) (w.alloc (.cells #[.int .u8 (n : Int)] 5)) 195 9 5 ⟨w.heap.size, 0, none⟩ 1 [UInt8.ofNat n] Tryz.underlying195 Tryz.underlying5 Tryz.underlying9 (by
    intro j hj
    have hj0 : j = 0 := by simpa using hj
    subst hj0
    rw [show ([UInt8.ofNat n][0]'(by simp)) = UInt8.ofNat n from rfl, hn]
    exact cell_of_row _ _ 0 _ _ _ (heap_alloc_new w _))
  have hcv2 : (convert 195 9 (.slice (some ⟨w.heap.size, 0, none⟩) 1 1)).run Tryz.prog (w.alloc (.cells #[.int .u8 (n : Int)] 5)) = .ok (.string (dgB n)) (w.alloc (.cells #[.int .u8 (n : Int)] 5)) := hcv
  clear hcv hn
  go_enter Tryz.func88, Tryz.ntmps88
  go_wp2_with fail
  go_ret
  exact ⟨rfl, grow_alloc (grow_refl _) _⟩
theorem below_any : ∀ (u : Nat), u ≤ 9223372036854775808 → ∀ w, Calls Tryz.prog 67 #[.int .i64 (-(u : Int))] w (Ret (.string (mkB (Lib.decDigits u))) w) := by
  intro u
  induction u using Nat.strongRecOn with
  | _ u ih =>
    intro hu w
    by_cases h : u < 10
    · obtain ⟨S, hS⟩ : ∃ S, dgB (48 + u) = S := ⟨_, rfl⟩
      have hd : Hid (mkB (Lib.decDigits u) = S) := show mkB _ = S by rw [dd_small h]; exact hS
      have hb := fun w => byte_any (48 + u) (by omega) w
      rw [hS, show ((48 + u : Nat) : Int) = 48 + (u : Int) by omega] at hb
      have HB := Lib.hid hb
      clear hb hS
      have h1 : (-10 : Int) < -(u : Int) := by omega
      have e1 : (48 : Int) - -(u : Int) = 48 + (u : Int) := by omega
      go_enter Tryz.func67, Tryz.ntmps67
      go_wp2_with (go_at_call 88; (with_reducible refine (HB.out _).mono ?_); rintro x w1 ⟨rfl, hb1⟩)
      go_ret
      exact ⟨by rw [hd.out]; rfl, hb1⟩
    · obtain ⟨S, hS⟩ : ∃ S, dgB (48 + u % 10) = S := ⟨_, rfl⟩
      have hd : Hid (mkB (Lib.decDigits u) = mkB (Lib.decDigits (u / 10)) ++ S) := show mkB _ = _ by rw [dd_big h, ← hS]; exact (mkB_app _ _).symm
      have hb := fun w => byte_any (48 + u % 10) (by omega) w
      rw [hS, show ((48 + u % 10 : Nat) : Int) = 48 + ((u % 10 : Nat) : Int) by omega] at hb
      have HB := Lib.hid hb
      have hlen1 : S.size = 1 := by rw [← hS]; rfl
      have hi := ih (u / 10) (by omega) (by omega)
      obtain ⟨q, hq⟩ : ∃ q, u / 10 = q := ⟨_, rfl⟩
      obtain ⟨r, hr⟩ : ∃ r, u % 10 = r := ⟨_, rfl⟩
      rw [hq] at hi hd
      rw [hr] at HB
      have HI := Lib.hid hi
      have h1 : ¬ (-10 : Int) < -(u : Int) := by omega
      have e1 : (-(u : Int)).tdiv 10 = -(q : Int) := by rw [Int.neg_tdiv, ← hq]; rfl
      have e2 : (-(u : Int)).tmod 10 = -(r : Int) := by rw [Int.neg_tmod, ← hr]; rfl
      have e3 : (48 : Int) - -(r : Int) = 48 + (r : Int) := by omega
      have hr9 : r ≤ 9 := by omega
      have hq9 : q ≤ 922337203685477580 := by omega
      have e4 : wrap64 (-(q : Int)) = -(q : Int) := by unfold wrap64; omega
      have e5 : wrap64 (-(r : Int)) = -(r : Int) := by unfold wrap64; omega
      have hlen : (mkB (Lib.decDigits q)).size ≤ 20 := by
        rw [mkB_len, Lib.decDigits_length]
        exact nDigits_le 19 q (Nat.lt_of_le_of_lt (show q ≤ 9223372036854775808 by omega) (by decide))
      clear hb hi hq hr hS
      go_enter Tryz.func67, Tryz.ntmps67
      go_wp2_with (first
        | (go_at_call 67; (with_reducible refine (HI.out _).mono ?_); rintro x w1 ⟨rfl, hb1⟩)
        | (go_at_call 88; (with_reducible refine (HB.out _).mono ?_); rintro x w2 ⟨rfl, hb2⟩))
      go_ret
      exact ⟨by rw [hd.out]; rfl, grow_trans hb1 hb2⟩
theorem decimal_any (n : Int) (h0 : -9223372036854775808 ≤ n) (h1 : n ≤ 9223372036854775807) (w : World) : Calls Tryz.prog 44 #[.int .i64 n] w (Ret (.string (mkB (Lib.itoa n))) w) := by
  by_cases h : n < 0
  · have hb := below_any n.natAbs (by omega)
    rw [show -((n.natAbs : Nat) : Int) = n by omega] at hb
    have HB := Lib.hid hb
    have hd : Hid (mkB (Lib.itoa n) = ⟨#[45]⟩ ++ mkB (Lib.decDigits n.natAbs)) := by
      show mkB (Lib.itoa n) = _
      unfold Lib.itoa
      rw [if_pos h]
      exact (mkB_app [45] _).symm
    have hlen : (mkB (Lib.decDigits n.natAbs)).size ≤ 20 := by
      rw [mkB_len, Lib.decDigits_length]
      exact nDigits_le 19 _ (Nat.lt_of_le_of_lt (show n.natAbs ≤ 9223372036854775808 by omega) (by decide))
    clear hb
    go_enter Tryz.func44, Tryz.ntmps44
    go_wp2_with (go_at_call 67; (with_reducible refine (HB.out _).mono ?_); rintro x w1 ⟨rfl, hb1⟩)
    go_ret
    exact ⟨by rw [hd.out]; rfl, hb1⟩
  · have hb := below_any n.toNat (by omega)
    rw [show -((n.toNat : Nat) : Int) = -n by omega] at hb
    have HB := Lib.hid hb
    have hd : Hid (mkB (Lib.itoa n) = mkB (Lib.decDigits n.toNat)) := by
      show mkB (Lib.itoa n) = _
      unfold Lib.itoa
      rw [if_neg h]
    clear hb
    go_enter Tryz.func44, Tryz.ntmps44
    go_wp2_with (go_at_call 67; (with_reducible refine (HB.out _).mono ?_); rintro x w1 ⟨rfl, hb1⟩)
    go_ret
    exact ⟨by rw [hd.out]; rfl, hb1⟩
end Go.Proofs.YtonnhechjbdenaaGreatDoor



namespace Go.Proofs.YtonnhechjbdenaaGreatDoor
open Go.RowKit

theorem has_len3 : ∀ k, k < 29 → (mkB (hasOf k)).size ≤ 3 := by decide
theorem part_yes_r (p t u : List UInt8) (v : Bool) (h : v = true) (hu : u = 114 :: t) : mkB p ++ ⟨#[32, 114]⟩ ++ mkB t = mkB (p ++ chunkP v u) := by
  subst h; subst hu
  rw [show mkB p ++ (⟨#[32, 114]⟩ : ByteArray) = mkB (p ++ [32, 114]) from mkB_app p [32, 114], mkB_app]; simp [chunkP]
set_option maxHeartbeats 16000000 in
set_option maxRecDepth 100000 in
theorem TextOf_any (i : PIns) (w : World) (h : errI i = 0) : Calls Tryz.prog 21 #[insV i] w (Ret (textV i) w) := by
  have hf : findL i.op ≠ 0 := by intro e; unfold errI at h; rw [if_pos e] at h; cases h
  obtain ⟨k, hk⟩ : ∃ k, findL i.op = k + 1 := ⟨findL i.op - 1, by omega⟩
  have hk29 : k < 29 := by have := (findL_spec i.op hf).1; omega
  have hnm : nameOf k = i.op := by have := (findL_spec i.op hf).2; rwa [hk] at this
  have hp : errP (hasOf k) i = 0 := by unfold errI at h; rw [if_neg hf, hk] at h; exact h
  have HT : Hid (textI i = textP (hasOf k) i) := show textI i = _ by unfold textI; rw [if_pos h, hk]; rfl
  obtain ⟨⟨d0, d1⟩, ⟨a0, a1⟩, ⟨b0, b1⟩, ⟨m0, m1⟩, -⟩ := errP_zero hp
  have hh := HasOf_any k hk29
  rw [hnm] at hh
  have HH := Lib.hid hh
  have hsz : (mkB (hasOf k)).size ≤ 1000 := Nat.le_trans (has_len3 k hk29) (by omega)
  obtain ⟨dB, hd⟩ : ∃ v, (hasOf k).contains 100 = v := ⟨_, rfl⟩
  obtain ⟨aB, ha⟩ : ∃ v, (hasOf k).contains 97 = v := ⟨_, rfl⟩
  obtain ⟨bB, hb⟩ : ∃ v, (hasOf k).contains 98 = v := ⟨_, rfl⟩
  obtain ⟨nB, hn⟩ : ∃ v, (hasOf k).contains 105 = v := ⟨_, rfl⟩
  have HD := Lib.hid (isOf_is (mkB (hasOf k)) hsz 100 100 rfl dB (by rw [mkB_toList]; exact hd))
  have HA := Lib.hid (isOf_is (mkB (hasOf k)) hsz 97 97 rfl aB (by rw [mkB_toList]; exact ha))
  have HB := Lib.hid (isOf_is (mkB (hasOf k)) hsz 98 98 rfl bB (by rw [mkB_toList]; exact hb))
  have HI := Lib.hid (isOf_is (mkB (hasOf k)) hsz 105 105 rfl nB (by rw [mkB_toList]; exact hn))
  obtain ⟨op, d, a, b, imm⟩ := i
  simp only at d0 d1 a0 a1 b0 b1 m0 m1
  have l1 : (mkB (Lib.itoa d)).size ≤ 21 := itoa_len d (by omega) (by omega)
  have l2 : (mkB (Lib.itoa a)).size ≤ 21 := itoa_len a (by omega) (by omega)
  have l3 : (mkB (Lib.itoa b)).size ≤ 21 := itoa_len b (by omega) (by omega)
  have l4 : (mkB (Lib.itoa imm)).size ≤ 21 := itoa_len imm (by omega) (by omega)
  have HPL : Hid (∀ j, (mkB (partT ⟨op, d, a, b, imm⟩ (hasOf k) j)).size ≤ 200) := fun j => by
    have := part_len ⟨op, d, a, b, imm⟩ (hasOf k) j l1 l2 l3 l4
    have h6 : op.length ≤ 6 := by rw [← (show nameOf k = op from hnm)]; exact name_len k hk29
    rw [mkB_size]
    simp only at this
    omega
  have HI1 := Lib.hid (fun w' => decimal_any d (by omega) (by omega) w')
  have HI2 := Lib.hid (fun w' => decimal_any a (by omega) (by omega) w')
  have HI3 := Lib.hid (fun w' => decimal_any b (by omega) (by omega) w')
  have HI4 := Lib.hid (fun w' => decimal_any imm (by omega) (by omega) w')
  have HW := Lib.hid (heap_alloc_new w (.cells #[.string (mkB op), .int .i64 d, .int .i64 a, .int .i64 b, .int .i64 imm] 65))
  have HHD := Lib.hid hd
  have HHA := Lib.hid ha
  have HHB := Lib.hid hb
  have HHN := Lib.hid hn
  have ho : ((mkB op).toList == [99, 97, 108, 108]) = true ∧ (op == callN) = true ∨ ((mkB op).toList == [99, 97, 108, 108]) = false ∧ (op == callN) = false := by
    rw [mkB_toList]
    show (op == callN) = true ∧ _ ∨ (op == callN) = false ∧ _
    cases op == callN <;> simp
  clear h hf hk hk29 hnm hp hh hsz hd ha hb hn d0 d1 a0 a1 b0 b1 m0 m1
  unfold insV
  go_enter Tryz.func21, Tryz.ntmps21
  go_upto_if 11 with (first
    | (go_at_call 42; (with_reducible refine (HH.out _).mono ?_); rintro x w' ⟨rfl, rfl⟩)
    | (go_at_call 43; (with_reducible refine (HD.out _).mono ?_); rintro x w' ⟨rfl, rfl⟩))
  have HBJ0 := Lib.hid (Below.refl (w.alloc (.cells #[.string (mkB op), .int .i64 d, .int .i64 a, .int .i64 b, .int .i64 imm] 65)).heap.size (w.alloc (.cells #[.string (mkB op), .int .i64 d, .int .i64 a, .int .i64 b, .int .i64 imm] 65)))
  have hwj := (HBJ0.out.block w.heap.size (by simp)).trans HW.out
  have r0 := cell_of_row _ _ 0 _ _ _ hwj
  have r1 := cell_of_row _ _ 1 _ _ _ hwj
  have r2 := cell_of_row _ _ 2 _ _ _ hwj
  have r3 := cell_of_row _ _ 3 _ _ _ hwj
  have r4 := cell_of_row _ _ 4 _ _ _ hwj
  have hz : (mkB op).size ≤ 200 := HPL.out 0
  clear hwj
  go_cut [4] (fun v wx => v = .string (mkB (partT ⟨op, d, a, b, imm⟩ (hasOf k) 1)) ∧ Below (w.alloc (.cells #[.string (mkB op), .int .i64 d, .int .i64 a, .int .i64 b, .int .i64 imm] 65)).heap.size (w.alloc (.cells #[.string (mkB op), .int .i64 d, .int .i64 a, .int .i64 b, .int .i64 imm] 65)) wx)
  case first =>
    cases dB
    · have HP := Lib.hid (part_no (partT ⟨op, d, a, b, imm⟩ (hasOf k) 0) (114 :: Lib.itoa d) _ HHD.out)
      go_wp2_with fail
      go_meet
      exact ⟨congrArg Value.string HP.out, HBJ0.out⟩
    · have HP := Lib.hid (part_yes_r (partT ⟨op, d, a, b, imm⟩ (hasOf k) 0) (Lib.itoa d) (114 :: Lib.itoa d) _ HHD.out rfl)
      go_wp2_with (go_at_call 44; (with_reducible refine (HI1.out _).mono ?_); rintro x w2 ⟨rfl, hb2⟩)
      go_meet
      exact ⟨congrArg Value.string HP.out, grow_trans HBJ0.out hb2⟩
  case rest =>
    obtain ⟨rfl, hbx⟩ := hcut
    have HBJ1 := Lib.hid hbx
    clear hbx r0 r1 r2 r3 r4 hz
    have hwj := (HBJ1.out.block w.heap.size (by simp)).trans HW.out
    have r0 := cell_of_row _ _ 0 _ _ _ hwj
    have r1 := cell_of_row _ _ 1 _ _ _ hwj
    have r2 := cell_of_row _ _ 2 _ _ _ hwj
    have r3 := cell_of_row _ _ 3 _ _ _ hwj
    have r4 := cell_of_row _ _ 4 _ _ _ hwj
    have hz := HPL.out 1
    clear hwj
    go_upto_if 19 with (go_at_call 43; (with_reducible refine (HA.out _).mono ?_); rintro x w' ⟨rfl, rfl⟩)
    go_cut [4] (fun v wx => v = .string (mkB (partT ⟨op, d, a, b, imm⟩ (hasOf k) 2)) ∧ Below (w.alloc (.cells #[.string (mkB op), .int .i64 d, .int .i64 a, .int .i64 b, .int .i64 imm] 65)).heap.size (w.alloc (.cells #[.string (mkB op), .int .i64 d, .int .i64 a, .int .i64 b, .int .i64 imm] 65)) wx)
    case first =>
      cases aB
      · have HP := Lib.hid (part_no (partT ⟨op, d, a, b, imm⟩ (hasOf k) 1) (114 :: Lib.itoa a) _ HHA.out)
        go_wp2_with fail
        go_meet
        exact ⟨congrArg Value.string HP.out, HBJ1.out⟩
      · have HP := Lib.hid (part_yes_r (partT ⟨op, d, a, b, imm⟩ (hasOf k) 1) (Lib.itoa a) (114 :: Lib.itoa a) _ HHA.out rfl)
        go_wp2_with (go_at_call 44; (with_reducible refine (HI2.out _).mono ?_); rintro x w2 ⟨rfl, hb2⟩)
        go_meet
        exact ⟨congrArg Value.string HP.out, grow_trans HBJ1.out hb2⟩
    case rest =>
      obtain ⟨rfl, hbx⟩ := hcut
      have HBJ2 := Lib.hid hbx
      clear hbx r0 r1 r2 r3 r4 hz
      have hwj := (HBJ2.out.block w.heap.size (by simp)).trans HW.out
      have r0 := cell_of_row _ _ 0 _ _ _ hwj
      have r1 := cell_of_row _ _ 1 _ _ _ hwj
      have r2 := cell_of_row _ _ 2 _ _ _ hwj
      have r3 := cell_of_row _ _ 3 _ _ _ hwj
      have r4 := cell_of_row _ _ 4 _ _ _ hwj
      have hz := HPL.out 2
      clear hwj
      go_upto_if 27 with (go_at_call 43; (with_reducible refine (HB.out _).mono ?_); rintro x w' ⟨rfl, rfl⟩)
      go_cut [4] (fun v wx => v = .string (mkB (partT ⟨op, d, a, b, imm⟩ (hasOf k) 3)) ∧ Below (w.alloc (.cells #[.string (mkB op), .int .i64 d, .int .i64 a, .int .i64 b, .int .i64 imm] 65)).heap.size (w.alloc (.cells #[.string (mkB op), .int .i64 d, .int .i64 a, .int .i64 b, .int .i64 imm] 65)) wx)
      case first =>
        cases bB
        · have HP := Lib.hid (part_no (partT ⟨op, d, a, b, imm⟩ (hasOf k) 2) ((if op == callN then [] else [114]) ++ Lib.itoa b) _ HHB.out)
          go_wp2_with fail
          go_meet
          exact ⟨congrArg Value.string HP.out, HBJ2.out⟩
        · rcases ho with ⟨ho, hoc⟩ | ⟨ho, hoc⟩
          · have HP := Lib.hid (part_yes2 (partT ⟨op, d, a, b, imm⟩ (hasOf k) 2) (Lib.itoa b) ((if op == callN then [] else [114]) ++ Lib.itoa b) _ HHB.out (by rw [hoc]; rfl))
            clear hoc
            go_wp2_with (go_at_call 44; (with_reducible refine (HI3.out _).mono ?_); rintro x w2 ⟨rfl, hb2⟩)
            go_meet
            exact ⟨congrArg Value.string HP.out, grow_trans HBJ2.out hb2⟩
          · have HP := Lib.hid (part_yes_r (partT ⟨op, d, a, b, imm⟩ (hasOf k) 2) (Lib.itoa b) ((if op == callN then [] else [114]) ++ Lib.itoa b) _ HHB.out (by rw [hoc]; rfl))
            clear hoc
            go_wp2_with (go_at_call 44; (with_reducible refine (HI3.out _).mono ?_); rintro x w2 ⟨rfl, hb2⟩)
            go_meet
            exact ⟨congrArg Value.string HP.out, grow_trans HBJ2.out hb2⟩
      case rest =>
        obtain ⟨rfl, hbx⟩ := hcut
        have HBJ3 := Lib.hid hbx
        clear hbx r0 r1 r2 r3 r4 hz
        have hwj := (HBJ3.out.block w.heap.size (by simp)).trans HW.out
        have r0 := cell_of_row _ _ 0 _ _ _ hwj
        have r1 := cell_of_row _ _ 1 _ _ _ hwj
        have r2 := cell_of_row _ _ 2 _ _ _ hwj
        have r3 := cell_of_row _ _ 3 _ _ _ hwj
        have r4 := cell_of_row _ _ 4 _ _ _ hwj
        have hz := HPL.out 3
        clear hwj
        go_upto_if 44 with (go_at_call 43; (with_reducible refine (HI.out _).mono ?_); rintro x w' ⟨rfl, rfl⟩)
        go_cut [4] (fun v wx => v = .string (mkB (partT ⟨op, d, a, b, imm⟩ (hasOf k) 4)) ∧ Below (w.alloc (.cells #[.string (mkB op), .int .i64 d, .int .i64 a, .int .i64 b, .int .i64 imm] 65)).heap.size (w.alloc (.cells #[.string (mkB op), .int .i64 d, .int .i64 a, .int .i64 b, .int .i64 imm] 65)) wx)
        case first =>
          cases nB
          · have HP := Lib.hid (part_no (partT ⟨op, d, a, b, imm⟩ (hasOf k) 3) (Lib.itoa imm) _ HHN.out)
            go_wp2_with fail
            go_meet
            exact ⟨congrArg Value.string HP.out, HBJ3.out⟩
          · have HP := Lib.hid (part_yes2 (partT ⟨op, d, a, b, imm⟩ (hasOf k) 3) (Lib.itoa imm) (Lib.itoa imm) _ HHN.out rfl)
            go_wp2_with (go_at_call 44; (with_reducible refine (HI4.out _).mono ?_); rintro x w2 ⟨rfl, hb2⟩)
            go_meet
            exact ⟨congrArg Value.string HP.out, grow_trans HBJ3.out hb2⟩
        case rest =>
          obtain ⟨rfl, hbx⟩ := hcut
          have HBJ4 := Lib.hid hbx
          clear hbx r0 r1 r2 r3 r4 hz
          go_wp2_with fail
          go_ret
          exact ⟨by unfold textV; rw [HT.out]; rfl, grow_trans (grow_alloc (grow_refl _) _) HBJ4.out⟩
end Go.Proofs.YtonnhechjbdenaaGreatDoor

namespace Go.Proofs.YtonnhechjbdenaaGreatDoor
open Go.ChangeShapes Go.WideShapes Go.ChangeAt Go.RowKit Go.Joins

end Go.Proofs.YtonnhechjbdenaaGreatDoor

namespace Go.Proofs.YtonnhechjbdenaaGreatDoor
open Go.ChangeShapes Go.WideShapes Go.ChangeAt Go.RowKit

theorem laid_tail {P : Program} {x : String × DataW Unit} {l : List (String × DataW Unit)} {W : World} (h : laidMet P (x :: l) W) : laidMet P l W := by
  obtain ⟨ps, ⟨g, t, cs, fuel, p, q, _, _, _, _, hq, rfl⟩, hnd, hrows⟩ := h
  exact ⟨q, hq, hnd.sublist (List.sublist_append_right _ _), fun b off hp => hrows b off (List.mem_append_right _ hp)⟩
theorem gPow : Tryz.prog.globalNamed "internal/strconv.uint64pow10" = some 12 := by kernel_rfl
theorem gPowT : (Tryz.prog.globals[(12 : Nat)]?).map (·.type) = some 213 := by kernel_rfl
end Go.Proofs.YtonnhechjbdenaaGreatDoor

namespace Go.Proofs.YtonnhechjbdenaaGreatDoor
open Go.ChangeShapes Go.WideShapes Go.ChangeAt Go.RowKit

theorem words_laid {W : World} (h : laidMet Tryz.prog (("internal/strconv.uint64pow10", Rows.laid_internal_strconv_uint64pow10) :: errList10.map fun x => (x.1, errD x.2.2)) W) (h2 : handlesMet Tryz.prog [("errors.errorType", Rows.laid_errors_errorType)] W) : ∃ E, Laid E W ∧ CodeLaid (E 1) (E 2) (E 3) W := by
  have htab : Lib.TabIs Tryz.prog W "internal/strconv.uint64pow10" .u64 Lib.pow10Tab := Lib.tabIs_of_head gPow gPowT Tryz.underlying213 Tryz.underlying68 (by kernel_rfl) (by kernel_rfl) (show laidMet Tryz.prog (("internal/strconv.uint64pow10", Lib.tabData .u64 Lib.pow10Tab) :: errList10.map fun x => (x.1, errD x.2.2)) W from h)
  obtain ⟨E, hE⟩ := laid_of_parts (laid_tail h) h2
  exact ⟨E, hE, hE.c1, hE.c2, hE.c3, Lib.tabBelow_of_tabIs htab⟩
end Go.Proofs.YtonnhechjbdenaaGreatDoor
