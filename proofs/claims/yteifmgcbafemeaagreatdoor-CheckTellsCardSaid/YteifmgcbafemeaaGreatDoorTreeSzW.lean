import Derived.Test.YteifmgcbafemeaaGreatDoorTreeSz
import Derived.Test.YteifmgcbafemeaaGreatDoorRet
import Derived.Test.YteifmgcbafemeaaGreatDoorTreeAsS
namespace Go.Proofs.YteifmgcbafemeaaGreatDoor
open Go.RowKit

theorem szK_step {ks : List PExpr} {k : Nat} (h : k < ks.length) {d n : Nat} (hn : n < 1000) : szK (ks.drop k) d n = szK (ks.drop (k + 1)) d (n + szE ks[k] d) := by
  rw [List.drop_eq_getElem_cons h, szK_cons, if_pos hn]
theorem szK_stop {ks : List PExpr} {d n : Nat} (hn : ¬ n < 1000) : szK ks d n = n := by
  cases ks with
  | nil => rw [szK_nil]
  | cons k ks => rw [szK_cons, if_neg hn]
set_option maxHeartbeats 2000000 in
set_option maxRecDepth 100000 in
theorem sizeOf_any : ∀ e : PExpr, ∀ (d : Nat), d ≤ 16 → ∀ (S : Nat → Prop) (A : Option Addr) (c : Nat) (w : World), RdE w S e.kids A →
    Calls Tryz.prog 45 #[exprV e A c, .int .i64 (d : Int)] w (Ret (.int .i64 (szE e d : Nat)) w) := by
  intro e
  induction e using PExpr.ind with
  | h e ih =>
  intro d hd S A c w hr
  by_cases hc : 15 < d ∨ 8 < e.kids.length ∨ 20 < e.name.length
  · have HE : Hid (szE e d = 1000) := show szE e d = 1000 by rw [szE_eq, if_pos hc]
    have HN := Lib.hid (mkB_len e.name)
    unfold exprV
    by_cases h1 : 15 < d
    · have q1 : (15 : Int) < (d : Int) := by omega
      clear hc hr ih h1
      go_enter Tryz.func45, Tryz.ntmps45
      go_wp2_with fail
      go_ret
      exact ⟨by rw [HE.out]; rfl, grow_alloc (grow_refl _) _⟩
    · have q1 : ¬ (15 : Int) < (d : Int) := by omega
      by_cases h2 : 8 < e.kids.length
      · have q2 : (8 : Int) < (e.kids.length : Int) := by omega
        clear hc hr ih h1 h2
        go_enter Tryz.func45, Tryz.ntmps45
        go_wp2_with fail
        go_ret
        exact ⟨by rw [HE.out]; rfl, grow_alloc (grow_refl _) _⟩
      · have q2 : ¬ (8 : Int) < (e.kids.length : Int) := by omega
        have q3 : (20 : Int) < ((mkB e.name).size : Int) := by rw [HN.out]; omega
        clear hc hr ih h1 h2
        go_enter Tryz.func45, Tryz.ntmps45
        go_wp2_with fail
        go_ret
        exact ⟨by rw [HE.out]; rfl, grow_alloc (grow_refl _) _⟩
  · have HE : Hid (szE e d = szK e.kids (d + 1) 1) := show szE e d = _ by rw [szE_eq, if_neg hc]
    have q1 : ¬ (15 : Int) < (d : Int) := by omega
    have q2 : ¬ (8 : Int) < (e.kids.length : Int) := by omega
    have q3 : ¬ (20 : Int) < ((mkB e.name).size : Int) := by rw [mkB_len]; omega
    have hl8 : e.kids.length ≤ 8 := by omega
    have hd15 : d ≤ 15 := by omega
    have HR := Lib.hid hr
    have IH : Hid (∀ (i : Nat) (hi : i < e.kids.length) (d : Nat), d ≤ 16 → ∀ (S : Nat → Prop) (A : Option Addr) (c : Nat) (w : World), RdE w S e.kids[i].kids A → Calls Tryz.prog 45 #[exprV e.kids[i] A c, .int .i64 (d : Int)] w (Ret (.int .i64 (szE e.kids[i] d : Nat)) w)) :=
      fun i hi => ih _ (List.getElem_mem hi)
    clear hc hr ih
    unfold exprV
    go_enter Tryz.func45, Tryz.ntmps45
    go_wp2_with fail
    go_loopw [5, 6] (fun n i wr => ∃ (k m : Nat), k ≤ e.kids.length ∧ i = .int .i64 k ∧ n = .int .i64 m ∧ m ≤ 100000 ∧ szK e.kids (d + 1) 1 = szK (e.kids.drop k) (d + 1) m ∧ Below w.heap.size w wr ∧ wr.cell? ⟨w.heap.size, 3, none⟩ = some (.slice A e.kids.length c)) (fun _ i _ => e.kids.length - (intOf i).toNat)
    case atStart => exact ⟨0, 1, Nat.zero_le _, rfl, rfl, by omega, by simp, grow_alloc (grow_refl _) _, cell_of_row _ _ 3 _ _ _ (new_block _ _ rfl)⟩
    case round =>
      obtain ⟨k, m, hk, rfl, rfl, hm, hI, hbel, hbox⟩ := hrel
      have HI := Lib.hid hI
      clear hI
      by_cases hlt : k < e.kids.length
      · have hlt' : (k : Int) < (e.kids.length : Int) := by omega
        by_cases hm1 : m < 1000
        · have hm' : (m : Int) < 1000 := by omega
          obtain ⟨b, off, B, c1, rfl, -, hcells, -, hkid⟩ := (HR.out.keep ((Keeps.of_below hbel).in S) (fun _ h => h)).at hlt
          obtain ⟨c0, c1', c2, c3⟩ := cells_expr hcells
          have HK := Lib.hid (IH.out k hlt (d + 1) (by omega) S B c1 wr hkid)
          have hsz := szE_le e.kids[k] (d + 1) (by omega)
          have HS := Lib.hid (szK_step hlt (d := d + 1) hm1)
          obtain ⟨z, hz⟩ : ∃ z, szE e.kids[k] (d + 1) = z := ⟨_, rfl⟩
          rw [hz] at hsz HK HS
          have hz2 : z ≤ 20000 := by omega
          unfold exprV at HK
          rw [show ((d + 1 : Nat) : Int) = (d : Int) + 1 by omega] at HK
          clear hcells hkid hsz hz
          go_wp2_with (go_at_call 45; (with_reducible refine HK.out.mono ?_); rintro x w1 ⟨rfl, hb1⟩)
          go_roundw
          case rel => exact ⟨k + 1, m + z, by omega, by go_num, by go_num, by omega, HI.out.trans HS.out, grow_trans hbel hb1, Keeps.of_below hb1 _ _ hbox⟩
          case measure => simp [intOf]; omega
        · have hm' : ¬ (m : Int) < 1000 := by omega
          have HS := Lib.hid (szK_stop (ks := e.kids.drop k) (d := d + 1) hm1)
          go_wp2_with fail
          go_ret
          exact ⟨by rw [HE.out, HI.out, HS.out]; rfl, hbel⟩
      · have hk' : k = e.kids.length := by omega
        subst hk'
        go_wp2_with fail
        go_ret
        exact ⟨by rw [HE.out, HI.out, List.drop_length, szK_nil]; rfl, hbel⟩
theorem szL_step {ss : List PStmt} {k : Nat} (h : k < ss.length) {d n : Nat} (hn : n < 1000) : szL (ss.drop k) d n = if 20 < ss[k].name.length ∨ 20 < ss[k].kind.length then 1000 else szL (ss.drop (k + 1)) d (n + szT ss[k] d) := by
  rw [List.drop_eq_getElem_cons h, szL_cons, if_pos hn]
theorem szL_stop {ss : List PStmt} {d n : Nat} (hn : ¬ n < 1000) : szL ss d n = n := by
  cases ss with
  | nil => rw [szL_nil]
  | cons k ks => rw [szL_cons, if_neg hn]
def SizesC (ss : List PStmt) : Prop := ∀ (d : Nat), d ≤ 16 → ∀ (S : Nat → Prop) (A : Option Addr) (c : Nat) (w : World), RdS w S ss A →
    Calls Tryz.prog 22 #[.slice A ss.length c, .int .i64 (d : Int)] w (Ret (.int .i64 (szS ss d : Nat)) w)
set_option maxHeartbeats 4000000 in
set_option maxRecDepth 100000 in
theorem sizes_list (ss : List PStmt) (hq : ∀ s ∈ ss, SizesC s.th ∧ SizesC s.el) : SizesC ss := by
  intro d hd S A c w hr
  by_cases hc : 15 < d ∨ 30 < ss.length
  · have HE : Hid (szS ss d = 1000) := show szS ss d = 1000 by unfold szS; rw [if_pos hc]
    by_cases h1 : 15 < d
    · have q1 : (15 : Int) < (d : Int) := by omega
      clear hc hr hq h1
      go_enter Tryz.func22, Tryz.ntmps22
      go_wp2_with fail
      go_ret
      exact ⟨by rw [HE.out]; rfl, grow_refl _⟩
    · have q1 : ¬ (15 : Int) < (d : Int) := by omega
      have q2 : (30 : Int) < (ss.length : Int) := by omega
      clear hc hr hq h1
      go_enter Tryz.func22, Tryz.ntmps22
      go_wp2_with fail
      go_ret
      exact ⟨by rw [HE.out]; rfl, grow_refl _⟩
  · have HE : Hid (szS ss d = szL ss d 0) := show szS ss d = _ by unfold szS; rw [if_neg hc]
    have q1 : ¬ (15 : Int) < (d : Int) := by omega
    have q2 : ¬ (30 : Int) < (ss.length : Int) := by omega
    have hl8 : ss.length ≤ 30 := by omega
    have hd15 : d ≤ 15 := by omega
    have HR := Lib.hid hr
    have HQ := Lib.hid hq
    clear hc hr hq
    go_enter Tryz.func22, Tryz.ntmps22
    go_wp2_with fail
    go_loopw [5, 6] (fun n i wr => ∃ (k m : Nat), k ≤ ss.length ∧ i = .int .i64 k ∧ n = .int .i64 m ∧ m ≤ 10000000000 ∧ szL ss d 0 = szL (ss.drop k) d m ∧ Below w.heap.size w wr) (fun _ i _ => ss.length - (intOf i).toNat)
    case atStart => exact ⟨0, 0, Nat.zero_le _, rfl, rfl, by omega, by simp, grow_refl _⟩
    case round =>
      obtain ⟨k, m, hk, rfl, rfl, hm, hI, hbel⟩ := hrel
      have HI := Lib.hid hI
      clear hI
      by_cases hlt : k < ss.length
      · have hlt' : (k : Int) < (ss.length : Int) := by omega
        by_cases hm1 : m < 1000
        · have hm' : (m : Int) < 1000 := by omega
          obtain ⟨b, off, X, x, T, t, L, l, rfl, -, hcells, hnum, hX, hT, hL⟩ := (HR.out.keep ((Keeps.of_below hbel).in S) (fun _ h => h)).at hlt
          obtain ⟨c0, c1, c2, c3, c4, c5, c6, c7⟩ := cells_stmt hcells
          have hst := szL_step hlt (d := d) hm1
          obtain ⟨s, hs⟩ : ∃ s, ss[k] = s := ⟨_, rfl⟩
          have hsm : s ∈ ss := hs ▸ List.getElem_mem hlt
          rw [hs] at hcells hnum hX hT hL c0 c1 c2 c3 c4 c5 c6 c7 hst
          have HN := Lib.hid (mkB_len s.name)
          have HKD := Lib.hid (mkB_len s.kind)
          by_cases hbig : 20 < s.name.length ∨ 20 < s.kind.length
          · rw [if_pos hbig] at hst
            have HS := Lib.hid hst
            by_cases hb1 : 20 < s.name.length
            · have q3 : (20 : Int) < ((mkB s.name).size : Int) := by rw [mkB_len]; omega
              clear hcells hX hT hL hnum hst hbig hb1
              go_wp2_with fail
              go_ret
              exact ⟨by rw [HE.out, HI.out, HS.out]; rfl, hbel⟩
            · have q3 : ¬ (20 : Int) < ((mkB s.name).size : Int) := by rw [mkB_len]; omega
              have q4 : (20 : Int) < ((mkB s.kind).size : Int) := by rw [mkB_len]; omega
              clear hcells hX hT hL hnum hst hbig hb1
              go_wp2_with fail
              go_ret
              exact ⟨by rw [HE.out, HI.out, HS.out]; rfl, hbel⟩
          · rw [if_neg hbig] at hst
            have q3 : ¬ (20 : Int) < ((mkB s.name).size : Int) := by rw [mkB_len]; omega
            have q4 : ¬ (20 : Int) < ((mkB s.kind).size : Int) := by rw [mkB_len]; omega
            have b1 := szE_le s.e 0 (by omega)
            have b2 := szS_bound s.th (d + 1) (by omega)
            have b3 := szS_bound s.el (d + 1) (by omega)
            rw [szT_eq] at hst
            have HX : ∀ w', Below wr.heap.size wr w' → Calls Tryz.prog 45 #[exprV s.e X x, .int .i64 ((0 : Nat) : Int)] w' (Ret (.int .i64 (szE s.e 0 : Nat)) w') :=
              fun w' hb => sizeOf_any s.e 0 (by omega) S X x w' (hX.keep ((Keeps.of_below hb).in S) (fun _ h => h))
            have HT : ∀ w', Below wr.heap.size wr w' → Calls Tryz.prog 22 #[.slice T s.th.length t, .int .i64 ((d + 1 : Nat) : Int)] w' (Ret (.int .i64 (szS s.th (d + 1) : Nat)) w') :=
              fun w' hb => (HQ.out s hsm).1 (d + 1) (by omega) S T t w' (hT.keep ((Keeps.of_below hb).in S) (fun _ h => h))
            have HL : ∀ w', Below wr.heap.size wr w' → Calls Tryz.prog 22 #[.slice L s.el.length l, .int .i64 ((d + 1 : Nat) : Int)] w' (Ret (.int .i64 (szS s.el (d + 1) : Nat)) w') :=
              fun w' hb => (HQ.out s hsm).2 (d + 1) (by omega) S L l w' (hL.keep ((Keeps.of_below hb).in S) (fun _ h => h))
            obtain ⟨z1, hz1⟩ : ∃ z, szE s.e 0 = z := ⟨_, rfl⟩
            obtain ⟨z2, hz2⟩ : ∃ z, szS s.th (d + 1) = z := ⟨_, rfl⟩
            obtain ⟨z3, hz3⟩ : ∃ z, szS s.el (d + 1) = z := ⟨_, rfl⟩
            rw [hz1] at HX hst b1
            rw [hz2] at HT hst b2
            rw [hz3] at HL hst b3
            rw [show ((d + 1 : Nat) : Int) = (d : Int) + 1 by omega] at HT HL
            rw [show ((0 : Nat) : Int) = 0 from rfl] at HX
            unfold exprV at HX
            have g1 : z1 ≤ 20000 := by omega
            have HXX := Lib.hid HX
            have HTT := Lib.hid HT
            have HLL := Lib.hid HL
            have HS := Lib.hid hst
            have HC := Lib.hid hcells
            have w1 : IntKind.i64.wrap ((m : Int) + 1) = (m : Int) + 1 := IntWalk.i64_in _ (by omega)
            have w2 : IntKind.i64.wrap ((d : Int) + 1) = (d : Int) + 1 := IntWalk.i64_in _ (by omega)
            have w3 : IntKind.i64.wrap ((m : Int) + 1 + z1) = (m : Int) + 1 + z1 := IntWalk.i64_in _ (by omega)
            have w4 : IntKind.i64.wrap ((m : Int) + 1 + z1 + z2) = (m : Int) + 1 + z1 + z2 := IntWalk.i64_in _ (by omega)
            have w5 : IntKind.i64.wrap ((m : Int) + 1 + z1 + z2 + z3) = (m : Int) + 1 + z1 + z2 + z3 := IntWalk.i64_in _ (by omega)
            clear hcells hX hT hL hnum hst hbig hz1 hz2 hz3 HX HT HL
            go_upto_region 9 with fail
            have HBS : Below wr.heap.size wr wr.drew := (Below.refl _ _).drew
            have HB0 : Below wr.heap.size wr wr := Below.refl _ _
            go_region_held3 (fun w' => Below wr.heap.size wr w' ∧ w'.cell? ⟨b, off + k * 8, none⟩ = some (.string (mkB s.kind)) ∧ w'.cell? ⟨b, off + k * 8 + 1, none⟩ = some (.string (mkB s.name)) ∧ w'.cell? ⟨b, off + k * 8 + 2, none⟩ = some (.string (mkB s.e.kind)) ∧ w'.cell? ⟨b, off + k * 8 + 3, none⟩ = some (.int .i64 s.e.num) ∧
                w'.cell? ⟨b, off + k * 8 + 4, none⟩ = some (.string (mkB s.e.name)) ∧ w'.cell? ⟨b, off + k * 8 + 5, none⟩ = some (.slice X s.e.kids.length x) ∧ w'.cell? ⟨b, off + k * 8 + 6, none⟩ = some (.slice T s.th.length t) ∧ w'.cell? ⟨b, off + k * 8 + 7, none⟩ = some (.slice L s.el.length l))
              (((with_reducible refine stmt_seen ?_ HC.out);
                first
                  | (simp (maxDischargeDepth := 20) only [bel_drew, HB0, hB3]; done)
                  | (simp (maxDischargeDepth := 20) only [bel_drew, HB0, hB2]; done)
                  | (simp (maxDischargeDepth := 20) only [bel_drew, HB0, hB1]; done)
                  | (simp (maxDischargeDepth := 20) only [bel_drew, HB0]; done)))
              (first
                | (go_at_call 45; (with_reducible refine (HXX.out _ (by simp only [bel_drew, HB0])).mono ?_); rintro y w12 ⟨rfl, hbT⟩; have hB1 : Below wr.heap.size wr w12 := grow_trans (by simp only [bel_drew, HB0]) hbT)
                | (go_at_call 22; (with_reducible refine (HTT.out _ (by simp only [hB1])).mono ?_); rintro y w12 ⟨rfl, hbT⟩; have hB2 : Below wr.heap.size wr w12 := grow_trans (by simp only [hB1]) hbT)
                | (go_at_call 22; (with_reducible refine (HLL.out _ (by simp only [hB2])).mono ?_); rintro y w12 ⟨rfl, hbT⟩; have hB3 : Below wr.heap.size wr w12 := grow_trans (by simp only [hB2]) hbT))
            clear HBS HB0 w1 w2 w3 w4 w5 c0 c1 c2 c3 c4 c5 c6 c7
            all_goals go_wp2_with fail
            go_roundw
            case rel => exact ⟨k + 1, m + 1 + z1 + z2 + z3, by omega, by go_num, by go_num, by omega, HI.out.trans (HS.out.trans (by congr 1; omega)), grow_trans hbel hB3⟩
            case measure => simp [intOf]; omega
        · have hm' : ¬ (m : Int) < 1000 := by omega
          have HS := Lib.hid (szL_stop (ss := ss.drop k) (d := d) hm1)
          go_wp2_with fail
          go_ret
          exact ⟨by rw [HE.out, HI.out, HS.out]; rfl, hbel⟩
      · have hk' : k = ss.length := by omega
        subst hk'
        go_wp2_with fail
        go_ret
        exact ⟨by rw [HE.out, HI.out, List.drop_length, szL_nil]; rfl, hbel⟩
theorem sizes_each : ∀ s : PStmt, SizesC s.th ∧ SizesC s.el := by
  intro s
  induction s using PStmt.ind with
  | h s iht ihl => exact ⟨sizes_list _ iht, sizes_list _ ihl⟩
theorem sizesOf_any (ss : List PStmt) : SizesC ss := sizes_list ss fun s _ => sizes_each s
end Go.Proofs.YteifmgcbafemeaaGreatDoor
