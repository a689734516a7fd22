import Derived.Test.YtnpdjncgilekhaaGreatDoorBn16
namespace Go.Proofs.YtnpdjncgilekhaaGreatDoor
open Go.RowKit

theorem szK_step {ks : List PExpr} {k : Nat} (h : k < ks.length) {d n : Nat} (hn : n < 1000) : szK (ks.drop k) d n = szK (ks.drop (k + 1)) d (n + szE ks[k] d) := by
  rw [List.drop_eq_getElem_cons h, szK_cons, if_pos hn]
theorem szK_stop {ks : List PExpr} {d n : Nat} (hn : ¬ n < 1000) : szK ks d n = n := by
  cases ks with
  | nil => rw [szK_nil]
  | cons k ks => rw [szK_cons, if_neg hn]
set_option maxHeartbeats 2000000 in
set_option maxRecDepth 100000 in
theorem sizeOf_any : ∀ e : PExpr, ∀ (d : Nat), d ≤ 16 → ∀ (S : Nat → Prop) (A : Option Addr) (c : Nat) (w : World), RdE w S e.kids A →
    Calls Tryz.prog 45 #[exprV e A c, .int .i64 (d : Int)] w (Ret (.int .i64 (szE e d : Nat)) w) := by
  intro e
  induction e using PExpr.ind with
  | h e ih =>
  intro d hd S A c w hr
  by_cases hc : 15 < d ∨ 8 < e.kids.length ∨ 20 < e.name.length
  · have HE : Hid (szE e d = 1000) := show szE e d = 1000 by rw [szE_eq, if_pos hc]
    have HN := Lib.hid (mkB_len e.name)
    unfold exprV
    by_cases h1 : 15 < d
    · have q1 : (15 : Int) < (d : Int) := by omega
      clear hc hr ih h1
      go_enter Tryz.func45, Tryz.ntmps45
      go_wp2_with fail
      go_ret
      exact ⟨by rw [HE.out]; rfl, grow_alloc (grow_refl _) _⟩
    · have q1 : ¬ (15 : Int) < (d : Int) := by omega
      by_cases h2 : 8 < e.kids.length
      · have q2 : (8 : Int) < (e.kids.length : Int) := by omega
        clear hc hr ih h1 h2
        go_enter Tryz.func45, Tryz.ntmps45
        go_wp2_with fail
        go_ret
        exact ⟨by rw [HE.out]; rfl, grow_alloc (grow_refl _) _⟩
      · have q2 : ¬ (8 : Int) < (e.kids.length : Int) := by omega
        have q3 : (20 : Int) < ((mkB e.name).size : Int) := by rw [HN.out]; omega
        clear hc hr ih h1 h2
        go_enter Tryz.func45, Tryz.ntmps45
        go_wp2_with fail
        go_ret
        exact ⟨by rw [HE.out]; rfl, grow_alloc (grow_refl _) _⟩
  · have HE : Hid (szE e d = szK e.kids (d + 1) 1) := show szE e d = _ by rw [szE_eq, if_neg hc]
    have q1 : ¬ (15 : Int) < (d : Int) := by omega
    have q2 : ¬ (8 : Int) < (e.kids.length : Int) := by omega
    have q3 : ¬ (20 : Int) < ((mkB e.name).size : Int) := by rw [mkB_len]; omega
    have hl8 : e.kids.length ≤ 8 := by omega
    have hd15 : d ≤ 15 := by omega
    have HR := Lib.hid hr
    have IH : Hid (∀ (i : Nat) (hi : i < e.kids.length) (d : Nat), d ≤ 16 → ∀ (S : Nat → Prop) (A : Option Addr) (c : Nat) (w : World), RdE w S e.kids[i].kids A → Calls Tryz.prog 45 #[exprV e.kids[i] A c, .int .i64 (d : Int)] w (Ret (.int .i64 (szE e.kids[i] d : Nat)) w)) :=
      fun i hi => ih _ (List.getElem_mem hi)
    clear hc hr ih
    unfold exprV
    go_enter Tryz.func45, Tryz.ntmps45
    go_wp2_with fail
    go_loopw [5, 6] (fun n i wr => ∃ (k m : Nat), k ≤ e.kids.length ∧ i = .int .i64 k ∧ n = .int .i64 m ∧ m ≤ 100000 ∧ szK e.kids (d + 1) 1 = szK (e.kids.drop k) (d + 1) m ∧ Below w.heap.size w wr ∧ wr.cell? ⟨w.heap.size, 3, none⟩ = some (.slice A e.kids.length c)) (fun _ i _ => e.kids.length - (intOf i).toNat)
    case atStart => exact ⟨0, 1, Nat.zero_le _, rfl, rfl, by omega, by simp, grow_alloc (grow_refl _) _, cell_of_row _ _ 3 _ _ _ (new_block _ _ rfl)⟩
    case round =>
      obtain ⟨k, m, hk, rfl, rfl, hm, hI, hbel, hbox⟩ := hrel
      have HI := Lib.hid hI
      clear hI
      by_cases hlt : k < e.kids.length
      · have hlt' : (k : Int) < (e.kids.length : Int) := by omega
        by_cases hm1 : m < 1000
        · have hm' : (m : Int) < 1000 := by omega
          obtain ⟨b, off, B, c1, rfl, -, hcells, -, hkid⟩ := (HR.out.keep ((Keeps.of_below hbel).in S) (fun _ h => h)).at hlt
          obtain ⟨c0, c1', c2, c3⟩ := cells_expr hcells
          have HK := Lib.hid (IH.out k hlt (d + 1) (by omega) S B c1 wr hkid)
          have hsz := szE_le e.kids[k] (d + 1) (by omega)
          have HS := Lib.hid (szK_step hlt (d := d + 1) hm1)
          obtain ⟨z, hz⟩ : ∃ z, szE e.kids[k] (d + 1) = z := ⟨_, rfl⟩
          rw [hz] at hsz HK HS
          have hz2 : z ≤ 20000 := by omega
          unfold exprV at HK
          rw [show ((d + 1 : Nat) : Int) = (d : Int) + 1 by omega] at HK
          clear hcells hkid hsz hz
          go_wp2_with (go_at_call 45; (with_reducible refine HK.out.mono ?_); rintro x w1 ⟨rfl, hb1⟩)
          go_roundw
          case rel => exact ⟨k + 1, m + z, by omega, by go_num, by go_num, by omega, HI.out.trans HS.out, grow_trans hbel hb1, Keeps.of_below hb1 _ _ hbox⟩
          case measure => simp [intOf]; omega
        · have hm' : ¬ (m : Int) < 1000 := by omega
          have HS := Lib.hid (szK_stop (ks := e.kids.drop k) (d := d + 1) hm1)
          go_wp2_with fail
          go_ret
          exact ⟨by rw [HE.out, HI.out, HS.out]; rfl, hbel⟩
      · have hk' : k = e.kids.length := by omega
        subst hk'
        go_wp2_with fail
        go_ret
        exact ⟨by rw [HE.out, HI.out, List.drop_length, szK_nil]; rfl, hbel⟩
theorem szL_step {ss : List PStmt} {k : Nat} (h : k < ss.length) {d n : Nat} (hn : n < 1000) : szL (ss.drop k) d n = if 20 < ss[k].name.length ∨ 20 < ss[k].kind.length then 1000 else szL (ss.drop (k + 1)) d (n + szT ss[k] d) := by
  rw [List.drop_eq_getElem_cons h, szL_cons, if_pos hn]
theorem szL_stop {ss : List PStmt} {d n : Nat} (hn : ¬ n < 1000) : szL ss d n = n := by
  cases ss with
  | nil => rw [szL_nil]
  | cons k ks => rw [szL_cons, if_neg hn]
def SizesC (ss : List PStmt) : Prop := ∀ (d : Nat), d ≤ 16 → ∀ (S : Nat → Prop) (A : Option Addr) (c : Nat) (w : World), RdS w S ss A →
    Calls Tryz.prog 22 #[.slice A ss.length c, .int .i64 (d : Int)] w (Ret (.int .i64 (szS ss d : Nat)) w)
set_option maxHeartbeats 4000000 in
set_option maxRecDepth 100000 in
theorem sizes_list (ss : List PStmt) (hq : ∀ s ∈ ss, SizesC s.th ∧ SizesC s.el) : SizesC ss := by
  intro d hd S A c w hr
  by_cases hc : 15 < d ∨ 30 < ss.length
  · have HE : Hid (szS ss d = 1000) := show szS ss d = 1000 by unfold szS; rw [if_pos hc]
    by_cases h1 : 15 < d
    · have q1 : (15 : Int) < (d : Int) := by omega
      clear hc hr hq h1
      go_enter Tryz.func22, Tryz.ntmps22
      go_wp2_with fail
      go_ret
      exact ⟨by rw [HE.out]; rfl, grow_refl _⟩
    · have q1 : ¬ (15 : Int) < (d : Int) := by omega
      have q2 : (30 : Int) < (ss.length : Int) := by omega
      clear hc hr hq h1
      go_enter Tryz.func22, Tryz.ntmps22
      go_wp2_with fail
      go_ret
      exact ⟨by rw [HE.out]; rfl, grow_refl _⟩
  · have HE : Hid (szS ss d = szL ss d 0) := show szS ss d = _ by unfold szS; rw [if_neg hc]
    have q1 : ¬ (15 : Int) < (d : Int) := by omega
    have q2 : ¬ (30 : Int) < (ss.length : Int) := by omega
    have hl8 : ss.length ≤ 30 := by omega
    have hd15 : d ≤ 15 := by omega
    have HR := Lib.hid hr
    have HQ := Lib.hid hq
    clear hc hr hq
    go_enter Tryz.func22, Tryz.ntmps22
    go_wp2_with fail
    go_loopw [5, 6] (fun n i wr => ∃ (k m : Nat), k ≤ ss.length ∧ i = .int .i64 k ∧ n = .int .i64 m ∧ m ≤ 10000000000 ∧ szL ss d 0 = szL (ss.drop k) d m ∧ Below w.heap.size w wr) (fun _ i _ => ss.length - (intOf i).toNat)
    case atStart => exact ⟨0, 0, Nat.zero_le _, rfl, rfl, by omega, by simp, grow_refl _⟩
    case round =>
      obtain ⟨k, m, hk, rfl, rfl, hm, hI, hbel⟩ := hrel
      have HI := Lib.hid hI
      clear hI
      by_cases hlt : k < ss.length
      · have hlt' : (k : Int) < (ss.length : Int) := by omega
        by_cases hm1 : m < 1000
        · have hm' : (m : Int) < 1000 := by omega
          obtain ⟨b, off, X, x, T, t, L, l, rfl, -, hcells, hnum, hX, hT, hL⟩ := (HR.out.keep ((Keeps.of_below hbel).in S) (fun _ h => h)).at hlt
          obtain ⟨c0, c1, c2, c3, c4, c5, c6, c7⟩ := cells_stmt hcells
          have hst := szL_step hlt (d := d) hm1
          obtain ⟨s, hs⟩ : ∃ s, ss[k] = s := ⟨_, rfl⟩
          have hsm : s ∈ ss := hs ▸ List.getElem_mem hlt
          rw [hs] at hcells hnum hX hT hL c0 c1 c2 c3 c4 c5 c6 c7 hst
          have HN := Lib.hid (mkB_len s.name)
          have HKD := Lib.hid (mkB_len s.kind)
          by_cases hbig : 20 < s.name.length ∨ 20 < s.kind.length
          · rw [if_pos hbig] at hst
            have HS := Lib.hid hst
            by_cases hb1 : 20 < s.name.length
            · have q3 : (20 : Int) < ((mkB s.name).size : Int) := by rw [mkB_len]; omega
              clear hcells hX hT hL hnum hst hbig hb1
              go_wp2_with fail
              go_ret
              exact ⟨by rw [HE.out, HI.out, HS.out]; rfl, hbel⟩
            · have q3 : ¬ (20 : Int) < ((mkB s.name).size : Int) := by rw [mkB_len]; omega
              have q4 : (20 : Int) < ((mkB s.kind).size : Int) := by rw [mkB_len]; omega
              clear hcells hX hT hL hnum hst hbig hb1
              go_wp2_with fail
              go_ret
              exact ⟨by rw [HE.out, HI.out, HS.out]; rfl, hbel⟩
          · rw [if_neg hbig] at hst
            have q3 : ¬ (20 : Int) < ((mkB s.name).size : Int) := by rw [mkB_len]; omega
            have q4 : ¬ (20 : Int) < ((mkB s.kind).size : Int) := by rw [mkB_len]; omega
            have b1 := szE_le s.e 0 (by omega)
            have b2 := szS_bound s.th (d + 1) (by omega)
            have b3 := szS_bound s.el (d + 1) (by omega)
            rw [szT_eq] at hst
            have HX : ∀ w', Below wr.heap.size wr w' → Calls Tryz.prog 45 #[exprV s.e X x, .int .i64 ((0 : Nat) : Int)] w' (Ret (.int .i64 (szE s.e 0 : Nat)) w') :=
              fun w' hb => sizeOf_any s.e 0 (by omega) S X x w' (hX.keep ((Keeps.of_below hb).in S) (fun _ h => h))
            have HT : ∀ w', Below wr.heap.size wr w' → Calls Tryz.prog 22 #[.slice T s.th.length t, .int .i64 ((d + 1 : Nat) : Int)] w' (Ret (.int .i64 (szS s.th (d + 1) : Nat)) w') :=
              fun w' hb => (HQ.out s hsm).1 (d + 1) (by omega) S T t w' (hT.keep ((Keeps.of_below hb).in S) (fun _ h => h))
            have HL : ∀ w', Below wr.heap.size wr w' → Calls Tryz.prog 22 #[.slice L s.el.length l, .int .i64 ((d + 1 : Nat) : Int)] w' (Ret (.int .i64 (szS s.el (d + 1) : Nat)) w') :=
              fun w' hb => (HQ.out s hsm).2 (d + 1) (by omega) S L l w' (hL.keep ((Keeps.of_below hb).in S) (fun _ h => h))
            obtain ⟨z1, hz1⟩ : ∃ z, szE s.e 0 = z := ⟨_, rfl⟩
            obtain ⟨z2, hz2⟩ : ∃ z, szS s.th (d + 1) = z := ⟨_, rfl⟩
            obtain ⟨z3, hz3⟩ : ∃ z, szS s.el (d + 1) = z := ⟨_, rfl⟩
            rw [hz1] at HX hst b1
            rw [hz2] at HT hst b2
            rw [hz3] at HL hst b3
            rw [show ((d + 1 : Nat) : Int) = (d : Int) + 1 by omega] at HT HL
            rw [show ((0 : Nat) : Int) = 0 from rfl] at HX
            unfold exprV at HX
            have g1 : z1 ≤ 20000 := by omega
            have HXX := Lib.hid HX
            have HTT := Lib.hid HT
            have HLL := Lib.hid HL
            have HS := Lib.hid hst
            have HC := Lib.hid hcells
            have w1 : IntKind.i64.wrap ((m : Int) + 1) = (m : Int) + 1 := IntWalk.i64_in _ (by omega)
            have w2 : IntKind.i64.wrap ((d : Int) + 1) = (d : Int) + 1 := IntWalk.i64_in _ (by omega)
            have w3 : IntKind.i64.wrap ((m : Int) + 1 + z1) = (m : Int) + 1 + z1 := IntWalk.i64_in _ (by omega)
            have w4 : IntKind.i64.wrap ((m : Int) + 1 + z1 + z2) = (m : Int) + 1 + z1 + z2 := IntWalk.i64_in _ (by omega)
            have w5 : IntKind.i64.wrap ((m : Int) + 1 + z1 + z2 + z3) = (m : Int) + 1 + z1 + z2 + z3 := IntWalk.i64_in _ (by omega)
            clear hcells hX hT hL hnum hst hbig hz1 hz2 hz3 HX HT HL
            go_upto_region 9 with fail
            have HBS : Below wr.heap.size wr wr.drew := (Below.refl _ _).drew
            have HB0 : Below wr.heap.size wr wr := Below.refl _ _
            go_region_held3 (fun w' => Below wr.heap.size wr w' ∧ w'.cell? ⟨b, off + k * 8, none⟩ = some (.string (mkB s.kind)) ∧ w'.cell? ⟨b, off + k * 8 + 1, none⟩ = some (.string (mkB s.name)) ∧ w'.cell? ⟨b, off + k * 8 + 2, none⟩ = some (.string (mkB s.e.kind)) ∧ w'.cell? ⟨b, off + k * 8 + 3, none⟩ = some (.int .i64 s.e.num) ∧
                w'.cell? ⟨b, off + k * 8 + 4, none⟩ = some (.string (mkB s.e.name)) ∧ w'.cell? ⟨b, off + k * 8 + 5, none⟩ = some (.slice X s.e.kids.length x) ∧ w'.cell? ⟨b, off + k * 8 + 6, none⟩ = some (.slice T s.th.length t) ∧ w'.cell? ⟨b, off + k * 8 + 7, none⟩ = some (.slice L s.el.length l))
              (((with_reducible refine stmt_seen ?_ HC.out);
                first
                  | (simp (maxDischargeDepth := 20) only [bel_drew, HB0, hB3]; done)
                  | (simp (maxDischargeDepth := 20) only [bel_drew, HB0, hB2]; done)
                  | (simp (maxDischargeDepth := 20) only [bel_drew, HB0, hB1]; done)
                  | (simp (maxDischargeDepth := 20) only [bel_drew, HB0]; done)))
              (first
                | (go_at_call 45; (with_reducible refine (HXX.out _ (by simp only [bel_drew, HB0])).mono ?_); rintro y w12 ⟨rfl, hbT⟩; have hB1 : Below wr.heap.size wr w12 := grow_trans (by simp only [bel_drew, HB0]) hbT)
                | (go_at_call 22; (with_reducible refine (HTT.out _ (by simp only [hB1])).mono ?_); rintro y w12 ⟨rfl, hbT⟩; have hB2 : Below wr.heap.size wr w12 := grow_trans (by simp only [hB1]) hbT)
                | (go_at_call 22; (with_reducible refine (HLL.out _ (by simp only [hB2])).mono ?_); rintro y w12 ⟨rfl, hbT⟩; have hB3 : Below wr.heap.size wr w12 := grow_trans (by simp only [hB2]) hbT))
            clear HBS HB0 w1 w2 w3 w4 w5 c0 c1 c2 c3 c4 c5 c6 c7
            all_goals go_wp2_with fail
            go_roundw
            case rel => exact ⟨k + 1, m + 1 + z1 + z2 + z3, by omega, by go_num, by go_num, by omega, HI.out.trans (HS.out.trans (by congr 1; omega)), grow_trans hbel hB3⟩
            case measure => simp [intOf]; omega
        · have hm' : ¬ (m : Int) < 1000 := by omega
          have HS := Lib.hid (szL_stop (ss := ss.drop k) (d := d) hm1)
          go_wp2_with fail
          go_ret
          exact ⟨by rw [HE.out, HI.out, HS.out]; rfl, hbel⟩
      · have hk' : k = ss.length := by omega
        subst hk'
        go_wp2_with fail
        go_ret
        exact ⟨by rw [HE.out, HI.out, List.drop_length, szL_nil]; rfl, hbel⟩
theorem sizes_each : ∀ s : PStmt, SizesC s.th ∧ SizesC s.el := by
  intro s
  induction s using PStmt.ind with
  | h s iht ihl => exact ⟨sizes_list _ iht, sizes_list _ ihl⟩
theorem sizesOf_any (ss : List PStmt) : SizesC ss := sizes_list ss fun s _ => sizes_each s
end Go.Proofs.YtnpdjncgilekhaaGreatDoor

namespace Go.Proofs.YtnpdjncgilekhaaGreatDoor
open Go.RowKit

theorem largeF_step {fs : List PFun} {k : Nat} (h : k < fs.length) {most n : Nat} : largeF (fs.drop k) most n =
    if 8 < fs[k].params.length ∨ 20 < fs[k].name.length then true else if longT fs[k].params then true else if most < n + szS fs[k].body 0 then true else largeF (fs.drop (k + 1)) most (n + szS fs[k].body 0) := by
  rw [List.drop_eq_getElem_cons h, largeF]
theorem longT_step {ps : List (List UInt8)} {k : Nat} (h : k < ps.length) : longT (ps.drop k) = (decide (20 < ps[k].length) || longT (ps.drop (k + 1))) := by
  unfold longT; rw [List.drop_eq_getElem_cons h, List.any_cons]
def LV (fs : List PFun) (most : Nat) : Int := if largeP fs most then 1 else 0
set_option maxHeartbeats 4000000 in
set_option maxRecDepth 100000 in
theorem Large_any (fs : List PFun) (most : Nat) (hmost : most ≤ 1000000) (S : Nat → Prop) (A : Option Addr) (c : Nat) (w : World) (hr : RdF w S fs A) :
    Calls Tryz.prog 6 #[.slice A fs.length c, .int .i64 (most : Int)] w (Ret (.int .i64 (if largeP fs most then 1 else 0)) w) := by
  by_cases h1 : 10 < fs.length
  · have q1 : (10 : Int) < (fs.length : Int) := by omega
    have HE : Hid (largeP fs most = true) := show largeP fs most = true by simp [largeP, h1]
    have hp0 : (if largeP fs most then (1 : Int) else 0) = LV fs most := rfl
    rw [hp0]
    clear hr h1 hp0
    go_enter Tryz.func6, Tryz.ntmps6
    go_wp2_with fail
    go_ret
    exact ⟨by unfold LV; rw [HE.out]; rfl, grow_refl _⟩
  · have q1 : ¬ (10 : Int) < (fs.length : Int) := by omega
    have HE : Hid (largeP fs most = largeF fs most 0) := show largeP fs most = _ by simp [largeP, h1]
    have hl : fs.length ≤ 10 := by omega
    have HR := Lib.hid hr
    have hp0 : (if largeP fs most then (1 : Int) else 0) = LV fs most := rfl
    rw [hp0]
    clear hr h1 hp0
    go_enter Tryz.func6, Tryz.ntmps6
    go_wp2_with fail
    go_loopw [5, 6, 7] (fun n i _ wr => ∃ (k m : Nat), k ≤ fs.length ∧ i = .int .i64 k ∧ n = .int .i64 m ∧ m ≤ most ∧ largeF fs most 0 = largeF (fs.drop k) most m ∧ Below w.heap.size w wr) (fun _ i _ _ => fs.length - (intOf i).toNat)
    case atStart => exact ⟨0, 0, Nat.zero_le _, rfl, rfl, by omega, by simp, grow_refl _⟩
    case round =>
      obtain ⟨k, m, hk, rfl, rfl, hm, hI, hbel⟩ := hrel
      have HI := Lib.hid hI
      clear hI
      by_cases hlt : k < fs.length
      · have hlt' : (k : Int) < (fs.length : Int) := by omega
        obtain ⟨b, off, P, p, B, d, rfl, -, hcells, hp, hb⟩ := (HR.out.keep ((Keeps.of_below hbel).in S) (fun _ h => h)) k hlt
        obtain ⟨c0, c1, c2⟩ := cells_fun hcells
        have hst := largeF_step hlt (most := most) (n := m)
        obtain ⟨f, hf⟩ : ∃ f, fs[k] = f := ⟨_, rfl⟩
        rw [hf] at hcells hp hb c0 c1 c2 hst
        have HZ := Lib.hid hst
        have HB := Lib.hid hb
        have HP := Lib.hid hp
        clear hst hcells hf hb hp
        by_cases h2 : 8 < f.params.length
        · have q2 : (8 : Int) < (f.params.length : Int) := by omega
          have HS : Hid (largeF (fs.drop k) most m = true) := HZ.out.trans (by rw [if_pos (.inl h2)])
          clear h2
          go_wp2_with fail
          go_ret
          exact ⟨by unfold LV; rw [HE.out, HI.out, HS.out]; rfl, hbel⟩
        · have q2 : ¬ (8 : Int) < (f.params.length : Int) := by omega
          by_cases h3 : 20 < f.name.length
          · have q3 : (20 : Int) < ((mkB f.name).size : Int) := by rw [mkB_len]; omega
            have HS : Hid (largeF (fs.drop k) most m = true) := HZ.out.trans (by rw [if_pos (.inr h3)])
            clear h2 h3
            go_wp2_with fail
            go_ret
            exact ⟨by unfold LV; rw [HE.out, HI.out, HS.out]; rfl, hbel⟩
          · have q3 : ¬ (20 : Int) < ((mkB f.name).size : Int) := by rw [mkB_len]; omega
            have hz := HZ.out
            rw [if_neg (by omega)] at hz
            have HZ2 := Lib.hid hz
            have hl8 : f.params.length ≤ 8 := by omega
            clear h2 h3 hz HZ
            go_wp2_with fail
            go_loopw [7] (fun j wt => ∃ (i : Nat), i ≤ f.params.length ∧ j = .int .i64 i ∧ wt = wr ∧ longT f.params = longT (f.params.drop i)) (fun j _ => f.params.length - (intOf j).toNat)
            case atStart => exact ⟨0, Nat.zero_le _, rfl, rfl, by simp⟩
            case round =>
              obtain ⟨i, hi, rfl, rfl, hJ⟩ := hrel
              have HJ := Lib.hid hJ
              clear hJ
              by_cases hlt2 : i < f.params.length
              · have hlt2' : (i : Int) < (f.params.length : Int) := by omega
                obtain ⟨b2, off2, rfl, -, hc2⟩ := HP.out i hlt2
                have HK := Lib.hid (longT_step hlt2)
                by_cases h4 : 20 < f.params[i].length
                · have q4 : (20 : Int) < ((mkB f.params[i]).size : Int) := by rw [mkB_len]; omega
                  have HS : Hid (largeF (fs.drop k) most m = true) := HZ2.out.trans (by rw [HJ.out, HK.out]; simp [h4])
                  clear h4
                  go_wp2_with fail
                  go_ret
                  exact ⟨by unfold LV; rw [HE.out, HI.out, HS.out]; rfl, hbel⟩
                · have q4 : ¬ (20 : Int) < ((mkB f.params[i]).size : Int) := by rw [mkB_len]; omega
                  have HK2 : Hid (longT f.params = longT (f.params.drop (i + 1))) := HJ.out.trans (HK.out.trans (by simp [h4]))
                  clear h4
                  go_wp2_with fail
                  go_roundw
                  case rel => exact ⟨i + 1, by omega, by go_num, (by trivial), HK2.out⟩
                  case measure => simp [intOf]; omega
              · have hi' : i = f.params.length := by omega
                subst hi'
                have hlong : longT f.params = false := by rw [HJ.out, List.drop_length]; rfl
                have hz := HZ2.out
                rw [hlong] at hz
                have b2 := szS_bound f.body 0 (by omega)
                have HT := sizesOf_any f.body 0 (by omega) S B d _ HB.out
                rw [show ((0 : Nat) : Int) = 0 from rfl] at HT
                obtain ⟨z, hz1⟩ : ∃ z, szS f.body 0 = z := ⟨_, rfl⟩
                rw [hz1] at hz b2 HT
                have HTT := Lib.hid HT
                have HZ3 := Lib.hid hz
                clear hz hlong HT hz1
                by_cases h5 : most < m + z
                · have q5 : (most : Int) < (m : Int) + z := by omega
                  have HS : Hid (largeF (fs.drop k) most m = true) := HZ3.out.trans (by simp [h5])
                  clear h5
                  go_wp2_with (go_at_call 22; (with_reducible refine HTT.out.mono ?_); rintro x w1 ⟨rfl, hb1⟩)
                  go_ret
                  exact ⟨by unfold LV; rw [HE.out, HI.out, HS.out]; rfl, grow_trans hbel hb1⟩
                · have q5 : ¬ (most : Int) < (m : Int) + z := by omega
                  have HS : Hid (largeF (fs.drop k) most m = largeF (fs.drop (k + 1)) most (m + z)) := HZ3.out.trans (by simp [h5])
                  have h6 : m + z ≤ most := by omega
                  clear h5
                  go_wp2_with (go_at_call 22; (with_reducible refine HTT.out.mono ?_); rintro x w1 ⟨rfl, hb1⟩)
                  go_roundw
                  case rel => exact ⟨k + 1, m + z, by omega, by go_num, by go_num, by omega, HI.out.trans HS.out, grow_trans hbel hb1⟩
                  case measure => simp [intOf]; omega
      · have hk' : k = fs.length := by omega
        subst hk'
        have HS : Hid (largeF (fs.drop fs.length) most m = false) := show _ = false by rw [List.drop_length]; rfl
        go_wp2_with fail
        go_ret
        exact ⟨by unfold LV; rw [HE.out, HI.out, HS.out]; rfl, hbel⟩
end Go.Proofs.YtnpdjncgilekhaaGreatDoor

namespace Go.Proofs.YtnpdjncgilekhaaGreatDoor
open Go.RowKit

/-! check.Vars, Calls -/
theorem strsInfo : (Tryz.prog.info? 35).map (fun i => (i.zero, i.size, i.bytes)) = some (some (.slice none 0 0), 1, 24) := by kernel_rfl
theorem strs_ne_str : (35 : TypeId) ≠ 9 := by decide
theorem expr_ne_str : (56 : TypeId) ≠ 9 := by decide
theorem fun_ne_str : (39 : TypeId) ≠ 9 := by decide
/-- A variable at block q holds a slice of these texts. -/
structure OutAt (base q : Nat) (xs : List Nm) (w : World) : Prop where
  low : base ≤ q
  lt : q < w.heap.size
  cell : ∃ v, w.heap[q]? = some (.cells #[v] 35 (0, 0)) ∧ w.ownsRow base 9 1 v xs.length (strVs xs) ∧ v.ownBlock ≠ some q
theorem OutAt.keep {base q : Nat} {xs : List Nm} {w w' : World} (h : OutAt base q xs w) (hb : Below w.heap.size w w') : OutAt base q xs w' := by
  obtain ⟨v, h1, h2, h3⟩ := h.cell
  exact ⟨h.low, Nat.lt_of_lt_of_le h.lt hb.size, v, (hb.block q h.lt).trans h1, ownsRow_below h2 hb, h3⟩
theorem OutAt.base_le {base q : Nat} {xs : List Nm} {w : World} (h : OutAt base q xs w) : base ≤ w.heap.size := by have := h.low; have := h.lt; omega
structure OutPost (base q : Nat) (xs : List Nm) (w w' : World) : Prop where
  bel : Below base w w'
  kp : KpC q w w'
  out : OutAt base q xs w'
theorem OutPost.below {base q : Nat} {xs : List Nm} {w w' : World} (h : OutAt base q xs w) (hb : Below w.heap.size w w') : OutPost base q xs w w' := ⟨hb.mono h.base_le, KpC.below hb, h.keep hb⟩
theorem OutPost.trans {base q : Nat} {xs ys : List Nm} {w w' w'' : World} (h : OutPost base q xs w w') (k : OutPost base q ys w' w'') : OutPost base q ys w w'' := ⟨h.bel.trans k.bel, h.kp.trans k.kp, k.out⟩
/-- An append to the variable, and the store. -/
theorem out_push {base q : Nat} {xs : List Nm} {x : Nm} {w w0 w' : World} {o : Obj} {v v' : Value} (hw0 : OutAt base q xs w) (hb0 : Below w.heap.size w w0) (hv : w0.heap[q]? = some (.cells #[v] 35 (0, 0))) (hown : w0.ownsRow base 9 1 v xs.length (strVs xs)) (hne : v.ownBlock ≠ some q)
    (h1 : w'.ownsRow base 9 1 v' (xs.length + 1) (strVs xs ++ [.string (mkB x)])) (hg : (w0.alloc o).grownBy w' v.ownBlock) (hat : v'.ownBlock = v.ownBlock ∨ ∃ m, w0.heap.size ≤ m ∧ v'.ownBlock = some m) :
    w'.heap[q]? = some (.cells #[v] 35 (0, 0)) ∧ OutPost base q (xs ++ [x]) w (w'.setCell ⟨q, 0, none⟩ v') := by
  have hq := hw0.lt
  have hs0 := hb0.size
  have hqw : w'.heap[q]? = some (.cells #[v] 35 (0, 0)) := by
    rw [hg.block q (by simp; omega) (fun e => hne e.symm), old_block _ _ (by omega)]; exact hv
  have hne' : v'.ownBlock ≠ some q := by
    rcases hat with e | ⟨m, hm, e⟩
    · rw [e]; exact hne
    · rw [e]; intro e2; simp at e2; omega
  have hbase := hw0.base_le
  have hb' : Below base w w' := Below.grown ((hb0.mono hbase).alloc (by omega) _) hg (by simp; omega) (fun k hk => (hown.lt k hk).1)
  have hkp : KpC q w w' := (KpC.below hb0).trans (KpC.append hown hg)
  refine ⟨hqw, hb'.setCell hw0.low _, hkp.trans (KpC.store q 0 w' _), hw0.low, by have := hg.size; simp at this; simp; omega, v', row_set (j := 0) _ hqw (by simp), ?_, hne'⟩
  rw [strVs_snoc, List.length_append]
  exact setRow_owns _ h1 hne'
set_option maxHeartbeats 2000000 in
set_option maxRecDepth 100000 in
theorem vars1_any (base q : Nat) (xs : List Nm) (hxs : xs.length ≤ 10000) (s : PStmt) (X : Option Addr) (x : Nat) (T : Option Addr) (t : Nat) (L : Option Addr) (l : Nat) (w : World) (h : OutAt base q xs w) :
    Calls Tryz.prog 31 #[stmtV s X x T t L l, .pointer (some ⟨q, 0, none⟩)] w fun e w' => e = .returned (.tuple #[]) ∧ OutPost base q (stepV s xs) w w' := by
  have hb0 : Below w.heap.size w (w.alloc (stmtO s X x T t L l)) := grow_alloc (grow_refl _) _
  have HB0 := Lib.hid hb0
  have HH := Lib.hid h
  have h1 := h.keep hb0
  obtain ⟨v, q1, q2, q3⟩ := h1.cell
  obtain ⟨A, c, rfl⟩ := owns_slice q2
  have c0 := cell_of_row _ _ 0 _ _ _ q1
  have z0 := row_frozen q1 0
  obtain ⟨i0, hi, hz0, hz1, hz2⟩ := info_parts strInfo2
  have HO := Lib.hid q2
  have HQ := Lib.hid q1
  have HN := Lib.hid q3
  have hbase := h.base_le
  clear hb0 h h1 q1 q2 q3
  unfold stmtV
  unfold stmtO at *
  by_cases hk : s.kind = sVar
  · have t0 := kind_yes hk
    unfold sVar at t0
    have HS : Hid (stepV s xs = xs ++ [s.name]) := show _ = _ by unfold stepV; rw [if_pos hk]
    clear hk
    go_enter Tryz.func31, Tryz.ntmps31
    go_wp2_with (at_builtin; refine wpList_append_own_at _ rfl _ _ 35 rfl base 9 i0 _ 1 16 Tryz.underlying35 hi hz0 hz1 hz2 rfl (by decide) _ _ _ rfl (HO.out.alloc _) ⟨w.heap.size + 1, 0, none⟩ 1 1 [.string (mkB s.name)] rfl rfl ?c1 ?c2 ?c3 ?c4 ?c5 ?_)
    case c1 =>
      intro i u hu
      match i, hu with
      | 0, hu => simp at hu; subst hu; simp [Addr.add]
    case c2 => intro u hu; simp at hu; subst hu; rfl
    case c3 => unfold maxLen; omega
    case c4 => omega
    case c5 => simp; omega
    · intro v' w2 hown' hgrow _ hat
      obtain ⟨A', c', rfl⟩ := owns_slice hown'
      obtain ⟨r1, r2⟩ := out_push (x := s.name) HH.out HB0.out HQ.out HO.out HN.out hown' hgrow (hat.imp id fun e => ⟨_, by simp, e⟩)
      have f0 := cell_of_row _ _ 0 _ _ _ r1
      have y0 := row_frozen r1 0
      have HR := Lib.hid r2
      clear hown' hgrow hat r1 r2 c0 z0
      go_wp2_with fail
      go_end0
      exact ⟨rfl, by rw [HS.out]; exact HR.out⟩
  · have t0 := kind_no hk
    unfold sVar at t0
    have HS : Hid (stepV s xs = xs) := show _ = _ by unfold stepV; rw [if_neg hk]
    clear hk
    go_enter Tryz.func31, Tryz.ntmps31
    go_wp2_with fail
    go_end0
    exact ⟨rfl, by rw [HS.out]; exact OutPost.below HH.out HB0.out⟩
theorem pushN_has {xs : List Nm} {x : Nm} (h : xs.contains x = true) : pushN xs x = xs := by unfold pushN; rw [if_pos h]
theorem pushN_new {xs : List Nm} {x : Nm} (h : xs.contains x = false) : pushN xs x = xs ++ [x] := by unfold pushN; rw [if_neg (by rw [h]; decide)]
set_option maxHeartbeats 2000000 in
set_option maxRecDepth 100000 in
theorem calls11_any (base q : Nat) (xs : List Nm) (hxs : xs.length ≤ 10000) (x : Nm) (w : World) (h : OutAt base q xs w) :
    Calls Tryz.prog 35 #[.string (mkB x), .pointer (some ⟨q, 0, none⟩)] w fun e w' => e = .returned (.tuple #[]) ∧ OutPost base q (pushN xs x) w w' := by
  have HB0 : Hid (Below w.heap.size w w) := Below.refl _ _
  have HH := Lib.hid h
  obtain ⟨v, q1, q2, q3⟩ := h.cell
  obtain ⟨A, c, rfl, hrow, -⟩ := owns_Row q2
  have c0 : w.cell? ⟨q, 0, none⟩ = some (.slice A xs.length c) := cell_of_row _ _ 0 _ _ _ q1
  have z0 := row_frozen q1 0
  obtain ⟨i0, hi, hz0, hz1, hz2⟩ := info_parts strInfo2
  have HCN := Lib.hid (has_any xs x A c w hrow (by omega))
  have HO := Lib.hid q2
  have HQ := Lib.hid q1
  have HN := Lib.hid q3
  have hbase := h.base_le
  clear h q1 q2 q3 hrow
  cases hc : xs.contains x
  · rw [hc] at HCN
    have HS := Lib.hid (pushN_new hc)
    clear hc
    go_enter Tryz.func35, Tryz.ntmps35
    go_wp2_with (first
      | (go_at_call 36; (with_reducible refine HCN.out.mono ?_); rintro y w1 ⟨rfl, rfl⟩)
      | (at_builtin; refine wpList_append_own_at _ rfl _ _ 35 rfl base 9 i0 _ 1 16 Tryz.underlying35 hi hz0 hz1 hz2 rfl (by decide) _ _ _ rfl (HO.out.alloc _) ⟨w1.heap.size, 0, none⟩ 1 1 [.string (mkB x)] rfl rfl ?c1 ?c2 ?c3 ?c4 ?c5 ?_))
    case c1 =>
      intro i u hu
      match i, hu with
      | 0, hu => simp at hu; subst hu; simp [Addr.add]
    case c2 => intro u hu; simp at hu; subst hu; rfl
    case c3 => unfold maxLen; omega
    case c4 => omega
    case c5 => simp; omega
    · intro v' w2 hown' hgrow _ hat
      obtain ⟨A', c', rfl⟩ := owns_slice hown'
      obtain ⟨r1, r2⟩ := out_push (x := x) HH.out HB0.out HQ.out HO.out HN.out hown' hgrow (hat.imp id fun e => ⟨_, by simp, e⟩)
      have f0 := cell_of_row _ _ 0 _ _ _ r1
      have y0 := row_frozen r1 0
      have HR := Lib.hid r2
      clear hown' hgrow hat r1 r2 c0 z0
      go_wp2_with fail
      go_end0
      exact ⟨rfl, by rw [HS.out]; exact HR.out⟩
  · rw [hc] at HCN
    have HS := Lib.hid (pushN_has hc)
    clear hc
    go_enter Tryz.func35, Tryz.ntmps35
    go_wp2_with (go_at_call 36; (with_reducible refine HCN.out.mono ?_); rintro y w1 ⟨rfl, rfl⟩)
    go_end0
    exact ⟨rfl, by rw [HS.out]; exact OutPost.below HH.out HB0.out⟩
theorem callK_step {ks : List PExpr} {k : Nat} (h : k < ks.length) (xs : List Nm) : callK (ks.drop k) xs = callK (ks.drop (k + 1)) (callE ks[k] xs) := by
  rw [List.drop_eq_getElem_cons h, callK_cons]
theorem cntK_step {ks : List PExpr} {k : Nat} (h : k < ks.length) : cntK (ks.drop k) = cntE ks[k] + cntK (ks.drop (k + 1)) := by
  rw [List.drop_eq_getElem_cons h, cntK_cons]
set_option maxHeartbeats 4000000 in
set_option maxRecDepth 100000 in
theorem calls_any (base q : Nat) : ∀ e : PExpr, SmE e → ∀ (xs : List Nm), xs.length + cntE e ≤ 10000 → ∀ (A : Option Addr) (c : Nat) (w : World), OutAt base q xs w → RdE w (fun k => k < base) e.kids A →
    Calls Tryz.prog 34 #[exprV e A c, .func (.func 35) #[] #[.pointer (some ⟨q, 0, none⟩)]] w fun r w' => r = .returned (.tuple #[]) ∧ OutPost base q (callE e xs) w w' := by
  intro e
  induction e using PExpr.ind with
  | h e ih =>
  intro hsm xs hxs A c w hw hr
  have h8 := hsm.len
  have hb0 : Below w.heap.size w (w.alloc (exprO e A c)) := grow_alloc (grow_refl _) _
  have HP0 := Lib.hid (OutPost.below hw hb0)
  have HBK := Lib.hid (heap_alloc_new w (exprO e A c))
  have hq : w.heap.size ≠ q := by have := hw.lt; omega
  have HQ := Lib.hid hq
  have IH : Hid (∀ (i : Nat) (hi : i < e.kids.length) (xs : List Nm), xs.length + cntE e.kids[i] ≤ 10000 → ∀ (A : Option Addr) (c : Nat) (w : World), OutAt base q xs w → RdE w (fun k => k < base) e.kids[i].kids A →
    Calls Tryz.prog 34 #[exprV e.kids[i] A c, .func (.func 35) #[] #[.pointer (some ⟨q, 0, none⟩)]] w fun r w' => r = .returned (.tuple #[]) ∧ OutPost base q (callE e.kids[i] xs) w w') :=
    fun i hi => ih _ (List.getElem_mem hi) (hsm.kid _ (List.getElem_mem hi))
  have HR := Lib.hid hr
  have HCE := Lib.hid (callE_eq e xs)
  have HCC := Lib.hid (cntE_eq e)
  have HX := Lib.hid hxs
  clear ih hsm hxs hw hr hb0 hq
  unfold exprV at *
  unfold exprO at *
  go_enter Tryz.func34, Tryz.ntmps34
  go_wp2_with fail
  go_loopw [5, 9] (fun _ i wr => ∃ (k : Nat) (ys : List Nm), k ≤ e.kids.length ∧ i = .int .i64 k ∧ callK e.kids xs = callK (e.kids.drop k) ys ∧ ys.length + cntK (e.kids.drop k) < 10000 ∧ OutPost base q ys w wr ∧ wr.heap[w.heap.size]? = some (exprO e A c)) (fun _ i _ => e.kids.length - (intOf i).toNat)
  case atStart => exact ⟨0, xs, Nat.zero_le _, rfl, by simp, by have := HCC.out; have := HX.out; simp; omega, HP0.out, HBK.out⟩
  case round =>
    obtain ⟨k, ys, hk, rfl, hI, hcn, hp, hbox⟩ := hrel
    have HI := Lib.hid hI
    clear hI
    unfold exprO at hbox
    by_cases hlt : k < e.kids.length
    · obtain ⟨b', off, B, d, rfl, -, hcells, hnum, hkid⟩ := (HR.out.keep (keepsLow hp.bel) (fun _ h => h)).at hlt
      obtain ⟨c0, c1, c2, c3⟩ := cells_expr hcells
      have hlt' : (k : Int) < (e.kids.length : Int) := by omega
      have HS := Lib.hid (callK_step hlt ys)
      have hcs := cntK_step hlt
      have hln := callE_len e.kids[k] ys
      have hal : Below wr.heap.size wr (wr.alloc (exprO e.kids[k] B d)) := grow_alloc (grow_refl _) _
      have hp1 := hp.trans (OutPost.below hp.out hal)
      have hcall := IH.out k hlt ys (by omega) B d _ hp1.out (hkid.keep (keepsLow (hal.mono hp.out.base_le)) (fun _ h => h))
      unfold exprO at hcall hp1
      have HC := Lib.hid hcall
      have HP1 := Lib.hid hp1
      have HBX : Hid ((wr.alloc (exprO e.kids[k] B d)).heap[w.heap.size]? = some (exprO e (some ⟨b', off, none⟩) c)) := show _ = _ from (old_block wr _ (Array.getElem?_eq_some_iff.1 hbox).1).trans hbox
      have HN := Lib.hid (And.intro hcs hln)
      unfold exprO at HBX
      clear hcells hnum hkid hcs hln hal hp hp1 hcall hbox
      go_wp2_with (go_at_call 34; (with_reducible refine HC.out.mono ?_); rintro y w1 ⟨rfl, hp2⟩)
      go_roundw
      case rel => exact ⟨k + 1, callE e.kids[k] ys, by omega, by go_num, HI.out.trans HS.out, by have := HN.out.1; have := HN.out.2; omega, HP1.out.trans hp2, hp2.kp _ _ _ _ HQ.out expr_ne_str HBX.out⟩
      case measure => simp [intOf]; omega
    · have hk' : k = e.kids.length := by omega
      subst hk'
      have hys : callK e.kids xs = ys := by rw [HI.out, List.drop_length, callK_nil]
      have hyl : ys.length ≤ 10000 := by omega
      have d0 := cell_of_row _ _ 0 _ _ _ hbox
      have d2 := cell_of_row _ _ 2 _ _ _ hbox
      have HC := Lib.hid (calls11_any base q ys hyl e.name wr hp.out)
      have HP := Lib.hid hp
      by_cases hcl : e.kind = xCall
      · have t1 : ((mkB e.kind).toList == [99, 97, 108, 108]) = true := by rw [mkB_toList, hcl]; rfl
        have HF : Hid (callE e xs = pushN ys e.name) := show _ = _ by rw [HCE.out, if_pos hcl, hys]
        clear hcl hys hyl hp hbox
        go_wp2_with (go_at_call 35; (with_reducible refine HC.out.mono ?_); rintro y w1 ⟨rfl, hp2⟩)
        go_end0
        exact ⟨rfl, by rw [HF.out]; exact HP.out.trans hp2⟩
      · have t1 : ((mkB e.kind).toList == [99, 97, 108, 108]) = false := by rw [mkB_toList]; exact beq_eq_false_iff_ne.2 hcl
        have HF : Hid (callE e xs = ys) := show _ = _ by rw [HCE.out, if_neg hcl, hys]
        clear hcl hys hyl hp hbox
        go_wp2_with fail
        go_end0
        exact ⟨rfl, by rw [HF.out]; exact HP.out⟩
set_option maxHeartbeats 2000000 in
set_option maxRecDepth 100000 in
theorem calls1_any (base q : Nat) (xs : List Nm) (s : PStmt) (hsm : SmE s.e) (hxs : xs.length + cntE s.e ≤ 10000) (X : Option Addr) (x : Nat) (T : Option Addr) (t : Nat) (L : Option Addr) (l : Nat) (w : World) (h : OutAt base q xs w) (hX : RdE w (fun k => k < base) s.e.kids X) :
    Calls Tryz.prog 33 #[stmtV s X x T t L l, .pointer (some ⟨q, 0, none⟩)] w fun e w' => e = .returned (.tuple #[]) ∧ OutPost base q (stepC s xs) w w' := by
  have hb0 : Below w.heap.size w (w.alloc (stmtO s X x T t L l)) := grow_alloc (grow_refl _) _
  have hp0 := OutPost.below h hb0
  have hc := calls_any base q s.e hsm xs hxs X x _ hp0.out (hX.keep (keepsLow hp0.bel) (fun _ h => h))
  have HP0 := Lib.hid hp0
  unfold exprV at hc
  have HC := Lib.hid hc
  clear hb0 hp0 hc h hX
  unfold stmtV
  unfold stmtO at *
  go_enter Tryz.func33, Tryz.ntmps33
  go_wp2_with (go_at_call 34; (with_reducible refine HC.out.mono ?_); rintro y w1 ⟨rfl, hp2⟩)
  go_end0
  exact ⟨rfl, HP0.out.trans hp2⟩
theorem walkS_step (σ : PStmt → List Nm → List Nm) {ss : List PStmt} {k : Nat} (h : k < ss.length) (xs : List Nm) : walkS σ (ss.drop k) xs = walkS σ (ss.drop (k + 1)) (walkS σ ss[k].el (walkS σ ss[k].th (σ ss[k] xs))) := by
  rw [List.drop_eq_getElem_cons h, walkS_cons, walkT_eq]
theorem cntS_step {ss : List PStmt} {k : Nat} (h : k < ss.length) : cntS (ss.drop k) = cntT ss[k] + cntS (ss.drop (k + 1)) := by
  rw [List.drop_eq_getElem_cons h, cntS_cons]
def WalkV (base q : Nat) (ss : List PStmt) : Prop := ∀ (xs : List Nm), xs.length + cntS ss ≤ 10000 → ∀ (A : Option Addr) (c : Nat) (w : World), OutAt base q xs w → RdS w (fun k => k < base) ss A →
  Calls Tryz.prog 30 #[.slice A ss.length c, .func (.func 31) #[] #[.pointer (some ⟨q, 0, none⟩)]] w fun r w' => r = .returned (.tuple #[]) ∧ OutPost base q (walkS stepV ss xs) w w'
def WalkC (base q : Nat) (ss : List PStmt) : Prop := ∀ (xs : List Nm), xs.length + cntS ss ≤ 10000 → ∀ (A : Option Addr) (c : Nat) (w : World), OutAt base q xs w → RdS w (fun k => k < base) ss A →
  Calls Tryz.prog 30 #[.slice A ss.length c, .func (.func 33) #[] #[.pointer (some ⟨q, 0, none⟩)]] w fun r w' => r = .returned (.tuple #[]) ∧ OutPost base q (walkS stepC ss xs) w w'
set_option maxHeartbeats 4000000 in
set_option maxRecDepth 100000 in
theorem walkV_list (base q : Nat) (ss : List PStmt) (hlen : ss.length ≤ 30) (hsm : ∀ s ∈ ss, SmS s) (ih : ∀ s ∈ ss, WalkV base q s.th ∧ WalkV base q s.el) : WalkV base q ss := by
  intro xs hxs A c w hw hr
  have HP0 : Hid (OutPost base q xs w w) := OutPost.below hw (Below.refl _ _)
  have HR := Lib.hid hr
  have IH := Lib.hid ih
  have HSM := Lib.hid hsm
  have hq : w.heap.size ≠ q := by have := hw.lt; omega
  clear hr ih hsm hw
  go_enter Tryz.func30, Tryz.ntmps30
  go_wp2_with fail
  go_loopw [5, 8] (fun _ i wr => ∃ (k : Nat) (ys : List Nm), k ≤ ss.length ∧ i = .int .i64 k ∧ walkS stepV ss xs = walkS stepV (ss.drop k) ys ∧ ys.length + cntS (ss.drop k) ≤ 10000 ∧ OutPost base q ys w wr) (fun _ i _ => ss.length - (intOf i).toNat)
  case atStart => exact ⟨0, xs, Nat.zero_le _, rfl, by simp, by simpa using hxs, HP0.out⟩
  case round =>
    obtain ⟨k, ys, hk, rfl, hI, hcn, hp⟩ := hrel
    have HI := Lib.hid hI
    clear hI
    by_cases hlt : k < ss.length
    · obtain ⟨b', off, X, x, T, t, L, l, rfl, -, hcells, hnum, hX, hT, hL⟩ := (HR.out.keep (keepsLow hp.bel) (fun _ h => h)).at hlt
      obtain ⟨c0, c1, c2, c3, c4, c5, c6, c7⟩ := cells_stmt hcells
      have hlt' : (k : Int) < (ss.length : Int) := by omega
      have hst := walkS_step stepV hlt ys
      have hcs := cntS_step hlt
      have hih := IH.out ss[k] (List.getElem_mem hlt)
      have hsm := HSM.out ss[k] (List.getElem_mem hlt)
      obtain ⟨s, hs⟩ : ∃ s, ss[k] = s := ⟨_, rfl⟩
      rw [hs] at hcells hnum hX hT hL c0 c1 c2 c3 c4 c5 c6 c7 hst hcs hih hsm
      have hct := cntT_eq s
      have hl1 := stepV_ok s ys
      have hl2 := walkB_len stepV_ok s.th (stepV s ys)
      have hl3 := walkB_len stepV_ok s.el (walkS stepV s.th (stepV s ys))
      have hal : Below wr.heap.size wr (wr.alloc (stmtO s X x T t L l)) := grow_alloc (grow_refl _) _
      have hp1 := hp.trans (OutPost.below hp.out hal)
      have hkl := keepsLow (hal.mono hp.out.base_le)
      have hqr : wr.heap.size ≠ q := by have := hp.out.lt; omega
      have HBX := Lib.hid (heap_alloc_new wr (stmtO s X x T t L l))
      have HSEE := Lib.hid (vars1_any base q ys (by omega) s X x T t L l _ hp1.out)
      have HTH : Hid (∀ w', OutPost base q (stepV s ys) (wr.alloc (stmtO s X x T t L l)) w' → Calls Tryz.prog 30 #[.slice T s.th.length t, .func (.func 31) #[] #[.pointer (some ⟨q, 0, none⟩)]] w' fun r w'' => r = .returned (.tuple #[]) ∧ OutPost base q (walkS stepV s.th (stepV s ys)) w' w'') := fun w' hb =>
        hih.1 (stepV s ys) (by omega) T t w' hb.out ((hT.keep hkl (fun _ h => h)).keep (keepsLow hb.bel) (fun _ h => h))
      have HEL : Hid (∀ w', OutPost base q (walkS stepV s.th (stepV s ys)) (wr.alloc (stmtO s X x T t L l)) w' → Calls Tryz.prog 30 #[.slice L s.el.length l, .func (.func 31) #[] #[.pointer (some ⟨q, 0, none⟩)]] w' fun r w'' => r = .returned (.tuple #[]) ∧ OutPost base q (walkS stepV s.el (walkS stepV s.th (stepV s ys))) w' w'') := fun w' hb =>
        hih.2 (walkS stepV s.th (stepV s ys)) (by omega) L l w' hb.out ((hL.keep hkl (fun _ h => h)).keep (keepsLow hb.bel) (fun _ h => h))
      have HP1 := Lib.hid hp1
      have HST := Lib.hid hst
      have HNN : Hid ((walkS stepV s.el (walkS stepV s.th (stepV s ys))).length + cntS (ss.drop (k + 1)) ≤ 10000) := show _ ≤ _ by omega
      have HQR := Lib.hid hqr
      unfold stmtV at HSEE
      unfold stmtO at *
      clear hcells hnum hX hT hL hst hcs hih hsm hs hct hl1 hl2 hl3 hal hp hp1 hkl hqr
      go_wp2_with (first
        | (go_at_call 31; (with_reducible refine HSEE.out.mono ?_); rintro y w1 ⟨rfl, hp2⟩; have HK2 := Lib.hid (hp2.kp _ _ _ _ HQR.out stmt_ne_str HBX.out); obtain ⟨d0, d1, d2, d3, d4, d5, d6, d7⟩ := row8 HK2.out; have HP2 := Lib.hid hp2; clear hp2)
        | (go_at_call 30; (with_reducible refine (HTH.out _ HP2.out).mono ?_); rintro y w2 ⟨rfl, hp3⟩; have HK3 := Lib.hid (hp3.kp _ _ _ _ HQR.out stmt_ne_str HK2.out); obtain ⟨e0, e1, e2, e3, e4, e5, e6, e7⟩ := row8 HK3.out; have HP3 := Lib.hid (HP2.out.trans hp3); clear hp3)
        | (go_at_call 30; (with_reducible refine (HEL.out _ HP3.out).mono ?_); rintro y w3 ⟨rfl, hp4⟩))
      go_roundw
      case rel => exact ⟨k + 1, _, by omega, by go_num, HI.out.trans HST.out, HNN.out, HP1.out.trans (HP3.out.trans hp4)⟩
      case measure => simp [intOf]; omega
    · have hk' : k = ss.length := by omega
      subst hk'
      have HF : Hid (walkS stepV ss xs = ys) := show _ = _ by rw [HI.out, List.drop_length, walkS_nil]
      have HP := Lib.hid hp
      clear hp
      go_wp2_with fail
      go_end0
      exact ⟨rfl, by rw [HF.out]; exact HP.out⟩
theorem walkV_any (base q : Nat) (ss : List PStmt) (hlen : ss.length ≤ 30) (hsm : ∀ s ∈ ss, SmS s) : WalkV base q ss := by
  have each : ∀ s : PStmt, SmS s → WalkV base q s.th ∧ WalkV base q s.el := by
    intro s
    induction s using PStmt.ind with
    | h s iht ihl =>
      intro h
      exact ⟨walkV_list base q s.th h.lenT h.kidT fun k hk => iht k hk (h.kidT k hk), walkV_list base q s.el h.lenL h.kidL fun k hk => ihl k hk (h.kidL k hk)⟩
  exact walkV_list base q ss hlen hsm fun s hs => each s (hsm s hs)
set_option maxHeartbeats 4000000 in
set_option maxRecDepth 100000 in
theorem walkC_list (base q : Nat) (ss : List PStmt) (hlen : ss.length ≤ 30) (hsm : ∀ s ∈ ss, SmS s) (ih : ∀ s ∈ ss, WalkC base q s.th ∧ WalkC base q s.el) : WalkC base q ss := by
  intro xs hxs A c w hw hr
  have HP0 : Hid (OutPost base q xs w w) := OutPost.below hw (Below.refl _ _)
  have HR := Lib.hid hr
  have IH := Lib.hid ih
  have HSM := Lib.hid hsm
  have hq : w.heap.size ≠ q := by have := hw.lt; omega
  clear hr ih hsm hw
  go_enter Tryz.func30, Tryz.ntmps30
  go_wp2_with fail
  go_loopw [5, 8] (fun _ i wr => ∃ (k : Nat) (ys : List Nm), k ≤ ss.length ∧ i = .int .i64 k ∧ walkS stepC ss xs = walkS stepC (ss.drop k) ys ∧ ys.length + cntS (ss.drop k) ≤ 10000 ∧ OutPost base q ys w wr) (fun _ i _ => ss.length - (intOf i).toNat)
  case atStart => exact ⟨0, xs, Nat.zero_le _, rfl, by simp, by simpa using hxs, HP0.out⟩
  case round =>
    obtain ⟨k, ys, hk, rfl, hI, hcn, hp⟩ := hrel
    have HI := Lib.hid hI
    clear hI
    by_cases hlt : k < ss.length
    · obtain ⟨b', off, X, x, T, t, L, l, rfl, -, hcells, hnum, hX, hT, hL⟩ := (HR.out.keep (keepsLow hp.bel) (fun _ h => h)).at hlt
      obtain ⟨c0, c1, c2, c3, c4, c5, c6, c7⟩ := cells_stmt hcells
      have hlt' : (k : Int) < (ss.length : Int) := by omega
      have hst := walkS_step stepC hlt ys
      have hcs := cntS_step hlt
      have hih := IH.out ss[k] (List.getElem_mem hlt)
      have hsm := HSM.out ss[k] (List.getElem_mem hlt)
      obtain ⟨s, hs⟩ : ∃ s, ss[k] = s := ⟨_, rfl⟩
      rw [hs] at hcells hnum hX hT hL c0 c1 c2 c3 c4 c5 c6 c7 hst hcs hih hsm
      have hct := cntT_eq s
      have hl1 := stepC_ok s ys
      have hl2 := walkB_len stepC_ok s.th (stepC s ys)
      have hl3 := walkB_len stepC_ok s.el (walkS stepC s.th (stepC s ys))
      have hal : Below wr.heap.size wr (wr.alloc (stmtO s X x T t L l)) := grow_alloc (grow_refl _) _
      have hp1 := hp.trans (OutPost.below hp.out hal)
      have hkl := keepsLow (hal.mono hp.out.base_le)
      have hqr : wr.heap.size ≠ q := by have := hp.out.lt; omega
      have HBX := Lib.hid (heap_alloc_new wr (stmtO s X x T t L l))
      have HSEE := Lib.hid (calls1_any base q ys s hsm.expr (by omega) X x T t L l _ hp1.out (hX.keep hkl (fun _ h => h)))
      have HTH : Hid (∀ w', OutPost base q (stepC s ys) (wr.alloc (stmtO s X x T t L l)) w' → Calls Tryz.prog 30 #[.slice T s.th.length t, .func (.func 33) #[] #[.pointer (some ⟨q, 0, none⟩)]] w' fun r w'' => r = .returned (.tuple #[]) ∧ OutPost base q (walkS stepC s.th (stepC s ys)) w' w'') := fun w' hb =>
        hih.1 (stepC s ys) (by omega) T t w' hb.out ((hT.keep hkl (fun _ h => h)).keep (keepsLow hb.bel) (fun _ h => h))
      have HEL : Hid (∀ w', OutPost base q (walkS stepC s.th (stepC s ys)) (wr.alloc (stmtO s X x T t L l)) w' → Calls Tryz.prog 30 #[.slice L s.el.length l, .func (.func 33) #[] #[.pointer (some ⟨q, 0, none⟩)]] w' fun r w'' => r = .returned (.tuple #[]) ∧ OutPost base q (walkS stepC s.el (walkS stepC s.th (stepC s ys))) w' w'') := fun w' hb =>
        hih.2 (walkS stepC s.th (stepC s ys)) (by omega) L l w' hb.out ((hL.keep hkl (fun _ h => h)).keep (keepsLow hb.bel) (fun _ h => h))
      have HP1 := Lib.hid hp1
      have HST := Lib.hid hst
      have HNN : Hid ((walkS stepC s.el (walkS stepC s.th (stepC s ys))).length + cntS (ss.drop (k + 1)) ≤ 10000) := show _ ≤ _ by omega
      have HQR := Lib.hid hqr
      unfold stmtV at HSEE
      unfold stmtO at *
      clear hcells hnum hX hT hL hst hcs hih hsm hs hct hl1 hl2 hl3 hal hp hp1 hkl hqr
      go_wp2_with (first
        | (go_at_call 33; (with_reducible refine HSEE.out.mono ?_); rintro y w1 ⟨rfl, hp2⟩; have HK2 := Lib.hid (hp2.kp _ _ _ _ HQR.out stmt_ne_str HBX.out); obtain ⟨d0, d1, d2, d3, d4, d5, d6, d7⟩ := row8 HK2.out; have HP2 := Lib.hid hp2; clear hp2)
        | (go_at_call 30; (with_reducible refine (HTH.out _ HP2.out).mono ?_); rintro y w2 ⟨rfl, hp3⟩; have HK3 := Lib.hid (hp3.kp _ _ _ _ HQR.out stmt_ne_str HK2.out); obtain ⟨e0, e1, e2, e3, e4, e5, e6, e7⟩ := row8 HK3.out; have HP3 := Lib.hid (HP2.out.trans hp3); clear hp3)
        | (go_at_call 30; (with_reducible refine (HEL.out _ HP3.out).mono ?_); rintro y w3 ⟨rfl, hp4⟩))
      go_roundw
      case rel => exact ⟨k + 1, _, by omega, by go_num, HI.out.trans HST.out, HNN.out, HP1.out.trans (HP3.out.trans hp4)⟩
      case measure => simp [intOf]; omega
    · have hk' : k = ss.length := by omega
      subst hk'
      have HF : Hid (walkS stepC ss xs = ys) := show _ = _ by rw [HI.out, List.drop_length, walkS_nil]
      have HP := Lib.hid hp
      clear hp
      go_wp2_with fail
      go_end0
      exact ⟨rfl, by rw [HF.out]; exact HP.out⟩
theorem walkC_any (base q : Nat) (ss : List PStmt) (hlen : ss.length ≤ 30) (hsm : ∀ s ∈ ss, SmS s) : WalkC base q ss := by
  have each : ∀ s : PStmt, SmS s → WalkC base q s.th ∧ WalkC base q s.el := by
    intro s
    induction s using PStmt.ind with
    | h s iht ihl =>
      intro h
      exact ⟨walkC_list base q s.th h.lenT h.kidT fun k hk => iht k hk (h.kidT k hk), walkC_list base q s.el h.lenL h.kidL fun k hk => ihl k hk (h.kidL k hk)⟩
  exact walkC_list base q ss hlen hsm fun s hs => each s (hsm s hs)
end Go.Proofs.YtnpdjncgilekhaaGreatDoor

namespace Go.Proofs.YtnpdjncgilekhaaGreatDoor
open Go.RowKit

/-- A call that hands texts back. -/
def RetT (xs : List Nm) (w : World) : Ending → World → Prop := fun e w' => ∃ A c, e = .returned (.slice A xs.length c) ∧ Row w' A (strVs xs) ∧ xs.length ≤ c ∧ Below w.heap.size w w'
theorem vars_len {f : PFun} (h : SmF f) (hz : szS f.body 0 < 1000) : (varsP f).length ≤ 1008 := by
  have h1 := walkB_len stepV_ok f.body f.params
  have h2 := cntB_le hz
  have := h.params
  unfold varsP; omega
theorem calls_len {f : PFun} (hz : szS f.body 0 < 1000) : (callsP f).length ≤ 1000 := by
  have h1 := walkB_len stepC_ok f.body []
  have h2 := cntB_le hz
  unfold callsP; simp at h1; omega
theorem out_made {w0 w1 : World} {base : Nat} {xs : List Nm} {v : Value} (hb : base ≤ w0.heap.size) (hb1 : Below w0.heap.size w0 w1) (h : w1.ownsRow w0.heap.size 9 1 v xs.length (strVs xs)) : OutAt base w1.heap.size xs (w1.alloc (.cells #[v] 35)) := by
  have s1 := hb1.size
  have o1 := owned_mono h hb
  exact ⟨by omega, by simp, v, heap_alloc_new w1 _, o1.alloc _, fun e => by have := (o1.lt _ e).2; omega⟩
theorem out_slice {base q : Nat} {xs : List Nm} {w : World} (h : OutAt base q xs w) : ∃ A c, w.cell? ⟨q, 0, none⟩ = some (.slice A xs.length c) ∧ Row w A (strVs xs) ∧ xs.length ≤ c := by
  obtain ⟨v, h1, h2, _⟩ := h.cell
  obtain ⟨A, c, rfl, h3, h4⟩ := owns_Row h2
  exact ⟨A, c, cell_of_row _ _ 0 _ _ _ h1, h3, h4⟩
set_option maxHeartbeats 2000000 in
set_option maxRecDepth 100000 in
theorem Vars_any (f : PFun) (hsm : SmF f) (hz : szS f.body 0 < 1000) (S : Nat → Prop) (P : Option Addr) (p : Nat) (B : Option Addr) (c : Nat) (w : World) (hT : RdT w S f.params P) (hok : PrmOk f P p) (hB : RdS w S f.body B) :
    Calls Tryz.prog 12 #[funV f P p B c] w (RetT (varsP f) w) := by
  have hb0 : Below w.heap.size w (w.alloc (funO f P p B c)) := grow_alloc (grow_refl _) _
  have HBK := Lib.hid (heap_alloc_new w (funO f P p B c))
  have HCL := Lib.hid (clone_any f.params hsm.params P p _ (rdT_row (hT.keep ((Keeps.of_below hb0).in S) (fun _ h => h))) hok.1)
  have hcn := cntB_le hz
  have HWK : Hid (∀ q w', OutAt (w.heap.size + 1) q f.params w' → Below w.heap.size w w' → Calls Tryz.prog 30 #[.slice B f.body.length c, .func (.func 31) #[] #[.pointer (some ⟨q, 0, none⟩)]] w' fun r w'' => r = .returned (.tuple #[]) ∧ OutPost (w.heap.size + 1) q (varsP f) w' w'') := fun q w' ho hb =>
    walkV_any (w.heap.size + 1) q f.body hsm.body hsm.stmts f.params (by have := hsm.params; omega) B c w' ho ((hB.lt.keep ((Keeps.of_below hb).in _) (fun _ h => h)).keep ((Keeps.refl _).in _) (fun k hk => by have := hk.2; omega))
  have HQ : Hid (RetT (varsP f) w = RetT (varsP f) w) := Lib.hid rfl
  have HB0 := Lib.hid hb0
  clear hT hok hB hb0 hcn
  unfold funV
  unfold funO at *
  go_enter Tryz.func12, Tryz.ntmps12
  go_wp2_with (first
    | (go_at_call 29; (with_reducible refine HCL.out.mono ?_); rintro y w1 ⟨v, rfl, ho, hb1⟩; obtain ⟨A1, c1, rfl⟩ := owns_slice ho; obtain ⟨d0, d1, d2⟩ := row3 ((hb1.block w.heap.size (by simp)).trans HBK.out); have e2 := Keeps.alloc w1 (.cells #[.slice A1 f.params.length c1] 35) _ _ d2; have HO := Lib.hid (out_made (base := w.heap.size + 1) (by simp) hb1 ho); have HB1 := Lib.hid (grow_alloc (grow_trans HB0.out hb1) (.cells #[.slice A1 f.params.length c1] 35)))
    | (go_at_call 30; (with_reducible refine (HWK.out _ _ HO.out HB1.out).mono ?_); rintro y w2 ⟨rfl, hp2⟩; obtain ⟨A2, c2, e0, hrow, hcap⟩ := out_slice hp2.out; have HR := Lib.hid hrow; have HP := Lib.hid hp2.bel; clear hp2 hrow))
  go_ret
  exact ⟨A2, c2, rfl, HR.out, hcap, HB1.out.trans (HP.out.mono (by omega))⟩
set_option maxHeartbeats 2000000 in
set_option maxRecDepth 100000 in
theorem Calls_any (f : PFun) (hsm : SmF f) (hz : szS f.body 0 < 1000) (S : Nat → Prop) (P : Option Addr) (p : Nat) (B : Option Addr) (c : Nat) (w : World) (hB : RdS w S f.body B) :
    Calls Tryz.prog 14 #[funV f P p B c] w (RetT (callsP f) w) := by
  have hb0 : Below w.heap.size w (w.alloc (funO f P p B c)) := grow_alloc (grow_refl _) _
  have HBK := Lib.hid (heap_alloc_new w (funO f P p B c))
  have hcn := cntB_le hz
  have HWK : Hid (∀ q w', OutAt (w.heap.size + 1) q [] w' → Below w.heap.size w w' → Calls Tryz.prog 30 #[.slice B f.body.length c, .func (.func 33) #[] #[.pointer (some ⟨q, 0, none⟩)]] w' fun r w'' => r = .returned (.tuple #[]) ∧ OutPost (w.heap.size + 1) q (callsP f) w' w'') := fun q w' ho hb =>
    walkC_any (w.heap.size + 1) q f.body hsm.body hsm.stmts [] (by simp; omega) B c w' ho ((hB.lt.keep ((Keeps.of_below hb).in _) (fun _ h => h)).keep ((Keeps.refl _).in _) (fun k hk => by have := hk.2; omega))
  have HB0 := Lib.hid hb0
  have HO : Hid (OutAt (w.heap.size + 1) (w.heap.size + 1) [] ((w.alloc (funO f P p B c)).alloc (.cells #[.slice none 0 0] 35))) := by
    have := out_made (w0 := w.alloc (funO f P p B c)) (w1 := w.alloc (funO f P p B c)) (base := w.heap.size + 1) (xs := []) (v := .slice none 0 0) (by simp) (Below.refl _ _) (World.ownsRow_nil _ _ _ _)
    rw [show (w.alloc (funO f P p B c)).heap.size = w.heap.size + 1 by simp] at this
    exact this
  have HB1 := Lib.hid (grow_alloc hb0 (.cells #[.slice none 0 0] 35))
  clear hB hb0 hcn
  unfold funV
  unfold funO at *
  go_enter Tryz.func14, Tryz.ntmps14
  go_wp2_with (go_at_call 30; (with_reducible refine (HWK.out _ _ HO.out HB1.out).mono ?_); rintro y w2 ⟨rfl, hp2⟩; obtain ⟨A2, c2, e0, hrow, hcap⟩ := out_slice hp2.out; have HR := Lib.hid hrow; have HP := Lib.hid hp2.bel; clear hp2 hrow)
  go_ret
  exact ⟨A2, c2, rfl, HR.out, hcap, HB1.out.trans (HP.out.mono (by omega))⟩
end Go.Proofs.YtnpdjncgilekhaaGreatDoor

namespace Go.Proofs.YtnpdjncgilekhaaGreatDoor
open Go.RowKit

/-! the document's variables and calls -/
theorem append_none2 {P : Program} (w : World) (t ty e : TypeId) (i : TypeInfo) (ht : P.underlying t = some (.slice e)) (hi : P.info? e = some i) (A : Option Addr) (n c : Nat) (hle : n ≤ c) (X : Option Addr) (d : Nat) :
    (Builtin.append_ #[t, t] ty #[.slice A n c, .slice X 0 d]).run P w = .ok (.slice A n c) w := by
  cases A <;> cases X <;> simp [Builtin.append_, run_underlying ht, sizeOf, typeInfo, hi, Builtin.lenOf, Builtin.firstCells, loadCells, loadCellsFrom, hle, storeCells]
set_option maxRecDepth 100000 in
theorem wpList_append_strs {w : World} {ops : Array Oper} {rest : List Oper} {o : Oper} {a : Act} {Q : Exit → Act → World → Prop} (hgd : o.guard = none) (s x : Operand)
    (ho : o.op = .call { callee := .builtin .append, args := #[s, x], argTypes := #[35, 35] }) (base : Nat) (v : Value) (xs ys : List Nm) (hs : a.eval s = v)
    (hown : w.ownsRow base 9 1 v xs.length (strVs xs)) (X : Option Addr) (c : Nat) (hx : a.eval x = .slice X ys.length c) (hrow : Row w X (strVs ys)) (hn : xs.length + ys.length ≤ 100000) (hbase : base ≤ w.heap.size)
    (h : ∀ A' n' c' w', w'.ownsRow base 9 1 (.slice A' n' c') (xs ++ ys).length (strVs (xs ++ ys)) → w.grownBy w' v.ownBlock → ((Value.slice A' n' c').ownBlock = v.ownBlock ∨ (Value.slice A' n' c').ownBlock = some w.heap.size) →
      wpList Tryz.prog ops Q rest (a.put o.dst (.slice A' n' c')) w') :
    wpList Tryz.prog ops Q (o :: rest) a w := by
  obtain ⟨i0, hi, hz0, hz1, hz2⟩ := info_parts strInfo2
  cases ys with
  | nil =>
    obtain ⟨A, d, rfl, -, hcap⟩ := owns_Row hown
    refine wpList_plain hgd fun K hK => ?_
    unfold Oper.wp execOp
    simp only [ho, resolve, invoke, builtin, Sem.run_bind, Sem.run_pure, Result.andThen_ok, List.map_toArray, List.map_cons, List.map_nil, hs, hx, List.length_nil, append_none2 w _ o.type _ i0 Tryz.underlying35 hi A xs.length d hcap X c]
    exact hK _ _ (h A xs.length d w (by rw [List.append_nil]; exact hown) ⟨rfl, rfl, rfl, Nat.le_refl _, fun _ _ _ => rfl⟩ (.inl rfl))
  | cons y ys =>
    obtain ⟨b, off, rfl, -⟩ := hrow 0 _ rfl
    refine wpList_append_own_at _ hgd s x 35 ho base 9 i0 _ 1 16 Tryz.underlying35 hi hz0 hz1 hz2 rfl (by decide) v xs.length (strVs xs) hs hown ⟨b, off, none⟩ (y :: ys).length c (strVs (y :: ys)) hx (by simp [strVs]) (fun j u hj => ?_) (fun u hu => ?_) (by unfold maxLen; omega) (by omega) hbase (fun v' w' g1 g2 _ g4 => ?_)
    · obtain ⟨b2, off2, e, hc⟩ := hrow j u hj
      injection e with e
      injection e with e1 e2 _
      subst e1; subst e2
      have hadd : (⟨b, off, none⟩ : Addr).add j = ⟨b, off + j, none⟩ := by unfold Addr.add; split <;> simp_all
      rw [hadd]; exact hc
    · simp only [strVs, List.mem_map] at hu
      obtain ⟨z, _, rfl⟩ := hu
      rfl
    · have e : strVs xs ++ strVs (y :: ys) = strVs (xs ++ y :: ys) := by simp [strVs]
      rw [e, ← List.length_append] at g1
      obtain ⟨A', c', rfl⟩ := owns_slice g1
      exact h A' _ c' w' g1 g2 g4

theorem own_two' {w0 w1 w2 : World} {e : TypeId} {v1 v2 : Value} {n m : Nat} {xs ys : List Value} (h1 : w1.ownsRow w0.heap.size e 1 v1 n xs) (h2 : w2.ownsRow w1.heap.size e 1 v2 m ys) : v2.ownBlock = none ∨ v1.ownBlock ≠ v2.ownBlock := by
  cases hv : v2.ownBlock with
  | none => exact .inl rfl
  | some k =>
    refine .inr fun q => ?_
    have a1 := (h1.lt _ q).2
    have a2 := (h2.lt _ hv).1
    omega
mutual
def allVT : PStmt → List Nm
  | ⟨kind, name, _, th, el⟩ => (if kind = sVar then [name] else []) ++ allV th ++ allV el
def allV : List PStmt → List Nm
  | [] => []
  | s :: ss => allVT s ++ allV ss
end
theorem allVT_eq (s : PStmt) : allVT s = (if s.kind = sVar then [s.name] else []) ++ allV s.th ++ allV s.el := by cases s; rw [allVT]
theorem allV_nil : allV [] = [] := by rw [allV]
theorem allV_cons (s : PStmt) (ss : List PStmt) : allV (s :: ss) = allVT s ++ allV ss := by rw [allV]
theorem allV_step {ss : List PStmt} {k : Nat} (h : k < ss.length) : allV (ss.drop k) = allVT ss[k] ++ allV (ss.drop (k + 1)) := by rw [List.drop_eq_getElem_cons h, allV_cons]
theorem walkV_of : ∀ (ss : List PStmt), (∀ s ∈ ss, ∀ xs, walkT stepV s xs = xs ++ allVT s) → ∀ xs, walkS stepV ss xs = xs ++ allV ss := by
  intro ss
  induction ss with
  | nil => intro _ xs; rw [walkS_nil, allV_nil, List.append_nil]
  | cons s ss ih =>
    intro h xs
    rw [walkS_cons, h s (by simp), ih (fun x hx => h x (by simp [hx])), allV_cons, List.append_assoc]
theorem walkT_all : ∀ (s : PStmt) (xs : List Nm), walkT stepV s xs = xs ++ allVT s := by
  intro s
  induction s using PStmt.ind with
  | h s iht ihl =>
    intro xs
    rw [walkT_eq, walkV_of _ iht, walkV_of _ ihl, allVT_eq]
    unfold stepV
    split <;> simp
theorem varsP_all (f : PFun) : varsP f = f.params ++ allV f.body := walkV_of f.body (fun s _ => walkT_all s) f.params
theorem allV_len (ss : List PStmt) : (allV ss).length ≤ cntS ss := by
  have h := walkB_len stepV_ok ss []
  rw [walkV_of ss (fun s _ => walkT_all s)] at h
  simpa using h
def VarsIn (ss : List PStmt) : Prop := ∀ (S : Nat → Prop) (A : Option Addr) (c : Nat) (w : World), RdS w S ss A → (allV ss).length ≤ 1000 →
  Calls Tryz.prog 32 #[.slice A ss.length c] w fun e w' => ∃ v, e = .returned v ∧ w'.ownsRow w.heap.size 9 1 v (allV ss).length (strVs (allV ss)) ∧ Below w.heap.size w w'
set_option maxHeartbeats 4000000 in
set_option maxRecDepth 100000 in
theorem varsIn_list (ss : List PStmt) (hlen : ss.length ≤ 30) (hq : ∀ s ∈ ss, VarsIn s.th ∧ VarsIn s.el) : VarsIn ss := by
  intro S A c w hr hn
  have HR := Lib.hid hr
  have HQ := Lib.hid hq
  have HN := Lib.hid hn
  clear hr hq hn
  go_enter Tryz.func32, Tryz.ntmps32
  go_wp2_with fail
  go_loopw [3, 4, 5, 6] (fun v i _ _ wr => ∃ (k : Nat) (l : List Nm), k ≤ ss.length ∧ i = .int .i64 k ∧ l ++ allV (ss.drop k) = allV ss ∧ wr.ownsRow w.heap.size 9 1 v l.length (strVs l) ∧ Below w.heap.size w wr) (fun _ i _ _ _ => ss.length - (intOf i).toNat)
  case atStart => exact ⟨0, [], Nat.zero_le _, rfl, by simp, World.ownsRow_nil _ _ _ _, Below.refl _ _⟩
  case round =>
    obtain ⟨k, l, hk, rfl, hl, hown, hbel⟩ := hrel
    obtain ⟨A1, c1, rfl⟩ := owns_slice hown
    have HL := Lib.hid hl
    have HO := Lib.hid hown
    have HB := Lib.hid hbel
    clear hl hown hbel
    by_cases hlt : k < ss.length
    · obtain ⟨b', off, X, x, T, t, L, l', rfl, -, hcells, -, -, hT, hL⟩ := HR.out.at hlt
      have hlt' : (k : Int) < (ss.length : Int) := by omega
      have hst := allV_step hlt
      have hqs := HQ.out ss[k] (List.getElem_mem hlt)
      obtain ⟨s, hs⟩ : ∃ s, ss[k] = s := ⟨_, rfl⟩
      rw [hs] at hcells hT hL hst hqs
      have hlen1 : l.length + ((if s.kind = sVar then [s.name] else []).length + (allV s.th).length + (allV s.el).length) + (allV (ss.drop (k + 1))).length ≤ 1000 := by
        have := congrArg List.length HL.out
        rw [hst, allVT_eq] at this
        simp only [List.length_append] at this
        have := HN.out
        omega
      have HTC : Hid (∀ w', Below w.heap.size w w' → Calls Tryz.prog 32 #[.slice T s.th.length t] w' fun e w'' => ∃ v, e = .returned v ∧ w''.ownsRow w'.heap.size 9 1 v (allV s.th).length (strVs (allV s.th)) ∧ Below w'.heap.size w' w'') := fun w' hb =>
        hqs.1 S T t w' (hT.keep ((Keeps.of_below hb).in S) (fun _ h => h)) (by omega)
      have HLC : Hid (∀ w', Below w.heap.size w w' → Calls Tryz.prog 32 #[.slice L s.el.length l'] w' fun e w'' => ∃ v, e = .returned v ∧ w''.ownsRow w'.heap.size 9 1 v (allV s.el).length (strVs (allV s.el)) ∧ Below w'.heap.size w' w'') := fun w' hb =>
        hqs.2 S L l' w' (hL.keep ((Keeps.of_below hb).in S) (fun _ h => h)) (by omega)
      have HCE : Hid (∀ w', Below w.heap.size w w' → _) := fun w' hb => cells_stmt (hcells.keep fun a v _ hv => Keeps.of_below hb a v hv)
      obtain ⟨d0, d1, d2, d3, d4, d5, d6, d7⟩ := HCE.out _ HB.out
      have HST := Lib.hid hst
      obtain ⟨l1, hl1⟩ : ∃ l1, l ++ (if s.kind = sVar then [s.name] else []) = l1 := ⟨_, rfl⟩
      have hlen2 : l1.length + (allV s.th).length + (allV s.el).length ≤ 1000 := by rw [← hl1, List.length_append]; omega
      have HL1 := Lib.hid hl1
      have hl0 : l.length ≤ 1000 := by omega
      have hth1 : (allV s.th).length ≤ 1000 := by omega
      obtain ⟨kv, t0⟩ : ∃ kv, ((mkB s.kind).toList == [118, 97, 114]) = kv := ⟨_, rfl⟩
      have hbz := HB.out.size
      clear hcells hT hL hqs hs hst hl1 hlen1
      go_upto_if 18 with fail
      have HKV := Lib.hid t0
      clear t0
      go_cut [3] (fun v wx => ∃ A2 n2 c2, v = .slice A2 n2 c2 ∧ wx.ownsRow w.heap.size 9 1 (.slice A2 n2 c2) l1.length (strVs l1) ∧ Below w.heap.size w wx)
      case first =>
        cases kv
        · have hk : s.kind ≠ sVar := by have := HKV.out; rw [mkB_toList] at this; exact beq_eq_false_iff_ne.1 this
          have e : l1 = l := by rw [← HL1.out, if_neg hk, List.append_nil]
          have HE := Lib.hid e
          clear e hk
          go_wp2_with fail
          go_meet
          rw [HE.out]
          exact ⟨A1, _, c1, rfl, HO.out, HB.out⟩
        · have hk : s.kind = sVar := by have := HKV.out; rw [mkB_toList] at this; exact beq_iff_eq.1 this
          have e : l ++ [s.name] = l1 := by rw [← HL1.out, if_pos hk]
          have HE := Lib.hid e
          have HRW : Hid (Row (wr.alloc (.cells #[.string (mkB s.name)] 9)) (some ⟨wr.heap.size, 0, none⟩) (strVs [s.name])) := Row.new wr (strVs [s.name]).toArray 9
          clear e hk
          go_wp2_with (at_builtin; refine wpList_append_strs rfl _ _ rfl w.heap.size _ l [s.name] rfl (HO.out.alloc _) (some ⟨wr.heap.size, 0, none⟩) 1 rfl HRW.out (by simp; omega) (by simp; omega) ?_)
          intro A' n' c' w' g1 g2 g3
          have hb := Below.grown (HB.out.alloc hbz (.cells #[.string (mkB s.name)] 9)) g2 (by simp; omega) (fun k hk => (HO.out.lt k hk).1)
          have hle : l.length + 1 = l1.length := by rw [← HE.out]; simp
          rw [HE.out] at g1
          have g1 : w'.ownsRow w.heap.size 9 1 (.slice A' n' c') l1.length (strVs l1) := hle ▸ g1
          clear hle
          have HG := Lib.hid g1
          have HBB := Lib.hid hb
          clear g1 g2 g3 hb
          go_wp2_with fail
          go_meet
          exact ⟨_, _, _, rfl, HG.out, HBB.out⟩
      case rest =>
        obtain ⟨A2, n2, c2, rfl, ho2, hb2⟩ := hcut
        have HO2 := Lib.hid ho2
        have HB2 := Lib.hid hb2
        obtain ⟨e0, e1, e2, e3, e4, e5, e6, e7⟩ := HCE.out _ hb2
        clear ho2 hb2 d0 d1 d2 d3 d4 d5 d6 d7
        go_wp2_with (first
          | (go_at_call 32; (with_reducible refine (HTC.out _ HB2.out).mono ?_); rintro y w3 ⟨v3, rfl, ho3, hb3⟩; obtain ⟨A3, c3, rfl, hr3, -⟩ := owns_Row ho3; have HR3 := Lib.hid hr3; have HO3 := Lib.hid (ownsRow_below HO2.out hb3); have HB3 := Lib.hid (grow_trans HB2.out hb3); obtain ⟨f0, f1, f2, f3, f4, f5, f6, f7⟩ := HCE.out _ HB3.out; clear ho3 hb3 hr3)
          | (go_at_call 32; (with_reducible refine (HLC.out _ HB3.out).mono ?_); rintro y w4 ⟨v4, rfl, ho4, hb4⟩; have hne4 := own_two' HO3.out ho4; obtain ⟨A4, c4, rfl, hr4, -⟩ := owns_Row ho4; have HR4 := Lib.hid (HR3.out.keep (Keeps.of_below hb4)); have HO4 := Lib.hid (ownsRow_below HO3.out hb4); have HV4 := Lib.hid ho4; have HNE4 := Lib.hid hne4; have HB4 := Lib.hid (grow_trans HB3.out hb4); have hz4 := HB4.out.size; clear ho4 hb4 hr4 hne4)
          | (at_builtin; refine wpList_append_strs rfl _ _ rfl w.heap.size _ l1 (allV s.th) rfl HO4.out _ _ rfl HR4.out (by omega) hz4 ?_; intro A5 n5 c5 w5 g1 g2 g3; have HO5 := Lib.hid g1; have HB5 := Lib.hid (Below.grown HB4.out g2 hz4 (fun k hk => (HO4.out.lt k hk).1)); have HV5 := Lib.hid (HV4.out.kept g2 (by rcases HNE4.out with q | q; exact .inl q; exact .inr (fun e => q e.symm))); have HR5 := Lib.hid (show Row w5 A4 (strVs (allV s.el)) by obtain ⟨A6, c6, q, q2, -⟩ := owns_Row HV5.out; injection q with q _ _; rw [q]; exact q2); have hz5 := HB5.out.size; clear g1 g2 g3)
          | (at_builtin; refine wpList_append_strs rfl _ _ rfl w.heap.size _ (l1 ++ allV s.th) (allV s.el) rfl HO5.out _ _ rfl HR5.out (by rw [List.length_append]; omega) hz5 ?_; intro A7 n7 c7 w7 g1 g2 g3; have HO7 := Lib.hid g1; have HB7 := Lib.hid (Below.grown HB5.out g2 hz5 (fun k hk => (HO5.out.lt k hk).1)); clear g1 g2 g3))
        go_roundw
        case rel => exact ⟨k + 1, (l1 ++ allV s.th) ++ allV s.el, by omega, by go_num, by rw [← HL.out, HST.out, allVT_eq, ← HL1.out]; simp only [List.append_assoc], HO7.out, HB7.out⟩
        case measure => simp [intOf]; omega
    · have hk' : k = ss.length := by omega
      subst hk'
      have hl := HL.out
      rw [List.drop_length, allV_nil, List.append_nil] at hl
      have HL2 := Lib.hid hl
      clear hl
      go_wp2_with fail
      go_ret
      exact ⟨_, rfl, HL2.out ▸ HO.out, HB.out⟩
theorem varsIn_any (ss : List PStmt) (hlen : ss.length ≤ 30) (h : ∀ s ∈ ss, SmS s) : VarsIn ss := by
  have each : ∀ s : PStmt, SmS s → VarsIn s.th ∧ VarsIn s.el := by
    intro s
    induction s using PStmt.ind with
    | h s iht ihl =>
      intro hsm
      exact ⟨varsIn_list s.th hsm.lenT (fun k hk => iht k hk (hsm.kidT k hk)), varsIn_list s.el hsm.lenL (fun k hk => ihl k hk (hsm.kidL k hk))⟩
  exact varsIn_list ss hlen (fun s hs => each s (h s hs))
def rfunO (f : PFun) (P : Option Addr) (p : Nat) (B : Option Addr) (c : Nat) : Obj := .cells #[.string (mkB f.name), .slice P f.params.length p, .slice B f.body.length c] 43
set_option maxHeartbeats 2000000 in
set_option maxRecDepth 100000 in
theorem VarsOf_any (f : PFun) (hsm : SmF f) (hz : szS f.body 0 < 1000) (S : Nat → Prop) (P : Option Addr) (p : Nat) (B : Option Addr) (c : Nat) (w : World) (hp : RdT w S f.params P) (hB : RdS w S f.body B) :
    Calls Tryz.prog 13 #[funV f P p B c] w (RetT (varsP f) w) := by
  have h8 := hsm.params
  have hn := allV_len f.body
  have hn2 := cntB_le hz
  have hb0 : Below w.heap.size w (w.alloc (rfunO f P p B c)) := grow_alloc (grow_refl _) _
  have HB0 := Lib.hid hb0
  have HBK := Lib.hid (heap_alloc_new w (rfunO f P p B c))
  have HRW : Hid (∀ w', Below w.heap.size w w' → Row w' P (strVs f.params)) := fun w' hb => rdT_row (hp.keep ((Keeps.of_below hb).in S) (fun _ h => h))
  have HVI : Hid (∀ w', Below w.heap.size w w' → Calls Tryz.prog 32 #[.slice B f.body.length c] w' fun e w'' => ∃ v, e = .returned v ∧ w''.ownsRow w'.heap.size 9 1 v (allV f.body).length (strVs (allV f.body)) ∧ Below w'.heap.size w' w'') := fun w' hb =>
    varsIn_any f.body hsm.body hsm.stmts S B c w' (hB.keep ((Keeps.of_below hb).in S) (fun _ h => h)) (by omega)
  have HE := Lib.hid (varsP_all f)
  have HN0 : Hid ((w.alloc (rfunO f P p B c)).ownsRow (w.heap.size + 1) 9 1 (.slice none 0 0) ([] : List Nm).length (strVs [])) := World.ownsRow_nil _ _ _ _
  have hlv : (allV f.body).length ≤ 1000 := by omega
  clear hp hB hb0 hn hn2 hsm
  unfold funV
  unfold rfunO at *
  go_enter Tryz.func13, Tryz.ntmps13
  go_wp2_with (first
    | (at_builtin; refine wpList_append_strs rfl _ _ rfl (w.heap.size + 1) _ [] f.params rfl HN0.out _ _ rfl (HRW.out _ HB0.out) (by simp; omega) (by simp) ?_; intro A1 n1 c1 w1 g1 g2 g3; have HO1 := Lib.hid (show w1.ownsRow (w.heap.size + 1) 9 1 (.slice A1 n1 c1) f.params.length (strVs f.params) from g1); have hz4 : w.heap.size + 1 ≤ w1.heap.size := (by have := g2.size; simp at this; exact this); have hb1 := Below.grown HB0.out g2 (by simp) (fun k hk => by cases hk); have HB1 := Lib.hid hb1; have HK1 : Hid (w1.heap[w.heap.size]? = _) := (g2.block _ (by simp) (fun q => by cases q)).trans HBK.out; obtain ⟨d0, d1, d2⟩ := row3 HK1.out; clear g1 g2 g3 hb1)
    | (go_at_call 32; (with_reducible refine (HVI.out _ HB1.out).mono ?_); rintro y w2 ⟨v2, rfl, ho2, hb2⟩; obtain ⟨A2, c2, rfl, hr2, -⟩ := owns_Row ho2; have HR2 := Lib.hid hr2; have HO2 := Lib.hid (ownsRow_below HO1.out hb2); have HB2 := Lib.hid (grow_trans HB1.out hb2); have hz2 := HB2.out.size; have hz3 := hb2.size; clear ho2 hb2 hr2)
    | (at_builtin; (refine wpList_append_strs rfl _ _ rfl (w.heap.size + 1) _ f.params (allV f.body) rfl HO2.out _ _ rfl HR2.out (by omega) (by omega) ?_; intro A3 n3 c3 w3 g1 g2 g3; obtain ⟨A4, c4, e4, hr4, hc4⟩ := owns_Row g1; have HB3 := Lib.hid (Below.grown HB2.out g2 hz2 (fun k hk => by have := (HO2.out.lt k hk).1; omega)); have HR4 := Lib.hid hr4; have HC4 := Lib.hid hc4; have HE4 := Lib.hid e4; clear g1 g2 g3 hr4 hc4 e4)))
  go_ret
  refine ⟨A4, c4, ?_, ?_, ?_, HB3.out⟩
  · rw [HE.out]; exact congrArg Ending.returned HE4.out
  · rw [HE.out]; exact HR4.out
  · rw [HE.out]; exact HC4.out
end Go.Proofs.YtnpdjncgilekhaaGreatDoor

namespace Go.Proofs.YtnpdjncgilekhaaGreatDoor
open Go.RowKit

/-! the document's calls -/
def rexprB (e : PExpr) (A : Option Addr) (c : Nat) : Obj := .cells #[.string (mkB e.kind), .int .i64 e.num, .string (mkB e.name), .slice A e.kids.length c] 95
theorem allK_step {ks : List PExpr} {k : Nat} (h : k < ks.length) : allK (ks.drop k) = allE ks[k] ++ allK (ks.drop (k + 1)) := by rw [List.drop_eq_getElem_cons h, allK_cons]
def CallsIn (e : PExpr) : Prop := ∀ (S : Nat → Prop) (A : Option Addr) (c : Nat) (w : World), RdE w S e.kids A → (allE e).length ≤ 1000 →
  Calls Tryz.prog 58 #[exprV e A c] w fun r w' => ∃ v, r = .returned v ∧ w'.ownsRow w.heap.size 9 1 v (allE e).length (strVs (allE e)) ∧ Below w.heap.size w w'
set_option maxHeartbeats 4000000 in
set_option maxRecDepth 100000 in
theorem callsIn_any : ∀ e : PExpr, SmE e → CallsIn e := by
  intro e
  induction e using PExpr.ind with
  | h e ih =>
  intro hsm S A c w hr hn
  have h8 := hsm.len
  have hb0 : Below w.heap.size w (w.alloc (rexprB e A c)) := grow_alloc (grow_refl _) _
  have HB0 := Lib.hid hb0
  have HBK := Lib.hid (heap_alloc_new w (rexprB e A c))
  have IH : Hid (∀ (i : Nat) (hi : i < e.kids.length), CallsIn e.kids[i]) := fun i hi => ih _ (List.getElem_mem hi) (hsm.kid _ (List.getElem_mem hi))
  have HR := Lib.hid hr
  have HN := Lib.hid hn
  have HAE := Lib.hid (allE_eq e)
  clear ih hr hn hsm hb0
  unfold exprV
  unfold rexprB at *
  go_enter Tryz.func58, Tryz.ntmps58
  go_wp2_with fail
  go_loopw [3, 4, 5] (fun v i _ wr => ∃ (k : Nat) (l : List Nm), k ≤ e.kids.length ∧ i = .int .i64 k ∧ l ++ allK (e.kids.drop k) = allK e.kids ∧ wr.ownsRow (w.heap.size + 1) 9 1 v l.length (strVs l) ∧ Below (w.heap.size + 1) (w.alloc (.cells #[.string (mkB e.kind), .int .i64 e.num, .string (mkB e.name), .slice A e.kids.length c] 95)) wr) (fun _ i _ _ => e.kids.length - (intOf i).toNat)
  case atStart => exact ⟨0, [], Nat.zero_le _, rfl, by simp, World.ownsRow_nil _ _ _ _, Below.refl _ _⟩
  case round =>
    obtain ⟨k, l, hk, rfl, hl, hown, hbel⟩ := hrel
    obtain ⟨A1, c1, rfl⟩ := owns_slice hown
    have HX := Lib.hid ((hbel.block w.heap.size (by omega)).trans HBK.out)
    obtain ⟨d0, d1, d2, d3⟩ := krow4 HX.out
    have HL := Lib.hid hl
    have HO := Lib.hid hown
    have HBL := Lib.hid hbel
    have HB := Lib.hid (HB0.out.trans (hbel.mono (Nat.le_succ _)))
    have hbz := hbel.size
    have hbz1 : w.heap.size + 1 ≤ wr.heap.size := by simp at hbz; exact hbz
    have hle : l.length + (allK (e.kids.drop k)).length ≤ 1000 := by
      have h1 := congrArg List.length hl
      have h2 := congrArg List.length HAE.out
      simp only [List.length_append] at h1 h2
      have := HN.out
      omega
    clear hl hown hbel hbz
    by_cases hlt : k < e.kids.length
    · obtain ⟨b', off, B, d, rfl, -, hcells, -, hkid⟩ := (HR.out.keep ((Keeps.of_below HB.out).in S) (fun _ h => h)).at hlt
      obtain ⟨c0, c1', c2, c3⟩ := cells_expr hcells
      have hlt' : (k : Int) < (e.kids.length : Int) := by omega
      have hst := allK_step hlt
      have hle2 : l.length + (allE e.kids[k]).length ≤ 1000 := by rw [hst, List.length_append] at hle; omega
      have hih := IH.out k hlt
      obtain ⟨x, hx⟩ : ∃ x, e.kids[k] = x := ⟨_, rfl⟩
      rw [hx] at hcells hkid c0 c1' c2 c3 hst hle2 hih
      have HC := Lib.hid (hih S B d wr hkid (by omega))
      have HST := Lib.hid hst
      unfold exprV at HC
      clear hcells hkid hih hx hst hle
      go_wp2_with (first
        | (go_at_call 58; (with_reducible refine HC.out.mono ?_); rintro y w2 ⟨v2, rfl, ho2, hb2⟩; obtain ⟨A2, c2', rfl, hr2, -⟩ := owns_Row ho2; have HR2 := Lib.hid hr2; have HO2 := Lib.hid (ownsRow_below HO.out hb2); have HB2 := Lib.hid (HBL.out.trans (hb2.mono hbz1)); have hz2 := hb2.size; clear ho2 hb2 hr2)
        | (at_builtin; (refine wpList_append_strs rfl _ _ rfl (w.heap.size + 1) _ l (allE x) rfl HO2.out _ _ rfl HR2.out (by omega) (by omega) ?_; intro A3 n3 c3' w3 g1 g2 g3; have HO3 := Lib.hid g1; have HB3 := Lib.hid (Below.grown HB2.out g2 (by omega) (fun k hk => (HO2.out.lt k hk).1)); clear g1 g2 g3)))
      go_roundw
      case rel => exact ⟨k + 1, l ++ allE x, by omega, by go_num, by rw [← HL.out, HST.out, List.append_assoc], HO3.out, HB3.out⟩
      case measure => simp [intOf]; omega
    · have hk' : k = e.kids.length := by omega
      subst hk'
      have hl := HL.out
      rw [List.drop_length, allK_nil, List.append_nil] at hl
      have HL2 := Lib.hid hl
      have hl1 : l.length ≤ 1000 := by omega
      clear hl hle
      by_cases hc : e.kind = xCall
      · have t0 : ((mkB e.kind).toList == [99, 97, 108, 108]) = true := by rw [mkB_toList, hc]; rfl
        have HF : Hid (allE e = l ++ [e.name]) := show _ = _ by rw [HAE.out, if_pos hc, HL2.out]
        have HRW : Hid (Row (wr.alloc (.cells #[.string (mkB e.name)] 9)) (some ⟨wr.heap.size, 0, none⟩) (strVs [e.name])) := Row.new wr (strVs [e.name]).toArray 9
        clear hc
        go_wp2_with (at_builtin; (refine wpList_append_strs rfl _ _ rfl (w.heap.size + 1) _ l [e.name] rfl (HO.out.alloc _) (some ⟨wr.heap.size, 0, none⟩) 1 rfl HRW.out (by simp; omega) (by simp; omega) ?_; intro A3 n3 c3' w3 g1 g2 g3; have HO3 := Lib.hid g1; have HB3 := Lib.hid (Below.grown (HBL.out.alloc hbz1 (.cells #[.string (mkB e.name)] 9)) g2 (by simp; omega) (fun k hk => (HO.out.lt k hk).1)); clear g1 g2 g3))
        go_ret
        refine ⟨_, rfl, ?_, HB0.out.trans (HB3.out.mono (Nat.le_succ _))⟩
        rw [HF.out]
        exact owned_mono HO3.out (Nat.le_succ _)
      · have t0 : ((mkB e.kind).toList == [99, 97, 108, 108]) = false := by rw [mkB_toList]; exact beq_eq_false_iff_ne.2 hc
        have HF : Hid (allE e = l) := show _ = _ by rw [HAE.out, if_neg hc, HL2.out, List.append_nil]
        clear hc
        go_wp2_with fail
        go_ret
        refine ⟨_, rfl, ?_, HB.out⟩
        rw [HF.out]
        exact owned_mono HO.out (Nat.le_succ _)
theorem allS_step {ss : List PStmt} {k : Nat} (h : k < ss.length) : allS (ss.drop k) = allT ss[k] ++ allS (ss.drop (k + 1)) := by rw [List.drop_eq_getElem_cons h, allS_cons]
def CallsOf (ss : List PStmt) : Prop := ∀ (S : Nat → Prop) (A : Option Addr) (c : Nat) (w : World), RdS w S ss A → (allS ss).length ≤ 1000 →
  Calls Tryz.prog 37 #[.slice A ss.length c] w fun e w' => ∃ v, e = .returned v ∧ w'.ownsRow w.heap.size 9 1 v (allS ss).length (strVs (allS ss)) ∧ Below w.heap.size w w'
set_option maxHeartbeats 4000000 in
set_option maxRecDepth 100000 in
theorem callsOf_list (ss : List PStmt) (hlen : ss.length ≤ 30) (hsm : ∀ s ∈ ss, SmE s.e) (hq : ∀ s ∈ ss, CallsOf s.th ∧ CallsOf s.el) : CallsOf ss := by
  intro S A c w hr hn
  have HR := Lib.hid hr
  have HQ := Lib.hid hq
  have HN := Lib.hid hn
  have HSM := Lib.hid hsm
  clear hr hq hn hsm
  go_enter Tryz.func37, Tryz.ntmps37
  go_wp2_with fail
  go_loopw [3, 4, 5, 6, 7] (fun v i _ _ _ wr => ∃ (k : Nat) (l : List Nm), k ≤ ss.length ∧ i = .int .i64 k ∧ l ++ allS (ss.drop k) = allS ss ∧ wr.ownsRow w.heap.size 9 1 v l.length (strVs l) ∧ Below w.heap.size w wr) (fun _ i _ _ _ _ => ss.length - (intOf i).toNat)
  case atStart => exact ⟨0, [], Nat.zero_le _, rfl, by simp, World.ownsRow_nil _ _ _ _, Below.refl _ _⟩
  case round =>
    obtain ⟨k, l, hk, rfl, hl, hown, hbel⟩ := hrel
    obtain ⟨A1, c1, rfl⟩ := owns_slice hown
    have HL := Lib.hid hl
    have HO := Lib.hid hown
    have HB := Lib.hid hbel
    clear hl hown hbel
    by_cases hlt : k < ss.length
    · obtain ⟨b', off, X, x, T, t, L, l', rfl, -, hcells, -, hX, hT, hL⟩ := HR.out.at hlt
      have hlt' : (k : Int) < (ss.length : Int) := by omega
      have hst := allS_step hlt
      have hqs := HQ.out ss[k] (List.getElem_mem hlt)
      have hse := HSM.out ss[k] (List.getElem_mem hlt)
      obtain ⟨s, hs⟩ : ∃ s, ss[k] = s := ⟨_, rfl⟩
      rw [hs] at hcells hX hT hL hst hqs hse
      have hlen1 : l.length + (allE s.e).length + (allS s.th).length + (allS s.el).length ≤ 1000 := by
        have := congrArg List.length HL.out
        rw [hst, allT_eq] at this
        simp only [List.length_append] at this
        have := HN.out
        omega
      have HXC : Hid (∀ w', Below w.heap.size w w' → Calls Tryz.prog 58 #[exprV s.e X x] w' fun e w'' => ∃ v, e = .returned v ∧ w''.ownsRow w'.heap.size 9 1 v (allE s.e).length (strVs (allE s.e)) ∧ Below w'.heap.size w' w'') := fun w' hb =>
        callsIn_any s.e hse S X x w' (hX.keep ((Keeps.of_below hb).in S) (fun _ h => h)) (by omega)
      have HTC : Hid (∀ w', Below w.heap.size w w' → Calls Tryz.prog 37 #[.slice T s.th.length t] w' fun e w'' => ∃ v, e = .returned v ∧ w''.ownsRow w'.heap.size 9 1 v (allS s.th).length (strVs (allS s.th)) ∧ Below w'.heap.size w' w'') := fun w' hb =>
        hqs.1 S T t w' (hT.keep ((Keeps.of_below hb).in S) (fun _ h => h)) (by omega)
      have HLC : Hid (∀ w', Below w.heap.size w w' → Calls Tryz.prog 37 #[.slice L s.el.length l'] w' fun e w'' => ∃ v, e = .returned v ∧ w''.ownsRow w'.heap.size 9 1 v (allS s.el).length (strVs (allS s.el)) ∧ Below w'.heap.size w' w'') := fun w' hb =>
        hqs.2 S L l' w' (hL.keep ((Keeps.of_below hb).in S) (fun _ h => h)) (by omega)
      have HCE : Hid (∀ w', Below w.heap.size w w' → _) := fun w' hb => cells_stmt (hcells.keep fun a v _ hv => Keeps.of_below hb a v hv)
      obtain ⟨d0, d1, d2, d3, d4, d5, d6, d7⟩ := HCE.out _ HB.out
      have HST := Lib.hid hst
      unfold exprV at HXC
      clear hcells hX hT hL hqs hse hs hst
      go_wp2_with (first
        | (go_at_call 58; (with_reducible refine (HXC.out _ HB.out).mono ?_); rintro y w2 ⟨v2, rfl, ho2, hb2⟩; have hne2 := own_two' HO.out ho2; obtain ⟨A2, c2, rfl, hr2, -⟩ := owns_Row ho2; have HR2 := Lib.hid hr2; have HV2 := Lib.hid ho2; have HN2 := Lib.hid hne2; have HO2 := Lib.hid (ownsRow_below HO.out hb2); have HB2 := Lib.hid (grow_trans HB.out hb2); obtain ⟨e0, e1, e2, e3, e4, e5, e6, e7⟩ := HCE.out _ HB2.out; clear ho2 hb2 hr2 hne2)
        | (go_at_call 37; (with_reducible refine (HTC.out _ HB2.out).mono ?_); rintro y w3 ⟨v3, rfl, ho3, hb3⟩; have hne3 := own_two' HO2.out ho3; obtain ⟨A3, c3, rfl, hr3, -⟩ := owns_Row ho3; have HR3 := Lib.hid hr3; have HV3 := Lib.hid ho3; have HN3 := Lib.hid hne3; have HO3 := Lib.hid (ownsRow_below HO2.out hb3); have HV23 := Lib.hid (ownsRow_below HV2.out hb3); have HB3 := Lib.hid (grow_trans HB2.out hb3); obtain ⟨f0, f1, f2, f3, f4, f5, f6, f7⟩ := HCE.out _ HB3.out; clear ho3 hb3 hr3 hne3)
        | (go_at_call 37; (with_reducible refine (HLC.out _ HB3.out).mono ?_); rintro y w4 ⟨v4, rfl, ho4, hb4⟩; have hne4 := own_two' HO3.out ho4; obtain ⟨A4, c4, rfl, hr4, -⟩ := owns_Row ho4; have HV4 := Lib.hid ho4; have HN4 := Lib.hid hne4; have HO4 := Lib.hid (ownsRow_below HO3.out hb4); have HR24 := Lib.hid (show Row w4 A2 (strVs (allE s.e)) by obtain ⟨A6, c6, q, q2, -⟩ := owns_Row (ownsRow_below HV23.out hb4); injection q with q _ _; rw [q]; exact q2); have HV34 := Lib.hid (ownsRow_below HV3.out hb4); have HB4 := Lib.hid (grow_trans HB3.out hb4); have hz4 := HB4.out.size; have hz34 := HB3.out.size; have hzz := hb4.size; clear ho4 hb4 hr4 hne4)
        | (at_builtin; (refine wpList_append_strs rfl _ _ rfl w.heap.size _ l (allE s.e) rfl HO4.out _ _ rfl HR24.out (by omega) hz4 ?_; intro A5 n5 c5 w5 g1 g2 g3; have HO5 := Lib.hid g1; have HB5 := Lib.hid (Below.grown HB4.out g2 hz4 (fun k hk => (HO4.out.lt k hk).1)); have HV35 := Lib.hid (HV34.out.kept g2 (by rcases HN3.out with q | q; exact .inl q; exact .inr (fun e => q e.symm))); have HV45 := Lib.hid (HV4.out.kept g2 (by rcases HN4.out with q | q; exact .inl q; exact .inr (fun e => q e.symm))); have hz5 := HB5.out.size; have HG5 := Lib.hid g3; have HR5 := Lib.hid (show Row w5 A3 (strVs (allS s.th)) by obtain ⟨A6, c6, q, q2, -⟩ := owns_Row HV35.out; injection q with q _ _; rw [q]; exact q2); have HN5 := Lib.hid (show (Value.slice A4 (allS s.el).length c4).ownBlock = none ∨ (Value.slice A5 n5 c5).ownBlock ≠ (Value.slice A4 (allS s.el).length c4).ownBlock by rcases HN4.out with q | q; exact .inl q; right; rcases HG5.out with e | e; (rw [e]; exact q); (rw [e]; intro q2; have := (HV4.out.lt _ q2.symm).2; omega)); clear g1 g2 g3))
        | (at_builtin; (refine wpList_append_strs rfl _ _ rfl w.heap.size _ (l ++ allE s.e) (allS s.th) rfl HO5.out _ _ rfl HR5.out (by rw [List.length_append]; omega) hz5 ?_; intro A7 n7 c7 w7 g1 g2 g3; have HO7 := Lib.hid g1; have HB7 := Lib.hid (Below.grown HB5.out g2 hz5 (fun k hk => (HO5.out.lt k hk).1)); have HV47 := Lib.hid (HV45.out.kept g2 (by rcases HN5.out with q | q; exact .inl q; exact .inr (fun e => q e.symm))); have hz7 := HB7.out.size; have HR7 := Lib.hid (show Row w7 A4 (strVs (allS s.el)) by obtain ⟨A6, c6, q, q2, -⟩ := owns_Row HV47.out; injection q with q _ _; rw [q]; exact q2); clear g1 g2 g3))
        | (at_builtin; (refine wpList_append_strs rfl _ _ rfl w.heap.size _ ((l ++ allE s.e) ++ allS s.th) (allS s.el) rfl HO7.out _ _ rfl HR7.out (by rw [List.length_append, List.length_append]; omega) hz7 ?_; intro A9 n9 c9 w9 g1 g2 g3; have HO9 := Lib.hid g1; have HB9 := Lib.hid (Below.grown HB7.out g2 hz7 (fun k hk => (HO7.out.lt k hk).1)); clear g1 g2 g3)))
      go_roundw
      case rel => exact ⟨k + 1, ((l ++ allE s.e) ++ allS s.th) ++ allS s.el, by omega, by go_num, by rw [← HL.out, HST.out, allT_eq]; simp only [List.append_assoc], HO9.out, HB9.out⟩
      case measure => simp [intOf]; omega
    · have hk' : k = ss.length := by omega
      subst hk'
      have hl := HL.out
      rw [List.drop_length, allS_nil, List.append_nil] at hl
      have HL2 := Lib.hid hl
      clear hl
      go_wp2_with fail
      go_ret
      exact ⟨_, rfl, HL2.out ▸ HO.out, HB.out⟩
theorem callsOf_any (ss : List PStmt) (hlen : ss.length ≤ 30) (h : ∀ s ∈ ss, SmS s) : CallsOf ss := by
  have each : ∀ s : PStmt, SmS s → CallsOf s.th ∧ CallsOf s.el := by
    intro s
    induction s using PStmt.ind with
    | h s iht ihl =>
      intro hsm
      exact ⟨callsOf_list s.th hsm.lenT (fun k hk => (hsm.kidT k hk).expr) (fun k hk => iht k hk (hsm.kidT k hk)), callsOf_list s.el hsm.lenL (fun k hk => (hsm.kidL k hk).expr) (fun k hk => ihl k hk (hsm.kidL k hk))⟩
  exact callsOf_list ss hlen (fun s hs => (h s hs).expr) (fun s hs => each s (h s hs))
theorem allK_len : ∀ (ks : List PExpr), (∀ k ∈ ks, (allE k).length ≤ cntE k) → (allK ks).length ≤ cntK ks := by
  intro ks
  induction ks with
  | nil => intro _; rw [allK_nil]; simp
  | cons k ks ih =>
    intro h
    have h1 := h k (by simp)
    have h2 := ih fun x hx => h x (by simp [hx])
    rw [allK_cons, cntK_cons, List.length_append]; omega
theorem allE_len : ∀ e : PExpr, (allE e).length ≤ cntE e := by
  intro e
  induction e using PExpr.ind with
  | h e ih =>
    have h1 := allK_len e.kids ih
    rw [allE_eq, cntE_eq, List.length_append]
    split <;> simp <;> omega
theorem allS_len' : ∀ (ss : List PStmt), (∀ s ∈ ss, (allT s).length ≤ cntT s) → (allS ss).length ≤ cntS ss := by
  intro ss
  induction ss with
  | nil => intro _; rw [allS_nil]; simp
  | cons k ks ih =>
    intro h
    have h1 := h k (by simp)
    have h2 := ih fun x hx => h x (by simp [hx])
    rw [allS_cons, cntS_cons, List.length_append]; omega
theorem allT_len : ∀ s : PStmt, (allT s).length ≤ cntT s := by
  intro s
  induction s using PStmt.ind with
  | h s iht ihl =>
    have h1 := allS_len' s.th iht
    have h2 := allS_len' s.el ihl
    have h3 := allE_len s.e
    rw [allT_eq, cntT_eq, List.length_append, List.length_append]; omega
theorem allS_len (ss : List PStmt) : (allS ss).length ≤ cntS ss := allS_len' ss fun s _ => allT_len s
def dedup (l : List Nm) : List Nm := l.foldl pushN []
theorem dedup_step {l : List Nm} {k : Nat} (h : k < l.length) : dedup (l.take (k + 1)) = pushN (dedup (l.take k)) l[k] := by
  unfold dedup
  rw [List.take_succ_eq_append_getElem h, List.foldl_append]; rfl
theorem dedup_len : ∀ (l xs : List Nm), (l.foldl pushN xs).length ≤ xs.length + l.length := by
  intro l
  induction l with
  | nil => intro xs; simp
  | cons x l ih =>
    intro xs
    have h1 := ih (pushN xs x)
    have h2 := pushN_len xs x
    simp only [List.foldl_cons, List.length_cons]; omega
set_option maxHeartbeats 4000000 in
set_option maxRecDepth 100000 in
theorem CallsOf_any (f : PFun) (hsm : SmF f) (hz : szS f.body 0 < 1000) (S : Nat → Prop) (P : Option Addr) (p : Nat) (B : Option Addr) (c : Nat) (w : World) (hB : RdS w S f.body B) :
    Calls Tryz.prog 15 #[funV f P p B c] w (RetT (callsP f) w) := by
  have hn := allS_len f.body
  have hn2 := cntB_le hz
  have hb0 : Below w.heap.size w (w.alloc (rfunO f P p B c)) := grow_alloc (grow_refl _) _
  have HB0 := Lib.hid hb0
  have HBK := Lib.hid (heap_alloc_new w (rfunO f P p B c))
  have HVI : Hid (∀ w', Below w.heap.size w w' → Calls Tryz.prog 37 #[.slice B f.body.length c] w' fun e w'' => ∃ v, e = .returned v ∧ w''.ownsRow w'.heap.size 9 1 v (allS f.body).length (strVs (allS f.body)) ∧ Below w'.heap.size w' w'') := fun w' hb =>
    callsOf_any f.body hsm.body hsm.stmts S B c w' (hB.keep ((Keeps.of_below hb).in S) (fun _ h => h)) (by omega)
  have HE : Hid (callsP f = dedup (allS f.body)) := show _ = _ from callsP_fold f
  obtain ⟨al, hal⟩ : ∃ al, allS f.body = al := ⟨_, rfl⟩
  rw [hal] at hn HVI HE
  have hlv : al.length ≤ 1000 := by omega
  clear hB hb0 hn hn2 hsm hal
  unfold funV
  unfold rfunO at *
  go_enter Tryz.func15, Tryz.ntmps15
  go_wp2_with (go_at_call 37; (with_reducible refine (HVI.out _ HB0.out).mono ?_); rintro y w2 ⟨v2, rfl, ho2, hb2⟩; obtain ⟨A2, c2, rfl, hr2, hcap2⟩ := owns_Row ho2; have HR2 := Lib.hid hr2; have HB2 := Lib.hid (grow_trans HB0.out hb2); clear ho2 hb2 hr2)
  go_loopw [4, 5] (fun v i wr => ∃ (k : Nat), k ≤ al.length ∧ i = .int .i64 k ∧ wr.ownsRow w2.heap.size 9 1 v (dedup (al.take k)).length (strVs (dedup (al.take k))) ∧ Below w2.heap.size w2 wr) (fun _ i _ => al.length - (intOf i).toNat)
  case atStart => exact ⟨0, Nat.zero_le _, rfl, World.ownsRow_nil _ _ _ _, Below.refl _ _⟩
  case round =>
    obtain ⟨k, hk, rfl, hown, hbel⟩ := hrel
    obtain ⟨A1, c1, rfl, hrow, -⟩ := owns_Row hown
    have hdl : (dedup (al.take k)).length ≤ 1000 := by have := dedup_len (al.take k) []; rw [List.length_take] at this; simp at this; unfold dedup; omega
    have HO := Lib.hid hown
    have HB := Lib.hid hbel
    have hbz := hbel.size
    have HRW := Lib.hid hrow
    clear hown hbel hrow
    by_cases hlt : k < al.length
    · obtain ⟨b, off, rfl, hc⟩ := (HR2.out.keep (Keeps.of_below HB.out)) k _ (strVs_get hlt)
      have hlt' : (k : Int) < (al.length : Int) := by omega
      have hst := dedup_step hlt
      obtain ⟨x, hx⟩ : ∃ x, al[k] = x := ⟨_, rfl⟩
      rw [hx] at hc hst
      obtain ⟨dl, hdl2⟩ : ∃ dl, dedup (al.take k) = dl := ⟨_, rfl⟩
      rw [hdl2] at hdl HO hst HRW
      rw [hdl2]
      have HIN := Lib.hid (isin_any dl x A1 c1 wr HRW.out (by omega))
      have HD2 := Lib.hid hdl2
      clear hx hdl2
      cases hcn : dl.contains x
      · rw [hcn] at HIN
        have HS : Hid (dedup (al.take (k + 1)) = dl ++ [x]) := show _ = _ by rw [hst]; unfold pushN; rw [hcn]; rfl
        have HNW : Hid (Row (wr.alloc (.cells #[.string (mkB x)] 9)) (some ⟨wr.heap.size, 0, none⟩) (strVs [x])) := Row.new wr (strVs [x]).toArray 9
        clear hcn hst
        go_wp2_with (first
          | (go_at_call 38; (with_reducible refine HIN.out.mono ?_); rintro y w3 ⟨rfl, rfl⟩)
          | (at_builtin; (refine wpList_append_strs rfl _ _ rfl w2.heap.size _ dl [x] rfl (HO.out.alloc _) (some ⟨_, 0, none⟩) 1 rfl HNW.out (by simp; omega) (by simp; omega) ?_; intro A3 n3 c3' w3 g1 g2 g3; have HO3 := Lib.hid g1; have HB3 := Lib.hid (Below.grown (HB.out.alloc hbz (.cells #[.string (mkB x)] 9)) g2 (by simp; omega) (fun k hk => (HO.out.lt k hk).1)); clear g1 g2 g3)))
        go_roundw
        case rel => exact ⟨k + 1, by omega, by go_num, by rw [HS.out]; exact HO3.out, HB3.out⟩
        case measure => simp [intOf]; omega
      · rw [hcn] at HIN
        have HS : Hid (dedup (al.take (k + 1)) = dl) := show _ = _ by rw [hst]; unfold pushN; rw [hcn]; rfl
        clear hcn hst
        go_wp2_with (go_at_call 38; (with_reducible refine HIN.out.mono ?_); rintro y w3 ⟨rfl, rfl⟩)
        go_roundw
        case rel => exact ⟨k + 1, by omega, by go_num, by rw [HS.out]; exact HO.out, HB.out⟩
        case measure => simp [intOf]; omega
    · have hk' : k = al.length := by omega
      subst hk'
      have HF : Hid (callsP f = dedup (al.take al.length)) := show _ = _ by rw [HE.out, List.take_length]
      obtain ⟨A4, c4, e4, hr4, hc4⟩ := owns_Row HO.out
      injection e4 with e5 _ e6
      subst e5; subst e6
      have HC4 := Lib.hid hc4
      clear hr4 hc4
      go_wp2_with fail
      go_ret
      refine ⟨A1, c1, ?_, ?_, ?_, grow_trans HB2.out HB.out⟩
      · rw [HE.out]; rfl
      · rw [HF.out]; exact HRW.out
      · rw [HF.out]; exact HC4.out
end Go.Proofs.YtnpdjncgilekhaaGreatDoor
