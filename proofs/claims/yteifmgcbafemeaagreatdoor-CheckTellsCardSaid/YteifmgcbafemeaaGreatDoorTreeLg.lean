import Derived.Test.YteifmgcbafemeaaGreatDoorTreeSzW
namespace Go.Proofs.YteifmgcbafemeaaGreatDoor
open Go.RowKit

theorem largeF_step {fs : List PFun} {k : Nat} (h : k < fs.length) {most n : Nat} : largeF (fs.drop k) most n =
    if 8 < fs[k].params.length ∨ 20 < fs[k].name.length then true else if longT fs[k].params then true else if most < n + szS fs[k].body 0 then true else largeF (fs.drop (k + 1)) most (n + szS fs[k].body 0) := by
  rw [List.drop_eq_getElem_cons h, largeF]
theorem longT_step {ps : List (List UInt8)} {k : Nat} (h : k < ps.length) : longT (ps.drop k) = (decide (20 < ps[k].length) || longT (ps.drop (k + 1))) := by
  unfold longT; rw [List.drop_eq_getElem_cons h, List.any_cons]
def LV (fs : List PFun) (most : Nat) : Int := if largeP fs most then 1 else 0
set_option maxHeartbeats 4000000 in
set_option maxRecDepth 100000 in
theorem Large_any (fs : List PFun) (most : Nat) (hmost : most ≤ 1000000) (S : Nat → Prop) (A : Option Addr) (c : Nat) (w : World) (hr : RdF w S fs A) :
    Calls Tryz.prog 6 #[.slice A fs.length c, .int .i64 (most : Int)] w (Ret (.int .i64 (if largeP fs most then 1 else 0)) w) := by
  by_cases h1 : 10 < fs.length
  · have q1 : (10 : Int) < (fs.length : Int) := by omega
    have HE : Hid (largeP fs most = true) := show largeP fs most = true by simp [largeP, h1]
    have hp0 : (if largeP fs most then (1 : Int) else 0) = LV fs most := rfl
    rw [hp0]
    clear hr h1 hp0
    go_enter Tryz.func6, Tryz.ntmps6
    go_wp2_with fail
    go_ret
    exact ⟨by unfold LV; rw [HE.out]; rfl, grow_refl _⟩
  · have q1 : ¬ (10 : Int) < (fs.length : Int) := by omega
    have HE : Hid (largeP fs most = largeF fs most 0) := show largeP fs most = _ by simp [largeP, h1]
    have hl : fs.length ≤ 10 := by omega
    have HR := Lib.hid hr
    have hp0 : (if largeP fs most then (1 : Int) else 0) = LV fs most := rfl
    rw [hp0]
    clear hr h1 hp0
    go_enter Tryz.func6, Tryz.ntmps6
    go_wp2_with fail
    go_loopw [5, 6, 7] (fun n i _ wr => ∃ (k m : Nat), k ≤ fs.length ∧ i = .int .i64 k ∧ n = .int .i64 m ∧ m ≤ most ∧ largeF fs most 0 = largeF (fs.drop k) most m ∧ Below w.heap.size w wr) (fun _ i _ _ => fs.length - (intOf i).toNat)
    case atStart => exact ⟨0, 0, Nat.zero_le _, rfl, rfl, by omega, by simp, grow_refl _⟩
    case round =>
      obtain ⟨k, m, hk, rfl, rfl, hm, hI, hbel⟩ := hrel
      have HI := Lib.hid hI
      clear hI
      by_cases hlt : k < fs.length
      · have hlt' : (k : Int) < (fs.length : Int) := by omega
        obtain ⟨b, off, P, p, B, d, rfl, -, hcells, hp, hb⟩ := (HR.out.keep ((Keeps.of_below hbel).in S) (fun _ h => h)) k hlt
        obtain ⟨c0, c1, c2⟩ := cells_fun hcells
        have hst := largeF_step hlt (most := most) (n := m)
        obtain ⟨f, hf⟩ : ∃ f, fs[k] = f := ⟨_, rfl⟩
        rw [hf] at hcells hp hb c0 c1 c2 hst
        have HZ := Lib.hid hst
        have HB := Lib.hid hb
        have HP := Lib.hid hp
        clear hst hcells hf hb hp
        by_cases h2 : 8 < f.params.length
        · have q2 : (8 : Int) < (f.params.length : Int) := by omega
          have HS : Hid (largeF (fs.drop k) most m = true) := HZ.out.trans (by rw [if_pos (.inl h2)])
          clear h2
          go_wp2_with fail
          go_ret
          exact ⟨by unfold LV; rw [HE.out, HI.out, HS.out]; rfl, hbel⟩
        · have q2 : ¬ (8 : Int) < (f.params.length : Int) := by omega
          by_cases h3 : 20 < f.name.length
          · have q3 : (20 : Int) < ((mkB f.name).size : Int) := by rw [mkB_len]; omega
            have HS : Hid (largeF (fs.drop k) most m = true) := HZ.out.trans (by rw [if_pos (.inr h3)])
            clear h2 h3
            go_wp2_with fail
            go_ret
            exact ⟨by unfold LV; rw [HE.out, HI.out, HS.out]; rfl, hbel⟩
          · have q3 : ¬ (20 : Int) < ((mkB f.name).size : Int) := by rw [mkB_len]; omega
            have hz := HZ.out
            rw [if_neg (by omega)] at hz
            have HZ2 := Lib.hid hz
            have hl8 : f.params.length ≤ 8 := by omega
            clear h2 h3 hz HZ
            go_wp2_with fail
            go_loopw [7] (fun j wt => ∃ (i : Nat), i ≤ f.params.length ∧ j = .int .i64 i ∧ wt = wr ∧ longT f.params = longT (f.params.drop i)) (fun j _ => f.params.length - (intOf j).toNat)
            case atStart => exact ⟨0, Nat.zero_le _, rfl, rfl, by simp⟩
            case round =>
              obtain ⟨i, hi, rfl, rfl, hJ⟩ := hrel
              have HJ := Lib.hid hJ
              clear hJ
              by_cases hlt2 : i < f.params.length
              · have hlt2' : (i : Int) < (f.params.length : Int) := by omega
                obtain ⟨b2, off2, rfl, -, hc2⟩ := HP.out i hlt2
                have HK := Lib.hid (longT_step hlt2)
                by_cases h4 : 20 < f.params[i].length
                · have q4 : (20 : Int) < ((mkB f.params[i]).size : Int) := by rw [mkB_len]; omega
                  have HS : Hid (largeF (fs.drop k) most m = true) := HZ2.out.trans (by rw [HJ.out, HK.out]; simp [h4])
                  clear h4
                  go_wp2_with fail
                  go_ret
                  exact ⟨by unfold LV; rw [HE.out, HI.out, HS.out]; rfl, hbel⟩
                · have q4 : ¬ (20 : Int) < ((mkB f.params[i]).size : Int) := by rw [mkB_len]; omega
                  have HK2 : Hid (longT f.params = longT (f.params.drop (i + 1))) := HJ.out.trans (HK.out.trans (by simp [h4]))
                  clear h4
                  go_wp2_with fail
                  go_roundw
                  case rel => exact ⟨i + 1, by omega, by go_num, (by trivial), HK2.out⟩
                  case measure => simp [intOf]; omega
              · have hi' : i = f.params.length := by omega
                subst hi'
                have hlong : longT f.params = false := by rw [HJ.out, List.drop_length]; rfl
                have hz := HZ2.out
                rw [hlong] at hz
                have b2 := szS_bound f.body 0 (by omega)
                have HT := sizesOf_any f.body 0 (by omega) S B d _ HB.out
                rw [show ((0 : Nat) : Int) = 0 from rfl] at HT
                obtain ⟨z, hz1⟩ : ∃ z, szS f.body 0 = z := ⟨_, rfl⟩
                rw [hz1] at hz b2 HT
                have HTT := Lib.hid HT
                have HZ3 := Lib.hid hz
                clear hz hlong HT hz1
                by_cases h5 : most < m + z
                · have q5 : (most : Int) < (m : Int) + z := by omega
                  have HS : Hid (largeF (fs.drop k) most m = true) := HZ3.out.trans (by simp [h5])
                  clear h5
                  go_wp2_with (go_at_call 22; (with_reducible refine HTT.out.mono ?_); rintro x w1 ⟨rfl, hb1⟩)
                  go_ret
                  exact ⟨by unfold LV; rw [HE.out, HI.out, HS.out]; rfl, grow_trans hbel hb1⟩
                · have q5 : ¬ (most : Int) < (m : Int) + z := by omega
                  have HS : Hid (largeF (fs.drop k) most m = largeF (fs.drop (k + 1)) most (m + z)) := HZ3.out.trans (by simp [h5])
                  have h6 : m + z ≤ most := by omega
                  clear h5
                  go_wp2_with (go_at_call 22; (with_reducible refine HTT.out.mono ?_); rintro x w1 ⟨rfl, hb1⟩)
                  go_roundw
                  case rel => exact ⟨k + 1, m + z, by omega, by go_num, by go_num, by omega, HI.out.trans HS.out, grow_trans hbel hb1⟩
                  case measure => simp [intOf]; omega
      · have hk' : k = fs.length := by omega
        subst hk'
        have HS : Hid (largeF (fs.drop fs.length) most m = false) := show _ = false by rw [List.drop_length]; rfl
        go_wp2_with fail
        go_ret
        exact ⟨by unfold LV; rw [HE.out, HI.out, HS.out]; rfl, hbel⟩
end Go.Proofs.YteifmgcbafemeaaGreatDoor
