import Derived.Test.YtidhplpidkgkdaaDoorCheckCk
import Derived.Test.YtidhplpidkgkdaaDoorCheckLw
import Derived.Test.YtidhplpidkgkdaaDoorTreeLg
namespace Go.Proofs.YtidhplpidkgkdaaDoor
open Go.RowKit

theorem err_iface {E : Nat → Addr} {w : World} {v : Value} {c a : Int} (h : ErrIs E w v c a) (hc : c ≠ 0) : ∃ t x, v = .iface t x := by
  rcases h with ⟨_, h, _⟩ | ⟨i, _, rfl, _⟩ | ⟨i, fb, fo, _, rfl, _⟩
  · exact absurd h hc
  · exact ⟨_, _, rfl⟩
  · exact ⟨_, _, rfl⟩
theorem nodup_take {l : List Nm} (h : l.Nodup) {k : Nat} (hk : k < l.length) : (l.take k).contains l[k] = false := by
  rw [Bool.eq_false_iff]
  intro hc
  have := List.contains_iff_mem.1 hc
  obtain ⟨j, hj, e⟩ := List.mem_iff_getElem.1 this
  rw [List.length_take] at hj
  rw [List.getElem_take] at e
  have := (List.getElem_inj h).1 e
  omega
theorem any_step {fs : List PFun} {x : Nm} {k : Nat} (h : k < fs.length) : (fs.take (k + 1)).any (fun g => g.name == x) = ((fs.take k).any (fun g => g.name == x) || (fs[k].name == x)) := by
  rw [List.take_succ_eq_append_getElem h, List.any_append]; simp
def anyB (fs : List PFun) (x : Nm) (j : Nat) : Bool := (fs.take j).any fun g => g.name == x
theorem anyB_step {fs : List PFun} {x : Nm} {k : Nat} (h : k < fs.length) : anyB fs x (k + 1) = (anyB fs x k || (fs[k].name == x)) := any_step h
theorem anyB_zero (fs : List PFun) (x : Nm) : anyB fs x 0 = false := rfl
theorem anyB_all {fs : List PFun} {x : Nm} (h : ∃ g ∈ fs, g.name = x) : anyB fs x fs.length = true := by
  unfold anyB
  rw [List.take_length, List.any_eq_true]
  obtain ⟨g, h1, h2⟩ := h
  exact ⟨g, h1, by simpa using h2⟩
set_option maxHeartbeats 8000000 in
set_option maxRecDepth 100000 in
theorem CheckVars_walk (E : Nat → Addr) (fs : List PFun) (A : Option Addr) (c : Nat) (w : World) (hE : Laid E w) (hr : RdF w (fun _ => True) fs A) :
    Calls Tryd.prog 5 #[.slice A fs.length c] w (Ret (.bool true) w) := by
  have HS := Lib.hid (checked_any E w hE)
  have HLG : Hid (∀ w', Below w.heap.size w w' → Calls Tryd.prog 7 #[.slice A fs.length c, .int .i64 300] w' (Ret (.int .i64 (if largeP fs 300 then 1 else 0)) w')) := fun w' hb =>
    Large_any fs 300 (by omega) (fun _ => True) A c w' (hr.keep ((Keeps.of_below hb).in _) (fun _ h => h))
  cases hp : largeP fs 300
  · obtain ⟨h10, hsm, hsum, hszs⟩ := largeP_small (by omega) hp
    have HAS : Hid (∀ w', Below w.heap.size w w' → Calls Tryd.prog 9 #[.slice A fs.length c] w' fun x w'' => ∃ B d, x = .returned (.slice B fs.length d) ∧ fs.length ≤ d ∧ RdG w'' (newAt w') fs B ∧ Below w'.heap.size w' w'') := fun w' hb =>
      AsFuns_cap fs h10 hsm (fun _ => True) A c w' (hr.keep ((Keeps.of_below hb).in _) (fun _ h => h))
    have HPR : Hid (∀ w' w'' B d, Below w.heap.size w w'' → fs.length ≤ d → RdG w'' (newAt w') fs B → Calls Tryd.prog 12 #[.slice B fs.length d] w'' (ProgPost E fs w'')) := fun w' w'' B d hb hd hg =>
      Program_any E fs hsm (newAt w') B d (by omega) hd w'' (hE.keep hb) hg
    rw [hp] at HLG
    have HSM := Lib.hid hsm
    have HSZ := Lib.hid hszs
    by_cases h0 : (progC fs).1 = 0
    · have HPF := Lib.hid (fun f hf => prog_fun h0 (f := f) hf)
      have H0 := Lib.hid h0
      clear hr hE hp hsm hsum hszs h0
      go_enter Tryd.func5, Tryd.ntmps5
      go_wp2_with (first
        | (go_at_call 11; (with_reducible refine HS.out.mono ?_); rintro x w1 ⟨rfl, hb1⟩)
        | (go_at_call 7; (with_reducible refine (HLG.out _ hb1).mono ?_); rintro x w2 ⟨rfl, hb2⟩)
        | (go_at_call 9; (with_reducible refine (HAS.out _ (grow_trans hb1 hb2)).mono ?_); rintro x w3 ⟨B, d, rfl, hd, hg, hb3⟩; have HG := Lib.hid hg; clear hg)
        | (go_at_call 12; (with_reducible refine (HPR.out _ _ _ _ (grow_trans (grow_trans hb1 hb2) hb3) hd HG.out).mono ?_); rintro x w4 ⟨v4, rfl, he4, hb4, hn4⟩; obtain rfl := hn4.2 H0.out; clear he4 hn4))
      have HB4 := Lib.hid (grow_trans (grow_trans (grow_trans hb1 hb2) hb3) hb4)
      have HGG := Lib.hid (HG.out.keep ((Keeps.of_below hb4).in _) (fun _ h => h))
      obtain ⟨wo, rfl⟩ : ∃ wo : World, wo = w4 := ⟨_, rfl⟩
      clear hb1 hb2 hb3 hb4 HG HPR HAS HLG HS
      go_loopw [5, 6, 7, 8, 9, 10, 11] (fun i _ _ _ _ _ _ wr => ∃ k : Nat, k ≤ fs.length ∧ i = .int .i64 k ∧ Below wo.heap.size wo wr) (fun i _ _ _ _ _ _ _ => fs.length - (intOf i).toNat)
      case atStart => exact ⟨0, Nat.zero_le _, rfl, grow_refl _⟩
      case round =>
        obtain ⟨k, hk, rfl, hbel⟩ := hrel
        by_cases hlt : k < fs.length
        · obtain ⟨b, off, P, p, B', d', rfl, -, hcells, hprm, hok, hbody⟩ := (HGG.out.keep ((Keeps.of_below hbel).in _) (fun _ h => h)) k hlt
          obtain ⟨c0, c1, c2⟩ := cells_fun hcells
          have hlt' : (k : Int) < (fs.length : Int) := by omega
          have hsf := HSM.out fs[k] (List.getElem_mem hlt)
          have hzf := HSZ.out fs[k] (List.getElem_mem hlt)
          have hpf := HPF.out fs[k] (List.getElem_mem hlt)
          obtain ⟨f, hf⟩ : ∃ f, fs[k] = f := ⟨_, rfl⟩
          rw [hf] at hcells hprm hok hbody c0 c1 c2 hsf hzf hpf
          have HV := Lib.hid (Vars_any f hsf (by omega) _ P p B' d' wr hprm hok hbody)
          have HC : Hid (∀ w', Below wr.heap.size wr w' → Calls Tryd.prog 15 #[funV f P p B' d'] w' (RetT (callsP f) w')) := fun w' hb =>
            Calls_any f hsf (by omega) _ P p B' d' w' (hbody.keep ((Keeps.of_below hb).in _) (fun _ h => h))
          have hv1 : ((varsP f).length : Int) ≤ 12 := by have := hpf.1; omega
          have hv2 : (f.params.length : Int) ≤ ((varsP f).length : Int) := by have := hpf.2.1; omega
          have hv3 : (varsP f).length ≤ 12 := hpf.1
          have hcl := calls_len (f := f) (by omega)
          have HPFF := Lib.hid hpf
          have HCE := Lib.hid hcells
          unfold funV at HV HC
          clear hcells hprm hok hbody hsf hzf hpf hf
          go_wp2_with (go_at_call 16; (with_reducible refine HV.out.mono ?_); rintro x w5 ⟨A5, c5, rfl, hrow5, hcap5, hb5⟩; obtain ⟨d0, d1, d2⟩ := cells_fun (HCE.out.keep fun a v _ hv => Keeps.of_below hb5 a v hv); have HR5 := Lib.hid hrow5; clear hrow5)
          go_loopw [7] (fun j wt => ∃ (i m : Nat), i ≤ (varsP f).length ∧ j = .int .i64 i ∧ wt = w5.drewN m) (fun j _ => (varsP f).length - (intOf j).toNat)
          case atStart => exact ⟨0, 0, Nat.zero_le _, rfl, rfl⟩
          case round =>
            obtain ⟨i, m, hi, rfl, rfl⟩ := hrel
            by_cases hlt2 : i < (varsP f).length
            · obtain ⟨b6, off6, rfl, hc6⟩ := HR5.out i _ (strVs_get hlt2)
              have hlt2' : (i : Int) < ((varsP f).length : Int) := by omega
              have hic : (i : Int) ≤ (c5 : Int) := by omega
              have HCN : Hid (∀ w', Below w5.heap.size w5 w' → Calls Tryd.prog 14 #[.string (mkB (varsP f)[i]), .slice (some ⟨b6, off6, none⟩) i c5] w' fun e w'' => e = .returned (.bool false) ∧ w'' = w') := fun w' hb => by
                have := isin_any ((varsP f).take i) (varsP f)[i] (some ⟨b6, off6, none⟩) c5 w' ((row_take HR5.out i).keep (Keeps.of_below hb)) (by rw [List.length_take]; omega)
                rw [List.length_take, Nat.min_eq_left hi, nodup_take HPFF.out.2.2.1 hlt2] at this
                exact this
              go_wp2_with fail
              go_quiet ((go_at_call 14; exact quiet_add (Calls.mono (HCN.out _ (grow_drew (Below.refl _ _) _)) (by rintro e w'' ⟨rfl, rfl⟩; exact Quiet.same))))
              go_wp2_with fail
              go_roundw
              case rel => exact ⟨i + 1, _, by omega, by go_num, rfl⟩
              case measure => simp [intOf]; omega
            · have hi' : i = (varsP f).length := by omega
              subst hi'
              go_wp2_with (go_at_call 15; (with_reducible refine (HC.out _ (grow_drew hb5 m)).mono ?_); rintro x w6 ⟨A7, c7, rfl, hrow7, hcap7, hb7⟩; have HR7 := Lib.hid hrow7; clear hrow7)
              have HB6 := Lib.hid (grow_trans (grow_drew hb5 m) hb7)
              clear hb7 d0 d1 d2 c0 c1 c2
              go_loopw [9, 10, 11] (fun j _ _ wt => ∃ (i m : Nat), i ≤ (callsP f).length ∧ j = .int .i64 i ∧ wt = w6.drewN m) (fun j _ _ _ => (callsP f).length - (intOf j).toNat)
              case atStart => exact ⟨0, 0, Nat.zero_le _, rfl, rfl⟩
              case round =>
                obtain ⟨i, m2, hi, rfl, rfl⟩ := hrel
                by_cases hlt3 : i < (callsP f).length
                · obtain ⟨b7, off7, rfl, hc7⟩ := HR7.out i _ (strVs_get hlt3)
                  have hlt3' : (i : Int) < ((callsP f).length : Int) := by omega
                  have hic : (i : Int) ≤ (c7 : Int) := by omega
                  have HCN : Hid (∀ w', Below w6.heap.size w6 w' → Calls Tryd.prog 14 #[.string (mkB (callsP f)[i]), .slice (some ⟨b7, off7, none⟩) i c7] w' fun e w'' => e = .returned (.bool false) ∧ w'' = w') := fun w' hb => by
                    have := isin_any ((callsP f).take i) (callsP f)[i] (some ⟨b7, off7, none⟩) c7 w' ((row_take HR7.out i).keep (Keeps.of_below hb)) (by rw [List.length_take]; omega)
                    rw [List.length_take, Nat.min_eq_left hi, nodup_take (callsP_nodup f) hlt3] at this
                    exact this
                  have hany := anyB_all (HPFF.out.2.2.2 (callsP f)[i] (List.getElem_mem hlt3))
                  obtain ⟨y, hy⟩ : ∃ y, (callsP f)[i] = y := ⟨_, rfl⟩
                  rw [hy] at hc7 HCN hany
                  have HANY := Lib.hid hany
                  clear hany hy
                  go_wp2_with fail
                  go_loopw [10, 11] (fun th j wt => ∃ (q m : Nat), q ≤ fs.length ∧ j = .int .i64 q ∧ th = .bool (anyB fs y q) ∧ wt = w6.drewN m) (fun _ j _ => fs.length - (intOf j).toNat)
                  case atStart => exact ⟨0, m2, Nat.zero_le _, rfl, by rw [anyB_zero], rfl⟩
                  case round =>
                    obtain ⟨q, m3, hq, rfl, rfl, rfl⟩ := hrel
                    by_cases hlt4 : q < fs.length
                    · obtain ⟨b8, off8, P8, p8, B8, d8, e8, -, hcells8, -, -, -⟩ := (HGG.out.keep ((Keeps.of_below (grow_trans hbel HB6.out)).in _) (fun _ h => h)) q hlt4
                      simp only [Option.some.injEq, Addr.mk.injEq, and_true] at e8
                      obtain ⟨rfl, rfl⟩ := e8
                      obtain ⟨g0, -, -⟩ := cells_fun hcells8
                      have hlt4' : (q : Int) < (fs.length : Int) := by omega
                      have HST := Lib.hid (anyB_step (x := y) hlt4)
                      clear hcells8
                      cases hnm : (fs[q].name == y)
                      · have q1 : ((mkB fs[q].name).toList == (mkB y).toList) = false := by rw [mkB_toList, mkB_toList]; exact hnm
                        rw [hnm, Bool.or_false] at HST
                        clear hnm
                        go_wp2_with fail
                        go_quiet (fail)
                        go_wp2_with fail
                        go_roundw
                        case rel => exact ⟨q + 1, _, by omega, by go_num, by rw [HST.out], rfl⟩
                        case measure => simp [intOf]; omega
                      · have q1 : ((mkB fs[q].name).toList == (mkB y).toList) = true := by rw [mkB_toList, mkB_toList]; exact hnm
                        rw [hnm, Bool.or_true] at HST
                        clear hnm
                        go_wp2_with fail
                        go_quiet (fail)
                        go_wp2_with fail
                        go_roundw
                        case rel => exact ⟨q + 1, _, by omega, by go_num, by rw [HST.out], rfl⟩
                        case measure => simp [intOf]; omega
                    · have hq' : q = fs.length := by omega
                      subst hq'
                      rw [HANY.out]
                      go_wp2_with fail
                      go_quiet ((go_at_call 14; exact quiet_add (Calls.mono (HCN.out _ (grow_drew (Below.refl _ _) _)) (by rintro e w'' ⟨rfl, rfl⟩; exact Quiet.same))))
                      go_wp2_with fail
                      go_roundw
                      case rel => exact ⟨i + 1, _, by omega, by go_num, rfl⟩
                      case measure => simp [intOf]; omega
                · have hi' : i = (callsP f).length := by omega
                  subst hi'
                  go_wp2_with fail
                  go_roundw
                  case rel => exact ⟨k + 1, by omega, by go_num, grow_drew (grow_trans hbel HB6.out) _⟩
                  case measure => simp [intOf]; omega
        · have hk' : k = fs.length := by omega
          subst hk'
          go_wp2_with fail
          go_ret
          exact ⟨rfl, grow_trans HB4.out hbel⟩
    · have H0 := Lib.hid h0
      clear hr hE hp hsm hsum hszs h0
      go_enter Tryd.func5, Tryd.ntmps5
      go_wp2_with (first
        | (go_at_call 11; (with_reducible refine HS.out.mono ?_); rintro x w1 ⟨rfl, hb1⟩)
        | (go_at_call 7; (with_reducible refine (HLG.out _ hb1).mono ?_); rintro x w2 ⟨rfl, hb2⟩)
        | (go_at_call 9; (with_reducible refine (HAS.out _ (grow_trans hb1 hb2)).mono ?_); rintro x w3 ⟨B, d, rfl, hd, hg, hb3⟩; have HG := Lib.hid hg; clear hg)
        | (go_at_call 12; (with_reducible refine (HPR.out _ _ _ _ (grow_trans (grow_trans hb1 hb2) hb3) hd HG.out).mono ?_); rintro x w4 ⟨v4, rfl, he4, hb4, hn4⟩; obtain ⟨ty, vx, rfl⟩ := err_iface he4 (by have := H0.out; omega); clear he4 hn4))
      go_ret
      exact ⟨rfl, grow_trans (grow_trans (grow_trans hb1 hb2) hb3) hb4⟩
  · rw [hp] at HLG
    clear hr hE hp
    go_enter Tryd.func5, Tryd.ntmps5
    go_wp2_with (first
      | (go_at_call 11; (with_reducible refine HS.out.mono ?_); rintro x w1 ⟨rfl, hb1⟩)
      | (go_at_call 7; (with_reducible refine (HLG.out _ hb1).mono ?_); rintro x w2 ⟨rfl, hb2⟩))
    go_ret
    exact ⟨rfl, grow_trans hb1 hb2⟩
end Go.Proofs.YtidhplpidkgkdaaDoor
