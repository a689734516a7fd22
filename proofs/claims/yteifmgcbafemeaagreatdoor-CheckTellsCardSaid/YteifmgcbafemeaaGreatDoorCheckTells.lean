import Derived.Test.YteifmgcbafemeaaGreatDoorCheckRf
import Derived.Test.YteifmgcbafemeaaGreatDoorCheckRv
import Derived.Test.YteifmgcbafemeaaGreatDoorCheckVC
import Derived.Test.YteifmgcbafemeaaGreatDoorCheckPr
import Derived.Test.YteifmgcbafemeaaGreatDoorCheckCk
import Derived.Test.YteifmgcbafemeaaGreatDoorCheckLw
import Derived.Test.YteifmgcbafemeaaGreatDoorTreeLg
import Derived.Test.YteifmgcbafemeaaGreatDoorCoded
namespace Go.Proofs.YteifmgcbafemeaaGreatDoor
open Go.RowKit

theorem same_strs (xs : List Nm) : sameS (xs.map mkB) (xs.map mkB) = true := by
  unfold sameS; exact beq_self_eq_true _
theorem same_any (xs : List Nm) (A B : Option Addr) (c d : Nat) (w : World) (hr : Row w A (strVs xs)) (hs : Row w B (strVs xs)) (hn : xs.length ≤ 1000000) :
    Calls Tryz.prog 11 #[.slice A xs.length c, .slice B xs.length d] w (Quiet (.bool true) w) := by
  rw [strVs_mk] at hr hs
  have h := SameTexts_any A B (xs.map mkB) (xs.map mkB) c d w hr hs (by simpa using hn) (by simpa using hn)
  rw [same_strs] at h
  simpa using h
theorem same_ret (xs : List Nm) (A B : Option Addr) (c d : Nat) (w : World) (hr : Row w A (strVs xs)) (hs : Row w B (strVs xs)) (hn : xs.length ≤ 1000000) :
    Calls Tryz.prog 11 #[.slice A xs.length c, .slice B xs.length d] w (Ret (.bool true) w) :=
  (same_any xs A B c d w hr hs hn).mono fun e w' h => by
    obtain ⟨rfl, n, rfl⟩ := h
    exact ⟨rfl, grow_drew (grow_refl _) n⟩
theorem faulted_same (E : Nat → Addr) (w : World) (h : Laid E w) (v : Value) (c a : Int) (hv : ErrIs E w v c a) :
    Calls Tryz.prog 8 #[v, faultV c a] w (Ret (.bool true) w) := by
  have := faulted_any E w h v c a c a hv
  simpa [faultV] using this
set_option maxHeartbeats 8000000 in
set_option maxRecDepth 100000 in
theorem CheckTells_walk (E : Nat → Addr) (fs : List PFun) (A : Option Addr) (c : Nat) (hc : fs.length ≤ c) (w : World) (hE : Laid E w) (hr : RdF w (fun _ => True) fs A) :
    Calls Tryz.prog 3 #[.slice A fs.length c] w (Ret (.bool true) w) := by
  have HS := Lib.hid (checked_any E w hE)
  have HLG : Hid (∀ w', Below w.heap.size w w' → Calls Tryz.prog 6 #[.slice A fs.length c, .int .i64 300] w' (Ret (.int .i64 (if largeP fs 300 then 1 else 0)) w')) := fun w' hb =>
    Large_any fs 300 (by omega) (fun _ => True) A c w' (hr.keep ((Keeps.of_below hb).in _) (fun _ h => h))
  cases hp : largeP fs 300
  · obtain ⟨h10, hsm, hsum, hszs⟩ := largeP_small (by omega) hp
    have HAS : Hid (∀ w', Below w.heap.size w w' → Calls Tryz.prog 7 #[.slice A fs.length c] w' fun x w'' => ∃ B d, x = .returned (.slice B fs.length d) ∧ fs.length ≤ d ∧ RdG w'' (newAt w') fs B ∧ Below w'.heap.size w' w'') := fun w' hb =>
      AsFuns_cap fs h10 hsm (fun _ => True) A c w' (hr.keep ((Keeps.of_below hb).in _) (fun _ h => h))
    have HPR : Hid (∀ w' w'' B d, Below w.heap.size w w'' → fs.length ≤ d → RdG w'' (newAt w') fs B → Calls Tryz.prog 9 #[.slice B fs.length d] w'' (ProgPost E fs w'')) := fun w' w'' B d hb hd hg =>
      Program_any E fs hsm (newAt w') B d (by omega) hd w'' (hE.keep hb) hg
    have HPF : Hid (∀ w', Below w.heap.size w w' → Calls Tryz.prog 10 #[.slice A fs.length c] w' (Ret (faultV ((progC fs).1 : Nat) (progC fs).2) w')) := fun w' hb =>
      ProgramFault_any fs h10 hsm (fun _ => True) A c hc w' (hr.keep ((Keeps.of_below hb).in _) (fun _ h => h))
    have HFT : Hid (∀ w' v, Below w.heap.size w w' → ErrIs E w' v (progC fs).1 (progC fs).2 → Calls Tryz.prog 8 #[v, faultV ((progC fs).1 : Nat) (progC fs).2] w' (Ret (.bool true) w')) := fun w' v hb hv =>
      faulted_same E w' (hE.keep hb) v _ _ hv
    rw [hp] at HLG
    have HSM := Lib.hid hsm
    have HSZ := Lib.hid hszs
    have HR := Lib.hid hr
    clear hr hE hp hsm hsum hszs
    obtain ⟨fv, hfv⟩ : ∃ fv, faultV ((progC fs).1 : Nat) (progC fs).2 = fv := ⟨_, rfl⟩
    rw [hfv] at HPF HFT
    clear hfv
    go_enter Tryz.func3, Tryz.ntmps3
    go_wp2_with (first
      | (go_at_call 5; (with_reducible refine HS.out.mono ?_); rintro x w1 ⟨rfl, hb1⟩)
      | (go_at_call 6; (with_reducible refine (HLG.out _ hb1).mono ?_); rintro x w2 ⟨rfl, hb2⟩)
      | (go_at_call 7; (with_reducible refine (HAS.out _ (grow_trans hb1 hb2)).mono ?_); rintro x w3 ⟨B, d, rfl, hd, hg, hb3⟩; have HG := Lib.hid hg; clear hg)
      | (go_at_call 9; (with_reducible refine (HPR.out _ _ _ _ (grow_trans (grow_trans hb1 hb2) hb3) hd HG.out).mono ?_); rintro x w4 ⟨v4, rfl, he4, hb4, -⟩; have HE4 := Lib.hid he4; clear he4)
      | (go_at_call 10; (with_reducible refine (HPF.out _ (grow_trans (grow_trans (grow_trans hb1 hb2) hb3) hb4)).mono ?_); rintro x w5 ⟨rfl, hb5⟩)
      | (go_at_call 8; (with_reducible refine (HFT.out _ _ (grow_trans (grow_trans (grow_trans (grow_trans hb1 hb2) hb3) hb4) hb5) (HE4.out.keep (Keeps.of_below hb5))).mono ?_); rintro x w6 ⟨rfl, hb6⟩))
    have HB6 := Lib.hid (grow_trans (grow_trans (grow_trans (grow_trans (grow_trans hb1 hb2) hb3) hb4) hb5) hb6)
    have HGG := Lib.hid (HG.out.keep ((Keeps.of_below (grow_trans (grow_trans hb4 hb5) hb6)).in _) (fun _ h => h))
    obtain ⟨wo, rfl⟩ : ∃ wo : World, wo = w6 := ⟨_, rfl⟩
    have HRR := Lib.hid (HR.out.keep ((Keeps.of_below HB6.out).in _) (fun _ h => h))
    clear hb1 hb2 hb3 hb4 hb5 hb6 HG HPR HAS HLG HS HPF HFT HE4 HR
    go_loopw [5] (fun i wr => ∃ k : Nat, k ≤ fs.length ∧ i = .int .i64 k ∧ Below wo.heap.size wo wr) (fun i _ => fs.length - (intOf i).toNat)
    case atStart => exact ⟨0, Nat.zero_le _, rfl, grow_refl _⟩
    case round =>
      obtain ⟨k, hk, rfl, hbel⟩ := hrel
      by_cases hlt : k < fs.length
      · obtain ⟨b, off, P, p, B', d', rfl, -, hcells, hprm, hok, hbody⟩ := (HGG.out.keep ((Keeps.of_below hbel).in _) (fun _ h => h)) k hlt
        obtain ⟨bl, offl, Pl, pl, Bl, dl, rfl, -, hcellsl, hprml, hbodyl⟩ := (HRR.out.keep ((Keeps.of_below hbel).in _) (fun _ h => h)) k hlt
        obtain ⟨c0, c1, c2⟩ := cells_fun hcells
        obtain ⟨e0, e1, e2⟩ := cells_fun hcellsl
        have hlt' : (k : Int) < (fs.length : Int) := by omega
        have hsf := HSM.out fs[k] (List.getElem_mem hlt)
        have hzf := HSZ.out fs[k] (List.getElem_mem hlt)
        obtain ⟨f, hf⟩ : ∃ f, fs[k] = f := ⟨_, rfl⟩
        rw [hf] at hcells hprm hok hbody c0 c1 c2 hsf hzf hcellsl hprml hbodyl e0 e1 e2
        have hb00 : Below wr.heap.size wr wr.drew := (Below.refl wr.heap.size wr).drew
        have HV : Hid (∀ w', Below wr.heap.size wr w' → Calls Tryz.prog 12 #[funV f P p B' d'] w' (RetT (varsP f) w')) := fun w' hb =>
          Vars_any f hsf (by omega) _ P p B' d' w' (hprm.keep ((Keeps.of_below hb).in _) (fun _ h => h)) hok (hbody.keep ((Keeps.of_below hb).in _) (fun _ h => h))
        have HVL : Hid (∀ w', Below wr.heap.size wr w' → Calls Tryz.prog 13 #[funV f Pl pl Bl dl] w' (RetT (varsP f) w')) := fun w' hb =>
          VarsOf_any f hsf (by omega) _ Pl pl Bl dl w' (hprml.keep ((Keeps.of_below hb).in _) (fun _ h => h)) (hbodyl.keep ((Keeps.of_below hb).in _) (fun _ h => h))
        have HC : Hid (∀ w', Below wr.heap.size wr w' → Calls Tryz.prog 14 #[funV f P p B' d'] w' (RetT (callsP f) w')) := fun w' hb =>
          Calls_any f hsf (by omega) _ P p B' d' w' (hbody.keep ((Keeps.of_below hb).in _) (fun _ h => h))
        have HCL : Hid (∀ w', Below wr.heap.size wr w' → Calls Tryz.prog 15 #[funV f Pl pl Bl dl] w' (RetT (callsP f) w')) := fun w' hb =>
          CallsOf_any f hsf (by omega) _ Pl pl Bl dl w' (hbodyl.keep ((Keeps.of_below hb).in _) (fun _ h => h))
        have hvl := vars_len hsf (by omega)
        have hcl := calls_len (f := f) (by omega)
        have HSV : Hid (∀ w' A1 A2 c1 c2, Row w' A1 (strVs (varsP f)) → Row w' A2 (strVs (varsP f)) → Calls Tryz.prog 11 #[.slice A1 (varsP f).length c1, .slice A2 (varsP f).length c2] w' (Ret (.bool true) w')) := fun w' A1 A2 c1 c2 h1 h2 =>
          same_ret (varsP f) A1 A2 c1 c2 w' h1 h2 (by omega)
        have HSC : Hid (∀ w' A1 A2 c1 c2, Row w' A1 (strVs (callsP f)) → Row w' A2 (strVs (callsP f)) → Calls Tryz.prog 11 #[.slice A1 (callsP f).length c1, .slice A2 (callsP f).length c2] w' (Ret (.bool true) w')) := fun w' A1 A2 c1 c2 h1 h2 =>
          same_ret (callsP f) A1 A2 c1 c2 w' h1 h2 (by omega)
        have HCE := Lib.hid hcells
        have HCEL := Lib.hid hcellsl
        unfold funV at HV HC HVL HCL
        clear hcells hprm hok hbody hsf hzf hf hcellsl hprml hbodyl hvl hcl
        go_upto_region 10 with fail
        go_cut [54] (fun v wx => v = .bool false ∧ Below wr.heap.size wr wx)
        case first =>
          go_region_held3 (fun w' => Below wr.heap.size wr w' ∧ w'.cell? ⟨b, off + k * 3, none⟩ = some (.string (mkB f.name)) ∧ w'.cell? ⟨b, off + k * 3 + 1, none⟩ = some (.slice P f.params.length p) ∧ w'.cell? ⟨b, off + k * 3 + 2, none⟩ = some (.slice B' f.body.length d') ∧ w'.cell? ⟨bl, offl + k * 3, none⟩ = some (.string (mkB f.name)) ∧ w'.cell? ⟨bl, offl + k * 3 + 1, none⟩ = some (.slice Pl f.params.length pl) ∧ w'.cell? ⟨bl, offl + k * 3 + 2, none⟩ = some (.slice Bl f.body.length dl))
            (first
              | exact ⟨hb00, c0, c1, c2, e0, e1, e2⟩
              | (go_split_ands
                 refine ⟨?_, ?_, ?_, ?_, ?_, ?_, ?_⟩
                 all_goals (first | assumption | exact Keeps.of_below hbT _ _ (by assumption) | exact grow_trans (by assumption) hbT)))
            (first
              | (go_at_call 12; (with_reducible refine (HV.out _ (by first | assumption | (go_split_ands; assumption))).mono ?_); rintro y w11 ⟨A5, c5, rfl, hrow5, hcap5, hbT⟩; have HR5 := Lib.hid hrow5; clear hrow5)
              | (go_at_call 13; (with_reducible refine (HVL.out _ (by first | assumption | (go_split_ands; assumption))).mono ?_); rintro y w12 ⟨A6, c6, rfl, hrow6, hcap6, hbT⟩; have HR6 := Lib.hid hrow6; have HR56 := Lib.hid (HR5.out.keep (Keeps.of_below hbT)); clear hrow6)
              | (go_at_call 14; (with_reducible refine (HC.out _ (by first | assumption | (go_split_ands; assumption))).mono ?_); rintro y w13 ⟨A7, c7, rfl, hrow7, hcap7, hbT⟩; have HR7 := Lib.hid hrow7; clear hrow7)
              | (go_at_call 15; (with_reducible refine (HCL.out _ (by first | assumption | (go_split_ands; assumption))).mono ?_); rintro y w14 ⟨A8, c8, rfl, hrow8, hcap8, hbT⟩; have HR8 := Lib.hid hrow8; have HR78 := Lib.hid (HR7.out.keep (Keeps.of_below hbT)); clear hrow8)
              | (go_at_call 11; (with_reducible refine (HSV.out _ _ _ _ _ HR56.out HR6.out).mono ?_); rintro y w15 ⟨rfl, hbT⟩)
              | (go_at_call 11; (with_reducible refine (HSC.out _ _ _ _ _ HR78.out HR8.out).mono ?_); rintro y w16 ⟨rfl, hbT⟩))
          all_goals go_wp2_with fail
          all_goals go_meet
          all_goals go_split_ands
          all_goals exact ⟨rfl, by assumption⟩
        case rest =>
          obtain ⟨rfl, hb2⟩ := hcut
          have HB2 := Lib.hid (grow_trans hbel hb2)
          clear hb2 c0 c1 c2 e0 e1 e2
          go_wp2_with fail
          go_roundw
          case rel => exact ⟨k + 1, by omega, by go_num, HB2.out⟩
          case measure => simp [intOf]; omega
      · have hk' : k = fs.length := by omega
        subst hk'
        go_wp2_with fail
        go_ret
        exact ⟨rfl, grow_trans HB6.out hbel⟩
  · rw [hp] at HLG
    clear hr hE hp
    go_enter Tryz.func3, Tryz.ntmps3
    go_wp2_with (first
      | (go_at_call 5; (with_reducible refine HS.out.mono ?_); rintro x w1 ⟨rfl, hb1⟩)
      | (go_at_call 6; (with_reducible refine (HLG.out _ hb1).mono ?_); rintro x w2 ⟨rfl, hb2⟩))
    go_ret
    exact ⟨rfl, grow_trans hb1 hb2⟩
end Go.Proofs.YteifmgcbafemeaaGreatDoor
