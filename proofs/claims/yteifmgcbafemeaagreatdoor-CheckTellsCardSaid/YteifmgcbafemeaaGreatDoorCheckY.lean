import Derived.Test.YteifmgcbafemeaaGreatDoorCheckV
namespace Go.Proofs.YteifmgcbafemeaaGreatDoor
open Go.RowKit

/-! check.names, body -/
/-- The place of the first text that is no name, counted from k; -1: none. -/
def firstNo : List Nm → Nat → Int
  | [], _ => -1
  | p :: ps, k => if nmOk p then firstNo ps (k + 1) else (k : Int)
theorem firstNo_drop {ps : List Nm} {k : Nat} (h : k < ps.length) : firstNo (ps.drop k) k = if nmOk ps[k] then firstNo (ps.drop (k + 1)) (k + 1) else (k : Int) := by
  rw [List.drop_eq_getElem_cons h, firstNo]
theorem firstNo_all : ∀ (ps : List Nm) (k : Nat), decide (firstNo ps k ≥ 0) = !ps.all nmOk := by
  intro ps
  induction ps with
  | nil => intro k; simp [firstNo]
  | cons p ps ih =>
    intro k
    unfold firstNo
    cases h : nmOk p
    · simp [h]
    · rw [if_pos rfl, ih]; simp [h]
theorem names1_any (x : Nm) (w : World) : Calls Tryz.prog 51 #[strV x] w (Ret (.bool (!nmOk x)) w) := by
  have HN := Lib.hid (lexName_any x)
  unfold strV at *
  cases h : nmOk x
  all_goals
    rw [h] at HN
    clear h
    go_enter Tryz.func51, Tryz.ntmps51
    go_wp2_with (go_at_call 49; (with_reducible refine (HN.out _).mono ?_); rintro y w1 ⟨rfl, hb1⟩)
    go_ret
    exact ⟨rfl, hb1⟩
theorem strVs_get {ps : List Nm} {k : Nat} (h : k < ps.length) : (strVs ps)[k]? = some (.string (mkB ps[k])) := by simp [strVs, h]
set_option maxRecDepth 100000 in
theorem idxNo_any (ps : List Nm) (hl : ps.length ≤ 1000) (A : Option Addr) (c : Nat) (w : World) (hr : Row w A (strVs ps)) :
    Calls Tryz.prog 73 #[.slice A ps.length c, .func (.func 51) #[] #[]] w (Ret (.int .i64 (firstNo ps 0)) w) := by
  have HR := Lib.hid hr
  clear hr
  go_enter Tryz.func73, Tryz.ntmps73
  go_wp2_with fail
  go_loopw [5, 8] (fun _ i wr => ∃ k : Nat, k ≤ ps.length ∧ i = .int .i64 k ∧ firstNo ps 0 = firstNo (ps.drop k) k ∧ Below w.heap.size w wr) (fun _ i _ => ps.length - (intOf i).toNat)
  case atStart => exact ⟨0, Nat.zero_le _, rfl, by simp, grow_refl _⟩
  case round =>
    obtain ⟨k, hk, rfl, hI, hbel⟩ := hrel
    have HI := Lib.hid hI
    clear hI
    by_cases hlt : k < ps.length
    · obtain ⟨b, off, rfl, hc⟩ := (HR.out.keep (Keeps.of_below hbel)) k _ (strVs_get hlt)
      have hlt' : (k : Int) < (ps.length : Int) := by omega
      have HS := Lib.hid (firstNo_drop hlt)
      have h1 := names1_any ps[k]
      unfold strV at h1
      have HN := Lib.hid h1
      clear h1
      cases hn : nmOk ps[k]
      · rw [hn] at HN HS
        have HF : Hid (firstNo ps 0 = (k : Int)) := show _ = _ from HI.out.trans HS.out
        clear hn
        go_wp2_with (go_at_call 51; (with_reducible refine (HN.out _).mono ?_); rintro y w1 ⟨rfl, hb1⟩)
        go_ret
        exact ⟨by rw [HF.out]; rfl, grow_trans hbel hb1⟩
      · rw [hn] at HN HS
        have HF : Hid (firstNo ps 0 = firstNo (ps.drop (k + 1)) (k + 1)) := show _ = _ from HI.out.trans HS.out
        clear hn
        go_wp2_with (go_at_call 51; (with_reducible refine (HN.out _).mono ?_); rintro y w1 ⟨rfl, hb1⟩)
        go_roundw
        case rel => exact ⟨k + 1, by omega, by go_num, HF.out, grow_trans hbel hb1⟩
        case measure => simp [intOf]; omega
    · have hk' : k = ps.length := by omega
      subst hk'
      go_wp2_with fail
      go_ret
      exact ⟨by rw [HI.out, List.drop_length]; rfl, hbel⟩
set_option maxRecDepth 100000 in
theorem anyNo_any (ps : List Nm) (hl : ps.length ≤ 1000) (A : Option Addr) (c : Nat) (w : World) (hr : Row w A (strVs ps)) :
    Calls Tryz.prog 50 #[.slice A ps.length c, .func (.func 51) #[] #[]] w (Ret (.bool (!ps.all nmOk)) w) := by
  have HI := Lib.hid (idxNo_any ps hl A c w hr)
  have HB := Lib.hid (firstNo_all ps 0)
  clear hr
  go_enter Tryz.func50, Tryz.ntmps50
  go_wp2_with (go_at_call 73; (with_reducible refine HI.out.mono ?_); rintro y w1 ⟨rfl, hb1⟩)
  go_ret
  exact ⟨by rw [← HB.out]; rfl, hb1⟩
/-- The place of the first function of this name. -/
def firstFn (n : Nm) : List PFun → Nat → Int
  | [], _ => -1
  | g :: gs, k => if g.name == n then (k : Int) else firstFn n gs (k + 1)
theorem firstFn_drop {n : Nm} {gs : List PFun} {k : Nat} (h : k < gs.length) : firstFn n (gs.drop k) k = if gs[k].name == n then (k : Int) else firstFn n (gs.drop (k + 1)) (k + 1) := by
  rw [List.drop_eq_getElem_cons h, firstFn]
theorem firstFn_any (n : Nm) : ∀ (gs : List PFun) (k : Nat), decide (firstFn n gs k ≥ 0) = gs.any fun g => g.name == n := by
  intro gs
  induction gs with
  | nil => intro k; simp [firstFn]
  | cons g gs ih =>
    intro k
    unfold firstFn
    rw [List.any_cons]
    cases h : (g.name == n)
    · rw [if_neg (by simp), ih]; simp
    · simp
def funO (f : PFun) (P : Option Addr) (p : Nat) (B : Option Addr) (c : Nat) : Obj := .cells #[.string (mkB f.name), .slice P f.params.length p, .slice B f.body.length c] 39
theorem names2_any (g : PFun) (P : Option Addr) (p : Nat) (B : Option Addr) (c q : Nat) (n : Nm) (w : World) (h : w.cell? ⟨q, 0, none⟩ = some (.string (mkB n))) :
    Calls Tryz.prog 53 #[funV g P p B c, .pointer (some ⟨q, 0, none⟩)] w (Ret (.bool (g.name == n)) w) := by
  have h1 : (w.alloc (funO g P p B c)).cell? ⟨q, 0, none⟩ = some (.string (mkB n)) := Keeps.alloc _ _ _ _ h
  have HE : Hid (((mkB g.name).toList == (mkB n).toList) = (g.name == n)) := show _ = _ by rw [mkB_toList, mkB_toList]
  unfold funO at h1
  unfold funV
  clear h
  go_enter Tryz.func53, Tryz.ntmps53
  go_wp2_with fail
  go_ret
  exact ⟨by rw [← HE.out]; rfl, grow_alloc (grow_refl _) _⟩
set_option maxRecDepth 100000 in
theorem idxFn_any (n : Nm) (gs : List PFun) (hl : gs.length ≤ 1000) (q : Nat) (S : Nat → Prop) (A : Option Addr) (c : Nat) (w : World) (hr : RdG w S gs A) (h : w.cell? ⟨q, 0, none⟩ = some (.string (mkB n))) :
    Calls Tryz.prog 39 #[.slice A gs.length c, .func (.func 53) #[] #[.pointer (some ⟨q, 0, none⟩)]] w (Ret (.int .i64 (firstFn n gs 0)) w) := by
  have HR := Lib.hid hr
  have HQ := Lib.hid h
  clear hr h
  go_enter Tryz.func39, Tryz.ntmps39
  go_wp2_with fail
  go_loopw [5, 8] (fun _ i wr => ∃ k : Nat, k ≤ gs.length ∧ i = .int .i64 k ∧ firstFn n gs 0 = firstFn n (gs.drop k) k ∧ Below w.heap.size w wr) (fun _ i _ => gs.length - (intOf i).toNat)
  case atStart => exact ⟨0, Nat.zero_le _, rfl, by simp, grow_refl _⟩
  case round =>
    obtain ⟨k, hk, rfl, hI, hbel⟩ := hrel
    have HI := Lib.hid hI
    clear hI
    by_cases hlt : k < gs.length
    · obtain ⟨b, off, P, p, B, d, rfl, -, hcells, -, -, -⟩ := (HR.out.keep ((Keeps.of_below hbel).in S) (fun _ h => h)) k hlt
      obtain ⟨c0, c1, c2⟩ := cells_fun hcells
      have hlt' : (k : Int) < (gs.length : Int) := by omega
      have HS := Lib.hid (firstFn_drop (n := n) hlt)
      have h1 := names2_any gs[k] P p B d q n wr (Keeps.of_below hbel _ _ HQ.out)
      unfold funV at h1
      have HN := Lib.hid h1
      clear h1 hcells
      cases hn : (gs[k].name == n)
      · rw [hn] at HN HS
        have HF : Hid (firstFn n gs 0 = firstFn n (gs.drop (k + 1)) (k + 1)) := show _ = _ from HI.out.trans HS.out
        clear hn
        go_wp2_with (go_at_call 53; (with_reducible refine HN.out.mono ?_); rintro y w1 ⟨rfl, hb1⟩)
        go_roundw
        case rel => exact ⟨k + 1, by omega, by go_num, HF.out, grow_trans hbel hb1⟩
        case measure => simp [intOf]; omega
      · rw [hn] at HN HS
        have HF : Hid (firstFn n gs 0 = (k : Int)) := show _ = _ from HI.out.trans HS.out
        clear hn
        go_wp2_with (go_at_call 53; (with_reducible refine HN.out.mono ?_); rintro y w1 ⟨rfl, hb1⟩)
        go_ret
        exact ⟨by rw [HF.out]; rfl, grow_trans hbel hb1⟩
    · have hk' : k = gs.length := by omega
      subst hk'
      go_wp2_with fail
      go_ret
      exact ⟨by rw [HI.out, List.drop_length]; rfl, hbel⟩
set_option maxRecDepth 100000 in
theorem anyFn_any (n : Nm) (gs : List PFun) (hl : gs.length ≤ 1000) (q : Nat) (S : Nat → Prop) (A : Option Addr) (c : Nat) (w : World) (hr : RdG w S gs A) (h : w.cell? ⟨q, 0, none⟩ = some (.string (mkB n))) :
    Calls Tryz.prog 52 #[.slice A gs.length c, .func (.func 53) #[] #[.pointer (some ⟨q, 0, none⟩)]] w (Ret (.bool (gs.any fun g => g.name == n)) w) := by
  have HI := Lib.hid (idxFn_any n gs hl q S A c w hr h)
  have HB := Lib.hid (firstFn_any n gs 0)
  clear hr h
  go_enter Tryz.func52, Tryz.ntmps52
  go_wp2_with (go_at_call 39; (with_reducible refine HI.out.mono ?_); rintro y w1 ⟨rfl, hb1⟩)
  go_ret
  exact ⟨by rw [← HB.out]; rfl, hb1⟩
end Go.Proofs.YteifmgcbafemeaaGreatDoor
