import Derived.Test.YteifmgcbafemeaaGreatDoorCheckRv
import Derived.Test.YteifmgcbafemeaaGreatDoorCheckRb
import Derived.Test.YteifmgcbafemeaaGreatDoorCheckZ
import Derived.Test.YteifmgcbafemeaaGreatDoorCheckPr
namespace Go.Proofs.YteifmgcbafemeaaGreatDoor
open Go.RowKit

/-! the document's check of a function -/
theorem all_step {ps : List Nm} {k : Nat} (h : k < ps.length) : (ps.take (k + 1)).all nmOk = ((ps.take k).all nmOk && nmOk ps[k]) := by
  rw [List.take_succ_eq_append_getElem h, List.all_append]; simp
theorem all_bad {ps : List Nm} {k : Nat} (h : k < ps.length) (hb : nmOk ps[k] = false) : ps.all nmOk = false := by
  rw [List.all_eq_false]
  exact ⟨ps[k], List.getElem_mem h, by rw [hb]; decide⟩
theorem funC_bad {t : Tab} {ah : List PFun} {f : PFun} (h : (nmOk f.name && f.params.all nmOk) = false) : funC t ah f = 5 := by
  have h1 : namesC f ah = 5 := by unfold namesC; rw [h]; rfl
  unfold funC; rw [h1]; rfl
theorem funC_there {t : Tab} {ah : List PFun} {f : PFun} (h : (nmOk f.name && f.params.all nmOk) = true) (h2 : (ah.any fun g => g.name == f.name) = true) : funC t ah f = 7 := by
  have h1 : namesC f ah = 7 := by unfold namesC; rw [if_pos h, if_pos h2]
  unfold funC; rw [h1]; rfl
theorem funC_many {t : Tab} {ah : List PFun} {f : PFun} (h : (nmOk f.name && f.params.all nmOk) = true) (h2 : (ah.any fun g => g.name == f.name) = false) (h3 : 4 < f.params.length) : funC t ah f = 9 := by
  have h1 : namesC f ah = 9 := by unfold namesC; rw [if_pos h, h2, if_neg (by decide), if_pos h3]
  unfold funC; rw [h1]; rfl
theorem funC_dup {t : Tab} {ah : List PFun} {f : PFun} (h : (nmOk f.name && f.params.all nmOk) = true) (h2 : (ah.any fun g => g.name == f.name) = false) (h3 : ¬ 4 < f.params.length) (h4 : dupC [] f.params = true) : funC t ah f = 7 := by
  have h1 : namesC f ah = 7 := by rw [namesC_rest h h2 h3, h4]; rfl
  unfold funC; rw [h1]; rfl
theorem funC_well {t : Tab} {ah : List PFun} {f : PFun} (h : (nmOk f.name && f.params.all nmOk) = true) (h2 : (ah.any fun g => g.name == f.name) = false) (h3 : ¬ 4 < f.params.length) (h4 : dupC [] f.params = false) : funC t ah f = (blockC t f.body f.params f.params).1 := by
  have h1 : namesC f ah = 0 := by rw [namesC_rest h h2 h3, h4]; rfl
  unfold funC; rw [h1]; rfl
def anyH (fs : List PFun) (x : Nm) (j : Nat) : Bool := (fs.take j).any fun g => g.name == x
theorem anyH_step {fs : List PFun} {x : Nm} {k : Nat} (h : k < fs.length) : anyH fs x (k + 1) = (anyH fs x k || (fs[k].name == x)) := by
  unfold anyH
  rw [List.take_succ_eq_append_getElem h, List.any_append]; simp
theorem anyH_there {fs : List PFun} {x : Nm} {k : Nat} (h : k < fs.length) (hx : (fs[k].name == x) = true) : (fs.any fun g => g.name == x) = true := by
  rw [List.any_eq_true]; exact ⟨fs[k], List.getElem_mem h, hx⟩
/-- The Known that funError makes: two rows of the same names, each its own. -/
theorem kn_made {w1 w2 : World} {base nf cf : Nat} {F : Option Addr} {ps : List Nm} {v1 v2 : Value} (hb : base ≤ w1.heap.size) (hb2 : Below w1.heap.size w1 w2)
    (h1 : w1.ownsRow base 9 1 v1 ps.length (strVs ps)) (h2 : w2.ownsRow w1.heap.size 9 1 v2 ps.length (strVs ps)) :
    KnAt base w2.heap.size F nf cf ps ps (w2.alloc (.cells #[.slice F nf cf, .bool true, v1, v2] 113)) := by
  have s2 := hb2.size
  have o1 := ownsRow_below h1 hb2
  have o2 := owned_mono h2 (base' := base) hb
  refine ⟨by omega, by simp, v1, v2, heap_alloc_new w2 _, o1.alloc _, o2.alloc _, fun e => by have := (o1.lt _ e).2; omega, fun e => by have := (o2.lt _ e).2; omega, ?_⟩
  cases hv : v2.ownBlock with
  | none => exact .inl rfl
  | some g =>
    refine .inr fun e => ?_
    have a1 := (h1.lt _ e).2
    have a2 := (h2.lt _ hv).1
    omega
set_option maxHeartbeats 8000000 in
set_option maxRecDepth 100000 in
theorem funError_any (fs ah : List PFun) (hf : fs.length ≤ 10) (hah : ah.length ≤ 10) (f : PFun) (hsm : SmF f) (S : Nat → Prop) (F : Option Addr) (cf : Nat) (A : Option Addr) (ca : Nat) (P : Option Addr) (p : Nat) (B : Option Addr) (c : Nat) (w : World)
    (hF : RdF w S fs F) (hA : RdF w S ah A) (hp : RdT w S f.params P) (hB : RdS w S f.body B) :
    Calls Tryz.prog 27 #[funV f P p B c, .slice A ah.length ca, .slice F fs.length cf, .bool true] w (Ret (.int .i64 ((funC (tabOf fs) ah f : Nat) : Int)) w) := by
  have h8 := hsm.params
  have hb0 : Below w.heap.size w (w.alloc (rfunO f P p B c)) := grow_alloc (grow_refl _) _
  have HB0 := Lib.hid hb0
  have HBK := Lib.hid (heap_alloc_new w (rfunO f P p B c))
  have HNA : Hid (∀ w', Calls Tryz.prog 55 #[.string (mkB f.name)] w' (Ret (.bool (nmOk f.name)) w')) := fun w' => IsName_any f.name w'
  have HRW : Hid (∀ w', Below w.heap.size w w' → Row w' P (strVs f.params)) := fun w' hb => rdT_row (hp.keep ((Keeps.of_below hb).in S) (fun _ h => h))
  have HRA : Hid (∀ w', Below w.heap.size w w' → RdF w' S ah A) := fun w' hb => hA.keep ((Keeps.of_below hb).in S) (fun _ h => h)
  have HRF : Hid (RdF w (fun k => k < w.heap.size) fs F) := (hF.lt).keep ((Keeps.refl _).in _) (fun k hk => hk.2)
  have HRB : Hid (RdS w (fun k => k < w.heap.size) f.body B) := (hB.lt).keep ((Keeps.refl _).in _) (fun k hk => hk.2)
  have HSB : Hid (f.body.length ≤ 30 ∧ ∀ s ∈ f.body, SmS s) := ⟨hsm.body, hsm.stmts⟩
  clear hF hA hp hB hb0 hsm
  unfold funV
  unfold rfunO at *
  cases hn : nmOk f.name
  · have HF : Hid (funC (tabOf fs) ah f = 5) := show _ = _ from funC_bad (by rw [hn]; rfl)
    rw [hn] at HNA
    clear hn
    go_enter Tryz.func27, Tryz.ntmps27
    go_wp2_with (go_at_call 55; (with_reducible refine (HNA.out _).mono ?_); rintro y w1 ⟨rfl, hb1⟩)
    go_ret
    exact ⟨by rw [HF.out]; rfl, grow_trans HB0.out hb1⟩
  · have HNM := Lib.hid hn
    rw [hn] at HNA
    clear hn
    go_enter Tryz.func27, Tryz.ntmps27
    go_wp2_with (go_at_call 55; (with_reducible refine (HNA.out _).mono ?_); rintro y w1 ⟨rfl, hb1⟩; have HB1 := Lib.hid (grow_trans HB0.out hb1); have HX1 := Lib.hid ((hb1.block w.heap.size (by simp)).trans HBK.out); clear hb1)
    obtain ⟨wo, rfl⟩ : ∃ wo : World, wo = w1 := ⟨_, rfl⟩
    go_loopw [10, 11] (fun i _ wr => ∃ k : Nat, k ≤ f.params.length ∧ i = .int .i64 k ∧ (f.params.take k).all nmOk = true ∧ Below wo.heap.size wo wr) (fun i _ _ => f.params.length - (intOf i).toNat)
    case atStart => exact ⟨0, Nat.zero_le _, rfl, rfl, grow_refl _⟩
    case round =>
      obtain ⟨k, hk, rfl, hall, hbel⟩ := hrel
      have HALL := Lib.hid hall
      have HBL := Lib.hid hbel
      have HX2 := Lib.hid ((hbel.block w.heap.size (Array.getElem?_eq_some_iff.1 HX1.out).1).trans HX1.out)
      obtain ⟨d0, d1, d2⟩ := row3 HX2.out
      clear hall hbel
      by_cases hlt : k < f.params.length
      · obtain ⟨b, off, rfl, hc⟩ := (HRW.out _ (grow_trans HB1.out HBL.out)) k _ (strVs_get hlt)
        have hlt' : (k : Int) < (f.params.length : Int) := by omega
        have hst := all_step hlt
        cases hx : nmOk f.params[k]
        · have HF : Hid (funC (tabOf fs) ah f = 5) := show _ = _ from funC_bad (by rw [all_bad hlt hx]; simp)
          have HN : Hid (∀ w', Calls Tryz.prog 55 #[.string (mkB f.params[k])] w' (Ret (.bool false) w')) := fun w' => hx ▸ IsName_any f.params[k] w'
          clear hx hst
          go_wp2_with (go_at_call 55; (with_reducible refine (HN.out _).mono ?_); rintro y w2 ⟨rfl, hb2⟩)
          go_ret
          exact ⟨by rw [HF.out]; rfl, grow_trans HB1.out (grow_trans HBL.out hb2)⟩
        · have HN : Hid (∀ w', Calls Tryz.prog 55 #[.string (mkB f.params[k])] w' (Ret (.bool true) w')) := fun w' => hx ▸ IsName_any f.params[k] w'
          have HS : Hid ((f.params.take (k + 1)).all nmOk = true) := show _ = _ by rw [hst, HALL.out, hx]; rfl
          clear hx hst
          go_wp2_with (go_at_call 55; (with_reducible refine (HN.out _).mono ?_); rintro y w2 ⟨rfl, hb2⟩)
          go_roundw
          case rel => exact ⟨k + 1, by omega, by go_num, HS.out, grow_trans HBL.out hb2⟩
          case measure => simp [intOf]; omega
      · have hk' : k = f.params.length := by omega
        subst hk'
        have HOK : Hid ((nmOk f.name && f.params.all nmOk) = true) := show _ = _ by have := HALL.out; rw [List.take_length] at this; rw [HNM.out, this]; rfl
        have HBW := Lib.hid (grow_trans HB1.out HBL.out)
        clear HX1 HB0 HB1 HBL HALL HNA HNM
        go_wp2_with fail
        obtain ⟨wp, rfl⟩ : ∃ wp : World, wp = wr := ⟨_, rfl⟩
        go_loopw [12] (fun i wt => ∃ (j m : Nat), j ≤ ah.length ∧ i = .int .i64 j ∧ anyH ah f.name j = false ∧ wt = wp.drewN m) (fun i _ => ah.length - (intOf i).toNat)
        case atStart => exact ⟨0, 0, Nat.zero_le _, rfl, rfl, rfl⟩
        case round =>
          obtain ⟨j, m, hj, rfl, hany, rfl⟩ := hrel
          have HANY := Lib.hid hany
          clear hany
          by_cases hlt2 : j < ah.length
          · obtain ⟨b2, off2, P2, p2, B2, c2, rfl, -, hcells2, -⟩ := (HRA.out _ HBW.out) j hlt2
            obtain ⟨g0, -, -⟩ := cells_fun hcells2
            have hlt2' : (j : Int) < (ah.length : Int) := by omega
            have hst := anyH_step (x := f.name) hlt2
            cases hx : (ah[j].name == f.name)
            · have q1 : ((mkB ah[j].name).toList == (mkB f.name).toList) = false := by rw [mkB_toList, mkB_toList]; exact hx
              have HS : Hid (anyH ah f.name (j + 1) = false) := show _ = _ by rw [hst, HANY.out, hx]; rfl
              clear hx hst hcells2
              go_wp2_with fail
              go_quiet (fail)
              go_wp2_with fail
              go_roundw
              case rel => exact ⟨j + 1, _, by omega, by go_num, HS.out, rfl⟩
              case measure => simp [intOf]; omega
            · have q1 : ((mkB ah[j].name).toList == (mkB f.name).toList) = true := by rw [mkB_toList, mkB_toList]; exact hx
              have HF : Hid (funC (tabOf fs) ah f = 7) := show _ = _ from funC_there HOK.out (anyH_there hlt2 hx)
              clear hx hst hcells2
              go_wp2_with fail
              go_quiet (fail)
              go_wp2_with fail
              go_ret
              exact ⟨by rw [HF.out]; rfl, grow_drew (grow_drew HBW.out _) _⟩
          · have hj' : j = ah.length := by omega
            subst hj'
            have HNO : Hid ((ah.any fun g => g.name == f.name) = false) := show _ = _ by have := HANY.out; unfold anyH at this; rwa [List.take_length] at this
            have HBD := Lib.hid (grow_drew HBW.out m)
            have HXD : Hid ((wp.drewN m).heap[w.heap.size]? = _) := HX2.out
            obtain ⟨wq, hwq⟩ : ∃ wq, wp.drewN m = wq := ⟨_, rfl⟩
            rw [hwq] at HBD HXD
            rw [hwq]
            obtain ⟨e0, e1, e2⟩ := row3 HXD.out
            clear hwq HANY d0 d1 d2 HX2 HBW
            by_cases h4 : 4 < f.params.length
            · have q4 : (4 : Int) < (f.params.length : Int) := by omega
              have HF : Hid (funC (tabOf fs) ah f = 9) := show _ = _ from funC_many HOK.out HNO.out h4
              clear h4
              go_wp2_with fail
              go_ret
              exact ⟨by rw [HF.out]; rfl, HBD.out⟩
            · have q4 : ¬ (4 : Int) < (f.params.length : Int) := by omega
              have H4 := Lib.hid h4
              have hsz : w.heap.size < wq.heap.size := (Array.getElem?_eq_some_iff.1 HXD.out).1
              clear h4
              go_wp2_with fail
              go_loopw [13, 14] (fun v i wt => ∃ j : Nat, j ≤ f.params.length ∧ i = .int .i64 j ∧ dupC [] f.params = dupC (f.params.take j) (f.params.drop j) ∧ wt.ownsRow wq.heap.size 9 1 v (f.params.take j).length (strVs (f.params.take j)) ∧ Below wq.heap.size wq wt) (fun _ i _ => f.params.length - (intOf i).toNat)
              case atStart => exact ⟨0, Nat.zero_le _, rfl, by simp, World.ownsRow_nil _ _ _ _, Below.refl _ _⟩
              case round =>
                obtain ⟨k, hk3, rfl, hdup, hown, hbel⟩ := hrel
                obtain ⟨A1, c1, rfl, hrow, hcap⟩ := owns_Row hown
                have HO := Lib.hid hown
                have HB := Lib.hid hbel
                have HDU := Lib.hid hdup
                have HR1 := Lib.hid hrow
                have HX := Lib.hid ((hbel.block w.heap.size hsz).trans HXD.out)
                obtain ⟨f0, f1, f2⟩ := row3 HX.out
                have hbz := hbel.size
                clear hown hbel hdup hrow
                by_cases hlt3 : k < f.params.length
                · obtain ⟨b3, off3, rfl, hc3⟩ := (HRW.out _ (grow_trans HBD.out HB.out)) k _ (strVs_get hlt3)
                  have hlt3' : (k : Int) < (f.params.length : Int) := by omega
                  have hst := dupC_step hlt3
                  have htk : (f.params.take k).length ≤ 8 := by rw [List.length_take]; omega
                  have hsn : f.params.take (k + 1) = f.params.take k ++ [f.params[k]] := List.take_succ_eq_append_getElem hlt3
                  obtain ⟨x, hx⟩ : ∃ x, f.params[k] = x := ⟨_, rfl⟩
                  obtain ⟨tk, htk2⟩ : ∃ tk, f.params.take k = tk := ⟨_, rfl⟩
                  rw [hx] at hc3 hst hsn
                  rw [htk2] at HO HR1 hcap htk hst hsn HDU
                  rw [htk2]
                  have HIN := Lib.hid (isin_any tk x A1 c1 wr HR1.out (by omega))
                  have HSN := Lib.hid hsn
                  clear hx htk2 hsn
                  cases hcn : tk.contains x
                  · rw [hcn] at HIN
                    have HS : Hid (dupC tk (f.params.drop k) = dupC (f.params.take (k + 1)) (f.params.drop (k + 1))) := show _ = _ by rw [hst, hcn]; rfl
                    have HNW : Hid (Row (wr.alloc (.cells #[.string (mkB x)] 9)) (some ⟨wr.heap.size, 0, none⟩) (strVs [x])) := Row.new wr (strVs [x]).toArray 9
                    clear hcn hst hcap
                    go_wp2_with (first
                      | (go_at_call 38; (with_reducible refine HIN.out.mono ?_); rintro y w3 ⟨rfl, rfl⟩)
                      | (at_builtin; (refine wpList_append_strs rfl _ _ rfl wq.heap.size _ tk [x] rfl (HO.out.alloc _) (some ⟨_, 0, none⟩) 1 rfl HNW.out (by simp; omega) (by simp; omega) ?_; intro A3 n3 c3' w3 g1 g2 g3; have HO3 := Lib.hid g1; have HB3 := Lib.hid (Below.grown (HB.out.alloc hbz (.cells #[.string (mkB x)] 9)) g2 (by simp; omega) (fun k hk => (HO.out.lt k hk).1)); clear g1 g2 g3)))
                    go_roundw
                    case rel => exact ⟨k + 1, by omega, by go_num, HDU.out.trans HS.out, by rw [HSN.out]; exact HO3.out, HB3.out⟩
                    case measure => simp [intOf]; omega
                  · rw [hcn] at HIN
                    have HF : Hid (funC (tabOf fs) ah f = 7) := show _ = _ from funC_dup HOK.out HNO.out H4.out (by rw [HDU.out, hst, hcn]; rfl)
                    clear hcn hst hcap
                    go_wp2_with (go_at_call 38; (with_reducible refine HIN.out.mono ?_); rintro y w3 ⟨rfl, rfl⟩)
                    go_ret
                    exact ⟨by rw [HF.out]; rfl, grow_trans HBD.out HB.out⟩
                · have hk' : k = f.params.length := by omega
                  subst hk'
                  have hdu := HDU.out
                  rw [List.take_length, List.drop_length, dupC] at hdu
                  have HF : Hid (funC (tabOf fs) ah f = (blockC (tabOf fs) f.body f.params f.params).1) := show _ = _ from funC_well HOK.out HNO.out H4.out hdu
                  have hto := HO.out
                  have htr := HR1.out
                  rw [List.take_length] at hto htr hcap
                  rw [List.take_length]
                  have HTO := Lib.hid hto
                  have HTR := Lib.hid htr
                  have HNI : Hid (wr.ownsRow wr.heap.size 9 1 (.slice none 0 0) ([] : List Nm).length (strVs [])) := World.ownsRow_nil _ _ _ _
                  have HWB := Lib.hid (grow_trans HBD.out HB.out)
                  clear hdu hto htr HO HR1 HDU
                  go_wp2_with (first
                    | (at_builtin; (refine wpList_append_strs rfl _ _ rfl wr.heap.size _ [] f.params rfl HNI.out _ _ rfl HTR.out (by simp; omega) (Nat.le_refl _) ?_; intro A3 n3 c3' w3 g1 g2 g3; have HO3 := Lib.hid (show w3.ownsRow wr.heap.size 9 1 (.slice A3 n3 c3') f.params.length (strVs f.params) from g1); have HB3 := Lib.hid (Below.grown (Below.refl wr.heap.size wr) g2 (Nat.le_refl _) (fun k hk => by cases hk)); obtain ⟨A4, c4, e4, hr4, hc4⟩ := owns_Row HO3.out; injection e4 with e5 e6 e7; subst e5; subst e6; subst e7; clear g1 g2 g3 hr4 hc4; obtain ⟨x0, x1, x2⟩ := row3 ((HB3.out.block w.heap.size (Nat.lt_of_lt_of_le hsz hbz)).trans HX.out); have x2' := Keeps.alloc w3 (.cells #[.slice F fs.length cf, .bool true, .slice A1 f.params.length c1, .slice A3 f.params.length c3'] 113) _ _ x2; have HBA := Lib.hid (grow_alloc (grow_trans HWB.out HB3.out) (.cells #[.slice F fs.length cf, .bool true, .slice A1 f.params.length c1, .slice A3 f.params.length c3'] 113)); have HBLK := Lib.hid (rblock_any wq.heap.size w3.heap.size fs F cf hf f.body HSB.out.1 HSB.out.2 f.params f.params B c _ (kn_made (base := wq.heap.size) (F := F) (nf := fs.length) (cf := cf) hbz HB3.out HTO.out HO3.out) (HRF.out.keep ((Keeps.of_below HBA.out).in _) (fun k hk => Nat.lt_trans hk hsz)) (HRB.out.keep ((Keeps.of_below HBA.out).in _) (fun k hk => Nat.lt_trans hk hsz)) (by omega) (Nat.le_refl _))))
                    | (go_at_call 56; (with_reducible refine HBLK.out.mono ?_); rintro y w4 ⟨rfl, hp4⟩; have HB4 := Lib.hid (HBA.out.trans (hp4.bel.mono (Nat.le_of_lt hsz))); clear hp4))
                  go_ret
                  exact ⟨by rw [HF.out]; rfl, HB4.out⟩
end Go.Proofs.YteifmgcbafemeaaGreatDoor

namespace Go.Proofs.YteifmgcbafemeaaGreatDoor
open Go.RowKit

def faultV (c a : Int) : Value := .agg #[.int .i64 c, .int .i64 a]
theorem rdF_take {w : World} {S : Nat → Prop} {fs : List PFun} {A : Option Addr} (h : RdF w S fs A) (k : Nat) : RdF w S (fs.take k) A := fun i hi => by
  rw [List.length_take] at hi
  have := h i (by omega)
  simpa [List.getElem_take] using this
theorem bare_r (c : Int) (w : World) : Calls Tryz.prog 18 #[.int .i64 c] w (Ret (faultV c (-1)) w) := by
  unfold faultV
  go_enter Tryz.func18, Tryz.ntmps18
  go_wp2_with fail
  go_returns
  exact ⟨rfl, (Below.refl _ _).alloc (Nat.le_refl _) _⟩
theorem fine_r (w : World) : Calls Tryz.prog 28 #[] w (Ret (faultV 0 (-1)) w) := by
  unfold faultV
  go_enter Tryz.func28, Tryz.ntmps28
  go_wp2_with fail
  go_returns
  exact ⟨rfl, (Below.refl _ _).alloc (Nat.le_refl _) _⟩
set_option maxHeartbeats 8000000 in
set_option maxRecDepth 100000 in
theorem ProgramFault_any (fs : List PFun) (hf : fs.length ≤ 10) (hsm : ∀ f ∈ fs, SmF f) (S : Nat → Prop) (A : Option Addr) (c : Nat) (hc : fs.length ≤ c) (w : World) (hr : RdF w S fs A) :
    Calls Tryz.prog 10 #[.slice A fs.length c] w (Ret (faultV ((progC fs).1 : Nat) (progC fs).2) w) := by
  have HBR : Hid (∀ w', Calls Tryz.prog 18 #[.int .i64 8] w' (Ret (faultV 8 (-1)) w')) := fun w' => bare_r 8 w'
  have HFI : Hid (∀ w', Calls Tryz.prog 28 #[] w' (Ret (faultV 0 (-1)) w')) := fun w' => fine_r w'
  by_cases h8 : 8 < fs.length
  · have q8 : (8 : Int) < (fs.length : Int) := by omega
    have HP : Hid (progC fs = (8, -1)) := show _ = _ by unfold progC; rw [if_pos h8]
    clear h8 hr hsm hc
    unfold faultV at HBR
    go_enter Tryz.func10, Tryz.ntmps10
    go_wp2_with (go_at_call 18; (with_reducible refine (HBR.out _).mono ?_); rintro y w1 ⟨rfl, hb1⟩; have hx := (hb1.block w.heap.size (by simp)).trans (heap_alloc_new w (.cells #[.int .i64 0, .int .i64 0] 32)); have x0 := cell_of_row _ _ 0 _ _ _ hx; have x1 := cell_of_row _ _ 1 _ _ _ hx; have y0 := row_frozen hx 0; have y1 := row_frozen hx 1; have HX := Lib.hid hx; have HB1 := Lib.hid (grow_trans (grow_alloc (grow_refl w) _) hb1); clear hx hb1)
    have hr2 := row_set (j := 1) (cs' := #[.int .i64 8, .int .i64 (-1)]) (.int .i64 (-1)) (row_set (j := 0) (cs' := #[.int .i64 8, .int .i64 0]) (.int .i64 8) HX.out (by simp)) (by simp)
    have z0 := cell_of_row _ _ 0 _ _ _ hr2
    have z1 := cell_of_row _ _ 1 _ _ _ hr2
    clear hr2 x0 x1 y0 y1
    refine bodyPost_ret (by simp [results, Tryz.results10, go_sem, z0, z1]; try rfl) rfl ?_
    exact ⟨by rw [HP.out]; rfl, (HB1.out.setCell (Nat.le_refl _) _).setCell (Nat.le_refl _) _⟩
  · have q8 : ¬ (8 : Int) < (fs.length : Int) := by omega
    have HP : Hid (progC fs = progFrom (tabOf fs) [] fs) := show _ = _ by unfold progC; rw [if_neg h8]
    have HSM := Lib.hid hsm
    have HR := Lib.hid hr
    clear h8 hr hsm
    unfold faultV at HFI
    go_enter Tryz.func10, Tryz.ntmps10
    go_wp2_with fail
    have hx := heap_alloc_new w (.cells #[.int .i64 0, .int .i64 0] 32)
    have hbb : Below w.heap.size w (w.alloc (.cells #[.int .i64 0, .int .i64 0] 32)) := grow_alloc (grow_refl _) _
    have HX0 := Lib.hid hx
    have HBB := Lib.hid hbb
    clear hx hbb
    go_loopw [3, 4] (fun i _ wr => ∃ k : Nat, k ≤ fs.length ∧ i = .int .i64 k ∧ progC fs = progFrom (tabOf fs) (fs.take k) (fs.drop k) ∧ Below w.heap.size w wr ∧ wr.heap[w.heap.size]? = some (.cells #[.int .i64 0, .int .i64 0] 32 (0, 0))) (fun i _ _ => fs.length - (intOf i).toNat)
    case atStart => exact ⟨0, Nat.zero_le _, rfl, by rw [HP.out]; simp, HBB.out, HX0.out⟩
    case round =>
      obtain ⟨k, hk, rfl, hI, hbel, hxr⟩ := hrel
      have HI := Lib.hid hI
      have HB := Lib.hid hbel
      have HX := Lib.hid hxr
      clear hI hbel hxr
      by_cases hlt : k < fs.length
      · have hrd := HR.out.keep ((Keeps.of_below HB.out).in S) (fun _ h => h)
        obtain ⟨b, off, P, p, B, d, rfl, -, hcells, hprm, hbody⟩ := hrd k hlt
        obtain ⟨c0, c1, c2⟩ := cells_fun hcells
        have hlt' : (k : Int) < (fs.length : Int) := by omega
        have hkc : (k : Int) ≤ (c : Int) := by omega
        have hst := progFrom_step (t := tabOf fs) hlt
        have hsf := HSM.out fs[k] (List.getElem_mem hlt)
        obtain ⟨f, hf2⟩ : ∃ f, fs[k] = f := ⟨_, rfl⟩
        rw [hf2] at hcells hprm hbody c0 c1 c2 hst hsf
        have hfe := funError_any fs (fs.take k) hf (by rw [List.length_take]; omega) f hsf S (some ⟨b, off, none⟩) c (some ⟨b, off, none⟩) c P p B d wr.drew (hrd.keep ((Keeps.of_below ((Below.refl wr.heap.size wr).drew)).in S) (fun _ h => h)) (rdF_take (hrd.keep ((Keeps.of_below ((Below.refl wr.heap.size wr).drew)).in S) (fun _ h => h)) k) (hprm.keep ((Keeps.of_below ((Below.refl wr.heap.size wr).drew)).in S) (fun _ h => h)) (hbody.keep ((Keeps.of_below ((Below.refl wr.heap.size wr).drew)).in S) (fun _ h => h))
        rw [List.length_take, Nat.min_eq_left hk] at hfe
        obtain ⟨z, hz⟩ : ∃ z, funC (tabOf fs) (fs.take k) f = z := ⟨_, rfl⟩
        rw [hz] at hfe hst
        unfold funV at hfe
        have HFE := Lib.hid hfe
        have HCE := Lib.hid hcells
        have HST := Lib.hid hst
        clear hrd hcells hprm hbody hf2 hsf hfe hz hst
        go_upto_region 6 with fail
        go_cut [4] (fun v wx => v = .int .i64 (z : Int) ∧ Below wr.heap.size wr wx)
        case first =>
          go_region_held3 (fun w' => w'.cell? ⟨b, off + k * 3, none⟩ = some (.string (mkB f.name)) ∧ w'.cell? ⟨b, off + k * 3 + 1, none⟩ = some (.slice P f.params.length p) ∧ w'.cell? ⟨b, off + k * 3 + 2, none⟩ = some (.slice B f.body.length d))
            (first
              | exact ⟨c0, c1, c2⟩
              | exact cells_fun (HCE.out.keep fun a v _ hv => Keeps.of_below hB1 a v hv))
            (first | (go_at_call 27; (with_reducible refine HFE.out.mono ?_); rintro y w11 ⟨rfl, hB0⟩; have hB1 : Below wr.heap.size wr w11 := grow_trans ((Below.refl wr.heap.size wr).drew) hB0))
          go_wp2_with fail
          go_meet
          exact ⟨rfl, hB1⟩
        case rest =>
          obtain ⟨rfl, hb2⟩ := hcut
          have HX2 := Lib.hid ((hb2.block w.heap.size (Array.getElem?_eq_some_iff.1 HX.out).1).trans HX.out)
          have HB2 := Lib.hid (grow_trans HB.out hb2)
          clear hb2 c0 c1 c2
          by_cases hz0 : z = 0
          · subst hz0
            have hs := HST.out
            rw [if_pos rfl] at hs
            have HS := Lib.hid hs
            clear hs
            go_wp2_with fail
            go_roundw
            case rel => exact ⟨k + 1, by omega, by go_num, HI.out.trans HS.out, HB2.out, HX2.out⟩
            case measure => simp [intOf]; omega
          · have hz1 : (0 : Int) < ((z : Nat) : Int) := by omega
            have HF : Hid (progC fs = (z, (k : Int))) := show _ = _ by rw [HI.out, HST.out, if_neg hz0]
            have x0 := cell_of_row _ _ 0 _ _ _ HX2.out
            have x1 := cell_of_row _ _ 1 _ _ _ HX2.out
            have y0 := row_frozen HX2.out 0
            have y1 := row_frozen HX2.out 1
            clear hz0
            go_wp2_with fail
            have hr2 := row_set (j := 1) (cs' := #[.int .i64 (z : Int), .int .i64 (k : Int)]) (.int .i64 (k : Int)) (row_set (j := 0) (cs' := #[.int .i64 (z : Int), .int .i64 0]) (.int .i64 (z : Int)) HX2.out (by simp)) (by simp)
            have z0 := cell_of_row _ _ 0 _ _ _ hr2
            have z1 := cell_of_row _ _ 1 _ _ _ hr2
            clear hr2 x0 x1 y0 y1
            refine bodyPost_ret (by simp [results, Tryz.results10, go_sem, z0, z1]; try rfl) rfl ?_
            exact ⟨by rw [HF.out]; rfl, (HB2.out.setCell (Nat.le_refl _) _).setCell (Nat.le_refl _) _⟩
      · have hk' : k = fs.length := by omega
        subst hk'
        have HF : Hid (progC fs = (0, -1)) := show _ = _ by rw [HI.out, List.drop_length, progFrom]
        clear HI
        go_wp2_with (go_at_call 28; (with_reducible refine (HFI.out _).mono ?_); rintro y w1 ⟨rfl, hb1⟩; have hx := (hb1.block w.heap.size (Array.getElem?_eq_some_iff.1 HX.out).1).trans HX.out; have x0 := cell_of_row _ _ 0 _ _ _ hx; have x1 := cell_of_row _ _ 1 _ _ _ hx; have y0 := row_frozen hx 0; have y1 := row_frozen hx 1; have HX2 := Lib.hid hx; have HB1 := Lib.hid (grow_trans HB.out hb1); clear hx hb1)
        have hr2 := row_set (j := 1) (cs' := #[.int .i64 0, .int .i64 (-1)]) (.int .i64 (-1)) (row_set (j := 0) (cs' := #[.int .i64 0, .int .i64 0]) (.int .i64 0) HX2.out (by simp)) (by simp)
        have z0 := cell_of_row _ _ 0 _ _ _ hr2
        have z1 := cell_of_row _ _ 1 _ _ _ hr2
        clear hr2 x0 x1 y0 y1
        refine bodyPost_ret (by simp [results, Tryz.results10, go_sem, z0, z1]; try rfl) rfl ?_
        exact ⟨by rw [HF.out]; rfl, (HB1.out.setCell (Nat.le_refl _) _).setCell (Nat.le_refl _) _⟩
end Go.Proofs.YteifmgcbafemeaaGreatDoor
