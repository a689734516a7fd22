import Derived.Test.YtidhplpidkgkdaaDoorCheckVars
namespace Go.Proofs.YtidhplpidkgkdaaDoor
open Go.RowKit

theorem apart_app1 {w1 w2 : World} {o1 : Obj} {v : Value} {base : Nat} (hg : (w1.alloc o1).grownBy w2 v.ownBlock) : KeepsIn (fun n => Apart base v n ∧ n < w1.heap.size) w1 w2 := fun a u hs hc => by
  have h1 : (w1.alloc o1).cell? a = some u := Keeps.alloc _ _ _ _ hc
  exact hg.cell h1 hs.1.2
/-- One function more, of a new name. -/
theorem own_more {w : World} {base : Nat} {v : Value} {fs : List PFun} (h : OwnF w base v fs) (name : Nm) :
    ∃ n xs, n = fs.length ∧ w.ownsRow base 40 3 v n xs ∧ ∀ (v' : Value) (w' : World) (o1 : Obj),
    w'.ownsRow base 40 3 v' (n + 1) (xs ++ [.string (mkB name), .slice none 0 0, .slice none 0 0]) → (w.alloc o1).grownBy w' v.ownBlock → (v'.ownBlock = v.ownBlock ∨ v'.ownBlock = some (w.heap.size + 1)) →
    OwnF w' base v' (fs ++ [⟨name, [], []⟩]) := by
  obtain ⟨ts, hts, h1, h2, h3⟩ := h
  refine ⟨ts.length, ts.flatMap FC.cells, by rw [← hts, List.length_map], h1, fun v' w' o1 g1 g2 hat => ⟨ts ++ [⟨⟨name, [], []⟩, none, 0, none, 0⟩], by simp [hts], ?_, fun t ht => ?_, fun t ht => ?_⟩⟩
  · rw [List.flatMap_append, List.flatMap_singleton, List.length_append]
    exact g1
  · rcases List.mem_append.1 ht with q | q
    · exact ((h2 t q).lt).keep (apart_app1 g2) (apart_own (w1 := w) hat (by simp))
    · simp only [List.mem_singleton] at q
      subst q
      exact ⟨fun i hi => by simp at hi, RdS.nil _ _ _⟩
  · rcases List.mem_append.1 ht with q | q
    · exact h3 t q
    · simp only [List.mem_singleton] at q
      subst q
      exact ⟨fun _ => rfl, by simp⟩
theorem new_name {fs : List PFun} {x : Nm} (h : anyB fs x fs.length = false) : ∀ f ∈ fs, f.name ≠ x := by
  unfold anyB at h
  rw [List.take_length, List.any_eq_false] at h
  intro f hf e
  exact h f hf (by simpa using e)
theorem last_less {fs : List PFun} {m : Nat} (hm : fs.length = m + 1) (h : (progC fs).1 = 0) (hc : ∀ j (hj : j < fs.length), j < m → (callsP fs[j]).contains (fs[m]'(by omega)).name = false) : (progC (fs.take m)).1 = 0 := by
  have e : fs = fs.take m ++ [fs[m]'(by omega)] := by rw [List.take_append_getElem, List.take_of_length_le (by omega)]
  refine prog_less (g := fs[m]'(by omega)) (e ▸ h) fun f hf hin => ?_
  obtain ⟨j, hj, rfl⟩ := List.mem_iff_getElem.1 hf
  rw [List.length_take] at hj
  rw [List.getElem_take] at hin
  have := hc j (by omega) (by omega)
  rw [List.contains_iff_mem.2 hin] at this
  cases this
set_option maxHeartbeats 8000000 in
set_option maxRecDepth 100000 in
theorem CheckMore_walk (E : Nat → Addr) (fs : List PFun) (A : Option Addr) (c : Nat) (name : Nm) (w : World) (hE : Laid E w) (hr : RdF w (fun _ => True) fs A) :
    Calls Tryd.prog 4 #[.slice A fs.length c, .string (mkB name)] w (Ret (.bool true) w) := by
  obtain ⟨ti, hi, hz0, hz1, hz2⟩ := info_parts funInfo
  have HS := Lib.hid (checked_any E w hE)
  have HLG : Hid (∀ w', Below w.heap.size w w' → Calls Tryd.prog 7 #[.slice A fs.length c, .int .i64 300] w' (Ret (.int .i64 (if largeP fs 300 then 1 else 0)) w')) := fun w' hb =>
    Large_any fs 300 (by omega) (fun _ => True) A c w' (hr.keep ((Keeps.of_below hb).in _) (fun _ h => h))
  cases hp : largeP fs 300
  · obtain ⟨h10, hsm, hsum, hszs⟩ := largeP_small (by omega) hp
    rw [hp] at HLG
    by_cases hnm : (20 : Int) < (mkB name).size
    · clear hr hE hp hsm hsum hszs
      go_enter Tryd.func4, Tryd.ntmps4
      go_wp2_with (first
        | (go_at_call 11; (with_reducible refine HS.out.mono ?_); rintro x w1 ⟨rfl, hb1⟩)
        | (go_at_call 7; (with_reducible refine (HLG.out _ hb1).mono ?_); rintro x w2 ⟨rfl, hb2⟩))
      go_ret
      exact ⟨rfl, grow_trans hb1 hb2⟩
    have HAS : Hid (∀ w', Below w.heap.size w w' → Calls Tryd.prog 9 #[.slice A fs.length c] w' fun x w'' => ∃ B d, x = .returned (.slice B fs.length d) ∧ fs.length ≤ d ∧ RdG w'' (newAt w') fs B ∧ Below w'.heap.size w' w'') := fun w' hb =>
      AsFuns_cap fs h10 hsm (fun _ => True) A c w' (hr.keep ((Keeps.of_below hb).in _) (fun _ h => h))
    have HAO : Hid (∀ w', Below w.heap.size w w' → Calls Tryd.prog 9 #[.slice A fs.length c] w' fun x w'' => ∃ v, x = .returned v ∧ OwnF w'' w'.heap.size v fs ∧ Below w'.heap.size w' w'') := fun w' hb =>
      AsFuns_own fs h10 hsm (fun _ => True) A c w' (hr.keep ((Keeps.of_below hb).in _) (fun _ h => h))
    have HPR : Hid (∀ w' w'' B d, Below w.heap.size w w'' → fs.length ≤ d → RdG w'' (newAt w') fs B → Calls Tryd.prog 12 #[.slice B fs.length d] w'' (ProgPost E fs w'')) := fun w' w'' B d hb hd hg =>
      Program_any E fs hsm (newAt w') B d (by omega) hd w'' (hE.keep hb) hg
    have hn20 : name.length ≤ 20 := by rw [mkB_size] at hnm; omega
    have HPM : Hid (∀ base w' B d, (progC fs).1 = 0 → fs.length < 8 → (nmOk name && !anyB fs name fs.length) = true → Below w.heap.size w w' → fs.length + 1 ≤ d → RdG w' (fun n => base ≤ n) (fs ++ [⟨name, [], []⟩]) B →
        Calls Tryd.prog 12 #[.slice B (fs.length + 1) d] w' fun e w'' => e = .returned .nilIface ∧ Below w'.heap.size w' w'') := fun base w' B d h0 h8 hb hbel hd hg => by
      rw [Bool.and_eq_true, Bool.not_eq_true'] at hb
      have h1 := prog_more h0 h8 hb.1 (new_name hb.2)
      have h2 := Program_any E (fs ++ [⟨name, [], []⟩]) (fun f hf => by
        rcases List.mem_append.1 hf with q | q
        · exact hsm f q
        · simp only [List.mem_singleton] at q
          subst q
          exact ⟨hn20, by simp, (fun p hp => by cases hp), by simp, (fun s hs => by cases hs)⟩) _ B d (by simp; omega) (by simpa using hd) w' (hE.keep hbel) hg
      rw [List.length_append] at h2
      exact h2.mono fun e w'' ⟨v, q1, _, q3, q4⟩ => ⟨by rw [q1, q4.2 h1], q3⟩
    have HPL : Hid (∀ m base w' B d, fs.length = m + 1 → (progC fs).1 = 0 → (∀ j (hj : j < fs.length), j < m → ∀ (hm : m < fs.length), (callsP fs[j]).contains (fs[m]'hm).name = false) → Below w.heap.size w w' → fs.length ≤ d → RdG w' (newAt base) fs B →
        Calls Tryd.prog 12 #[.slice B m d] w' fun e w'' => e = .returned .nilIface ∧ Below w'.heap.size w' w'') := fun m base w' B d hm h0 hc hbel hd hg => by
      have h1 := last_less hm h0 (fun j hj hlt => hc j hj hlt (by omega))
      have h2 := Program_any E (fs.take m) (fun f hf => hsm f (List.mem_of_mem_take hf)) _ B d (by simp; omega) (by simp; omega) w' (hE.keep hbel) (rdG_take hg m)
      rw [List.length_take, Nat.min_eq_left (by omega)] at h2
      exact h2.mono fun e w'' ⟨v, q1, _, q3, q4⟩ => ⟨by rw [q1, q4.2 h1], q3⟩
    have HSM := Lib.hid hsm
    have HSZ := Lib.hid hszs
    have HE := Lib.hid hE
    have HR := Lib.hid hr
    by_cases h0 : (progC fs).1 = 0
    · have h8 := (progC_ok.1 h0).1
      have H0 := Lib.hid h0
      have HNM : Hid (∀ w', Calls Tryd.prog 13 #[.string (mkB name)] w' (Ret (.bool (nmOk name)) w')) := fun w' => IsName_any name w'
      clear hr hE hp hsm hsum hszs h0
      by_cases hz : fs.length = 0
      · have hze : ((fs.length : Int) == 0) = true := by rw [hz]; rfl
        clear hz
        go_enter Tryd.func4, Tryd.ntmps4
        go_wp2_with (first
          | (go_at_call 11; (with_reducible refine HS.out.mono ?_); rintro x w1 ⟨rfl, hb1⟩)
          | (go_at_call 7; (with_reducible refine (HLG.out _ hb1).mono ?_); rintro x w2 ⟨rfl, hb2⟩)
          | (go_at_call 9; (with_reducible refine (HAS.out _ (grow_trans hb1 hb2)).mono ?_); rintro x w3 ⟨B, d, rfl, hd, hg, hb3⟩; have HG := Lib.hid hg; clear hg)
          | (go_at_call 12; (with_reducible refine (HPR.out _ _ _ _ (grow_trans (grow_trans hb1 hb2) hb3) hd HG.out).mono ?_); rintro x w4 ⟨v4, rfl, he4, hb4, hn4⟩; obtain rfl := hn4.2 H0.out; clear he4 hn4))
        go_ret
        exact ⟨rfl, grow_trans (grow_trans (grow_trans hb1 hb2) hb3) hb4⟩
      have hze : ((fs.length : Int) == 0) = false := beq_eq_false_iff_ne.2 (by omega)
      by_cases h88 : (8 : Int) ≤ (fs.length : Int)
      · clear hz
        go_enter Tryd.func4, Tryd.ntmps4
        go_wp2_with (first
          | (go_at_call 11; (with_reducible refine HS.out.mono ?_); rintro x w1 ⟨rfl, hb1⟩)
          | (go_at_call 7; (with_reducible refine (HLG.out _ hb1).mono ?_); rintro x w2 ⟨rfl, hb2⟩)
          | (go_at_call 9; (with_reducible refine (HAS.out _ (grow_trans hb1 hb2)).mono ?_); rintro x w3 ⟨B, d, rfl, hd, hg, hb3⟩; have HG := Lib.hid hg; clear hg)
          | (go_at_call 12; (with_reducible refine (HPR.out _ _ _ _ (grow_trans (grow_trans hb1 hb2) hb3) hd HG.out).mono ?_); rintro x w4 ⟨v4, rfl, he4, hb4, hn4⟩; obtain rfl := hn4.2 H0.out; clear he4 hn4))
        go_ret
        exact ⟨rfl, grow_trans (grow_trans (grow_trans hb1 hb2) hb3) hb4⟩
      obtain ⟨m, hm⟩ : ∃ m, fs.length = m + 1 := ⟨fs.length - 1, by omega⟩
      have hml : (m : Int) < (fs.length : Int) := by omega
      have hml2 : m ≤ fs.length := by omega
      have hmN : m < fs.length := by omega
      have HM := Lib.hid hm
      have hmi : (fs.length : Int) - 1 = (m : Int) := by omega
      clear hm hz
      go_enter Tryd.func4, Tryd.ntmps4
      go_wp2_with (first
        | (go_at_call 11; (with_reducible refine HS.out.mono ?_); rintro x w1 ⟨rfl, hb1⟩)
        | (go_at_call 7; (with_reducible refine (HLG.out _ hb1).mono ?_); rintro x w2 ⟨rfl, hb2⟩)
        | (go_at_call 9; (with_reducible refine (HAS.out _ (grow_trans hb1 hb2)).mono ?_); rintro x w3 ⟨B, d, rfl, hd, hg, hb3⟩; have HG := Lib.hid hg; clear hg)
        | (go_at_call 12; (with_reducible refine (HPR.out _ _ _ _ (grow_trans (grow_trans hb1 hb2) hb3) hd HG.out).mono ?_); rintro x w4 ⟨v4, rfl, he4, hb4, hn4⟩; obtain rfl := hn4.2 H0.out; clear he4 hn4)
        | (go_at_call 13; (with_reducible refine (HNM.out _).mono ?_); rintro x w5 ⟨rfl, hb5⟩))
      have HB4 := Lib.hid (grow_trans (grow_trans (grow_trans (grow_trans hb1 hb2) hb3) hb4) hb5)
      have HGG := Lib.hid (HG.out.keep ((Keeps.of_below (grow_trans hb4 hb5)).in _) (fun _ h => h))
      obtain ⟨wo, rfl⟩ : ∃ wo : World, wo = w5 := ⟨_, rfl⟩
      clear hb1 hb2 hb3 hb4 hb5 HG HPR HAS HLG HS
      go_loopw [7, 8] (fun b i wr => ∃ (k q : Nat), k ≤ fs.length ∧ i = .int .i64 k ∧ b = .bool (nmOk name && !anyB fs name k) ∧ wr = wo.drewN q) (fun _ i _ => fs.length - (intOf i).toNat)
      case atStart => exact ⟨0, 0, Nat.zero_le _, rfl, by rw [anyB_zero]; simp, rfl⟩
      case round =>
        obtain ⟨k, q, hk, rfl, rfl, rfl⟩ := hrel
        by_cases hlt : k < fs.length
        · obtain ⟨b8, off8, P8, p8, B8, d8, e8, -, hcells8, -⟩ := (HR.out.keep ((Keeps.of_below HB4.out).in _) (fun _ h => h)) k hlt
          subst e8
          obtain ⟨g0, -, -⟩ := cells_fun hcells8
          have hlt' : (k : Int) < (fs.length : Int) := by omega
          have HST := Lib.hid (anyB_step (x := name) hlt)
          clear hcells8
          cases hn8 : (fs[k].name == name)
          · have q1 : ((mkB fs[k].name).toList == (mkB name).toList) = false := by rw [mkB_toList, mkB_toList]; exact hn8
            rw [hn8, Bool.or_false] at HST
            clear hn8
            go_wp2_with fail
            go_roundw
            case rel => exact ⟨k + 1, _, by omega, by go_num, by rw [HST.out], rfl⟩
            case measure => simp [intOf]; omega
          · have q1 : ((mkB fs[k].name).toList == (mkB name).toList) = true := by rw [mkB_toList, mkB_toList]; exact hn8
            rw [hn8, Bool.or_true] at HST
            clear hn8
            go_wp2_with fail
            go_roundw
            case rel => exact ⟨k + 1, _, by omega, by go_num, by rw [HST.out]; simp, rfl⟩
            case measure => simp [intOf]; omega
        · have hk' : k = fs.length := by omega
          subst hk'
          obtain ⟨b, hb⟩ : ∃ b, (nmOk name && !anyB fs name fs.length) = b := ⟨_, rfl⟩
          rw [hb]
          have HBB := Lib.hid hb
          clear hb
          go_upto_if 56 with fail
          go_cut [9] (fun _ wx => Below wo.heap.size wo wx)
          case first =>
            cases b
            · go_wp2_with fail
              go_meet
              exact grow_drew (grow_refl _) _
            · go_wp2_with (first
                | (go_at_call 9; (with_reducible refine (HAO.out _ (grow_drew HB4.out _)).mono ?_); rintro x w6 ⟨v6, rfl, ho6, hb6⟩; obtain ⟨n6, xs6, rfl, ho7, hmr⟩ := own_more ho6 name; have HB6 := Lib.hid hb6; have HO7 := Lib.hid ho7; have HMR := Lib.hid hmr; clear ho6 ho7 hmr hb6)
                | (at_builtin; refine wpList_append_own_at _ rfl _ _ 26 rfl _ 40 ti _ 3 64 Tryd.underlying26 hi hz0 hz1 hz2 rfl (by decide) _ _ _ rfl (HO7.out.alloc _) ⟨w6.heap.size, 0, none⟩ 1 1 [.string (mkB name), .slice none 0 0, .slice none 0 0] rfl rfl ?c1 ?c2 ?c3 ?c4 ?c5 ?_))
              case c1 =>
                intro i u hu
                match i, hu with
                | 0, hu => simp at hu; subst hu; exact cell_of_row _ _ 0 _ _ _ (heap_alloc_new w6 _)
                | 1, hu => simp at hu; subst hu; exact cell_of_row _ _ 1 _ _ _ (heap_alloc_new w6 _)
                | 2, hu => simp at hu; subst hu; exact cell_of_row _ _ 2 _ _ _ (heap_alloc_new w6 _)
              case c2 => intro u hu; simp at hu; rcases hu with rfl | rfl <;> rfl
              case c3 => unfold maxLen; omega
              case c4 => omega
              case c5 => have := HB6.out.size; have e : (wo.drewN q).heap.size = wo.heap.size := rfl; simp; omega
              · intro v' w7 hown' hgrow _ hat
                obtain ⟨A', c', rfl⟩ := owns_slice hown'
                obtain ⟨A2, c2, e2, hcap, hrd⟩ := (HMR.out _ _ _ hown' hgrow hat).rd
                injection e2 with e3 e4 e5
                subst e3 e5
                have hb7 : Below (wo.drewN q).heap.size (wo.drewN q) w7 := Below.grown (HB6.out.alloc HB6.out.size _) hgrow (by have := HB6.out.size; have e : (wo.drewN q).heap.size = wo.heap.size := rfl; simp; omega) (fun k hk => (HO7.out.lt k hk).1)
                have HB7 := Lib.hid hb7
                have HP7 := Lib.hid (HPM.out _ w7 A' c' H0.out (by omega) HBB.out (grow_trans (grow_drew HB4.out _) hb7) (by simpa using hcap) hrd)
                clear hown' hgrow hat hb7 hcap hrd e4
                go_wp2_with (go_at_call 12; (with_reducible refine HP7.out.mono ?_); rintro x w8 ⟨rfl, hb8⟩)
                go_meet
                exact grow_trans (grow_trans (grow_drew (grow_refl _) _) HB7.out) hb8
          case rest =>
            have HBX := Lib.hid (grow_trans HB4.out hcut)
            have HBX0 := Lib.hid hcut
            obtain ⟨b8, off8, P8, p8, B8, d8, e8, -, hcells8, -⟩ := (HR.out.keep ((Keeps.of_below HBX.out).in _) (fun _ h => h)) m hmN
            subst e8
            obtain ⟨g0, -, -⟩ := cells_fun hcells8
            have HGX := Lib.hid (HGG.out.keep ((Keeps.of_below HBX0.out).in _) (fun _ h => h))
            clear hcells8 hcut
            go_wp2_with fail
            obtain ⟨wy, rfl⟩ : ∃ wy : World, wy = wc := ⟨_, rfl⟩
            go_loopw [11] (fun i wr => ∃ k : Nat, k ≤ m ∧ i = .int .i64 k ∧ Below wy.heap.size wy wr ∧ (∀ j (hj : j < fs.length), j < k → (callsP fs[j]).contains fs[m].name = false)) (fun i _ => m - (intOf i).toNat)
            case atStart => exact ⟨0, Nat.zero_le _, rfl, grow_refl _, fun j _ h => absurd h (by omega)⟩
            case round =>
              obtain ⟨k, hk2, rfl, hbel, hno⟩ := hrel
              have HNO := Lib.hid hno
              clear hno
              by_cases hlt2 : k < m
              · obtain ⟨b9, off9, P9, p9, B9, d9, e9, -, hcells9, hprm9, hok9, hbody9⟩ := (HGX.out.keep ((Keeps.of_below hbel).in _) (fun _ h => h)) k (by omega)
                subst e9
                obtain ⟨c0, c1, c2⟩ := cells_fun hcells9
                have hlt2' : (k : Int) < (m : Int) := by omega
                have hlt3' : (k : Int) < (fs.length : Int) := by omega
                have hkN : k < fs.length := by omega
                have hsf := HSM.out fs[k] (List.getElem_mem hkN)
                have hzf := HSZ.out fs[k] (List.getElem_mem hkN)
                obtain ⟨f, hf⟩ : ∃ f, fs[k] = f := ⟨_, rfl⟩
                rw [hf] at hcells9 hprm9 hok9 hbody9 c0 c1 c2 hsf hzf
                have HF := Lib.hid hf
                have HC : Hid (∀ w', Below wr.heap.size wr w' → Calls Tryd.prog 15 #[funV f P9 p9 B9 d9] w' (RetT (callsP f) w')) := fun w' hb =>
                  Calls_any f hsf (by omega) _ P9 p9 B9 d9 w' (hbody9.keep ((Keeps.of_below hb).in _) (fun _ h => h))
                have hcl := calls_len (f := f) (by omega)
                obtain ⟨lst, hlst⟩ : ∃ lst, fs[m].name = lst := ⟨_, rfl⟩
                have HL := Lib.hid hlst
                have HCE := Lib.hid hcells9
                unfold funV at HC
                clear hcells9 hprm9 hok9 hbody9 hsf hzf hf hlst
                obtain ⟨yes, hyes⟩ : ∃ y, (callsP f).contains fs[m].name = y := ⟨_, rfl⟩
                have HY := Lib.hid hyes
                clear hyes
                cases yes
                · go_wp2_with (first
                    | (go_at_call 15; (with_reducible refine (HC.out _ (grow_refl _)).mono ?_); rintro x w7 ⟨A7, c7, rfl, hrow7, hcap7, hb7⟩; have HIN := Lib.hid (isin_any (callsP f) fs[m].name A7 c7 w7 hrow7 (by omega)); clear hrow7; rw [HY.out] at HIN)
                    | (go_at_call 14; (with_reducible refine HIN.out.mono ?_); rintro x w8 ⟨rfl, rfl⟩))
                  go_roundw
                  case rel => exact ⟨k + 1, by omega, by go_num, grow_trans hbel hb7, fun j hj hjk => by
                    by_cases hjj : j = k
                    · subst hjj; rw [HF.out]; exact HY.out
                    · exact HNO.out j hj (by omega)⟩
                  case measure => simp [intOf]; omega
                · go_wp2_with (first
                    | (go_at_call 15; (with_reducible refine (HC.out _ (grow_refl _)).mono ?_); rintro x w7 ⟨A7, c7, rfl, hrow7, hcap7, hb7⟩; have HIN := Lib.hid (isin_any (callsP f) fs[m].name A7 c7 w7 hrow7 (by omega)); clear hrow7; rw [HY.out] at HIN)
                    | (go_at_call 14; (with_reducible refine HIN.out.mono ?_); rintro x w8 ⟨rfl, rfl⟩))
                  go_ret
                  exact ⟨rfl, grow_trans HBX.out (grow_trans hbel hb7)⟩
              · have hk' : k = m := by omega
                subst hk'
                have HP := Lib.hid (HPL.out k _ _ B d HM.out H0.out (fun j hj hlt _ => HNO.out j hj hlt) (grow_trans HBX.out hbel) hd (HGX.out.keep ((Keeps.of_below hbel).in _) (fun _ h => h)))
                go_wp2_with (go_at_call 12; (with_reducible refine HP.out.mono ?_); rintro x w7 ⟨rfl, hb7⟩)
                go_ret
                exact ⟨rfl, grow_trans HBX.out (grow_trans hbel hb7)⟩
    · have H0 := Lib.hid h0
      clear hr hE hp hsm hsum hszs h0
      go_enter Tryd.func4, Tryd.ntmps4
      go_wp2_with (first
        | (go_at_call 11; (with_reducible refine HS.out.mono ?_); rintro x w1 ⟨rfl, hb1⟩)
        | (go_at_call 7; (with_reducible refine (HLG.out _ hb1).mono ?_); rintro x w2 ⟨rfl, hb2⟩)
        | (go_at_call 9; (with_reducible refine (HAS.out _ (grow_trans hb1 hb2)).mono ?_); rintro x w3 ⟨B, d, rfl, hd, hg, hb3⟩; have HG := Lib.hid hg; clear hg)
        | (go_at_call 12; (with_reducible refine (HPR.out _ _ _ _ (grow_trans (grow_trans hb1 hb2) hb3) hd HG.out).mono ?_); rintro x w4 ⟨v4, rfl, he4, hb4, hn4⟩; obtain ⟨ty, vx, rfl⟩ := err_iface he4 (by have := H0.out; omega); clear he4 hn4))
      go_ret
      exact ⟨rfl, grow_trans (grow_trans (grow_trans hb1 hb2) hb3) hb4⟩
  · rw [hp] at HLG
    clear hr hE hp
    go_enter Tryd.func4, Tryd.ntmps4
    go_wp2_with (first
      | (go_at_call 11; (with_reducible refine HS.out.mono ?_); rintro x w1 ⟨rfl, hb1⟩)
      | (go_at_call 7; (with_reducible refine (HLG.out _ hb1).mono ?_); rintro x w2 ⟨rfl, hb2⟩))
    go_ret
    exact ⟨rfl, grow_trans hb1 hb2⟩
theorem mkB_self (s : ByteArray) : mkB s.data.toList = s := rfl
theorem CheckMore_str (E : Nat → Addr) (fs : List PFun) (A : Option Addr) (c : Nat) (s : ByteArray) (w : World) (hE : Laid E w) (hr : RdF w (fun _ => True) fs A) :
    Calls Tryd.prog 4 #[.slice A fs.length c, .string s] w (Ret (.bool true) w) := CheckMore_walk E fs A c s.data.toList w hE hr
end Go.Proofs.YtidhplpidkgkdaaDoor
