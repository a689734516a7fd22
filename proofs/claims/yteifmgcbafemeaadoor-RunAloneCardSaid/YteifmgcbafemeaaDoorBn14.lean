import Derived.Test.YteifmgcbafemeaaDoorBn13
namespace Go.Proofs.YteifmgcbafemeaaDoor
open Go.RowKit

/-- No call of run.Run is reached. -/
def aloneOut (fs : List PFun) (n : Nat) (ticks : Int) : Bool := largeP fs 300 || decide (8 < n) || decide (ticks < 0) || decide (200 < ticks)
set_option maxHeartbeats 4000000 in
set_option maxRecDepth 100000 in
theorem alone_early (E : Nat → Addr) (fs : List PFun) (A : Option Addr) (c : Nat) (name : Nm) (args : List Int) (X : Option Addr) (xc : Nat) (ticks : Int) (w : World) (hE : Laid E w) (hr : RdF w (fun _ => True) fs A) (h : aloneOut fs args.length ticks = true) :
    Calls Tryd.prog 4 #[.slice A fs.length c, .string (mkB name), .slice X args.length xc, .int .i64 ticks] w (Ret (.bool true) w) := by
  have HS := Lib.hid (ran_any E w hE)
  have HLG : Hid (∀ w', Below w.heap.size w w' → Calls Tryd.prog 6 #[.slice A fs.length c, .int .i64 300] w' (Ret (.int .i64 (if largeP fs 300 then 1 else 0)) w')) := fun w' hb =>
    Large_any fs 300 (by omega) (fun _ => True) A c w' (hr.keep ((Keeps.of_below hb).in _) (fun _ h => h))
  clear hE hr
  unfold aloneOut at h
  cases h1 : largeP fs 300
  · rw [h1] at HLG h
    by_cases h2 : 8 < args.length
    · have g2 : (8 : Int) < (args.length : Int) := by omega
      clear h h1
      go_enter Tryd.func4, Tryd.ntmps4
      go_wp2_with (first
        | (go_at_call 5; (with_reducible refine HS.out.mono ?_); rintro x w1 ⟨rfl, hb1⟩)
        | (go_at_call 6; (with_reducible refine (HLG.out _ hb1).mono ?_); rintro x w2 ⟨rfl, hb2⟩))
      go_ret
      exact ⟨rfl, grow_trans hb1 hb2⟩
    · have g2 : ¬ (8 : Int) < (args.length : Int) := by omega
      have h' : ticks < 0 ∨ (¬ ticks < 0 ∧ 200 < ticks) := by
        simp [h2] at h
        omega
      clear h h1 h2
      rcases h' with g3 | ⟨g3, g4⟩
      all_goals
        go_enter Tryd.func4, Tryd.ntmps4
        go_wp2_with (first
          | (go_at_call 5; (with_reducible refine HS.out.mono ?_); rintro x w1 ⟨rfl, hb1⟩)
          | (go_at_call 6; (with_reducible refine (HLG.out _ hb1).mono ?_); rintro x w2 ⟨rfl, hb2⟩))
        go_ret
        exact ⟨rfl, grow_trans hb1 hb2⟩
  · rw [h1] at HLG
    clear h h1
    go_enter Tryd.func4, Tryd.ntmps4
    go_wp2_with (first
      | (go_at_call 5; (with_reducible refine HS.out.mono ?_); rintro x w1 ⟨rfl, hb1⟩)
      | (go_at_call 6; (with_reducible refine (HLG.out _ hb1).mono ?_); rintro x w2 ⟨rfl, hb2⟩))
    go_ret
    exact ⟨rfl, grow_trans hb1 hb2⟩
theorem alone_in {fs : List PFun} {n : Nat} {ticks : Int} (h : aloneOut fs n ticks = false) : ((largeP fs 300 = false ∧ ¬ 8 < n) ∧ ¬ ticks < 0) ∧ ¬ 200 < ticks := by
  unfold aloneOut at h
  simpa using h
set_option maxHeartbeats 4000000 in
set_option maxRecDepth 100000 in
theorem alone_full (E : Nat → Addr) (fs : List PFun) (A : Option Addr) (c : Nat) (name : Nm) (args : List Int) (X : Option Addr) (xc : Nat) (ticks : Int) (w : World) (hE : Laid E w) (hr : RdF w (fun _ => True) fs A) (h : aloneOut fs args.length ticks = false) (h8 : 8 ≤ fs.length) :
    Calls Tryd.prog 4 #[.slice A fs.length c, .string (mkB name), .slice X args.length xc, .int .i64 ticks] w (Ret (.bool true) w) := by
  obtain ⟨⟨⟨hlg, h2⟩, h3⟩, h4⟩ := alone_in h
  obtain ⟨h10, hsm, -, -⟩ := largeP_small (by omega) hlg
  have HS := Lib.hid (ran_any E w hE)
  have HLG : Hid (∀ w', Below w.heap.size w w' → Calls Tryd.prog 6 #[.slice A fs.length c, .int .i64 300] w' (Ret (.int .i64 0) w')) := fun w' hb => by
    have := Large_any fs 300 (by omega) (fun _ => True) A c w' (hr.keep ((Keeps.of_below hb).in _) (fun _ h => h))
    rwa [hlg] at this
  have HAS : Hid (∀ w', Below w.heap.size w w' → Calls Tryd.prog 7 #[.slice A fs.length c] w' fun x w'' => ∃ B d, x = .returned (.slice B fs.length d) ∧ fs.length ≤ d ∧ RdG w'' (newAt w') fs B ∧ Below w'.heap.size w' w'') := fun w' hb =>
    AsFuns_cap fs h10 hsm (fun _ => True) A c w' (hr.keep ((Keeps.of_below hb).in _) (fun _ h => h))
  have g2 : ¬ (8 : Int) < (args.length : Int) := by omega
  have g8 : (8 : Int) ≤ (fs.length : Int) := by omega
  clear hr hE hlg hsm h2 h h10 h8
  go_enter Tryd.func4, Tryd.ntmps4
  go_wp2_with (first
    | (go_at_call 5; (with_reducible refine HS.out.mono ?_); rintro x w1 ⟨rfl, hb1⟩)
    | (go_at_call 6; (with_reducible refine (HLG.out _ hb1).mono ?_); rintro x w2 ⟨rfl, hb2⟩)
    | (go_at_call 7; (with_reducible refine (HAS.out _ (grow_trans hb1 hb2)).mono ?_); rintro x w3 ⟨B, d, rfl, hd, hg, hb3⟩; clear hg))
  go_ret
  exact ⟨rfl, grow_trans (grow_trans hb1 hb2) hb3⟩
set_option maxHeartbeats 8000000 in
set_option maxRecDepth 100000 in
theorem alone_bad (E : Nat → Addr) (fs : List PFun) (A : Option Addr) (c : Nat) (name : Nm) (args : List Int) (X : Option Addr) (xc : Nat) (ticks : Int) (w : World) (hE : Laid E w) (hr : RdF w (fun _ => True) fs A) (hX : Row w X (intVs args)) (h : aloneOut fs args.length ticks = false) (h8 : ¬ 8 ≤ fs.length) (hz : (runC fs name args.length 0).1 ≠ 0) :
    Calls Tryd.prog 4 #[.slice A fs.length c, .string (mkB name), .slice X args.length xc, .int .i64 ticks] w (Ret (.bool true) w) := by
  obtain ⟨⟨⟨hlg, h2⟩, h3⟩, h4⟩ := alone_in h
  obtain ⟨h10, hsm, -, -⟩ := largeP_small (by omega) hlg
  obtain ⟨T, rfl⟩ : ∃ T : Nat, ticks = T := ⟨ticks.toNat, by omega⟩
  have HS := Lib.hid (ran_any E w hE)
  have HLG : Hid (∀ w', Below w.heap.size w w' → Calls Tryd.prog 6 #[.slice A fs.length c, .int .i64 300] w' (Ret (.int .i64 0) w')) := fun w' hb => by
    have := Large_any fs 300 (by omega) (fun _ => True) A c w' (hr.keep ((Keeps.of_below hb).in _) (fun _ h => h))
    rwa [hlg] at this
  have HAS : Hid (∀ w', Below w.heap.size w w' → Calls Tryd.prog 7 #[.slice A fs.length c] w' fun x w'' => ∃ B d, x = .returned (.slice B fs.length d) ∧ fs.length ≤ d ∧ RdG w'' (newAt w') fs B ∧ Below w'.heap.size w' w'') := fun w' hb =>
    AsFuns_cap fs h10 hsm (fun _ => True) A c w' (hr.keep ((Keeps.of_below hb).in _) (fun _ h => h))
  have g2 : ¬ (8 : Int) < (args.length : Int) := by omega
  have g3 : ¬ (T : Int) < 0 := by omega
  have g4 : ¬ (200 : Int) < (T : Int) := by omega
  have g8 : ¬ (8 : Int) ≤ (fs.length : Int) := by omega
  have hT : T ≤ 200 := by omega
  have ha : args.length ≤ 8 := by omega
  have HRN : Hid (∀ w' B d A' c', Below w.heap.size w w' → fs.length ≤ d → RdG w' (fun _ => True) fs B → Row w' A' (intVs args) → (∀ a, A' = some a → a.block < w'.heap.size) → Calls Tryd.prog 8 #[.slice B fs.length d, .string (mkB name), .slice A' args.length c', .int .i64 T] w' fun en w'' => ∃ A' c' t x, en = .returned (.tuple #[.agg #[.string (mkB []), .int .i64 0, .slice A' 0 c', .int .i64 0], .iface t x]) ∧ Below w'.heap.size w' w'') := fun w' B d A' c' hb hd hg hX hXl =>
    Run_bad E fs hsm _ B d (by omega) hd name args (by omega) A' c' T w' (hE.keep hb) hg hX hXl (by rw [runC_range (t := 0) (by omega) (by omega)]; exact hz)
  have HX := Lib.hid hX
  clear hr hE hlg hsm hz hX h2 h3 h4 h h10 h8
  go_enter Tryd.func4, Tryd.ntmps4
  go_wp2_with (first
    | (go_at_call 5; (with_reducible refine HS.out.mono ?_); rintro x w1 ⟨rfl, hb1⟩)
    | (go_at_call 6; (with_reducible refine (HLG.out _ hb1).mono ?_); rintro x w2 ⟨rfl, hb2⟩)
    | (go_at_call 7; (with_reducible refine (HAS.out _ (grow_trans hb1 hb2)).mono ?_); rintro x w3 ⟨B, d, rfl, hd, hg, hb3⟩; have HG := Lib.hid (hg.keep ((Keeps.refl _).in _) (S' := fun _ => True) (fun _ _ => trivial)); have HB3 := Lib.hid (grow_trans (grow_trans hb1 hb2) hb3); clear hg)
    | (at_builtin; refine wpList_append_ints0 rfl (.tmp 50) (.tmp 51) rfl args rfl X xc rfl (HX.out.keep (Keeps.of_below HB3.out)) (by omega) ?_; intro A4 c4 w4 hr4 hl4 hb4; have HR4 := Lib.hid hr4; have HL4 := Lib.hid hl4; have HB4 := Lib.hid (grow_trans HB3.out hb4); have HG4 := Lib.hid (HG.out.keep ((Keeps.of_below hb4).in _) (fun _ h => h)); clear hr4 hl4 hb4)
    | (go_at_call 8; (with_reducible refine (HRN.out _ _ _ _ _ HB4.out hd HG4.out HR4.out HL4.out).mono ?_); rintro x w5 ⟨A5, c5, t5, x5, rfl, hb5⟩; have HB5 := Lib.hid (grow_trans HB4.out hb5); clear hb5))
  go_ret
  exact ⟨rfl, grow_alloc HB5.out _⟩
theorem runC_zero {fs : List PFun} {name : Nm} {n : Nat} {t : Int} (h : (runC fs name n t).1 = 0) : (progC fs).1 = 0 ∧ ∃ f, findF fs name = some f ∧ f.params.length = n := by
  unfold runC at h
  by_cases hp : (progC fs).1 = 0
  · refine ⟨hp, ?_⟩
    rw [if_neg (by simp [hp])] at h
    cases hf : findF fs name with
    | none => rw [hf] at h; simp at h
    | some f =>
      rw [hf] at h
      refine ⟨f, rfl, ?_⟩
      simp only at h
      by_cases hn : f.params.length = n
      · exact hn
      · rw [if_pos hn] at h; simp at h
  · rw [if_pos hp] at h; simp at h; exact absurd h hp
theorem findF_argsOf {fs : List PFun} {name : Nm} {f : PFun} (h : findF fs name = some f) : argsOf (tabOf fs) name = some f.params.length := by
  unfold findF at h
  unfold argsOf tabOf
  rw [List.find?_map]
  have : (((fun p : Nm × Nat => p.1 == name) ∘ fun f : PFun => (f.name, f.params.length))) = fun f : PFun => f.name == name := rfl
  rw [this, h]
  rfl
theorem find_uniq {fs : List PFun} (h : (progC fs).1 = 0) {k : Nat} (hk : k < fs.length) {name : Nm} (hn : fs[k].name = name) : findF fs name = some fs[k] := by
  have h1 := (namesC_ok.1 (funC_ok.1 ((progC_ok.1 h).2 k hk)).1).2.1
  unfold findF
  have e : fs = fs.take k ++ fs[k] :: fs.drop (k + 1) := by rw [← List.drop_eq_getElem_cons hk, List.take_append_drop]
  have h2 : (fs.take k).find? (fun f => f.name == name) = none := by
    rw [List.find?_eq_none]
    intro g hg
    rw [List.any_eq_false] at h1
    rw [← hn]
    exact h1 g hg
  conv => lhs; rw [e]
  rw [List.find?_append, h2, List.find?_cons]
  simp only [hn, beq_self_eq_true, Option.none_or]
theorem runC_zz {fs : List PFun} {name : Nm} {n : Nat} {T : Nat} (hT : T ≤ 5000) (h : (runC fs name n 0).1 = 0) (hl : fs.length < 8) (hnew : ∀ f ∈ fs, f.name ≠ zzN) : (runC (zzF :: fs) name n T).1 = 0 := by
  obtain ⟨hp, f, hf, hn⟩ := runC_zero h
  have hm : f ∈ fs ∧ f.name = name := by
    unfold findF at hf
    exact ⟨List.mem_of_find?_eq_some hf, by simpa using List.find?_some hf⟩
  unfold runC
  rw [if_neg (by rw [prog_zz hp hl hnew]; simp), findF_cons (by rw [← hm.2]; exact hnew f hm.1), hf]
  simp only
  rw [if_neg (by simp [hn]), if_neg (by omega)]
theorem zz_small : SmF zzF := by
  refine ⟨by decide, by decide, (fun p hp => by cases hp), by decide, fun s hs => ?_⟩
  simp [zzF] at hs
  subst hs
  exact ⟨zzS, by decide, by decide, ⟨zzE, by decide, by decide, (fun k hk => by cases hk)⟩, by decide, by decide, (fun k hk => by cases hk), (fun k hk => by cases hk)⟩
set_option maxHeartbeats 8000000 in
set_option maxRecDepth 100000 in
theorem alone_fine (E : Nat → Addr) (fs : List PFun) (A : Option Addr) (c : Nat) (name : Nm) (args : List Int) (X : Option Addr) (xc : Nat) (ticks : Int) (w : World) (hE : Laid E w) (hr : RdF w (fun _ => True) fs A) (hX : Row w X (intVs args)) (h : aloneOut fs args.length ticks = false) (h8 : ¬ 8 ≤ fs.length) (hz : (runC fs name args.length 0).1 = 0) :
    Calls Tryd.prog 4 #[.slice A fs.length c, .string (mkB name), .slice X args.length xc, .int .i64 ticks] w (Ret (.bool true) w) := by
  obtain ⟨⟨⟨hlg, h2⟩, h3⟩, h4⟩ := alone_in h
  obtain ⟨h10, hsm, -, hszs⟩ := largeP_small (by omega) hlg
  obtain ⟨T, rfl⟩ : ∃ T : Nat, ticks = T := ⟨ticks.toNat, by omega⟩
  have HS := Lib.hid (ran_any E w hE)
  have HLG : Hid (∀ w', Below w.heap.size w w' → Calls Tryd.prog 6 #[.slice A fs.length c, .int .i64 300] w' (Ret (.int .i64 0) w')) := fun w' hb => by
    have := Large_any fs 300 (by omega) (fun _ => True) A c w' (hr.keep ((Keeps.of_below hb).in _) (fun _ h => h))
    rwa [hlg] at this
  have HAS : Hid (∀ w', Below w.heap.size w w' → Calls Tryd.prog 7 #[.slice A fs.length c] w' fun x w'' => ∃ B d, x = .returned (.slice B fs.length d) ∧ fs.length ≤ d ∧ RdG w'' (newAt w') fs B ∧ Below w'.heap.size w' w'') := fun w' hb =>
    AsFuns_cap fs h10 hsm (fun _ => True) A c w' (hr.keep ((Keeps.of_below hb).in _) (fun _ h => h))
  have g2 : ¬ (8 : Int) < (args.length : Int) := by omega
  have g3 : ¬ (T : Int) < 0 := by omega
  have g4 : ¬ (200 : Int) < (T : Int) := by omega
  have g8 : ¬ (8 : Int) ≤ (fs.length : Int) := by omega
  have hT : T ≤ 200 := by omega
  have ha : args.length ≤ 8 := by omega
  have hti := runP_ticks fs name args T
  obtain ⟨o, ho⟩ : ∃ o, runP fs name args T = o := ⟨_, rfl⟩
  rw [ho] at hti
  have HRN : Hid (∀ w' B d A' c', Below w.heap.size w w' → fs.length ≤ d → RdG w' (fun _ => True) fs B → Row w' A' (intVs args) → (∀ a, A' = some a → a.block < w'.heap.size) → Calls Tryd.prog 8 #[.slice B fs.length d, .string (mkB name), .slice A' args.length c', .int .i64 T] w' fun en w'' => ∃ A' c', en = .returned (.tuple #[.agg #[.string (mkB o.1), .int .i64 o.2.1, .slice A' o.2.2.1.length c', .int .i64 o.2.2.2], .nilIface]) ∧ Row w'' A' (intVs o.2.2.1) ∧ o.2.2.1.length ≤ c' ∧ Below w'.heap.size w' w'') := fun w' B d A' c' hb hd hg hX hXl =>
    Run_fine E fs hsm _ B d (by omega) hd name args (by omega) A' c' T w' (hE.keep hb) hg hX hXl (by rw [runC_range (t := 0) (by omega) (by omega)]; exact hz) o ho
  have HRZ : Hid (∀ w' B d A' c', (∀ f ∈ fs, f.name ≠ zzN) → Below w.heap.size w w' → fs.length + 1 ≤ d → RdG w' (fun _ => True) (zzF :: fs) B → Row w' A' (intVs args) → (∀ a, A' = some a → a.block < w'.heap.size) → Calls Tryd.prog 8 #[.slice B (fs.length + 1) d, .string (mkB name), .slice A' args.length c', .int .i64 T] w' fun en w'' => ∃ A' c', en = .returned (.tuple #[.agg #[.string (mkB o.1), .int .i64 o.2.1, .slice A' o.2.2.1.length c', .int .i64 o.2.2.2], .nilIface]) ∧ Row w'' A' (intVs o.2.2.1) ∧ o.2.2.1.length ≤ c' ∧ Below w'.heap.size w' w'') := fun w' B d A' c' hnew hb hd hg hX hXl => by
    obtain ⟨hp, f, hf, hn⟩ := runC_zero hz
    exact Run_fine E (zzF :: fs) (fun f hf => by
      rcases List.mem_cons.1 hf with rfl | hf
      · exact zz_small
      · exact hsm f hf) _ B d (by simp; omega) (by simpa using hd) name args (by omega) A' c' T w' (hE.keep hb) hg hX hXl (runC_zz (by omega) hz (by omega) hnew) o
      (by rw [runP_zz (wfF_prog hsm hp) hnew T (by rw [findF_argsOf hf, hn]), ho])
  have HQ : Hid (∀ k (hk : k < fs.length), fs[k].name = name → callsP fs[k] = [] → prnS fs[k].body = 0 → o.2.2.1 = []) := fun k hk hn hc hp => by
    rw [← ho]
    exact runP_quiet (find_uniq (runC_zero hz).1 hk hn) hc hp args T
  have HX := Lib.hid hX
  have HR := Lib.hid hr
  have HSM := Lib.hid hsm
  have HSZ := Lib.hid hszs
  have HTI := Lib.hid hti
  have h0 : 0 < fs.length := by
    obtain ⟨-, f, hf, -⟩ := runC_zero hz
    unfold findF at hf
    exact List.length_pos_of_mem (List.mem_of_find?_eq_some hf)
  have h10' : fs.length ≤ 10 := h10
  obtain ⟨h1, v1, l1, t1⟩ := o
  simp only at HRN HRZ HQ HTI
  obtain ⟨N1, hN1⟩ : ∃ N : Int, (t1 : Int) = N := ⟨_, rfl⟩
  rw [hN1] at HRN HRZ
  have HN := Lib.hid hN1
  clear hr hE hlg hsm hz hX h2 h3 h4 h h10 h8 hszs hti hN1 ho
  go_enter Tryd.func4, Tryd.ntmps4
  go_wp2_with (first
    | (go_at_call 5; (with_reducible refine HS.out.mono ?_); rintro x w1 ⟨rfl, hb1⟩)
    | (go_at_call 6; (with_reducible refine (HLG.out _ hb1).mono ?_); rintro x w2 ⟨rfl, hb2⟩)
    | (go_at_call 7; (with_reducible refine (HAS.out _ (grow_trans hb1 hb2)).mono ?_); rintro x w3 ⟨B, d, rfl, hd, hg, hb3⟩; have HG := Lib.hid (hg.keep ((Keeps.refl _).in _) (S' := fun _ => True) (fun _ _ => trivial)); have HB3 := Lib.hid (grow_trans (grow_trans hb1 hb2) hb3); clear hg)
    | (at_builtin; refine wpList_append_ints0 rfl (.tmp 50) (.tmp 51) rfl args rfl X xc rfl (HX.out.keep (Keeps.of_below HB3.out)) (by omega) ?_; intro A4 c4 w4 hr4 hl4 hb4; have HR4 := Lib.hid hr4; have HL4 := Lib.hid hl4; have HB4 := Lib.hid (grow_trans HB3.out hb4); have HG4 := Lib.hid (HG.out.keep ((Keeps.of_below hb4).in _) (fun _ h => h)); clear hr4 hl4 hb4)
    | (go_at_call 8; (with_reducible refine (HRN.out _ _ _ _ _ HB4.out hd HG4.out HR4.out HL4.out).mono ?_); rintro x w5 ⟨A5, c5, rfl, hr5, hc5, hb5⟩; have HB5 := Lib.hid (grow_alloc (grow_trans HB4.out hb5) (.cells #[.string (mkB h1), .int .i64 v1, .slice A5 l1.length c5, .int .i64 N1] 29)); have HG5 := Lib.hid (HG4.out.keep ((Keeps.of_below (grow_alloc hb5 (.cells #[.string (mkB h1), .int .i64 v1, .slice A5 l1.length c5, .int .i64 N1] 29))).in _) (fun _ h => h)); have HR5 := Lib.hid (hr5.keep (Keeps.alloc _ (.cells #[.string (mkB h1), .int .i64 v1, .slice A5 l1.length c5, .int .i64 N1] 29))); have HK5 := Lib.hid (heap_alloc_new w5 (.cells #[.string (mkB h1), .int .i64 v1, .slice A5 l1.length c5, .int .i64 N1] 29)); clear hb5 hr5))
  obtain ⟨p, hp⟩ : ∃ p, w5.heap.size = p := ⟨_, rfl⟩
  rw [hp] at HK5
  rw [hp]
  generalize w5.alloc (.cells #[.string (mkB h1), .int .i64 v1, .slice A5 l1.length c5, .int .i64 N1] 29) = wa at *
  have hpl : p < wa.heap.size := (Array.getElem?_eq_some_iff.1 HK5.out).1
  have HPL := Lib.hid hpl
  clear hpl hp
  go_loopw [15] (fun i wr => ∃ k q : Nat, k ≤ fs.length ∧ i = .int .i64 k ∧ wr = wa.drewN q ∧ ∀ j (hj : j < fs.length), j < k → fs[j].name ≠ zzN) (fun i _ => fs.length - (intOf i).toNat)
  case atStart => exact ⟨0, 0, Nat.zero_le _, rfl, rfl, fun j _ h => absurd h (by omega)⟩
  case round =>
    obtain ⟨k, q, hk, rfl, hwr, hno⟩ := hrel
    have HW := Lib.hid hwr
    have HNO := Lib.hid hno
    clear hwr hno
    have HBR : Hid (Below w.heap.size w wr) := show Below w.heap.size w wr by rw [HW.out]; exact grow_drew HB5.out q
    by_cases hlt : k < fs.length
    · obtain ⟨b8, off8, P8, p8, B8, d8, e8, -, hcells8, -⟩ := (HR.out.keep ((Keeps.of_below HBR.out).in _) (fun _ h => h)) k hlt
      subst e8
      obtain ⟨c0, -, -⟩ := cells_fun hcells8
      have hlt' : (k : Int) < (fs.length : Int) := by omega
      clear hcells8
      cases hn8 : (fs[k].name == zzN)
      · have q1 : ((mkB fs[k].name).toList == [122, 122]) = false := by rw [mkB_toList]; exact hn8
        have HN8 := Lib.hid hn8
        clear hn8
        go_wp2_with fail
        go_roundw
        case rel => exact ⟨k + 1, _, by omega, by go_num, HW.out, fun j hj hjk => by
          by_cases hjj : j = k
          · subst hjj; exact beq_eq_false_iff_ne.1 HN8.out
          · exact HNO.out j hj (by omega)⟩
        case measure => simp [intOf]; omega
      · have q1 : ((mkB fs[k].name).toList == [122, 122]) = true := by rw [mkB_toList]; exact hn8
        clear hn8
        go_wp2_with fail
        go_ret
        exact ⟨rfl, HBR.out⟩
    · have hk' : k = fs.length := by omega
      have HNEW : Hid (∀ f ∈ fs, f.name ≠ zzN) := fun f hf => by
        obtain ⟨j, hj, rfl⟩ := List.mem_iff_getElem.1 hf
        exact HNO.out j hj (by omega)
      have hnl : ¬ ((k : Int) < (fs.length : Int)) := by omega
      have HGR : Hid (RdG wr (fun n => True ∧ n < wr.heap.size) fs B) := (HG5.out.keep ((Keeps.of_below (show Below wa.heap.size wa wr by rw [HW.out]; exact grow_drew (grow_refl _) _)).in _) (fun _ h => h)).lt
      have HBA : Hid (Below wa.heap.size wa wr) := show Below wa.heap.size wa wr by rw [HW.out]; exact grow_drew (grow_refl _) _
      clear hk' hk hlt
      obtain ⟨wz, hwz⟩ : ∃ wz, (wr.alloc zzO1).alloc (zzO2 wr.heap.size) = wz := ⟨_, rfl⟩
      have hbz : Below wr.heap.size wr wz := by rw [← hwz]; exact grow_alloc (grow_alloc (grow_refl _) _) _
      have hk1 : wz.heap[wr.heap.size]? = some zzO1 := by rw [← hwz]; exact (old_block _ _ (by simp)).trans (heap_alloc_new wr _)
      have hk2 : wz.heap[wr.heap.size + 1]? = some (zzO2 wr.heap.size) := by rw [← hwz]; exact new_block _ _ (by simp)
      obtain ⟨ad, news, rfl, hlen, hreads, hone, hown, hnext⟩ := own_zz (HGR.out.keep ((Keeps.of_below hbz).in _) (fun _ h => h)) (fun n hn => hn.2) h0 hk1 hk2
      have hsz : wz.heap.size = wr.heap.size + 2 := by rw [← hwz]; simp
      have HBZ := Lib.hid hbz
      have HLEN := Lib.hid hlen
      have HREADS := Lib.hid hreads
      have HONE := Lib.hid hone
      have HOWN := Lib.hid hown
      have HNEXT := Lib.hid hnext
      have HSZZ := Lib.hid hsz
      clear hk1 hk2 hbz hlen hreads hone hown hnext hsz
      go_upto_region 18 with fail
      change Code.wp _ _ _ _ ((wr.alloc zzO1).alloc (zzO2 wr.heap.size))
      rw [hwz]
      clear hwz
      obtain ⟨ti, hi, hz0, hz1, hz2⟩ := info_parts funInfo
      have HB6 : Hid (∀ w', wz.grownBy w' (some (wr.heap.size + 1)) → Below wr.heap.size wr w') := fun w' hgrow => Below.grown HBZ.out hgrow (by have := HSZZ.out; omega) (fun k hk => by injection hk; omega)
      have HSO : Hid (∀ (w8 : World) (A8 : Option Addr) (c8 : Nat), Below wa.heap.size wa w8 → Row w8 A8 (intVs l1) → Calls Tryd.prog 10 #[.agg #[.string (mkB h1), .int .i64 v1, .slice A5 l1.length c5, .int .i64 N1], .agg #[.string (mkB h1), .int .i64 v1, .slice A8 l1.length c8, .int .i64 N1]] (w8.alloc (.cells #[.string (mkB h1), .int .i64 v1, .slice A8 l1.length c8, .int .i64 N1] 29)) (Ret (.bool true) (w8.alloc (.cells #[.string (mkB h1), .int .i64 v1, .slice A8 l1.length c8, .int .i64 N1] 29)))) := fun w8 A8 c8 hb8 hr8 => by
        have hk := Keeps.of_below (grow_alloc (grow_refl w8) (.cells #[.string (mkB h1), .int .i64 v1, .slice A8 l1.length c8, .int .i64 N1] 29))
        have := SameOutcome_eq (h1, v1, l1, t1) A5 A8 c5 c8 (w8.alloc (.cells #[.string (mkB h1), .int .i64 v1, .slice A8 l1.length c8, .int .i64 N1] 29)) ((HR5.out.keep (Keeps.of_below hb8)).keep hk) (hr8.keep hk) (by have := HTI.out; simp only; omega)
        unfold ocV at this
        simp only at this
        rw [HN.out] at this
        exact this
      go_wp2_with (first
        | (at_builtin; refine wpList_append_own_at _ rfl (.tmp 77) (.tmp 78) 26 rfl 0 48 ti _ 3 64 Tryd.underlying26 hi hz0 hz1 hz2 rfl (by decide) _ 1 _ rfl HOWN.out ad fs.length d news rfl HLEN.out HREADS.out HONE.out (by unfold maxLen; omega) (by omega) (Nat.zero_le _) ?_; intro v' w6 hown' hgrow _ hat; obtain ⟨B6, d6, rfl, hd6, hrd6⟩ := HNEXT.out _ _ hown' hgrow hat; have HG6 := Lib.hid hrd6; have HBW6 := Lib.hid (HB6.out _ hgrow); clear hown' hgrow hat hrd6)
        | (at_builtin; refine wpList_append_ints0 rfl (.tmp 81) (.tmp 82) rfl args rfl X xc rfl (HX.out.keep (Keeps.of_below (grow_trans HBR.out HBW6.out))) (by omega) ?_; intro A7 c7 w7 hr7 hl7 hb7; have HR7 := Lib.hid hr7; have HL7 := Lib.hid hl7; have HB7 := Lib.hid (grow_trans HBW6.out hb7); have HG7 := Lib.hid (HG6.out.keep ((Keeps.of_below hb7).in _) (fun _ h => h)); clear hr7 hl7 hb7)
        | (go_at_call 8; (with_reducible refine (HRZ.out _ _ _ _ _ HNEW.out (grow_trans HBR.out HB7.out) hd6 HG7.out HR7.out HL7.out).mono ?_); rintro x w8 ⟨A8, c8, rfl, hr8, hc8, hb8⟩; have hba8 := grow_trans HBA.out (grow_trans HB7.out hb8); obtain ⟨e0, e1, e2, e3⟩ := row4 (((grow_alloc hba8 (.cells #[.string (mkB h1), .int .i64 v1, .slice A8 l1.length c8, .int .i64 N1] 29)).block _ HPL.out).trans HK5.out); have HS8 := Lib.hid (HSO.out w8 A8 c8 hba8 hr8); have HB8 := Lib.hid hba8; clear hb8 hr8 hba8)
        | (go_at_call 10; (with_reducible refine HS8.out.mono ?_); rintro x w9 ⟨rfl, hb9⟩))
      have HBF := Lib.hid (grow_trans (grow_alloc HB8.out (.cells #[.string (mkB h1), .int .i64 v1, .slice A8 l1.length c8, .int .i64 N1] 29)) hb9)
      have HGF := Lib.hid (HG5.out.keep ((Keeps.of_below HBF.out).in _) (fun _ h => h))
      obtain ⟨f0, f1, f2, f3⟩ := row4 ((HBF.out.block _ HPL.out).trans HK5.out)
      have HF2 := Lib.hid f2
      clear hb9 f0 f1 f3 f2 e0 e1 e2 e3 HG7 HR7 HL7 HG6 HREADS HONE HOWN HNEXT
      obtain ⟨wy, rfl⟩ : ∃ wy : World, wy = w9 := ⟨_, rfl⟩
      go_loopw [19] (fun i wr => ∃ k : Nat, k ≤ fs.length ∧ i = .int .i64 k ∧ Below wy.heap.size wy wr) (fun i _ => fs.length - (intOf i).toNat)
      case atStart => exact ⟨0, Nat.zero_le _, rfl, grow_refl _⟩
      case round =>
        obtain ⟨k, hk2, rfl, hbel⟩ := hrel
        have HBL := Lib.hid (grow_trans HB5.out (grow_trans HBF.out hbel))
        by_cases hlt : k < fs.length
        · have hsf := HSM.out fs[k] (List.getElem_mem hlt)
          have hzf := HSZ.out fs[k] (List.getElem_mem hlt)
          have hq := HQ.out k hlt
          obtain ⟨f, hf⟩ : ∃ f, fs[k] = f := ⟨_, rfl⟩
          have HLA : Hid (∀ w', Below wr.heap.size wr w' → RdF w' (fun _ => True) fs A) := fun w' hb => HR.out.keep ((Keeps.of_below (grow_trans HBL.out hb)).in _) (fun _ h => h)
          have HGA : Hid (∀ w', Below wr.heap.size wr w' → RdG w' (fun n => True) fs (some ad)) := fun w' hb => HGF.out.keep ((Keeps.of_below (grow_trans hbel hb)).in _) (fun _ h => h)
          obtain ⟨b8, off8, P8, p8, B8, d8, e8, -, hcells8, -, hbody8⟩ := HLA.out _ (grow_refl _) k hlt
          obtain ⟨b9, off9, P9, p9, B9, d9, e9, -, hcells9, -, -, hbody9⟩ := HGA.out _ (grow_refl _) k hlt
          obtain rfl := e8
          injection e9 with e9
          subst e9
          obtain ⟨c0, c1, c2⟩ := cells_fun hcells8
          obtain ⟨g0, g1, g2⟩ := cells_fun hcells9
          rw [hf] at c0 c1 c2 g0 g1 g2 hsf hzf hq hbody8 hbody9
          have hlt' : (k : Int) < (fs.length : Int) := by omega
          have HF := Lib.hid hf
          clear hcells8 hcells9 hf
          by_cases hn8 : f.name = name
          · have q1 : ((mkB f.name).toList == (mkB name).toList) = true := by rw [mkB_toList, mkB_toList, hn8]; exact beq_self_eq_true _
            have HC : Hid (Calls Tryd.prog 11 #[funV f P9 p9 B9 d9] wr (RetT (callsP f) wr)) := Calls_any f hsf (by omega) _ P9 p9 B9 d9 wr hbody9
            have HPR : Hid (∀ w', Below wr.heap.size wr w' → Calls Tryd.prog 12 #[.slice B8 f.body.length d8] w' (Quiet (.int .i64 (prnS f.body)) w')) := fun w' hb =>
              prints_fun f hsf (by omega) _ B8 d8 w' (hbody8.keep ((Keeps.of_below hb).in _) (fun _ h => h))
            unfold funV at HC
            have HK : Hid (∀ w', Below wr.heap.size wr w' → w'.cell? ⟨b8, off8 + k * 3 + 2, none⟩ = some (.slice B8 f.body.length d8) ∧ w'.cell? ⟨p, 2, none⟩ = some (.slice A5 l1.length c5)) := fun w' hb => ⟨Keeps.of_below hb _ _ c2, Keeps.of_below (grow_trans hbel hb) _ _ HF2.out⟩
            have hcln := calls_len (f := f) (by omega)
            have hq' := hq hn8
            have HQ' := Lib.hid hq'
            clear hsf hzf hbody8 hbody9 hn8 hq hq'
            by_cases hc0 : callsP f = []
            · have hc1 : (((callsP f).length : Int) == 0) = true := by rw [hc0]; rfl
              have HC0 := Lib.hid hc0
              by_cases hp0 : prnS f.body = 0
              · have hp1 : (((prnS f.body : Nat) : Int) == 0) = true := by rw [hp0]; rfl
                have hl0 : ¬ (0 : Int) < (l1.length : Int) := by rw [HQ'.out hc0 hp0]; simp
                clear hc0 hp0
                go_wp2_with (first
                  | (go_at_call 11; (with_reducible refine HC.out.mono ?_); rintro x w7 ⟨A7, c7, rfl, hrow7, hcap7, hb7⟩; clear hrow7; obtain ⟨c2, f2⟩ := HK.out _ hb7)
                  | (go_at_call 12; (with_reducible refine (HPR.out _ hb7).mono ?_); rintro x w8 ⟨rfl, m8, rfl⟩; have f3 := Keeps.drewN w7 m8 _ _ f2))
                go_roundw
                case rel => exact ⟨k + 1, by omega, by go_num, grow_drew (grow_trans hbel hb7) _⟩
                case measure => simp [intOf]; omega
              · have hp1 : (((prnS f.body : Nat) : Int) == 0) = false := beq_eq_false_iff_ne.2 (by omega)
                clear hc0 hp0
                go_wp2_with (first
                  | (go_at_call 11; (with_reducible refine HC.out.mono ?_); rintro x w7 ⟨A7, c7, rfl, hrow7, hcap7, hb7⟩; clear hrow7; obtain ⟨c2, f2⟩ := HK.out _ hb7)
                  | (go_at_call 12; (with_reducible refine (HPR.out _ hb7).mono ?_); rintro x w8 ⟨rfl, m8, rfl⟩; have f3 := Keeps.drewN w7 m8 _ _ f2))
                go_roundw
                case rel => exact ⟨k + 1, by omega, by go_num, grow_drew (grow_trans hbel hb7) _⟩
                case measure => simp [intOf]; omega
            · have hc1 : (((callsP f).length : Int) == 0) = false := beq_eq_false_iff_ne.2 (by have := List.length_pos_iff.2 hc0; omega)
              clear hc0
              go_wp2_with (first
                | (go_at_call 11; (with_reducible refine HC.out.mono ?_); rintro x w7 ⟨A7, c7, rfl, hrow7, hcap7, hb7⟩; clear hrow7; obtain ⟨c2, f2⟩ := HK.out _ hb7)
                | (go_at_call 12; (with_reducible refine (HPR.out _ hb7).mono ?_); rintro x w8 ⟨rfl, m8, rfl⟩; have f3 := Keeps.drewN w7 m8 _ _ f2))
              go_roundw
              case rel => exact ⟨k + 1, by omega, by go_num, grow_trans hbel hb7⟩
              case measure => simp [intOf]; omega
          · have q1 : ((mkB f.name).toList == (mkB name).toList) = false := by rw [mkB_toList, mkB_toList]; exact beq_eq_false_iff_ne.2 hn8
            clear hsf hzf hq hbody8 hbody9 hn8
            go_wp2_with fail
            go_roundw
            case rel => exact ⟨k + 1, by omega, by go_num, hbel⟩
            case measure => simp [intOf]; omega
        · have hk' : k = fs.length := by omega
          have hnl2 : ¬ ((k : Int) < (fs.length : Int)) := by omega
          clear hk' hk2 hlt
          go_wp2_with fail
          go_ret
          exact ⟨rfl, HBL.out⟩
theorem RunAlone_walk (E : Nat → Addr) (fs : List PFun) (A : Option Addr) (c : Nat) (name : Nm) (args : List Int) (X : Option Addr) (xc : Nat) (ticks : Int) (w : World) (hE : Laid E w) (hr : RdF w (fun _ => True) fs A) (hX : Row w X (intVs args)) :
    Calls Tryd.prog 4 #[.slice A fs.length c, .string (mkB name), .slice X args.length xc, .int .i64 ticks] w (Ret (.bool true) w) := by
  cases h : aloneOut fs args.length ticks
  · by_cases h8 : 8 ≤ fs.length
    · exact alone_full E fs A c name args X xc ticks w hE hr h h8
    · by_cases hz : (runC fs name args.length 0).1 = 0
      · exact alone_fine E fs A c name args X xc ticks w hE hr hX h h8 hz
      · exact alone_bad E fs A c name args X xc ticks w hE hr hX h h8 hz
  · exact alone_early E fs A c name args X xc ticks w hE hr h
end Go.Proofs.YteifmgcbafemeaaDoor
