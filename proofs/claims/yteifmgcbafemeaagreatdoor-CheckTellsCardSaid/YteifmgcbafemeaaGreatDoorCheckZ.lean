import Derived.Test.YteifmgcbafemeaaGreatDoorCheckY
namespace Go.Proofs.YteifmgcbafemeaaGreatDoor
open Go.RowKit

theorem namesC_bad {f : PFun} {ahead : List PFun} (h : (nmOk f.name && f.params.all nmOk) = false) : namesC f ahead = 5 := by unfold namesC; rw [if_neg (by rw [h]; decide)]
theorem namesC_there {f : PFun} {ahead : List PFun} (h : (nmOk f.name && f.params.all nmOk) = true) (h2 : (ahead.any fun g => g.name == f.name) = true) : namesC f ahead = 7 := by unfold namesC; rw [if_pos h, if_pos h2]
theorem namesC_many {f : PFun} {ahead : List PFun} (h : (nmOk f.name && f.params.all nmOk) = true) (h2 : (ahead.any fun g => g.name == f.name) = false) (h3 : 4 < f.params.length) : namesC f ahead = 9 := by
  unfold namesC; rw [if_pos h, if_neg (by rw [h2]; decide), if_pos h3]
theorem namesC_rest {f : PFun} {ahead : List PFun} (h : (nmOk f.name && f.params.all nmOk) = true) (h2 : (ahead.any fun g => g.name == f.name) = false) (h3 : ¬ 4 < f.params.length) : namesC f ahead = if dupC [] f.params then 7 else 0 := by
  unfold namesC; rw [if_pos h, if_neg (by rw [h2]; decide), if_neg h3]
theorem dupC_step {ps : List Nm} {k : Nat} (h : k < ps.length) : dupC (ps.take k) (ps.drop k) = ((ps.take k).contains ps[k] || dupC (ps.take (k + 1)) (ps.drop (k + 1))) := by
  rw [List.drop_eq_getElem_cons h, dupC, ← List.take_succ_eq_append_getElem h]
theorem row3 {w : World} {q : Nat} {v0 v1 v2 : Value} {T : TypeId} {fz : Nat × Nat} (hrow : w.heap[q]? = some (.cells #[v0, v1, v2] T fz)) :
    w.cell? ⟨q, 0, none⟩ = some v0 ∧ w.cell? ⟨q, 1, none⟩ = some v1 ∧ w.cell? ⟨q, 2, none⟩ = some v2 :=
  ⟨cell_of_row _ _ 0 _ _ _ hrow, cell_of_row _ _ 1 _ _ _ hrow, cell_of_row _ _ 2 _ _ _ hrow⟩
theorem rdT_row {w : World} {S : Nat → Prop} {xs : List Nm} {A : Option Addr} (h : RdT w S xs A) : Row w A (strVs xs) := fun j u hj => by
  have hl : j < xs.length := by have := (List.getElem?_eq_some_iff.1 hj).1; simpa [strVs] using this
  obtain ⟨b, off, e, _, hc⟩ := h j hl
  have hu : u = .string (mkB xs[j]) := by
    have := (List.getElem?_eq_some_iff.1 hj).2
    simpa [strVs] using this.symm
  exact ⟨b, off, e, by rw [hu]; exact hc⟩
theorem row_take {w : World} {A : Option Addr} {l : List Nm} (h : Row w A (strVs l)) (k : Nat) : Row w A (strVs (l.take k)) := fun j u hj => h j u (by
  unfold strVs at hj ⊢
  rw [List.map_take] at hj
  rw [List.getElem?_take] at hj
  split at hj
  · exact hj
  · cases hj)
set_option maxHeartbeats 4000000 in
set_option maxRecDepth 100000 in
theorem names_any (E : Nat → Addr) (f : PFun) (ahead : List PFun) (hp8 : f.params.length ≤ 8) (ha : ahead.length ≤ 10) (S S' : Nat → Prop) (P : Option Addr) (p : Nat) (B : Option Addr) (c : Nat) (A : Option Addr) (d : Nat) (w : World) (hE : Laid E w) (hT : RdT w S f.params P) (hok : PrmOk f P p) (hA : RdG w S' ahead A) :
    Calls Tryz.prog 25 #[funV f P p B c, .slice A ahead.length d] w (Ret (eV E (namesC f ahead)) w) := by
  have hb0 : Below w.heap.size w (w.alloc (funO f P p B c)) := grow_alloc (grow_refl _) _
  have HB0 := Lib.hid hb0
  have HBK := Lib.hid (heap_alloc_new w (funO f P p B c))
  have HL : Hid (∀ w', Below w.heap.size w w' → Laid E w') := fun w' hb => hE.keep hb
  have hn1 := lexName_any f.name
  unfold strV at hn1
  have HN := Lib.hid hn1
  have HP : Hid (∀ w', Below w.heap.size w w' → Calls Tryz.prog 50 #[.slice P f.params.length p, .func (.func 51) #[] #[]] w' (Ret (.bool (!f.params.all nmOk)) w')) := fun w' hb =>
    anyNo_any f.params (by omega) P p w' (rdT_row (hT.keep ((Keeps.of_below hb).in S) (fun _ h => h)))
  have HF : Hid (∀ w', Below w.heap.size w w' → w'.cell? ⟨w.heap.size, 0, none⟩ = some (.string (mkB f.name)) → Calls Tryz.prog 52 #[.slice A ahead.length d, .func (.func 53) #[] #[.pointer (some ⟨w.heap.size, 0, none⟩)]] w' (Ret (.bool (ahead.any fun g => g.name == f.name)) w')) := fun w' hb hc =>
    anyFn_any f.name ahead (by omega) w.heap.size S' A d w' (hA.keep ((Keeps.of_below hb).in S') (fun _ h => h)) hc
  have HD : Hid (∀ k x w', Below w.heap.size w w' → k ≤ f.params.length → Calls Tryz.prog 36 #[.slice P k p, .string (mkB x)] w' fun e w'' => e = .returned (.bool ((f.params.take k).contains x)) ∧ w'' = w') := fun k x w' hb hk => by
    have := has_any (f.params.take k) x P p w' (row_take (rdT_row (hT.keep ((Keeps.of_below hb).in S) (fun _ h => h))) k) (by rw [List.length_take]; omega)
    rwa [List.length_take, Nat.min_eq_left hk] at this
  have HT := Lib.hid hT
  have HOK := Lib.hid hok
  have hcap := hok.2
  clear hE hT hok hA hn1 hb0
  unfold funV
  unfold funO at *
  cases h1 : nmOk f.name
  · have HE := Lib.hid (namesC_bad (ahead := ahead) (show (nmOk f.name && f.params.all nmOk) = false by rw [h1]; rfl))
    rw [h1] at HN
    clear h1
    go_enter Tryz.func25, Tryz.ntmps25
    go_wp2_with (go_at_call 49; (with_reducible refine (HN.out _).mono ?_); rintro y w1 ⟨rfl, hb1⟩; have g4 := (HL.out _ (grow_trans HB0.out hb1)).c4)
    go_ret
    exact ⟨by rw [HE.out]; rfl, grow_trans HB0.out hb1⟩
  · rw [h1] at HN
    cases h2 : f.params.all nmOk
    · have HE := Lib.hid (namesC_bad (ahead := ahead) (show (nmOk f.name && f.params.all nmOk) = false by rw [h1, h2]; rfl))
      rw [h2] at HP
      clear h1 h2
      go_enter Tryz.func25, Tryz.ntmps25
      go_wp2_with (first
        | (go_at_call 49; (with_reducible refine (HN.out _).mono ?_); rintro y w1 ⟨rfl, hb1⟩; obtain ⟨d0, d1, d2⟩ := row3 ((hb1.block _ (by simp)).trans HBK.out); have HB1 := Lib.hid (grow_trans HB0.out hb1))
        | (go_at_call 50; (with_reducible refine (HP.out _ HB1.out).mono ?_); rintro y w2 ⟨rfl, hb2⟩; have g4 := (HL.out _ (grow_trans HB1.out hb2)).c4))
      go_ret
      exact ⟨by rw [HE.out]; rfl, grow_trans HB1.out hb2⟩
    · have hok : (nmOk f.name && f.params.all nmOk) = true := by rw [h1, h2]; rfl
      rw [h2] at HP
      clear h1 h2
      cases h3 : ahead.any fun g => g.name == f.name
      · by_cases h4 : 4 < f.params.length
        · have HE := Lib.hid (namesC_many hok h3 h4)
          have q4 : (4 : Int) < (f.params.length : Int) := by omega
          rw [h3] at HF
          clear hok h3 h4
          go_enter Tryz.func25, Tryz.ntmps25
          go_wp2_with (first
            | (go_at_call 49; (with_reducible refine (HN.out _).mono ?_); rintro y w1 ⟨rfl, hb1⟩; have HK1 := Lib.hid ((hb1.block _ (by simp)).trans HBK.out); obtain ⟨d0, d1, d2⟩ := row3 HK1.out; have HB1 := Lib.hid (grow_trans HB0.out hb1))
            | (go_at_call 50; (with_reducible refine (HP.out _ HB1.out).mono ?_); rintro y w2 ⟨rfl, hb2⟩; have HK2 := Lib.hid ((hb2.block _ (Array.getElem?_eq_some_iff.1 HK1.out).1).trans HK1.out); have HB2 := Lib.hid (grow_trans HB1.out hb2))
            | (go_at_call 52; (with_reducible refine (HF.out _ HB2.out (row3 HK2.out).1).mono ?_); rintro y w3 ⟨rfl, hb3⟩; obtain ⟨e0, e1, e2⟩ := row3 ((hb3.block _ (Array.getElem?_eq_some_iff.1 HK2.out).1).trans HK2.out); have g8 := (HL.out _ (grow_trans HB2.out hb3)).c8))
          go_ret
          exact ⟨by rw [HE.out]; rfl, grow_trans HB2.out hb3⟩
        · have HE := Lib.hid (namesC_rest hok h3 h4)
          have q4 : ¬ (4 : Int) < (f.params.length : Int) := by omega
          rw [h3] at HF
          clear hok h3 h4
          go_enter Tryz.func25, Tryz.ntmps25
          go_wp2_with (first
            | (go_at_call 49; (with_reducible refine (HN.out _).mono ?_); rintro y w1 ⟨rfl, hb1⟩; have HK1 := Lib.hid ((hb1.block _ (by simp)).trans HBK.out); obtain ⟨d0, d1, d2⟩ := row3 HK1.out; have HB1 := Lib.hid (grow_trans HB0.out hb1))
            | (go_at_call 50; (with_reducible refine (HP.out _ HB1.out).mono ?_); rintro y w2 ⟨rfl, hb2⟩; have HK2 := Lib.hid ((hb2.block _ (Array.getElem?_eq_some_iff.1 HK1.out).1).trans HK1.out); have HB2 := Lib.hid (grow_trans HB1.out hb2))
            | (go_at_call 52; (with_reducible refine (HF.out _ HB2.out (row3 HK2.out).1).mono ?_); rintro y w3 ⟨rfl, hb3⟩; have HK3 := Lib.hid ((hb3.block _ (Array.getElem?_eq_some_iff.1 HK2.out).1).trans HK2.out); obtain ⟨e0, e1, e2⟩ := row3 HK3.out; have HB3 := Lib.hid (grow_trans HB2.out hb3)))
          have f1 := (row3 HK3.out).2.1
          have g6 := (HL.out _ HB3.out).c6
          go_loop [5, 6, 29] (fun _ _ i => ∃ k : Nat, k ≤ f.params.length ∧ i = .int .i64 k ∧ dupC [] f.params = dupC (f.params.take k) (f.params.drop k)) (fun _ _ i => f.params.length - (intOf i).toNat)
          case atStart => exact ⟨0, Nat.zero_le _, rfl, by simp⟩
          case round =>
            obtain ⟨k, hk, rfl, hI⟩ := hrel
            have HI := Lib.hid hI
            clear hI
            by_cases hlt : k < f.params.length
            · obtain ⟨b', off', rfl, -, hc⟩ := (HT.out.keep ((Keeps.of_below HB3.out).in S) (fun _ h => h)) k hlt
              have hlt' : (k : Int) < (f.params.length : Int) := by omega
              have hcp : (k : Int) ≤ (p : Int) := by omega
              have HS := Lib.hid (dupC_step hlt)
              have HCN := Lib.hid (HD.out k f.params[k] _ HB3.out hk)
              cases hd : (f.params.take k).contains f.params[k]
              · rw [hd] at HCN HS
                clear hd
                go_wp2_with (go_at_call 36; (with_reducible refine HCN.out.mono ?_); rintro y w4 ⟨rfl, rfl⟩)
                go_round
                case rel => exact ⟨k + 1, by omega, by go_num, HI.out.trans HS.out⟩
                case measure => simp [intOf]; omega
              · rw [hd] at HCN HS
                have HZ : Hid (namesC f ahead = 7) := show _ = _ by rw [HE.out, HI.out, HS.out]; rfl
                clear hd
                go_wp2_with (go_at_call 36; (with_reducible refine HCN.out.mono ?_); rintro y w4 ⟨rfl, rfl⟩)
                go_ret
                exact ⟨by rw [HZ.out]; rfl, HB3.out⟩
            · have hk' : k = f.params.length := by omega
              subst hk'
              have HZ : Hid (namesC f ahead = 0) := show _ = _ by rw [HE.out, HI.out, List.drop_length]; rfl
              go_wp2_with fail
              go_ret
              exact ⟨by rw [HZ.out]; rfl, HB3.out⟩
      · have HE := Lib.hid (namesC_there hok h3)
        rw [h3] at HF
        clear hok h3
        go_enter Tryz.func25, Tryz.ntmps25
        go_wp2_with (first
          | (go_at_call 49; (with_reducible refine (HN.out _).mono ?_); rintro y w1 ⟨rfl, hb1⟩; have HK1 := Lib.hid ((hb1.block _ (by simp)).trans HBK.out); obtain ⟨d0, d1, d2⟩ := row3 HK1.out; have HB1 := Lib.hid (grow_trans HB0.out hb1))
          | (go_at_call 50; (with_reducible refine (HP.out _ HB1.out).mono ?_); rintro y w2 ⟨rfl, hb2⟩; have HK2 := Lib.hid ((hb2.block _ (Array.getElem?_eq_some_iff.1 HK1.out).1).trans HK1.out); have HB2 := Lib.hid (grow_trans HB1.out hb2))
          | (go_at_call 52; (with_reducible refine (HF.out _ HB2.out (row3 HK2.out).1).mono ?_); rintro y w3 ⟨rfl, hb3⟩; have g6 := (HL.out _ (grow_trans HB2.out hb3)).c6))
        go_ret
        exact ⟨by rw [HE.out]; rfl, grow_trans HB2.out hb3⟩
end Go.Proofs.YteifmgcbafemeaaGreatDoor
