import Derived.Test.YteifmgcbafemeaaGreatDoorCheckBd
namespace Go.Proofs.YteifmgcbafemeaaGreatDoor
open Go.RowKit

/-! check.Program -/
theorem argsOf_snoc (t : Tab) (f : PFun) (x : Nm) : argsOf (t ++ [(f.name, f.params.length)]) x = match argsOf t x with
    | some m => some m
    | none => if f.name == x then some f.params.length else none := by
  unfold argsOf
  rw [List.find?_append]
  cases h : t.find? fun f => f.1 == x with
  | some y => rfl
  | none =>
    simp only [Option.none_or, Option.map_none, List.find?_cons, List.find?_nil]
    cases hx : (f.name == x) <;> simp
theorem tabOf_snoc (fs : List PFun) (f : PFun) : tabOf (fs ++ [f]) = tabOf fs ++ [(f.name, f.params.length)] := by simp [tabOf]
theorem tabF_old {fs : List PFun} {f : PFun} {m : Nat} (h : argsOf (tabOf fs) f.name = some m) : tabF (tabOf (fs ++ [f])) = tabF (tabOf fs) := by
  funext x
  unfold tabF
  rw [tabOf_snoc, argsOf_snoc]
  cases hx : argsOf (tabOf fs) x with
  | some y => rfl
  | none =>
    have : (f.name == x) = false := by rw [beq_eq_false_iff_ne]; rintro rfl; rw [h] at hx; cases hx
    simp [this]
theorem tabF_new {fs : List PFun} {f : PFun} (h : argsOf (tabOf fs) f.name = none) : tabF (tabOf (fs ++ [f])) = putF (tabF (tabOf fs)) f.name (.int .i64 (f.params.length : Int)) := by
  funext x
  unfold tabF putF
  rw [tabOf_snoc, argsOf_snoc]
  by_cases hx : x = f.name
  · subst hx; rw [h]; simp
  · have : (f.name == x) = false := by rw [beq_eq_false_iff_ne]; exact fun e => hx e.symm
    rw [if_neg hx]
    show Option.map _ _ = Option.map _ (argsOf (tabOf fs) x)
    generalize argsOf (tabOf fs) x = o
    cases o <;> simp [this]
theorem argsOf_mem {fs : List PFun} {x : Nm} {m : Nat} (h : argsOf (tabOf fs) x = some m) : ∃ f ∈ fs, f.params.length = m := by
  unfold argsOf at h
  cases hf : (tabOf fs).find? fun f => f.1 == x with
  | none => rw [hf] at h; cases h
  | some y =>
    rw [hf] at h
    have := List.mem_of_find?_eq_some hf
    unfold tabOf at this
    obtain ⟨f, h1, rfl⟩ := List.mem_map.1 this
    exact ⟨f, h1, by simpa using h⟩
theorem tabSmall {fs : List PFun} (h : ∀ f ∈ fs, SmF f) : TabSmall (tabOf fs) := fun k m hm => by
  obtain ⟨f, h1, rfl⟩ := argsOf_mem hm
  have := (h f h1).params; omega
theorem progFrom_step {t : Tab} {fs : List PFun} {k : Nat} (h : k < fs.length) : progFrom t (fs.take k) (fs.drop k) = if funC t (fs.take k) fs[k] = 0 then progFrom t (fs.take (k + 1)) (fs.drop (k + 1)) else (funC t (fs.take k) fs[k], (k : Int)) := by
  rw [List.drop_eq_getElem_cons h, progFrom, ← List.take_succ_eq_append_getElem h, List.length_take, Nat.min_eq_left (by omega)]
theorem funC_names {t : Tab} {a : List PFun} {f : PFun} (h : namesC f a ≠ 0) : funC t a f = namesC f a := by unfold funC; rw [if_neg h]
theorem funC_body {t : Tab} {a : List PFun} {f : PFun} (h : namesC f a = 0) : funC t a f = (blockC t f.body f.params f.params).1 := by unfold funC; rw [if_pos h]
theorem namesC_params {f : PFun} {a : List PFun} (h : namesC f a = 0) : f.params.length ≤ 4 := by
  unfold namesC at h
  by_cases h4 : 4 < f.params.length
  · simp only [h4, if_true] at h
    repeat (first | omega | split at h)
  · omega
theorem rdG_take {w : World} {S : Nat → Prop} {fs : List PFun} {A : Option Addr} (h : RdG w S fs A) (k : Nat) : RdG w S (fs.take k) A := fun i hi => by
  have hi' : i < fs.length := by rw [List.length_take] at hi; omega
  obtain ⟨b, off, P, p, B, c, h1⟩ := h i hi'
  rw [List.getElem_take]
  exact ⟨b, off, P, p, B, c, h1⟩
theorem keyMk (k : List UInt8) (h : k.length ≤ 1000000) : keyOf Tryz.prog 9 (.string (mkB k)) = some (.string k) := strKey k h
theorem errIs_es {E : Nat → Addr} {w : World} {n : Nat} (h : n ≠ 0) (h10 : n ≤ 10) : ErrIs E w (eV E n) n (-1) := by
  rw [eV_pos E h]
  have := ErrIs.es (E := E) (w := w) (i := n - 1) (by omega)
  rwa [show ((n - 1 : Nat) : Int) + 1 = n by omega] at this
theorem fault_is (E : Nat → Addr) (W : World) {z : Nat} (k : Int) (hz : z ≠ 0) (h10 : z ≤ 10) : ErrIs E (W.alloc (.cells #[.int .i64 k, esV (E (z - 1))] 70)) (ftV ⟨W.heap.size, 0, none⟩) z k :=
  .inr (.inr ⟨z - 1, W.heap.size, 0, by omega, rfl, cell_of_row _ _ 0 _ _ _ (heap_alloc_new W _), cell_of_row _ _ 1 _ _ _ (heap_alloc_new W _), by omega⟩)
def ProgPost (E : Nat → Addr) (fs : List PFun) (w : World) : Ending → World → Prop := fun e w' => ∃ v, e = .returned v ∧ ErrIs E w' v (progC fs).1 (progC fs).2 ∧ Below w.heap.size w w' ∧ (v = .nilIface ↔ (progC fs).1 = 0)
theorem prog_done {E : Nat → Addr} {fs : List PFun} {w w' : World} {z : Nat} {at' : Int} {v : Value} {e : Ending} (h : progC fs = (z, at')) (he : e = .returned v) (h1 : ErrIs E w' v z at') (hb : Below w.heap.size w w') (hv : v = .nilIface ↔ z = 0) : ProgPost E fs w e w' := by
  unfold ProgPost; rw [h]; exact ⟨v, he, h1, hb, hv⟩
set_option maxHeartbeats 4000000 in
set_option maxRecDepth 100000 in
theorem Program_any (E : Nat → Addr) (fs : List PFun) (hsm : ∀ f ∈ fs, SmF f) (S : Nat → Prop) (A : Option Addr) (c : Nat) (hl : fs.length ≤ 12) (hc : fs.length ≤ c) (w : World) (hE : Laid E w) (hr : RdG w S fs A) :
    Calls Tryz.prog 9 #[.slice A fs.length c] w (ProgPost E fs w) := by
  by_cases h8 : 8 < fs.length
  · have q8 : (8 : Int) < (fs.length : Int) := by omega
    have HP : Hid (progC fs = (8, -1)) := show _ = _ by unfold progC; rw [if_pos h8]
    have g7 := hE.c7
    clear hE hr hsm hc h8
    go_enter Tryz.func9, Tryz.ntmps9
    go_wp2_with fail
    go_ret
    unfold ProgPost
    rw [HP.out]
    exact ⟨_, rfl, .es (i := 7) (by omega), Below.refl _ _, by simp⟩
  · have q8 : ¬ (8 : Int) < (fs.length : Int) := by omega
    have HP : Hid (progC fs = progFrom (tabOf fs) [] fs) := show _ = _ by unfold progC; rw [if_neg h8]
    have hl8 : fs.length ≤ 8 := by omega
    have HR := Lib.hid hr
    have HE := Lib.hid hE
    have HSM := Lib.hid hsm
    have HPO : Hid (ProgPost E fs w = ProgPost E fs w) := Lib.hid rfl
    obtain ⟨Q, hQ⟩ : ∃ Q, ProgPost E fs w = Q := ⟨_, rfl⟩
    have HQ := Lib.hid hQ
    rw [hQ]
    clear hE hr hsm h8 hl hQ HPO
    have hmm := @run_makeMap Tryz.prog
    go_enter Tryz.func9, Tryz.ntmps9
    go_wp2_with fail
    go_loopw [5, 6, 7, 18] (fun _ _ _ i wr => ∃ k : Nat, k ≤ fs.length ∧ i = .int .i64 k ∧ MapAt wr w.heap.size k (tabF (tabOf (fs.take k))) ∧ Below w.heap.size w wr ∧ w.heap.size + 1 ≤ wr.heap.size) (fun _ _ _ i _ => fs.length - (intOf i).toNat)
    case atStart => exact ⟨0, Nat.zero_le _, rfl, MapAt.made w, grow_alloc (grow_refl _) _, by simp⟩
    case round =>
      obtain ⟨k, hk, rfl, hm, hbel, hsz⟩ := hrel
      by_cases hlt : k < fs.length
      · obtain ⟨b, off, P, p, B, d, rfl, -, hcells, -, -, -⟩ := (HR.out.keep ((Keeps.of_below hbel).in S) (fun _ h => h)) k hlt
        obtain ⟨c0, c1, c2⟩ := cells_fun hcells
        have hlt' : (k : Int) < (fs.length : Int) := by omega
        have htk := List.take_succ_eq_append_getElem hlt
        have hsf := HSM.out fs[k] (List.getElem_mem hlt)
        obtain ⟨f, hf⟩ : ∃ f, fs[k] = f := ⟨_, rfl⟩
        rw [hf] at hcells c0 c1 c2 htk hsf
        have hm1 : MapAt (wr.alloc (funO f P p B d)) w.heap.size k (tabF (tabOf (fs.take k))) := hm.below (grow_alloc (grow_refl _) _)
        have look := hm1.look Tryz.underlying64 (zeroInt _) f.name (by have := hsf.name; omega)
        have hb1 : Below w.heap.size w (wr.alloc (funO f P p B d)) := grow_alloc hbel _
        rw [show ({ data := f.name.toArray } : ByteArray) = mkB f.name from rfl] at look
        have HTK := Lib.hid htk
        have HBB := Lib.hid hb1
        have hp8 := hsf.params
        cases ha : argsOf (tabOf (fs.take k)) f.name with
        | none =>
          have HNEW := Lib.hid (tabF_new ha)
          have ht : tabF (tabOf (fs.take k)) f.name = none := by unfold tabF; rw [ha]; rfl
          rw [ht] at look
          obtain ⟨D, ho, hmap, hfd⟩ := hm1
          have HO := Lib.hid ho
          have HFD := Lib.hid (And.intro hmap hfd)
          have HKY := Lib.hid (keyMk f.name (by have := hsf.name; omega))
          unfold funO at *
          clear hcells htk hm hbel hb1 ha ht ho hmap hfd hf hsf
          go_wp2_with (at_mapUpdate; refine wpList_mapUpdate_own _ rfl _ _ _ 64 rfl 9 3 strKeyed Tryz.underlying64 hR w.heap.size k D rfl HO.out (by unfold maxLen; omega) _ _ (.string f.name) rfl rfl HKY.out (.held (.int .i64 (f.params.length : Int))) [] rfl ?_)
          intro w2 hown2 hgrow2
          have hput := MapAt.of_put HFD.out.1 HFD.out.2 hown2
          have HMP : Hid (MapAt w2 w.heap.size (k + 1) (tabF (tabOf (fs.take (k + 1))))) := show MapAt _ _ _ _ by
            rw [HTK.out, HNEW.out]; exact hput
          have HB2 : Hid (Below w.heap.size w w2) := Below.grown HBB.out hgrow2 HBB.out.size (fun q hq => by simp at hq; omega)
          have hsz2 : w.heap.size + 1 ≤ w2.heap.size := by have := hgrow2.size; simp at this; omega
          clear hown2 hgrow2 hput
          go_wp2_with fail
          go_roundw
          case rel => exact ⟨k + 1, by omega, by go_num, HMP.out, HB2.out, hsz2⟩
          case measure => simp [intOf]; omega
        | some m =>
          have HOLD := Lib.hid (tabF_old ha)
          have ht : tabF (tabOf (fs.take k)) f.name = some (.int .i64 m) := by unfold tabF; rw [ha]; rfl
          rw [ht] at look
          have HM := Lib.hid (hm1.mono (Nat.le_succ k))
          unfold funO at *
          clear hcells htk hm hbel hb1 ha ht hf hsf hm1
          go_wp2_with fail
          go_roundw
          case rel => exact ⟨k + 1, by omega, by go_num, by rw [HTK.out, HOLD.out]; exact HM.out, HBB.out, by simp; omega⟩
          case measure => simp [intOf]; omega
      · have hk' : k = fs.length := by omega
        subst hk'
        rw [List.take_length] at hm
        have HM0 := Lib.hid hm
        have HB00 := Lib.hid hbel
        obtain ⟨wo, rfl⟩ : ∃ wo : World, wo = wr := ⟨_, rfl⟩
        clear hm hbel hsz
        go_wp2_with fail
        go_loopw [8, 9, 10, 40] (fun _ _ _ i wr => ∃ k : Nat, k ≤ fs.length ∧ i = .int .i64 k ∧ progC fs = progFrom (tabOf fs) (fs.take k) (fs.drop k) ∧ Below wo.heap.size wo wr) (fun _ _ _ i _ => fs.length - (intOf i).toNat)
        case atStart => exact ⟨0, Nat.zero_le _, rfl, by rw [HP.out]; simp, grow_refl _⟩
        case round =>
          obtain ⟨k, hk, rfl, hI, hbel⟩ := hrel
          have HI := Lib.hid hI
          clear hI
          have hbw := grow_trans HB00.out hbel
          by_cases hlt : k < fs.length
          · have hrd := HR.out.keep ((Keeps.of_below hbw).in S) (fun _ h => h)
            obtain ⟨b, off, P, p, B, d, rfl, -, hcells, hprm, hok, hbody⟩ := hrd k hlt
            obtain ⟨c0, c1, c2⟩ := cells_fun hcells
            have hlt' : (k : Int) < (fs.length : Int) := by omega
            have hkc : (k : Int) ≤ (c : Int) := by omega
            have hst := progFrom_step (t := tabOf fs) hlt
            have hsf := HSM.out fs[k] (List.getElem_mem hlt)
            obtain ⟨f, hf⟩ : ∃ f, fs[k] = f := ⟨_, rfl⟩
            rw [hf] at hcells hprm hok hbody c0 c1 c2 hst hsf
            have hE1 := HE.out.keep hbw
            have HNM : Hid (∀ w', Below wr.heap.size wr w' → Calls Tryz.prog 25 #[.agg #[.string (mkB f.name), .slice P f.params.length p, .slice B f.body.length d], .slice (some ⟨b, off, none⟩) k c] w' (Ret (eV E (namesC f (fs.take k))) w')) := fun w' hb => by
              have := names_any E f (fs.take k) hsf.params (by rw [List.length_take]; omega) S S P p B d (some ⟨b, off, none⟩) c w' (hE1.keep hb) (hprm.keep ((Keeps.of_below hb).in S) (fun _ h => h)) hok (rdG_take (hrd.keep ((Keeps.of_below hb).in S) (fun _ h => h)) k)
              rwa [List.length_take, Nat.min_eq_left hk] at this
            have HBD : Hid (∀ w', Below wr.heap.size wr w' → namesC f (fs.take k) = 0 → Calls Tryz.prog 26 #[.agg #[.string (mkB f.name), .slice P f.params.length p, .slice B f.body.length d], .map (some w.heap.size)] w' (Ret (eV E (blockC (tabOf fs) f.body f.params f.params).1) w')) := fun w' hb h0 =>
              body_any E w.heap.size fs.length (tabOf fs) (tabSmall HSM.out) f hsf S P p B d w' (hE1.keep hb) ((HM0.out.below hbel).below hb) (hprm.keep ((Keeps.of_below hb).in S) (fun _ h => h)) hok (hbody.keep ((Keeps.of_below hb).in S) (fun _ h => h)) (namesC_params h0)
            have HBX := Lib.hid (heap_alloc_new wr (funO f P p B d))
            have HBA := Lib.hid (grow_alloc (grow_refl wr) (funO f P p B d))
            have HBW := Lib.hid hbw
            have HBL := Lib.hid hbel
            unfold funO at *
            clear hcells hprm hok hbody hf hsf hE1 hrd hbw hbel
            by_cases hn : namesC f (fs.take k) = 0
            · rw [funC_body hn] at hst
              have HN0 := Lib.hid hn
              rw [hn] at HNM
              rw [eV_zero] at HNM
              by_cases hb0 : (blockC (tabOf fs) f.body f.params f.params).1 = 0
              · rw [if_pos hb0] at hst
                rw [hb0] at HBD
                rw [eV_zero] at HBD
                have HS := Lib.hid hst
                clear hst hn hb0
                go_upto_region 14 with fail
                go_region_held3 (fun w' => w'.cell? ⟨wr.heap.size, 0, none⟩ = some (.string (mkB f.name)) ∧ w'.cell? ⟨wr.heap.size, 1, none⟩ = some (.slice P f.params.length p) ∧ w'.cell? ⟨wr.heap.size, 2, none⟩ = some (.slice B f.body.length d))
                  (first
                    | (exact row3 ((hB1.block _ (by simp)).trans HBX.out))
                    | (exact row3 HBX.out))
                  (first | (go_at_call 25; (with_reducible refine (HNM.out _ HBA.out.drew).mono ?_); rintro y w11 ⟨rfl, hB1⟩))
                have HB11 := Lib.hid (grow_trans HBA.out.drew hB1)
                have HX11 := Lib.hid ((hB1.block wr.heap.size (by simp)).trans HBX.out)
                clear hB1
                obtain ⟨d0, d1, d2⟩ := row3 HX11.out
                go_wp2_with (go_at_call 26; (with_reducible refine (HBD.out _ HB11.out HN0.out).mono ?_); rintro y w12 ⟨rfl, hb12⟩)
                go_roundw
                case rel => exact ⟨k + 1, by omega, by go_num, HI.out.trans HS.out, grow_trans HBL.out (grow_trans HB11.out hb12)⟩
                case measure => simp [intOf]; omega
              · rw [if_neg hb0] at hst
                have HS := Lib.hid hst
                have HZ := Lib.hid hb0
                have hc10 := (leftB_any (tabOf fs) f.body f.params f.params).1
                obtain ⟨z, hz⟩ : ∃ z, (blockC (tabOf fs) f.body f.params f.params).1 = z := ⟨_, rfl⟩
                rw [hz] at HBD HS HZ hc10
                have hze := eV_pos E HZ.out
                rw [hze] at HBD
                clear hst hn hz hze hb0
                go_upto_region 14 with fail
                go_region_held3 (fun w' => w'.cell? ⟨wr.heap.size, 0, none⟩ = some (.string (mkB f.name)) ∧ w'.cell? ⟨wr.heap.size, 1, none⟩ = some (.slice P f.params.length p) ∧ w'.cell? ⟨wr.heap.size, 2, none⟩ = some (.slice B f.body.length d))
                  (first
                    | (exact row3 ((hB1.block _ (by simp)).trans HBX.out))
                    | (exact row3 HBX.out))
                  (first | (go_at_call 25; (with_reducible refine (HNM.out _ HBA.out.drew).mono ?_); rintro y w11 ⟨rfl, hB1⟩))
                have HB11 := Lib.hid (grow_trans HBA.out.drew hB1)
                have HX11 := Lib.hid ((hB1.block wr.heap.size (by simp)).trans HBX.out)
                clear hB1
                obtain ⟨d0, d1, d2⟩ := row3 HX11.out
                go_wp2_with (go_at_call 26; (with_reducible refine (HBD.out _ HB11.out HN0.out).mono ?_); rintro y w12 ⟨rfl, hb12⟩)
                rw [← HQ.out]
                exact prog_done (HI.out.trans HS.out) rfl (fault_is E w12 _ HZ.out hc10) (grow_alloc (grow_trans HBW.out (grow_trans HB11.out hb12)) _) (by simp [HZ.out])
            · rw [funC_names hn, if_neg hn] at hst
              have HS := Lib.hid hst
              have HZ := Lib.hid hn
              have hc10 := namesC_code f (fs.take k)
              obtain ⟨z, hz⟩ : ∃ z, namesC f (fs.take k) = z := ⟨_, rfl⟩
              rw [hz] at HNM HS HZ hc10
              have hze := eV_pos E HZ.out
              rw [hze] at HNM
              clear hst hn hz hze HBD
              go_upto_region 14 with fail
              go_region_held3 (fun w' => w'.cell? ⟨wr.heap.size, 0, none⟩ = some (.string (mkB f.name)) ∧ w'.cell? ⟨wr.heap.size, 1, none⟩ = some (.slice P f.params.length p) ∧ w'.cell? ⟨wr.heap.size, 2, none⟩ = some (.slice B f.body.length d))
                (first
                  | (exact row3 ((hB1.block _ (by simp)).trans HBX.out))
                  | (exact row3 HBX.out))
                (first | (go_at_call 25; (with_reducible refine (HNM.out _ HBA.out.drew).mono ?_); rintro y w11 ⟨rfl, hB1⟩))
              have HB11 := Lib.hid (grow_trans HBA.out.drew hB1)
              have HX11 := Lib.hid ((hB1.block wr.heap.size (by simp)).trans HBX.out)
              clear hB1
              go_wp2_with fail
              rw [← HQ.out]
              exact prog_done (HI.out.trans HS.out) rfl (fault_is E w11 _ HZ.out hc10) (grow_alloc (grow_trans HBW.out HB11.out) _) (by simp [HZ.out])
          · have hk' : k = fs.length := by omega
            subst hk'
            have HZ : Hid (progC fs = (0, -1)) := show _ = _ by rw [HI.out, List.drop_length]; rfl
            have HBW := Lib.hid hbw
            clear hbw hbel
            go_wp2_with fail
            rw [← HQ.out]
            exact prog_done HZ.out rfl .nil_ HBW.out (by simp)
end Go.Proofs.YteifmgcbafemeaaGreatDoor
