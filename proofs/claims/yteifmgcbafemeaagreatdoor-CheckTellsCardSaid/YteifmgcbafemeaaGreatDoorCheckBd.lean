import Derived.Test.YteifmgcbafemeaaGreatDoorCheckZ
namespace Go.Proofs.YteifmgcbafemeaaGreatDoor
open Go.RowKit

theorem clone_any (ps : List Nm) (hl : ps.length ≤ 8) (P : Option Addr) (p : Nat) (w : World) (hr : Row w P (strVs ps)) (he : ps = [] → P = none) :
    Calls Tryz.prog 29 #[.slice P ps.length p] w fun e w' => ∃ v, e = .returned v ∧ w'.ownsRow w.heap.size 9 1 v ps.length (strVs ps) ∧ Below w.heap.size w w' := by
  cases P with
  | none =>
    have h0 : ps = [] := by
      cases ps with
      | nil => rfl
      | cons x xs => obtain ⟨b, off, e, _⟩ := hr 0 _ (strVs_get (by simp)); cases e
    subst h0
    refine (Tryz.slices_Clone_string_nil _ p w).mono ?_
    rintro e w' ⟨rfl, rfl⟩
    exact ⟨_, rfl, World.ownsRow_nil _ _ _ _, Below.refl _ _⟩
  | some a =>
    have hne : ps ≠ [] := fun e => by cases he e
    have hlen : 0 < ps.length := List.length_pos_iff.2 hne
    obtain ⟨b, off, e0, _⟩ := hr 0 _ (strVs_get hlen)
    injection e0 with e0
    subst e0
    refine (Tryz.slices_Clone_string b off ps.length p (ps.map mkB) w (by simp) (by omega) (fun j hj => ?_)).mono ?_
    · have hj' : j < ps.length := by simpa using hj
      obtain ⟨b', off', e1, hc⟩ := hr j _ (strVs_get hj')
      injection e1 with e1
      injection e1 with e1 e2 _
      subst e1; subst e2
      rw [hc]
      simp [List.getD, hj']
    · rintro e w' ⟨v, rfl, h1, -, h3⟩
      have e4 : ((ps.map mkB).take ps.length).map Value.string = strVs ps := by
        rw [List.take_of_length_le (by simp)]; simp [strVs]
      rw [e4] at h1
      exact ⟨v, rfl, h1, h3⟩
theorem owned_mono {w : World} {base base' : Nat} {e : TypeId} {size : Nat} {v : Value} {n : Nat} {xs : List Value} (h : w.ownsRow base e size v n xs) (hb : base' ≤ base) : w.ownsRow base' e size v n xs := by
  refine ⟨h.1, ?_⟩
  rcases h.2 with q | ⟨g, cap, cur, h1, h2, h3⟩
  · exact .inl q
  · exact .inr ⟨g, cap, cur, h1, by omega, h3⟩
theorem own_two {w0 w1 w2 : World} {e : TypeId} {v1 v2 : Value} {n : Nat} {xs : List Value} (h1 : w1.ownsRow w0.heap.size e 1 v1 n xs) (h2 : w2.ownsRow w1.heap.size e 1 v2 n xs) : v2.ownBlock = none ∨ v1.ownBlock ≠ v2.ownBlock := by
  cases h : v2.ownBlock with
  | none => exact .inl rfl
  | some g =>
    right; intro e
    have a := (h1.lt g e).2
    have b := (h2.lt g h).1
    omega
/-- The checker that body makes. -/
theorem chk_made {w0 w1 w2 : World} {base b n : Nat} {fs : Tab} {ps : List Nm} {v1 v2 : Value} (hb : base ≤ w0.heap.size) (hm : MapAt w2 b n (tabF fs)) (hlt : b < base) (hb1 : Below w0.heap.size w0 w1) (hb2 : Below w1.heap.size w1 w2)
    (h1 : w1.ownsRow w0.heap.size 9 1 v1 ps.length (strVs ps)) (h2 : w2.ownsRow w1.heap.size 9 1 v2 ps.length (strVs ps)) :
    ChkAt base w2.heap.size b n fs ps ps (w2.alloc (.cells #[.map (some b), v1, v2] 109)) ∧ ChkAt base w2.heap.size b n fs ps ps (w2.alloc (.cells #[.map (some b), v2, v1] 109)) := by
  have s1 := hb1.size
  have s2 := hb2.size
  have o1 := owned_mono (ownsRow_below h1 hb2) hb
  have o2 := owned_mono h2 (base' := base) (by omega)
  have n1 : v1.ownBlock ≠ some w2.heap.size := fun e => by have := (o1.lt _ e).2; omega
  have n2 : v2.ownBlock ≠ some w2.heap.size := fun e => by have := (o2.lt _ e).2; omega
  have h12 := own_two h1 h2
  refine ⟨⟨by omega, by simp, hlt, hm.below (grow_alloc (grow_refl _) _), v1, v2, heap_alloc_new w2 _, o1.alloc _, o2.alloc _, n1, n2, h12⟩, ⟨by omega, by simp, hlt, hm.below (grow_alloc (grow_refl _) _), v2, v1, heap_alloc_new w2 _, o2.alloc _, o1.alloc _, n2, n1, ?_⟩⟩
  rcases h12 with q | q
  · cases h : v1.ownBlock with
    | none => exact .inl rfl
    | some g => right; rw [q]; simp
  · exact .inr (fun e => q e.symm)
set_option maxHeartbeats 4000000 in
set_option maxRecDepth 100000 in
theorem body_any (E : Nat → Addr) (b n : Nat) (fs : Tab) (hs : TabSmall fs) (f : PFun) (hsm : SmF f) (S : Nat → Prop) (P : Option Addr) (p : Nat) (B : Option Addr) (c : Nat) (w : World) (hE : Laid E w) (hM : MapAt w b n (tabF fs)) (hT : RdT w S f.params P) (hok : PrmOk f P p) (hB : RdS w S f.body B) (hp4 : f.params.length ≤ 4) :
    Calls Tryz.prog 26 #[funV f P p B c, .map (some b)] w (Ret (eV E (blockC fs f.body f.params f.params).1) w) := by
  have hb0 : Below w.heap.size w (w.alloc (funO f P p B c)) := grow_alloc (grow_refl _) _
  have HBK := Lib.hid (heap_alloc_new w (funO f P p B c))
  have HCL : Hid (∀ w', Below w.heap.size w w' → Calls Tryz.prog 29 #[.slice P f.params.length p] w' fun e w'' => ∃ v, e = .returned v ∧ w''.ownsRow w'.heap.size 9 1 v f.params.length (strVs f.params) ∧ Below w'.heap.size w' w'') := fun w' hb =>
    clone_any f.params (by omega) P p w' (rdT_row (hT.keep ((Keeps.of_below hb).in S) (fun _ h => h))) hok.1
  have HBL : Hid (∀ q w', ChkAt (w.heap.size + 1) q b n fs f.params f.params w' → Below w.heap.size w w' → Calls Tryz.prog 54 #[.pointer (some ⟨q, 0, none⟩), .slice B f.body.length c] w' fun e w'' => e = .returned (eV E (blockC fs f.body f.params f.params).1) ∧ Below (w.heap.size + 1) w' w'') := fun q w' hc hb =>
    (cblock_any E (w.heap.size + 1) q b n fs hs f.body hsm.body hsm.stmts f.params f.params B c w' ⟨w, hE, by omega, hb⟩ hc ((hB.lt.keep ((Keeps.of_below hb).in _) (fun _ h => h)).keep ((Keeps.refl _).in _) (fun k hk => by have := hk.2; omega)) (by omega) (Nat.le_refl _)).mono fun e w'' ⟨h1, h2⟩ => ⟨h1, h2.bel⟩
  have HMM : Hid (∀ w', Below w.heap.size w w' → MapAt w' b n (tabF fs)) := fun w' hb => hM.below hb
  have hlt := hM.lt
  have HB0 : Below (w.alloc (funO f P p B c)).heap.size (w.alloc (funO f P p B c)) (w.alloc (funO f P p B c)) := Below.refl _ _
  have HBB := Lib.hid hb0
  clear hE hT hok hB hM hb0
  unfold funV
  unfold funO at *
  go_enter Tryz.func26, Tryz.ntmps26
  go_upto_region 1 with fail
  obtain ⟨wa, hwa⟩ : ∃ wa, w.alloc (.cells #[.string (mkB f.name), .slice P f.params.length p, .slice B f.body.length c] 39) = wa := ⟨_, rfl⟩
  have HSZ : Hid (wa.heap.size = w.heap.size + 1) := show _ = _ by rw [← hwa]; simp
  rw [hwa] at HBK HB0 HBB
  rw [hwa]
  clear hwa
  go_region_held3 (fun w' => w'.cell? ⟨w.heap.size, 0, none⟩ = some (.string (mkB f.name)) ∧ w'.cell? ⟨w.heap.size, 1, none⟩ = some (.slice P f.params.length p) ∧ w'.cell? ⟨w.heap.size, 2, none⟩ = some (.slice B f.body.length c))
    (first
      | (exact row3 (((grow_alloc hB2 _).block _ (by rw [HSZ.out]; omega)).trans HBK.out))
      | (exact row3 ((hB2.block _ (by rw [HSZ.out]; omega)).trans HBK.out))
      | (exact row3 ((hB1.block _ (by rw [HSZ.out]; omega)).trans HBK.out))
      | (exact row3 HBK.out))
    (first
      | (go_at_call 29; (with_reducible refine (HCL.out _ (grow_trans HBB.out (by simp only [bel_drew, HB0]))).mono ?_); rintro y w11 ⟨v1, rfl, ho1, hbT⟩; obtain ⟨A1, c1, rfl⟩ := owns_slice ho1; have hB1 : Below wa.heap.size wa w11 := grow_trans (by simp only [bel_drew, HB0]) hbT; have HO1 := Lib.hid ho1; have HT1 := Lib.hid hbT; clear ho1 hbT)
      | (go_at_call 29; (with_reducible refine (HCL.out _ (grow_trans HBB.out hB1)).mono ?_); rintro y w12 ⟨v2, rfl, ho2, hbT⟩; obtain ⟨A2, c2, rfl⟩ := owns_slice ho2; have hB2 : Below wa.heap.size wa w12 := grow_trans hB1 hbT; have HO2 := Lib.hid ho2; have HT2 := Lib.hid hbT; clear ho2 hbT))
  have HCK := Lib.hid (chk_made (w0 := wa.drew) (base := w.heap.size + 1) (b := b) (n := n) (fs := fs) (Nat.le_of_eq HSZ.out.symm) (HMM.out _ (grow_trans HBB.out hB2)) (by omega) HT1.out HT2.out HO1.out HO2.out).1
  have HB3 := Lib.hid (grow_alloc (grow_trans HBB.out hB2) (.cells #[.map (some b), .slice A1 f.params.length c1, .slice A2 f.params.length c2] 109))
  obtain ⟨d0, d1, d2⟩ := row3 (((grow_alloc hB2 (.cells #[.map (some b), .slice A1 f.params.length c1, .slice A2 f.params.length c2] 109)).block w.heap.size (by rw [HSZ.out]; omega)).trans HBK.out)
  clear HB0 hB1 hB2
  go_wp2_with (go_at_call 54; (with_reducible refine (HBL.out _ _ HCK.out HB3.out).mono ?_); rintro y w13 ⟨rfl, hb13⟩)
  go_ret
  exact ⟨rfl, HB3.out.trans (hb13.mono (by omega))⟩
end Go.Proofs.YteifmgcbafemeaaGreatDoor
