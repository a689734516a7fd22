import Derived.Test.YteifmgcbafemeaaGreatDoorCheckVW
namespace Go.Proofs.YteifmgcbafemeaaGreatDoor
open Go.RowKit

/-- A call that hands texts back. -/
def RetT (xs : List Nm) (w : World) : Ending → World → Prop := fun e w' => ∃ A c, e = .returned (.slice A xs.length c) ∧ Row w' A (strVs xs) ∧ xs.length ≤ c ∧ Below w.heap.size w w'
theorem vars_len {f : PFun} (h : SmF f) (hz : szS f.body 0 < 1000) : (varsP f).length ≤ 1008 := by
  have h1 := walkB_len stepV_ok f.body f.params
  have h2 := cntB_le hz
  have := h.params
  unfold varsP; omega
theorem calls_len {f : PFun} (hz : szS f.body 0 < 1000) : (callsP f).length ≤ 1000 := by
  have h1 := walkB_len stepC_ok f.body []
  have h2 := cntB_le hz
  unfold callsP; simp at h1; omega
theorem out_made {w0 w1 : World} {base : Nat} {xs : List Nm} {v : Value} (hb : base ≤ w0.heap.size) (hb1 : Below w0.heap.size w0 w1) (h : w1.ownsRow w0.heap.size 9 1 v xs.length (strVs xs)) : OutAt base w1.heap.size xs (w1.alloc (.cells #[v] 35)) := by
  have s1 := hb1.size
  have o1 := owned_mono h hb
  exact ⟨by omega, by simp, v, heap_alloc_new w1 _, o1.alloc _, fun e => by have := (o1.lt _ e).2; omega⟩
theorem out_slice {base q : Nat} {xs : List Nm} {w : World} (h : OutAt base q xs w) : ∃ A c, w.cell? ⟨q, 0, none⟩ = some (.slice A xs.length c) ∧ Row w A (strVs xs) ∧ xs.length ≤ c := by
  obtain ⟨v, h1, h2, _⟩ := h.cell
  obtain ⟨A, c, rfl, h3, h4⟩ := owns_Row h2
  exact ⟨A, c, cell_of_row _ _ 0 _ _ _ h1, h3, h4⟩
set_option maxHeartbeats 2000000 in
set_option maxRecDepth 100000 in
theorem Vars_any (f : PFun) (hsm : SmF f) (hz : szS f.body 0 < 1000) (S : Nat → Prop) (P : Option Addr) (p : Nat) (B : Option Addr) (c : Nat) (w : World) (hT : RdT w S f.params P) (hok : PrmOk f P p) (hB : RdS w S f.body B) :
    Calls Tryz.prog 12 #[funV f P p B c] w (RetT (varsP f) w) := by
  have hb0 : Below w.heap.size w (w.alloc (funO f P p B c)) := grow_alloc (grow_refl _) _
  have HBK := Lib.hid (heap_alloc_new w (funO f P p B c))
  have HCL := Lib.hid (clone_any f.params hsm.params P p _ (rdT_row (hT.keep ((Keeps.of_below hb0).in S) (fun _ h => h))) hok.1)
  have hcn := cntB_le hz
  have HWK : Hid (∀ q w', OutAt (w.heap.size + 1) q f.params w' → Below w.heap.size w w' → Calls Tryz.prog 30 #[.slice B f.body.length c, .func (.func 31) #[] #[.pointer (some ⟨q, 0, none⟩)]] w' fun r w'' => r = .returned (.tuple #[]) ∧ OutPost (w.heap.size + 1) q (varsP f) w' w'') := fun q w' ho hb =>
    walkV_any (w.heap.size + 1) q f.body hsm.body hsm.stmts f.params (by have := hsm.params; omega) B c w' ho ((hB.lt.keep ((Keeps.of_below hb).in _) (fun _ h => h)).keep ((Keeps.refl _).in _) (fun k hk => by have := hk.2; omega))
  have HQ : Hid (RetT (varsP f) w = RetT (varsP f) w) := Lib.hid rfl
  have HB0 := Lib.hid hb0
  clear hT hok hB hb0 hcn
  unfold funV
  unfold funO at *
  go_enter Tryz.func12, Tryz.ntmps12
  go_wp2_with (first
    | (go_at_call 29; (with_reducible refine HCL.out.mono ?_); rintro y w1 ⟨v, rfl, ho, hb1⟩; obtain ⟨A1, c1, rfl⟩ := owns_slice ho; obtain ⟨d0, d1, d2⟩ := row3 ((hb1.block w.heap.size (by simp)).trans HBK.out); have e2 := Keeps.alloc w1 (.cells #[.slice A1 f.params.length c1] 35) _ _ d2; have HO := Lib.hid (out_made (base := w.heap.size + 1) (by simp) hb1 ho); have HB1 := Lib.hid (grow_alloc (grow_trans HB0.out hb1) (.cells #[.slice A1 f.params.length c1] 35)))
    | (go_at_call 30; (with_reducible refine (HWK.out _ _ HO.out HB1.out).mono ?_); rintro y w2 ⟨rfl, hp2⟩; obtain ⟨A2, c2, e0, hrow, hcap⟩ := out_slice hp2.out; have HR := Lib.hid hrow; have HP := Lib.hid hp2.bel; clear hp2 hrow))
  go_ret
  exact ⟨A2, c2, rfl, HR.out, hcap, HB1.out.trans (HP.out.mono (by omega))⟩
set_option maxHeartbeats 2000000 in
set_option maxRecDepth 100000 in
theorem Calls_any (f : PFun) (hsm : SmF f) (hz : szS f.body 0 < 1000) (S : Nat → Prop) (P : Option Addr) (p : Nat) (B : Option Addr) (c : Nat) (w : World) (hB : RdS w S f.body B) :
    Calls Tryz.prog 14 #[funV f P p B c] w (RetT (callsP f) w) := by
  have hb0 : Below w.heap.size w (w.alloc (funO f P p B c)) := grow_alloc (grow_refl _) _
  have HBK := Lib.hid (heap_alloc_new w (funO f P p B c))
  have hcn := cntB_le hz
  have HWK : Hid (∀ q w', OutAt (w.heap.size + 1) q [] w' → Below w.heap.size w w' → Calls Tryz.prog 30 #[.slice B f.body.length c, .func (.func 33) #[] #[.pointer (some ⟨q, 0, none⟩)]] w' fun r w'' => r = .returned (.tuple #[]) ∧ OutPost (w.heap.size + 1) q (callsP f) w' w'') := fun q w' ho hb =>
    walkC_any (w.heap.size + 1) q f.body hsm.body hsm.stmts [] (by simp; omega) B c w' ho ((hB.lt.keep ((Keeps.of_below hb).in _) (fun _ h => h)).keep ((Keeps.refl _).in _) (fun k hk => by have := hk.2; omega))
  have HB0 := Lib.hid hb0
  have HO : Hid (OutAt (w.heap.size + 1) (w.heap.size + 1) [] ((w.alloc (funO f P p B c)).alloc (.cells #[.slice none 0 0] 35))) := by
    have := out_made (w0 := w.alloc (funO f P p B c)) (w1 := w.alloc (funO f P p B c)) (base := w.heap.size + 1) (xs := []) (v := .slice none 0 0) (by simp) (Below.refl _ _) (World.ownsRow_nil _ _ _ _)
    rw [show (w.alloc (funO f P p B c)).heap.size = w.heap.size + 1 by simp] at this
    exact this
  have HB1 := Lib.hid (grow_alloc hb0 (.cells #[.slice none 0 0] 35))
  clear hB hb0 hcn
  unfold funV
  unfold funO at *
  go_enter Tryz.func14, Tryz.ntmps14
  go_wp2_with (go_at_call 30; (with_reducible refine (HWK.out _ _ HO.out HB1.out).mono ?_); rintro y w2 ⟨rfl, hp2⟩; obtain ⟨A2, c2, e0, hrow, hcap⟩ := out_slice hp2.out; have HR := Lib.hid hrow; have HP := Lib.hid hp2.bel; clear hp2 hrow)
  go_ret
  exact ⟨A2, c2, rfl, HR.out, hcap, HB1.out.trans (HP.out.mono (by omega))⟩
end Go.Proofs.YteifmgcbafemeaaGreatDoor
