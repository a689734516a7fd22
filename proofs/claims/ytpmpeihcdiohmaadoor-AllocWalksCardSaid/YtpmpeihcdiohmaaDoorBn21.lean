import Derived.Deep.CutRange
import Derived.Deep.CutBlock
import Derived.Deep.AppendLies
import Derived.Deep.RegionHeld3
import Derived.Deep.RegionLaw
import Derived.BigRegion
import Derived.BigQuiet
import Derived.Deep.QuietTactic
import Derived.StillTailTactics
import Derived.Test.YtpmpeihcdiohmaaDoorBn20
import Derived.Test.YtpmpeihcdiohmaaDoorBn8
import Derived.Test.YtpmpeihcdiohmaaDoorBn15
import Derived.Test.YtpmpeihcdiohmaaDoorBn18
import Derived.Test.YtpmpeihcdiohmaaDoorBn6
import Derived.Test.YtpmpeihcdiohmaaDoorBn5
import Derived.Test.YtpmpeihcdiohmaaDoorBn4
import Derived.Test.YtpmpeihcdiohmaaDoorBn11
set_option linter.unusedVariables false
set_option linter.unusedSimpArgs false
namespace Go.Proofs.YtpmpeihcdiohmaaDoor
open Go.RowKit

/-! the walker: any instruction (printed by gen_aldn.py) -/
section
variable {c : PCd} {A : Option Addr} {ca : Nat} {X : Option Addr} {args : List Int} {xc : Nat} {Y : Option Addr} {ans : List Int} {yc : Nat} {T : Int} {w0 : World} {mb sb : Nat} {F : Nat → Array Value → Prop} {s : ASt} {h : List UInt8} {v : Int} {vO vC : Value} {ts : List CC} {w w' : World}

set_option maxHeartbeats 4000000 in
set_option maxRecDepth 100000 in
theorem do_pure (H : WkAt c A ca X args xc Y ans yc T w0 mb sb F s h v vO vC ts w) (kd : List UInt8) (d a b n : Int) (nm : List UInt8) (s' : ASt) (n1 : kd ≠ kTick) (n2 : kd ≠ kPrint) (n3 : kd ≠ kStore) (n4 : kd ≠ kArg) (n5 : kd ≠ kCall)
    (HP : ∀ w', WkAt c A ca X args xc Y ans yc T w0 mb sb F s h v vO vC ts w' → Calls Tryd.prog 60 #[.pointer (some ⟨mb, 0, none⟩), .agg #[.string (mkB kd), .int .i64 d, .int .i64 a, .int .i64 b, .int .i64 n, .string (mkB nm)]] w' (fun e w'' => e = .returned (.tuple #[]) ∧ WkAt c A ca X args xc Y ans yc T w0 mb sb F s' h v vO vC ts w'')) :
    Calls Tryd.prog 42 #[.pointer (some ⟨mb, 0, none⟩), .agg #[.string (mkB kd), .int .i64 d, .int .i64 a, .int .i64 b, .int .i64 n, .string (mkB nm)]] w (fun e w' => e = .returned (.bool true) ∧ WkAt c A ca X args xc Y ans yc T w0 mb sb F s' h v vO vC ts w') := by
  obtain ⟨bx, hbx⟩ : ∃ bx, w.alloc (.cells #[.string (mkB kd), .int .i64 d, .int .i64 a, .int .i64 b, .int .i64 n, .string (mkB nm)] 52) = bx := ⟨_, rfl⟩
  have hb := grow_alloc (grow_refl w) (.cells #[.string (mkB kd), .int .i64 d, .int .i64 a, .int .i64 b, .int .i64 n, .string (mkB nm)] 52)
  have hn := heap_alloc_new w (.cells #[.string (mkB kd), .int .i64 d, .int .i64 a, .int .i64 b, .int .i64 n, .string (mkB nm)] 52)
  rw [hbx] at hb hn
  have h2 := H.below hb
  have HBX := Lib.hid hbx
  have HPX := Lib.hid (HP bx h2)
  have e0 := cell_of_row _ _ 0 _ _ _ hn
  have e1 := cell_of_row _ _ 1 _ _ _ hn
  have e2 := cell_of_row _ _ 2 _ _ _ hn
  have e3 := cell_of_row _ _ 3 _ _ _ hn
  have e4 := cell_of_row _ _ 4 _ _ _ hn
  have e5 := cell_of_row _ _ 5 _ _ _ hn
  have k1 : ((mkB kd).toList == [116, 105, 99, 107]) = false := by rw [mkB_toList]; exact beq_eq_false_iff_ne.2 n1
  have k2 : ((mkB kd).toList == [112, 114, 105, 110, 116]) = false := by rw [mkB_toList]; exact beq_eq_false_iff_ne.2 n2
  have k3 : ((mkB kd).toList == [115, 116, 111, 114, 101]) = false := by rw [mkB_toList]; exact beq_eq_false_iff_ne.2 n3
  have k4 : ((mkB kd).toList == [97, 114, 103]) = false := by rw [mkB_toList]; exact beq_eq_false_iff_ne.2 n4
  have k5 : ((mkB kd).toList == [99, 97, 108, 108]) = false := by rw [mkB_toList]; exact beq_eq_false_iff_ne.2 n5
  clear H h2 hb hbx hn HP n1 n2 n3 n4 n5
  go_enter Tryd.func42, Tryd.ntmps42
  go_upto_region 1 with fail
  change Code.wp _ _ _ _ (w.alloc (.cells #[.string (mkB kd), .int .i64 d, .int .i64 a, .int .i64 b, .int .i64 n, .string (mkB nm)] 52))
  rw [HBX.out]
  go_wp2_with (go_at_call 60; (with_reducible refine HPX.out.mono ?_); rintro y w1 ⟨rfl, H9⟩)
  go_ret
  exact ⟨rfl, H9⟩
theorem kind_cases {k : List UInt8} (h : kindN k ≠ 0) : (k = kParam ∧ kindN k = 1) ∨ (k = kConst ∧ kindN k = 2) ∨ (k = kLoad ∧ kindN k = 3) ∨ (k = kOne ∧ kindN k = 4) ∨ (k = kTwo ∧ kindN k = 5) ∨ (k = kMove ∧ kindN k = 6) ∨ (k = kStore ∧ kindN k = 7) ∨ (k = kArg ∧ kindN k = 8) ∨ (k = kCall ∧ kindN k = 9) ∨ (k = kTick ∧ kindN k = 10) ∨ (k = kPrint ∧ kindN k = 11) := by
  by_cases c0 : k = kParam
  · subst c0; exact .inl <| ⟨rfl, rfl⟩
  by_cases c1 : k = kConst
  · subst c1; exact .inr <| .inl <| ⟨rfl, rfl⟩
  by_cases c2 : k = kLoad
  · subst c2; exact .inr <| .inr <| .inl <| ⟨rfl, rfl⟩
  by_cases c3 : k = kOne
  · subst c3; exact .inr <| .inr <| .inr <| .inl <| ⟨rfl, rfl⟩
  by_cases c4 : k = kTwo
  · subst c4; exact .inr <| .inr <| .inr <| .inr <| .inl <| ⟨rfl, rfl⟩
  by_cases c5 : k = kMove
  · subst c5; exact .inr <| .inr <| .inr <| .inr <| .inr <| .inl <| ⟨rfl, rfl⟩
  by_cases c6 : k = kStore
  · subst c6; exact .inr <| .inr <| .inr <| .inr <| .inr <| .inr <| .inl <| ⟨rfl, rfl⟩
  by_cases c7 : k = kArg
  · subst c7; exact .inr <| .inr <| .inr <| .inr <| .inr <| .inr <| .inr <| .inl <| ⟨rfl, rfl⟩
  by_cases c8 : k = kCall
  · subst c8; exact .inr <| .inr <| .inr <| .inr <| .inr <| .inr <| .inr <| .inr <| .inl <| ⟨rfl, rfl⟩
  by_cases c9 : k = kTick
  · subst c9; exact .inr <| .inr <| .inr <| .inr <| .inr <| .inr <| .inr <| .inr <| .inr <| .inl <| ⟨rfl, rfl⟩
  by_cases c10 : k = kPrint
  · subst c10; exact .inr <| .inr <| .inr <| .inr <| .inr <| .inr <| .inr <| .inr <| .inr <| .inr <|  ⟨rfl, rfl⟩
  refine absurd ?_ h
  unfold kindN
  simp only [beq_iff_eq, c0, c1, c2, c3, c4, c5, c6, c7, c8, c9, c10, if_false]
/-- What an instruction does to the walker. -/
def InsPost (c : PCd) (A : Option Addr) (ca : Nat) (X : Option Addr) (args : List Int) (xc : Nat) (Y : Option Addr) (ans : List Int) (yc : Nat) (T : Int) (w0 : World) (mb sb : Nat) (F : Nat → Array Value → Prop) (s : ASt) (h : List UInt8) (v : Int) (o : Option ASt) : Ending → World → Prop := fun e w' =>
  (o = none ∧ e = .returned (.bool false) ∧ ∃ vO' vC' ts', WkAt c A ca X args xc Y ans yc T w0 mb sb F s h v vO' vC' ts' w') ∨ (∃ s', o = some s' ∧ e = .returned (.bool true) ∧ ∃ vO' vC' ts', WkAt c A ca X args xc Y ans yc T w0 mb sb F s' h v vO' vC' ts' w')
theorem ipost_some {o : Option ASt} {s' : ASt} (ho : o = some s') {e : Ending} (h1 : e = .returned (.bool true)) (h2 : ∃ vO' vC' ts', WkAt c A ca X args xc Y ans yc T w0 mb sb F s' h v vO' vC' ts' w') : InsPost c A ca X args xc Y ans yc T w0 mb sb F s h v o e w' := .inr ⟨s', ho, h1, h2⟩
theorem ipost_none {o : Option ASt} (ho : o = none) {e : Ending} (h1 : e = .returned (.bool false)) (h2 : ∃ vO' vC' ts', WkAt c A ca X args xc Y ans yc T w0 mb sb F s h v vO' vC' ts' w') : InsPost c A ca X args xc Y ans yc T w0 mb sb F s h v o e w' := .inl ⟨ho, h1, h2⟩
theorem do_any (H : WkAt c A ca X args xc Y ans yc T w0 mb sb F s h v vO vC ts w) (hok : AOk c T ans s) (hT6 : T ≤ 60) (han : ans.length ≤ 1000) (hpa : (args.length : Int) = c.params) (x : PLow) (hf : LowF c x) (K : Value) (hK : ∀ w', Below w0.heap.size w0 w' → w'.cell? ⟨5, 0, none⟩ = some K)
    (hX : Row w0 X (intVs args)) (hY : Row w0 Y (intVs ans)) :
    Calls Tryd.prog 42 #[.pointer (some ⟨mb, 0, none⟩), lowV x] w (InsPost c A ca X args xc Y ans yc T w0 mb sb F s h v (insA T args ans x s)) := by
  have h8 := hok.r8
  have h4 := hok.n4
  have hN : ∀ {z : Int}, 0 ≤ z → ((z.toNat : Nat) : Int) = z := fun hz => Int.toNat_of_nonneg hz
  cases x with
  | mk kd d a b n nm =>
  unfold lowV
  dsimp only
  rcases kind_cases hf.kind with ⟨hk, hn⟩ | ⟨hk, hn⟩ | ⟨hk, hn⟩ | ⟨hk, hn⟩ | ⟨hk, hn⟩ | ⟨hk, hn⟩ | ⟨hk, hn⟩ | ⟨hk, hn⟩ | ⟨hk, hn⟩ | ⟨hk, hn⟩ | ⟨hk, hn⟩
  · obtain ⟨d0, d1⟩ := hf.d (by rw [hn]; decide)
    obtain ⟨dn, rfl⟩ : ∃ k : Nat, d = (k : Int) := ⟨d.toNat, (hN d0).symm⟩
    obtain ⟨n0, n1⟩ := hf.param hn
    obtain ⟨nn, rfl⟩ : ∃ k : Nat, n = (k : Int) := ⟨n.toNat, (hN n0).symm⟩
    dsimp only at d0 d1 n0 n1
    have hi : insA T args ans ⟨kd, (dn : Nat), a, b, (nn : Nat), nm⟩ s = some { s with r := s.r.set dn (args.getD nn 0) } := by unfold insA; rw [hn]; rfl
    rw [hi]
    dsimp only at hk
    subst hk
    refine (do_pure H _ _ _ _ _ nm _ (by decide) (by decide) (by decide) (by decide) (by decide) (fun w' H' => pu_param H' h8 dn (by omega) a b nn (by omega) nm hX)).mono ?_
    rintro e w' ⟨h1, h2⟩
    exact ipost_some rfl h1 ⟨_, _, _, h2⟩
  · obtain ⟨d0, d1⟩ := hf.d (by rw [hn]; decide)
    obtain ⟨dn, rfl⟩ : ∃ k : Nat, d = (k : Int) := ⟨d.toNat, (hN d0).symm⟩
    dsimp only at d0 d1
    have hi : insA T args ans ⟨kd, (dn : Nat), a, b, n, nm⟩ s = some { s with r := s.r.set dn n } := by unfold insA; rw [hn]; rfl
    rw [hi]
    dsimp only at hk
    subst hk
    refine (do_pure H _ _ _ _ _ nm _ (by decide) (by decide) (by decide) (by decide) (by decide) (fun w' H' => pu_const H' h8 dn (by omega) a b n nm)).mono ?_
    rintro e w' ⟨h1, h2⟩
    exact ipost_some rfl h1 ⟨_, _, _, h2⟩
  · obtain ⟨d0, d1⟩ := hf.d (by rw [hn]; decide)
    obtain ⟨dn, rfl⟩ : ∃ k : Nat, d = (k : Int) := ⟨d.toNat, (hN d0).symm⟩
    obtain ⟨n0, n1⟩ := hf.slot (by rw [hn]; decide)
    obtain ⟨nn, rfl⟩ : ∃ k : Nat, n = (k : Int) := ⟨n.toNat, (hN n0).symm⟩
    dsimp only at d0 d1 n0 n1
    have hi : insA T args ans ⟨kd, (dn : Nat), a, b, (nn : Nat), nm⟩ s = some { s with r := s.r.set dn (s.slots.getD nn 0) } := by unfold insA; rw [hn]; rfl
    rw [hi]
    dsimp only at hk
    subst hk
    refine (do_pure H _ _ _ _ _ nm _ (by decide) (by decide) (by decide) (by decide) (by decide) (fun w' H' => pu_load H' h8 dn (by omega) a b nn (by have := hok.sl; omega) nm)).mono ?_
    rintro e w' ⟨h1, h2⟩
    exact ipost_some rfl h1 ⟨_, _, _, h2⟩
  · obtain ⟨d0, d1⟩ := hf.d (by rw [hn]; decide)
    obtain ⟨dn, rfl⟩ : ∃ k : Nat, d = (k : Int) := ⟨d.toNat, (hN d0).symm⟩
    obtain ⟨a0, a1⟩ := hf.a (by rw [hn]; decide)
    obtain ⟨an, rfl⟩ : ∃ k : Nat, a = (k : Int) := ⟨a.toNat, (hN a0).symm⟩
    dsimp only at d0 d1 a0 a1
    have hi : insA T args ans ⟨kd, (dn : Nat), (an : Nat), b, n, nm⟩ s = some { s with r := s.r.set dn (valOf (oneV nm (s.r.getD an 0))) } := by unfold insA; rw [hn]; rfl
    rw [hi]
    dsimp only at hk
    subst hk
    refine (do_pure H _ _ _ _ _ nm _ (by decide) (by decide) (by decide) (by decide) (by decide) (fun w' H' => pu_one H' h8 dn (by omega) an (by omega) b n nm K hK)).mono ?_
    rintro e w' ⟨h1, h2⟩
    exact ipost_some rfl h1 ⟨_, _, _, h2⟩
  · obtain ⟨d0, d1⟩ := hf.d (by rw [hn]; decide)
    obtain ⟨dn, rfl⟩ : ∃ k : Nat, d = (k : Int) := ⟨d.toNat, (hN d0).symm⟩
    obtain ⟨a0, a1⟩ := hf.a (by rw [hn]; decide)
    obtain ⟨an, rfl⟩ : ∃ k : Nat, a = (k : Int) := ⟨a.toNat, (hN a0).symm⟩
    obtain ⟨b0, b1⟩ := hf.b hn
    obtain ⟨bn, rfl⟩ : ∃ k : Nat, b = (k : Int) := ⟨b.toNat, (hN b0).symm⟩
    dsimp only at d0 d1 a0 a1 b0 b1
    have hi : insA T args ans ⟨kd, (dn : Nat), (an : Nat), (bn : Nat), n, nm⟩ s = some { s with r := s.r.set dn (valOf (doV nm (s.r.getD an 0) (s.r.getD bn 0))) } := by unfold insA; rw [hn]; rfl
    rw [hi]
    dsimp only at hk
    subst hk
    refine (do_pure H _ _ _ _ _ nm _ (by decide) (by decide) (by decide) (by decide) (by decide) (fun w' H' => pu_two H' h8 dn (by omega) an (by omega) bn (by omega) n nm K hK)).mono ?_
    rintro e w' ⟨h1, h2⟩
    exact ipost_some rfl h1 ⟨_, _, _, h2⟩
  · obtain ⟨d0, d1⟩ := hf.d (by rw [hn]; decide)
    obtain ⟨dn, rfl⟩ : ∃ k : Nat, d = (k : Int) := ⟨d.toNat, (hN d0).symm⟩
    obtain ⟨a0, a1⟩ := hf.a (by rw [hn]; decide)
    obtain ⟨an, rfl⟩ : ∃ k : Nat, a = (k : Int) := ⟨a.toNat, (hN a0).symm⟩
    dsimp only at d0 d1 a0 a1
    have hi : insA T args ans ⟨kd, (dn : Nat), (an : Nat), b, n, nm⟩ s = some { s with r := s.r.set dn (s.r.getD an 0) } := by unfold insA; rw [hn]; rfl
    rw [hi]
    dsimp only at hk
    subst hk
    refine (do_pure H _ _ _ _ _ nm _ (by decide) (by decide) (by decide) (by decide) (by decide) (fun w' H' => pu_move H' h8 dn (by omega) an (by omega) b n nm)).mono ?_
    rintro e w' ⟨h1, h2⟩
    exact ipost_some rfl h1 ⟨_, _, _, h2⟩
  · obtain ⟨a0, a1⟩ := hf.a (by rw [hn]; decide)
    obtain ⟨an, rfl⟩ : ∃ k : Nat, a = (k : Int) := ⟨a.toNat, (hN a0).symm⟩
    obtain ⟨n0, n1⟩ := hf.slot (by rw [hn]; decide)
    obtain ⟨nn, rfl⟩ : ∃ k : Nat, n = (k : Int) := ⟨n.toNat, (hN n0).symm⟩
    dsimp only at a0 a1 n0 n1
    have hi : insA T args ans ⟨kd, d, (an : Nat), b, (nn : Nat), nm⟩ s = some { s with slots := s.slots.set nn (s.r.getD an 0) } := by unfold insA; rw [hn]; rfl
    rw [hi]
    dsimp only at hk
    subst hk
    refine (do_store H h8 d an (by omega) b nn (by have := hok.sl; omega) nm).mono ?_
    rintro e w' ⟨h1, h2⟩
    exact ipost_some rfl h1 ⟨_, _, _, h2⟩
  · obtain ⟨a0, a1⟩ := hf.a (by rw [hn]; decide)
    obtain ⟨an, rfl⟩ : ∃ k : Nat, a = (k : Int) := ⟨a.toNat, (hN a0).symm⟩
    obtain ⟨n0, n1⟩ := hf.arg hn
    obtain ⟨nn, rfl⟩ : ∃ k : Nat, n = (k : Int) := ⟨n.toNat, (hN n0).symm⟩
    dsimp only at a0 a1 n0 n1
    have hi : insA T args ans ⟨kd, d, (an : Nat), b, (nn : Nat), nm⟩ s = some { s with next := s.next.set nn (s.r.getD an 0) } := by unfold insA; rw [hn]; rfl
    rw [hi]
    dsimp only at hk
    subst hk
    refine (do_arg H h8 d an (by omega) b nn (by omega) nm h4).mono ?_
    rintro e w' ⟨h1, h2⟩
    exact ipost_some rfl h1 ⟨_, _, _, h2⟩
  · obtain ⟨d0, d1⟩ := hf.d (by rw [hn]; decide)
    obtain ⟨dn, rfl⟩ : ∃ k : Nat, d = (k : Int) := ⟨d.toNat, (hN d0).symm⟩
    obtain ⟨n0, n1⟩ := hf.call hn
    obtain ⟨nn, rfl⟩ : ∃ k : Nat, n = (k : Int) := ⟨n.toNat, (hN n0).symm⟩
    dsimp only at d0 d1 n0 n1
    by_cases hc : ans.length ≤ s.calls.length
    · have hi : insA T args ans ⟨kd, (dn : Nat), a, b, (nn : Nat), nm⟩ s = none := by unfold insA; rw [hn]; exact if_pos hc
      rw [hi]
      dsimp only at hk
      subst hk
      refine (do_call_no H h8 dn a b nn nm (by omega)).mono ?_
      rintro e w' ⟨h1, h2⟩
      exact ipost_none rfl h1 ⟨_, _, _, h2⟩
    · have hi : insA T args ans ⟨kd, (dn : Nat), a, b, (nn : Nat), nm⟩ s = some { s with r := s.r.set dn (ans.getD s.calls.length 0), calls := s.calls ++ [(nm, s.next.take nn)], next := next0 } := by unfold insA; rw [hn]; exact if_neg hc
      rw [hi]
      dsimp only at hk
      subst hk
      refine (do_call_go H h8 dn (by omega) a b nn (by omega) nm h4 hY (by omega) (by omega)).mono ?_
      rintro e w' ⟨h1, vC', ts', h2⟩
      exact ipost_some rfl h1 ⟨_, _, _, h2⟩
  · have htk := hok.ticks
    by_cases hc : T ≤ s.ticks
    · have hi : insA T args ans ⟨kd, d, a, b, n, nm⟩ s = none := by unfold insA; rw [hn]; exact if_pos hc
      rw [hi]
      dsimp only at hk
      subst hk
      refine (do_tick_no H h8 d a b n nm hc).mono ?_
      rintro e w' ⟨h1, h2⟩
      exact ipost_none rfl h1 ⟨_, _, _, h2⟩
    · have hi : insA T args ans ⟨kd, d, a, b, n, nm⟩ s = some { s with ticks := s.ticks + 1 } := by unfold insA; rw [hn]; exact if_neg hc
      rw [hi]
      dsimp only at hk
      subst hk
      refine (do_tick_go H h8 d a b n nm (by omega) (by omega) hT6).mono ?_
      rintro e w' ⟨h1, h2⟩
      exact ipost_some rfl h1 ⟨_, _, _, h2⟩
  · obtain ⟨a0, a1⟩ := hf.a (by rw [hn]; decide)
    obtain ⟨an, rfl⟩ : ∃ k : Nat, a = (k : Int) := ⟨a.toNat, (hN a0).symm⟩
    dsimp only at a0 a1
    by_cases hc : 1000 ≤ s.out.length
    · have hi : insA T args ans ⟨kd, d, (an : Nat), b, n, nm⟩ s = none := by unfold insA; rw [hn]; exact if_pos hc
      rw [hi]
      dsimp only at hk
      subst hk
      refine (do_print_no H h8 d an b n nm (by omega)).mono ?_
      rintro e w' ⟨h1, h2⟩
      exact ipost_none rfl h1 ⟨_, _, _, h2⟩
    · have hi : insA T args ans ⟨kd, d, (an : Nat), b, n, nm⟩ s = some { s with out := s.out ++ [s.r.getD an 0] } := by unfold insA; rw [hn]; exact if_neg hc
      rw [hi]
      dsimp only at hk
      subst hk
      refine (do_print_go H h8 d an (by omega) b n nm (by omega)).mono ?_
      rintro e w' ⟨h1, vO', h2⟩
      exact ipost_some rfl h1 ⟨_, _, _, h2⟩
end
end Go.Proofs.YtpmpeihcdiohmaaDoor

namespace Go.Proofs.YtpmpeihcdiohmaaDoor
open Go.RowKit

/-! the walker's walk (printed by gen_alwa.py) -/
section
variable {c : PCd} {A : Option Addr} {ca : Nat} {X : Option Addr} {args : List Int} {xc : Nat} {Y : Option Addr} {ans : List Int} {yc : Nat} {T : Int} {w0 : World} {mb sb : Nat} {F : Nat → Array Value → Prop} {s : ASt} {h : List UInt8} {v : Int} {vO vC : Value} {ts : List CC} {w w' : World}

theorem run_over {j k : Nat} {x : PBlk} {s s' : ASt} (hj : j < 100000) (hk : c.blocks[k]? = some x) (hi : inssA T args ans x.ins s = (true, s')) : runA c T args ans (100000 - j) k s = some (hOver, 0, s') := by
  obtain ⟨n, hn⟩ : ∃ n, 100000 - j = n + 1 := ⟨100000 - j - 1, by omega⟩
  rw [hn]; unfold runA; rw [hk]; dsimp only; rw [hi]
theorem run_done {j k : Nat} {x : PBlk} {s s' : ASt} (hj : j < 100000) (hk : c.blocks[k]? = some x) (hi : inssA T args ans x.ins s = (false, s')) (hf : x.fin = eReturn) : runA c T args ans (100000 - j) k s = some (hDone, rOf s' x.a, s') := by
  obtain ⟨n, hn⟩ : ∃ n, 100000 - j = n + 1 := ⟨100000 - j - 1, by omega⟩
  rw [hn]; unfold runA; rw [hk]; dsimp only; rw [hi]; dsimp only; rw [if_pos (by rw [hf]; rfl)]
theorem run_next {j k : Nat} {x : PBlk} {s s' : ASt} (hj : j < 100000) (hk : c.blocks[k]? = some x) (hi : inssA T args ans x.ins s = (false, s')) (hf : x.fin ≠ eReturn) : runA c T args ans (100000 - j) k s = runA c T args ans (100000 - (j + 1)) (nextA x s') s' := by
  obtain ⟨n, hn⟩ : ∃ n, 100000 - j = n + 1 := ⟨100000 - j - 1, by omega⟩
  rw [hn, show 100000 - (j + 1) = n by omega]
  conv => lhs; unfold runA
  rw [hk]; dsimp only; rw [hi]; dsimp only; rw [if_neg (by simpa using hf)]
theorem inss_none {l : List PLow} {i : Nat} {y : PLow} {s : ASt} (h : l[i]? = some y) (hi : insA T args ans y s = none) : inssA T args ans (l.drop i) s = (true, s) := by
  obtain ⟨h9, rfl⟩ := List.getElem?_eq_some_iff.1 h
  rw [List.drop_eq_getElem_cons h9]; unfold inssA; rw [hi]
theorem inss_some {l : List PLow} {i : Nat} {y : PLow} {s s' : ASt} (h : l[i]? = some y) (hi : insA T args ans y s = some s') : inssA T args ans (l.drop i) s = inssA T args ans (l.drop (i + 1)) s' := by
  obtain ⟨h9, rfl⟩ := List.getElem?_eq_some_iff.1 h
  rw [List.drop_eq_getElem_cons h9]; conv => lhs; unfold inssA
  rw [hi]
theorem fin_cases {b : PBlk} (h : 0 ≤ endN b.fin) : b.fin = eJump ∨ b.fin = eIf ∨ b.fin = eReturn := by
  by_cases h1 : b.fin = eJump
  · exact .inl h1
  · by_cases h2 : b.fin = eIf
    · exact .inr (.inl h2)
    · by_cases h3 : b.fin = eReturn
      · exact .inr (.inr h3)
      · unfold endN at h
        simp [h1, h2, h3] at h
def WalkP (c : PCd) (A : Option Addr) (ca : Nat) (X : Option Addr) (args : List Int) (xc : Nat) (Y : Option Addr) (ans : List Int) (yc : Nat) (T : Int) (w0 : World) (mb sb : Nat) : Ending → World → Prop := fun e w' =>
  ∃ (hw : List UInt8) (v : Int) (s' : ASt) (vO vC : Value) (ts : List CC), e = .returned (.string (mkB hw)) ∧ WkAt c A ca X args xc Y ans yc T w0 mb sb (fun _ _ => False) s' [] v vO vC ts w' ∧ AOk c T ans s' ∧ ∀ z, runA c T args ans 100000 0 (ASt0 c) = some z → z = (hw, v, s')
set_option maxHeartbeats 8000000 in
set_option maxRecDepth 100000 in
theorem walk_any (H : WkAt c A ca X args xc Y ans yc T w0 mb sb (fun _ _ => False) (ASt0 c) [] 0 vO vC ts w) (hg : GoodA c) (hsm : ∀ b ∈ c.blocks, BlkSm b) (hi6 : ∀ b ∈ c.blocks, ∀ x ∈ b.ins, I64 x.num) (hrd : RdC w0 A c.blocks) (hT : 0 ≤ T) (hT6 : T ≤ 60) (han : ans.length ≤ 1000) (hpa : (args.length : Int) = c.params) (ha6 : ∀ n ∈ args, I64 n) (hn6 : ∀ n ∈ ans, I64 n)
    (K : Value) (hK : ∀ w', Below w0.heap.size w0 w' → w'.cell? ⟨5, 0, none⟩ = some K) (hX : Row w0 X (intVs args)) (hY : Row w0 Y (intVs ans)) :
    Calls Tryd.prog 25 #[.pointer (some ⟨mb, 0, none⟩)] w (WalkP c A ca X args xc Y ans yc T w0 mb sb) := by
  have hmost := hg.most
  have HDO : Hid (∀ (F : Nat → Array Value → Prop) (s : ASt) (vO vC : Value) (ts : List CC) (w' : World) (y : PLow), WkAt c A ca X args xc Y ans yc T w0 mb sb F s [] 0 vO vC ts w' → AOk c T ans s → LowF c y → Calls Tryd.prog 42 #[.pointer (some ⟨mb, 0, none⟩), lowV y] w' (InsPost c A ca X args xc Y ans yc T w0 mb sb F s [] 0 (insA T args ans y s))) := fun F s vO vC ts w' y H' hok hf => do_any H' hok hT6 han hpa y hf K hK hX hY
  have HRD := Lib.hid hrd
  have HG := Lib.hid hg
  have HSM := Lib.hid hsm
  have HH := Lib.hid H
  have HOK : Hid (AOk c T ans (ASt0 c)) := aok_start hT
  have HINS : Hid (∀ {x : PLow}, I64 x.num → ∀ {s s' : ASt}, AOk c T ans s → insA T args ans x s = some s' → AOk c T ans s') := fun hx _ _ h hs => aok_ins ha6 hn6 hx h hs
  have HI6 := Lib.hid hi6
  have hlen0 : 0 < c.blocks.length := hg.some
  clear hrd hg hsm H hT hT6 han hpa ha6 hn6 hK hX hY hi6
  go_enter Tryd.func25, Tryd.ntmps25
  go_wp2_with fail
  go_loopw [3, 4, 6, 7] (fun k _ _ j wr => ∃ (jn kn : Nat) (s : ASt) (vO vC : Value) (ts : List CC), jn ≤ 100000 ∧ j = .int .i64 jn ∧ k = .int .i64 kn ∧ kn < c.blocks.length ∧ AOk c T ans s ∧ WkAt c A ca X args xc Y ans yc T w0 mb sb (fun _ _ => False) s [] 0 vO vC ts wr ∧ runA c T args ans 100000 0 (ASt0 c) = runA c T args ans (100000 - jn) kn s) (fun _ _ _ j _ => 100000 - (intOf j).toNat)
  case atStart => exact ⟨0, 0, ASt0 c, _, _, _, Nat.zero_le _, rfl, rfl, hlen0, HOK.out, HH.out, rfl⟩
  case round =>
    obtain ⟨j, k, s, vO1, vC1, ts1, hj, rfl, rfl, hk, hok, H1, hrun⟩ := hrel
    have HRUN := Lib.hid hrun
    clear hrun
    by_cases hlt : j < 100000
    · have hlt' : (j : Int) < 100000 := by omega
      have hk0 : (0 : Int) ≤ (k : Int) := by omega
      have hk1 : (k : Int) < (c.blocks.length : Int) := by omega
      obtain ⟨b, off, I, ic, N, nc, rfl, hB0⟩ := HRD.out k hk
      obtain ⟨x, hx⟩ : ∃ x, c.blocks[k] = x := ⟨_, rfl⟩
      rw [hx] at hB0
      have hbm : x ∈ c.blocks := hx ▸ List.getElem_mem hk
      have HKX : Hid (c.blocks[k]? = some x) := show _ = _ by rw [List.getElem?_eq_getElem hk, hx]
      have HBO := Lib.hid (HG.out.blocks x hbm)
      have hl25 := (HSM.out x hbm).ins
      have HX6 := Lib.hid (HI6.out x hbm)
      obtain ⟨b0, b1, b2, b3, -, -⟩ := hB0.keep (Keeps.of_below H1.bel)
      have HBX : Hid (∀ w', Below w0.heap.size w0 w' → Row w' I (x.ins.flatMap lowL) ∧ Row w' N (intVs x.nx)) := fun w' hb => ⟨hB0.ins.keep (Keeps.of_below hb), hB0.nx.keep (Keeps.of_below hb)⟩
      have i3 : wr.cell? ⟨mb, 3, none⟩ = some (.slice (some ⟨b, off, none⟩) c.blocks.length ca) := H1.cellH rfl
      obtain ⟨q, hq⟩ : ∃ q, wr.heap.size = q := ⟨_, rfl⟩
      obtain ⟨wB, hwB⟩ : ∃ wB, wr.alloc (.cells #[.slice I x.ins.length ic, .string (mkB x.fin), .int .i64 x.a, .slice N x.nx.length nc] 55) = wB := ⟨_, rfl⟩
      have hbB : Below wr.heap.size wr wB := by rw [← hwB]; exact grow_alloc (grow_refl _) _
      have hmB : wB.heap[q]? = some (.cells #[.slice I x.ins.length ic, .string (mkB x.fin), .int .i64 x.a, .slice N x.nx.length nc] 55 (0, 0)) := by rw [← hwB, ← hq]; exact heap_alloc_new wr _
      have HB : Hid (WkAt c (some ⟨b, off, none⟩) ca X args xc Y ans yc T w0 mb sb (fun q9 cs9 => q9 = q ∧ cs9 = #[.slice I x.ins.length ic, .string (mkB x.fin), .int .i64 x.a, .slice N x.nx.length nc]) s [] 0 vO1 vC1 ts1 wB) := (H1.below hbB).reF (fun q9 cs9 h9 => by obtain ⟨rfl, rfl⟩ := h9; exact hmB)
      have HWB := Lib.hid hwB
      have HQ2 := Lib.hid hq
      have HOKS := Lib.hid hok
      have HLT := Lib.hid hlt
      have HK := Lib.hid hk
      clear hwB hmB hbB hx hq H1 hB0 hok hlt hk hbm
      go_upto_region 5 with fail
      try change Code.wp _ _ _ _ (wr.alloc (.cells #[.slice I x.ins.length ic, .string (mkB x.fin), .int .i64 x.a, .slice N x.nx.length nc] 55))
      rw [HQ2.out]
      rw [HWB.out]
      clear b0 b1 b2 b3
      obtain ⟨b0, b1, b2, b3⟩ := row4A (HB.out.fr q _ ⟨rfl, rfl⟩)
      go_wp2_with fail
      go_loopw [6, 20] (fun _ i wx => ∃ (n : Nat) (s2 : ASt) (vO2 vC2 : Value) (ts2 : List CC), n ≤ x.ins.length ∧ i = .int .i64 n ∧ inssA T args ans x.ins s = inssA T args ans (x.ins.drop n) s2 ∧ AOk c T ans s2 ∧ WkAt c (some ⟨b, off, none⟩) ca X args xc Y ans yc T w0 mb sb (fun q9 cs9 => q9 = q ∧ cs9 = #[.slice I x.ins.length ic, .string (mkB x.fin), .int .i64 x.a, .slice N x.nx.length nc]) s2 [] 0 vO2 vC2 ts2 wx) (fun _ i _ => x.ins.length - (intOf i).toNat)
      case atStart => exact ⟨0, s, _, _, _, Nat.zero_le _, rfl, rfl, HOKS.out, HB.out⟩
      case round =>
        obtain ⟨n, s2, vO2, vC2, ts2, hn, rfl, hin, hok2, H2⟩ := hrel
        have HIN := Lib.hid hin
        have HOK2 := Lib.hid hok2
        have HH2 := Lib.hid H2
        clear hin b0 b1 b2 b3 i3
        obtain ⟨b0, b1, b2, b3⟩ := row4A (H2.fr q _ ⟨rfl, rfl⟩)
        by_cases hlt2 : n < x.ins.length
        · have hlt2' : (n : Int) < (x.ins.length : Int) := by omega
          have hn0 : (0 : Int) ≤ (n : Int) := by omega
          obtain ⟨b5, off5, rfl, hL5⟩ := low_cells (HBX.out _ H2.bel).1 hlt2
          obtain ⟨l0, l1, l2, l3, l4, l5⟩ := hL5
          have hym : x.ins[n] ∈ x.ins := List.getElem_mem hlt2
          obtain ⟨y, hy⟩ : ∃ y, x.ins[n] = y := ⟨_, rfl⟩
          rw [hy] at l0 l1 l2 l3 l4 l5 hym
          have HLT2 := Lib.hid hlt2
          have HLF : Hid (LowF c y) := low_facts (HBO.out.ins y hym)
          have HY6 : Hid (I64 y.num) := HX6.out y hym
          have HYE : Hid (x.ins[n]? = some y) := show _ = _ by rw [List.getElem?_eq_getElem hlt2, hy]
          obtain ⟨q2, hq2⟩ : ∃ q2, wr.heap.size = q2 := ⟨_, rfl⟩
          obtain ⟨wL, hwL⟩ : ∃ wL, wr.alloc (.cells #[.string (mkB y.kind), .int .i64 y.d, .int .i64 y.a, .int .i64 y.b, .int .i64 y.num, .string (mkB y.name)] 52) = wL := ⟨_, rfl⟩
          have hbL : Below wr.heap.size wr wL := by rw [← hwL]; exact grow_alloc (grow_refl _) _
          have hmL : wL.heap[q2]? = some (.cells #[.string (mkB y.kind), .int .i64 y.d, .int .i64 y.a, .int .i64 y.b, .int .i64 y.num, .string (mkB y.name)] 52 (0, 0)) := by rw [← hwL, ← hq2]; exact heap_alloc_new wr _
          have HL := Lib.hid (H2.below hbL)
          have HC := Lib.hid (HDO.out _ s2 vO2 vC2 ts2 wL y HL.out HOK2.out HLF.out)
          unfold lowV at HC
          have HWL := Lib.hid hwL
          have HQL := Lib.hid hq2
          have HML := Lib.hid hmL
          clear hwL hmL hbL hq2 H2 hok2 hlt2 hy hym
          cases hi : insA T args ans y s2 with
          | none =>
            have HI := Lib.hid hi
            rw [hi] at HC
            clear hi
            go_upto_region 8 with fail
            try change Code.wp _ _ _ _ (wr.alloc (.cells #[.string (mkB y.kind), .int .i64 y.d, .int .i64 y.a, .int .i64 y.b, .int .i64 y.num, .string (mkB y.name)] 52))
            rw [HQL.out]
            rw [HWL.out]
            clear l0 l1 l2 l3 l4 l5 b0 b1 b2 b3
            obtain ⟨l0, l1, l2, l3, l4, l5⟩ := row6A HML.out
            go_wp2_with (go_at_call 42; (with_reducible refine HC.out.mono ?_); rintro e9 w1 (⟨-, rfl, vO3, vC3, ts3, H3⟩ | ⟨s3, h9, -⟩); rotate_left; (exact absurd h9 (by simp)))
            go_ret
            refine ⟨hOver, 0, s2, _, _, _, rfl, H3.reF (fun _ _ h9 => h9.elim), HOK2.out, fun z hz => ?_⟩
            rw [HRUN.out, run_over HLT.out HKX.out (HIN.out.trans (inss_none HYE.out HI.out))] at hz
            exact (Option.some.inj hz).symm
          | some s3 =>
            have HI := Lib.hid hi
            rw [hi] at HC
            clear hi
            go_upto_region 8 with fail
            try change Code.wp _ _ _ _ (wr.alloc (.cells #[.string (mkB y.kind), .int .i64 y.d, .int .i64 y.a, .int .i64 y.b, .int .i64 y.num, .string (mkB y.name)] 52))
            rw [HQL.out]
            rw [HWL.out]
            clear l0 l1 l2 l3 l4 l5 b0 b1 b2 b3
            obtain ⟨l0, l1, l2, l3, l4, l5⟩ := row6A HML.out
            go_wp2_with (go_at_call 42; (with_reducible refine HC.out.mono ?_); rintro e9 w1 (⟨h9, -⟩ | ⟨s4, h9, rfl, vO3, vC3, ts3, H3⟩); (exact absurd h9 (by simp)); obtain rfl := Option.some.inj h9)
            go_roundw
            case rel =>
              have hlt2 := HLT2.out
              exact ⟨n + 1, s3, _, _, _, by omega, by go_num, HIN.out.trans (inss_some HYE.out HI.out), HINS.out HY6.out HOK2.out HI.out, H3⟩
            case measure => have hlt2 := HLT2.out; simp [intOf]; omega
        · have hn' : n = x.ins.length := by omega
          subst hn'
          have HIE : Hid (inssA T args ans x.ins s = (false, s2)) := show _ = _ by rw [HIN.out, List.drop_length]; rfl
          have h8 := hok2.r8
          have hnx := HBO.out.nx
          have hfar := HBO.out.far
          clear hlt2
          rcases fin_cases HBO.out.fin with hf | hf | hf
          · have hnx1 : x.nx.length = 1 := by rw [hf] at hnx; have : endN eJump = 1 := rfl; omega
            have hl0 : 0 < x.nx.length := by omega
            obtain ⟨b6, off6, hN6, hc6⟩ := (HBX.out _ H2.bel).2 0 _ (intVs_get hl0)
            subst hN6
            have hfz := hfar x.nx[0] (List.getElem_mem hl0)
            obtain ⟨kn, hkn⟩ : ∃ kn : Nat, x.nx[0] = (kn : Int) := ⟨x.nx[0].toNat, (Int.toNat_of_nonneg hfz.1).symm⟩
            rw [Nat.add_zero] at hc6
            have hxl2 : (0 : Int) < (x.nx.length : Int) := by omega
            rw [hkn] at hc6 hfz
            have HKN : Hid ((x.nx.getD 0 0).toNat = kn) := show _ = _ by rw [List.getD_eq_getElem?_getD, List.getElem?_eq_getElem hl0, Option.getD_some, hkn]; rfl
            have hknl : kn < c.blocks.length := by omega
            have b1' : wr.cell? ⟨q, 1, none⟩ = some (.string ⟨#[106, 117, 109, 112]⟩) := by rw [b1, hf]; rfl
            clear b1
            have HF := Lib.hid hf
            have HN2 := Lib.hid (fun j9 => (H2.drewN j9).reF (F' := fun _ _ => False) (fun _ _ h9 => h9.elim))
            clear hf hkn hnx hfar hn H2 hok2 h8
            go_wp2_with fail
            go_quiet (fail)
            go_wp2_with fail
            go_roundw
            case rel =>
              have hlt := HLT.out
              refine ⟨j + 1, kn, s2, _, _, _, by omega, by go_num, rfl, hknl, HOK2.out, HN2.out _, ?_⟩
              rw [HRUN.out, run_next hlt HKX.out HIE.out (by rw [HF.out]; decide), show nextA x s2 = kn from by unfold nextA; rw [if_neg (by rw [HF.out]; simp [eJump, eIf]), HKN.out]]
            case measure => have hlt := HLT.out; simp [intOf]; omega
          · have hnx1 : x.nx.length = 2 := by rw [hf] at hnx; have : endN eIf = 2 := rfl; omega
            obtain ⟨an, haN⟩ : ∃ an : Nat, x.a = (an : Int) := ⟨x.a.toNat, (Int.toNat_of_nonneg (HBO.out.reg (by rw [hf]; decide)).1).symm⟩
            have ha8 : an < 8 := by have := (HBO.out.reg (by rw [hf]; decide)).2; omega
            have ha0 : (0 : Int) ≤ an := by omega
            have ha1 : (an : Int) < 8 := by omega
            rw [haN] at b2
            obtain ⟨vv, hvv⟩ : ∃ z, s2.r.getD an 0 = z := ⟨_, rfl⟩
            have r1 := H2.cellT (wkT_r h8 ha8)
            rw [hvv] at r1
            have HVV : Hid (rOf s2 x.a = vv) := show _ = _ by rw [haN, ← hvv]; rfl
            clear hvv
            have b1' : wr.cell? ⟨q, 1, none⟩ = some (.string ⟨#[105, 102]⟩) := by rw [b1, hf]; rfl
            clear b1
            have HF := Lib.hid hf
            have HN2 := Lib.hid (fun j9 => (H2.drewN j9).reF (F' := fun _ _ => False) (fun _ _ h9 => h9.elim))
            by_cases hz : vv = 0
            · subst hz
              have hl1 : 1 < x.nx.length := by omega
              obtain ⟨b6, off6, hN6, hc6⟩ := (HBX.out _ H2.bel).2 1 _ (intVs_get hl1)
              subst hN6
              have hfz := hfar x.nx[1] (List.getElem_mem hl1)
              obtain ⟨kn, hkn⟩ : ∃ kn : Nat, x.nx[1] = (kn : Int) := ⟨x.nx[1].toNat, (Int.toNat_of_nonneg hfz.1).symm⟩
              skip
              have hxl2 : (1 : Int) < (x.nx.length : Int) := by omega
              rw [hkn] at hc6 hfz
              have HKN : Hid ((x.nx.getD 1 0).toNat = kn) := show _ = _ by rw [List.getD_eq_getElem?_getD, List.getElem?_eq_getElem hl1, Option.getD_some, hkn]; rfl
              have hknl : kn < c.blocks.length := by omega
              clear hf hkn hnx hfar hn H2 hok2 h8
              go_wp2_with fail
              go_quiet (fail)
              go_wp2_with fail
              go_roundw
              case rel =>
                have hlt := HLT.out
                refine ⟨j + 1, kn, s2, _, _, _, by omega, by go_num, rfl, hknl, HOK2.out, HN2.out _, ?_⟩
                rw [HRUN.out, run_next hlt HKX.out HIE.out (by rw [HF.out]; decide), show nextA x s2 = kn from by unfold nextA; rw [if_pos ⟨by rw [HF.out]; rfl, HVV.out⟩, HKN.out]]
              case measure => have hlt := HLT.out; simp [intOf]; omega
            · have hzb : (vv == 0) = false := beq_eq_false_iff_ne.2 hz
              have hl0 : 0 < x.nx.length := by omega
              obtain ⟨b6, off6, hN6, hc6⟩ := (HBX.out _ H2.bel).2 0 _ (intVs_get hl0)
              subst hN6
              have hfz := hfar x.nx[0] (List.getElem_mem hl0)
              obtain ⟨kn, hkn⟩ : ∃ kn : Nat, x.nx[0] = (kn : Int) := ⟨x.nx[0].toNat, (Int.toNat_of_nonneg hfz.1).symm⟩
              rw [Nat.add_zero] at hc6
              have hxl2 : (0 : Int) < (x.nx.length : Int) := by omega
              rw [hkn] at hc6 hfz
              have HKN : Hid ((x.nx.getD 0 0).toNat = kn) := show _ = _ by rw [List.getD_eq_getElem?_getD, List.getElem?_eq_getElem hl0, Option.getD_some, hkn]; rfl
              have hknl : kn < c.blocks.length := by omega
              have HZ := Lib.hid hz
              clear hf hkn hnx hfar hn H2 hok2 h8
              go_wp2_with fail
              go_quiet (fail)
              go_wp2_with fail
              go_roundw
              case rel =>
                have hlt := HLT.out
                refine ⟨j + 1, kn, s2, _, _, _, by omega, by go_num, rfl, hknl, HOK2.out, HN2.out _, ?_⟩
                rw [HRUN.out, run_next hlt HKX.out HIE.out (by rw [HF.out]; decide), show nextA x s2 = kn from by unfold nextA; rw [if_neg (fun h9 => HZ.out (HVV.out.symm.trans h9.2)), HKN.out]]
              case measure => have hlt := HLT.out; simp [intOf]; omega
          · skip
            obtain ⟨an, haN⟩ : ∃ an : Nat, x.a = (an : Int) := ⟨x.a.toNat, (Int.toNat_of_nonneg (HBO.out.reg (by rw [hf]; decide)).1).symm⟩
            have ha8 : an < 8 := by have := (HBO.out.reg (by rw [hf]; decide)).2; omega
            have ha0 : (0 : Int) ≤ an := by omega
            have ha1 : (an : Int) < 8 := by omega
            rw [haN] at b2
            obtain ⟨vv, hvv⟩ : ∃ z, s2.r.getD an 0 = z := ⟨_, rfl⟩
            have r1 := H2.cellT (wkT_r h8 ha8)
            rw [hvv] at r1
            have HVV : Hid (rOf s2 x.a = vv) := show _ = _ by rw [haN, ← hvv]; rfl
            clear hvv
            have b1' : wr.cell? ⟨q, 1, none⟩ = some (.string ⟨#[114, 101, 116, 117, 114, 110]⟩) := by rw [b1, hf]; rfl
            clear b1
            have HF := Lib.hid hf
            have y8 : wr.cell? ⟨mb, 8, none⟩ = some (.int .i64 0) := H2.cellH rfl
            have z8 := H2.frozen 8
            have HST := Lib.hid (fun j9 => ((H2.drewN j9).setV vv).reF (F' := fun _ _ => False) (fun _ _ h9 => h9.elim))
            have HS0 := Lib.hid ((H2.setV vv).reF (F' := fun _ _ => False) (fun _ _ h9 => h9.elim))
            clear hf hnx hfar hn H2 hok2 h8
            go_wp2_with fail
            go_region
            go_wp2_with fail
            go_ret
            refine ⟨hDone, vv, s2, vO2, vC2, ts2, rfl, ?_, HOK2.out, fun z hz => ?_⟩
            · first
                | exact HST.out _
                | exact HS0.out.drewN 1
            · rw [HRUN.out, run_done HLT.out HKX.out HIE.out HF.out, HVV.out] at hz
              exact (Option.some.inj hz).symm
    · have hj' : j = 100000 := by omega
      subst hj'
      go_wp2_with fail
      go_ret
      refine ⟨hStuck, 0, s, _, _, _, rfl, H1, hok, fun z hz => ?_⟩
      rw [HRUN.out, Nat.sub_self] at hz
      cases hz
end
end Go.Proofs.YtpmpeihcdiohmaaDoor

namespace Go.Proofs.YtpmpeihcdiohmaaDoor
open Go.RowKit

/-! alloc.Walk -/
theorem errIs_if {E : Nat → Addr} {w : World} {v : Value} {c a : Int} (h : ErrIs E w v c a) (hc : c ≠ 0) : ∃ t x, v = .iface t x := by
  rcases h with ⟨_, h, _⟩ | ⟨i, _, h, _, _⟩ | ⟨i, fb, fo, _, h, _, _, _⟩
  · exact absurd h hc
  · exact ⟨_, _, h⟩
  · exact ⟨_, _, h⟩
/-- How a walk ended: how, the value, ticks, prints, calls. -/
abbrev DTup := List UInt8 × Int × Int × List Int × List (List UInt8 × List Int)
def adV (D : DTup) (AO : Option Addr) (cO : Nat) (AC : Option Addr) (cC : Nat) : Value := .agg #[.string (mkB D.1), .int .i64 D.2.1, .int .i64 D.2.2.1, .slice AO D.2.2.2.1.length cO, .slice AC D.2.2.2.2.length cC]
def stuckD : DTup := (hStuck, 0, 0, [], [])
def tupD (z : List UInt8 × Int × ASt) : DTup := (z.1, z.2.1, z.2.2.ticks, z.2.2.out, z.2.2.calls)
def doneA (c : PCd) (T : Int) (args ans : List Int) (fuel : Nat) : Option DTup := if (args.length : Int) = c.params ∧ (lowC c).1 = 0 then (runA c T args ans fuel 0 (ASt0 c)).map tupD else some stuckD
structure DnAt (w : World) (D : DTup) (AO AC : Option Addr) (ts : List CC) : Prop where
  out : Row w AO (intVs D.2.2.2.1)
  calls : Row w AC (ts.flatMap CC.cells)
  map : ts.map (·.p) = D.2.2.2.2
  rows : ∀ t ∈ ts, Row w t.X (intVs t.p.2)
theorem DnAt.keep {w w' : World} {D : DTup} {AO AC : Option Addr} {ts : List CC} (h : DnAt w D AO AC ts) (k : Keeps w w') : DnAt w' D AO AC ts :=
  ⟨h.out.keep k, h.calls.keep k, h.map, fun t ht => (h.rows t ht).keep k⟩
structure DSm (D : DTup) : Prop where
  out : D.2.2.2.1.length ≤ 1000
  calls : D.2.2.2.2.length ≤ 1000
  args : ∀ p ∈ D.2.2.2.2, p.2.length ≤ 4
def WlPost (c : PCd) (T : Int) (args ans : List Int) (w : World) : Ending → World → Prop := fun e w' =>
  ∃ (D : DTup) (AO : Option Addr) (cO : Nat) (AC : Option Addr) (cC : Nat) (ts : List CC), e = .returned (adV D AO cO AC cC) ∧ DnAt w' D AO AC ts ∧ Below w.heap.size w w' ∧ DSm D ∧ ∀ z, doneA c T args ans 100000 = some z → z = D
theorem set5A {w : World} {q : Nat} {a0 a1 a2 a3 a4 v0 v1 v2 v3 v4 : Value} {T : TypeId} {fz : Nat × Nat} (h : w.heap[q]? = some (.cells #[a0, a1, a2, a3, a4] T fz)) :
    (((((w.setCell ⟨q, 0, none⟩ v0).setCell ⟨q, 1, none⟩ v1).setCell ⟨q, 2, none⟩ v2).setCell ⟨q, 3, none⟩ v3).setCell ⟨q, 4, none⟩ v4).heap[q]? = some (.cells #[v0, v1, v2, v3, v4] T fz) :=
  row_set (j := 4) v4 (row_set (j := 3) v3 (row_set (j := 2) v2 (row_set (j := 1) v1 (row_set (j := 0) v0 h rfl) rfl) rfl) rfl) (by simp)
theorem row5A {w : World} {q : Nat} {v0 v1 v2 v3 v4 : Value} {T : TypeId} {fz : Nat × Nat} (hrow : w.heap[q]? = some (.cells #[v0, v1, v2, v3, v4] T fz)) :
    w.cell? ⟨q, 0, none⟩ = some v0 ∧ w.cell? ⟨q, 1, none⟩ = some v1 ∧ w.cell? ⟨q, 2, none⟩ = some v2 ∧ w.cell? ⟨q, 3, none⟩ = some v3 ∧ w.cell? ⟨q, 4, none⟩ = some v4 :=
  ⟨cell_of_row _ _ 0 _ _ _ hrow, cell_of_row _ _ 1 _ _ _ hrow, cell_of_row _ _ 2 _ _ _ hrow, cell_of_row _ _ 3 _ _ _ hrow, cell_of_row _ _ 4 _ _ _ hrow⟩
def W5 (w : World) (q : Nat) (v0 v1 v2 v3 v4 : Value) : World := ((((w.setCell ⟨q, 0, none⟩ v0).setCell ⟨q, 1, none⟩ v1).setCell ⟨q, 2, none⟩ v2).setCell ⟨q, 3, none⟩ v3).setCell ⟨q, 4, none⟩ v4
theorem below5A {w0 w : World} {q : Nat} {v0 v1 v2 v3 v4 : Value} (h : Below w0.heap.size w0 w) (hq : w0.heap.size ≤ q) : Below w0.heap.size w0 (((((w.setCell ⟨q, 0, none⟩ v0).setCell ⟨q, 1, none⟩ v1).setCell ⟨q, 2, none⟩ v2).setCell ⟨q, 3, none⟩ v3).setCell ⟨q, 4, none⟩ v4) :=
  ((((h.setCell hq _).setCell hq _).setCell hq _).setCell hq _).setCell hq _
theorem far5A {w : World} {q : Nat} {v0 v1 v2 v3 v4 : Value} (k : Nat) (hk : k ≠ q) : (((((w.setCell ⟨q, 0, none⟩ v0).setCell ⟨q, 1, none⟩ v1).setCell ⟨q, 2, none⟩ v2).setCell ⟨q, 3, none⟩ v3).setCell ⟨q, 4, none⟩ v4).heap[k]? = w.heap[k]? :=
  (Below.heap_setCell _ _ _ _ hk).trans ((Below.heap_setCell _ _ _ _ hk).trans ((Below.heap_setCell _ _ _ _ hk).trans ((Below.heap_setCell _ _ _ _ hk).trans (Below.heap_setCell _ _ _ _ hk))))
/-- What the walker told of stands as a walk's end. -/
theorem WkAt.done {c : PCd} {A : Option Addr} {ca : Nat} {X : Option Addr} {args : List Int} {xc : Nat} {Y : Option Addr} {ans : List Int} {yc : Nat} {T : Int} {w0 : World} {mb sb : Nat} {F : Nat → Array Value → Prop} {s : ASt} {h : List UInt8} {v : Int} {vO vC : Value} {ts : List CC} {w w' : World}
    (H : WkAt c A ca X args xc Y ans yc T w0 mb sb F s h v vO vC ts w) (hs : ∀ k, w0.heap.size ≤ k → w'.heap[k]? = w.heap[k]?) : ∃ AO cO AC cC, vO = .slice AO s.out.length cO ∧ vC = .slice AC s.calls.length cC ∧ DnAt w' (tupD (h, v, s)) AO AC ts := by
  obtain ⟨AO, cO, rfl, -, hO⟩ := owns_rowG (own_same (w' := w') H.out fun k hk => hs k (own_lt H.out hk).1)
  obtain ⟨AC, cC, rfl, -, hC⟩ := owns_rowG (own_same (w' := w') H.calls fun k hk => hs k (own_lt H.calls hk).1)
  exact ⟨AO, cO, AC, cC, rfl, rfl, ⟨hO, hC, H.map, fun t ht => row_by (H.rows t ht) fun hl a ha => hs _ (H.far t ht hl a ha).2.2.2.2⟩⟩
set_option maxHeartbeats 8000000 in
set_option maxRecDepth 100000 in
theorem Walk_any (E : Nat → Addr) (c : PCd) (A : Option Addr) (ca : Nat) (hn : c.blocks.length ≤ 100000) (hsm : ∀ b ∈ c.blocks, BlkSm b) (hi6 : ∀ b ∈ c.blocks, ∀ x ∈ b.ins, I64 x.num) (args ans : List Int) (X : Option Addr) (xc : Nat) (Y : Option Addr) (yc : Nat) (T : Int) (hT : 0 ≤ T) (hT6 : T ≤ 60) (hargs : args.length ≤ 1000) (han : ans.length ≤ 1000) (ha6 : ∀ n ∈ args, I64 n) (hn6 : ∀ n ∈ ans, I64 n)
    (w : World) (hE : Laid E w) (hr : RdC w A c.blocks) (hX : Row w X (intVs args)) (hY : Row w Y (intVs ans)) :
    Calls Tryd.prog 14 #[cdV c A ca, .slice X args.length xc, .slice Y ans.length yc, .int .i64 T] w (WlPost c T args ans w) := by
  obtain ⟨wA, hwA⟩ : ∃ wA, (w.alloc (.cells #[.string (mkB c.name), .int .i64 c.params, .int .i64 c.slots, .slice A c.blocks.length ca] 31)).alloc (.cells #[.string ⟨#[]⟩, .int .i64 0, .int .i64 0, .slice none 0 0, .slice none 0 0] 48) = wA := ⟨_, rfl⟩
  have hbA : Below w.heap.size w wA := by rw [← hwA]; exact grow_alloc (grow_alloc (grow_refl _) _) _
  have hmA : wA.heap[w.heap.size]? = some (.cells #[.string (mkB c.name), .int .i64 c.params, .int .i64 c.slots, .slice A c.blocks.length ca] 31 (0, 0)) := by rw [← hwA]; exact (old_block _ _ (by simp)).trans (heap_alloc_new w _)
  have hrA : wA.heap[w.heap.size + 1]? = some (.cells #[.string ⟨#[]⟩, .int .i64 0, .int .i64 0, .slice none 0 0, .slice none 0 0] 48 (0, 0)) := by rw [← hwA]; exact new_block _ _ (by simp)
  have hlA : w.heap.size + 1 < wA.heap.size := (Array.getElem?_eq_some_iff.1 hrA).1
  have HX : Hid (∀ w', Below wA.heap.size wA w' → (w'.cell? ⟨w.heap.size, 0, none⟩ = some (.string (mkB c.name)) ∧ w'.cell? ⟨w.heap.size, 1, none⟩ = some (.int .i64 c.params) ∧ w'.cell? ⟨w.heap.size, 2, none⟩ = some (.int .i64 c.slots) ∧ w'.cell? ⟨w.heap.size, 3, none⟩ = some (.slice A c.blocks.length ca)) ∧ w'.heap[w.heap.size + 1]? = some (.cells #[.string ⟨#[]⟩, .int .i64 0, .int .i64 0, .slice none 0 0, .slice none 0 0] 48 (0, 0)) ∧ Below w.heap.size w w') := fun w' hb =>
    ⟨row4A ((hb.block _ (by omega)).trans hmA), (hb.block _ hlA).trans hrA, grow_trans hbA hb⟩
  have HIN : Hid (∀ w', Below wA.heap.size wA w' → RdC w' A c.blocks ∧ Row w' X (intVs args) ∧ Row w' Y (intVs ans) ∧ Laid E w') := fun w' hb => have k := Keeps.of_below (grow_trans hbA hb); ⟨hr.keep k, hX.keep k, hY.keep k, hE.keep (grow_trans hbA hb)⟩
  have HCK : Hid (Calls Tryd.prog 10 #[cdV c A ca] wA (ChkPost E c wA)) := acheck_any E c A ca hn hsm wA (hE.keep hbA) (hr.keep (Keeps.of_below hbA))
  have HWA := Lib.hid hwA
  have HLA := Lib.hid hlA
  obtain ⟨⟨i0, i1, i2, i3⟩, hr0, -⟩ := HX.out wA (grow_refl _)
  obtain ⟨s0, s1, s2, s3, s4⟩ := row5A hr0
  have y0 := row_frozen hr0 0
  have y1 := row_frozen hr0 1
  have y2 := row_frozen hr0 2
  have y3 := row_frozen hr0 3
  have y4 := row_frozen hr0 4
  have HSTK : Hid (∀ w1, Below wA.heap.size wA w1 → doneA c T args ans 100000 = some stuckD → WlPost c T args ans w (.returned (.agg #[.string ⟨#[115, 116, 117, 99, 107]⟩, .int .i64 0, .int .i64 0, .slice none 0 0, .slice none 0 0])) (((((w1.setCell ⟨w.heap.size + 1, 0, none⟩ (.string ⟨#[115, 116, 117, 99, 107]⟩)).setCell ⟨w.heap.size + 1, 1, none⟩ (.int .i64 0)).setCell ⟨w.heap.size + 1, 2, none⟩ (.int .i64 0)).setCell ⟨w.heap.size + 1, 3, none⟩ (.slice none 0 0)).setCell ⟨w.heap.size + 1, 4, none⟩ (.slice none 0 0))) := fun w1 hb hd =>
    ⟨stuckD, none, 0, none, 0, [], rfl, ⟨Row.nil _ _, Row.nil _ _, rfl, fun t ht => (by cases ht)⟩, below5A (HX.out w1 hb).2.2 (by omega), ⟨by decide, by decide, fun p hp => (by cases hp)⟩, fun z hz => by rw [hd] at hz; exact (Option.some.inj hz).symm⟩
  have HSM := Lib.hid hsm
  have HI6 := Lib.hid hi6
  have HA6 := Lib.hid ha6
  have HN6 := Lib.hid hn6
  unfold cdV at HCK ⊢
  clear hr hX hY hE hbA hmA hrA hwA hlA hsm hi6 ha6 hn6
  by_cases hp : (args.length : Int) = c.params
  · by_cases hc : (lowC c).1 = 0
    · have hg := lowC_good hc
      have HD : Hid (doneA c T args ans 100000 = (runA c T args ans 100000 0 (ASt0 c)).map tupD) := show _ = _ by unfold doneA; rw [if_pos ⟨hp, hc⟩]
      have HC := Lib.hid hc
      have HP := Lib.hid hp
      have hpb : ((args.length : Int) != c.params) = false := by rw [hp]; simp
      obtain ⟨sn, hsn⟩ : ∃ sn : Nat, c.slots = (sn : Int) := ⟨c.slots.toNat, (Int.toNat_of_nonneg hg.slots.1).symm⟩
      have hs1000 : sn ≤ 1000 := by have := hg.slots.2; omega
      have hmk := make_zr sn (by omega)
      rw [← hsn] at hmk
      have HG := Lib.hid hg
      have HSN := Lib.hid hsn
      clear hc hg hsn hr0 hpb
      have hpb : ((args.length : Int) != c.params) = false := by rw [HP.out]; simp
      clear hp
      go_enter Tryd.func14, Tryd.ntmps14
      go_upto_region 1 with fail
      change Code.wp _ _ _ _ ((w.alloc (.cells #[.string (mkB c.name), .int .i64 c.params, .int .i64 c.slots, .slice A c.blocks.length ca] 31)).alloc (.cells #[.string ⟨#[]⟩, .int .i64 0, .int .i64 0, .slice none 0 0, .slice none 0 0] 48))
      rw [HWA.out]
      go_upto_region 3 with (go_at_call 10; go_loud ((with_reducible refine HCK.out.mono ?_); rintro y w1 ⟨v, rfl, -, hb1, hv0⟩; obtain rfl := hv0.2 HC.out; obtain ⟨⟨i0, i1, i2, i3⟩, hr1, -⟩ := HX.out w1 hb1; have HR1 := Lib.hid hr1; have HB1 := Lib.hid hb1; clear hr1 hv0 hb1))
      have e0 := Keeps.alloc w1 (zrO sn) _ _ i0
      have e1 := Keeps.alloc w1 (zrO sn) _ _ i1
      have e2 := Keeps.alloc w1 (zrO sn) _ _ i2
      have e3 := Keeps.alloc w1 (zrO sn) _ _ i3
      go_region
      obtain ⟨wW, hwW⟩ : ∃ wW, ((w1.alloc (zrO sn)).alloc (.cells #[.string (mkB c.name), .int .i64 c.params, .int .i64 c.slots, .slice A c.blocks.length ca, .slice X args.length xc, .slice Y ans.length yc, .int .i64 T, .string ⟨#[]⟩, .int .i64 0, .int .i64 0, .slice none 0 0, .slice none 0 0, .int .i64 0, .int .i64 0, .int .i64 0, .int .i64 0, .int .i64 0, .int .i64 0, .int .i64 0, .int .i64 0, .slice (some ⟨w1.heap.size, 0, none⟩) sn sn, .int .i64 0, .int .i64 0, .int .i64 0, .int .i64 0] 81)).drew = wW := ⟨_, rfl⟩
      have hbW : Below w1.heap.size w1 wW := by rw [← hwW]; exact grow_drew (grow_alloc (grow_alloc (grow_refl _) _) _) _
      have hsW : wW.heap[w1.heap.size]? = some (zrO sn) := by rw [← hwW]; exact (old_block _ _ (by simp)).trans (heap_alloc_new w1 _)
      have hmW : wW.heap[w1.heap.size + 1]? = some (.cells #[.string (mkB c.name), .int .i64 c.params, .int .i64 c.slots, .slice A c.blocks.length ca, .slice X args.length xc, .slice Y ans.length yc, .int .i64 T, .string ⟨#[]⟩, .int .i64 0, .int .i64 0, .slice none 0 0, .slice none 0 0, .int .i64 0, .int .i64 0, .int .i64 0, .int .i64 0, .int .i64 0, .int .i64 0, .int .i64 0, .int .i64 0, .slice (some ⟨w1.heap.size, 0, none⟩) sn sn, .int .i64 0, .int .i64 0, .int .i64 0, .int .i64 0] 81) := by rw [← hwW]; exact new_block _ _ (by simp)
      have hsn2 : c.slots.toNat = sn := by rw [HSN.out]; rfl
      have HW : WkAt c A ca X args xc Y ans yc T w1 (w1.heap.size + 1) w1.heap.size (fun _ _ => False) (ASt0 c) [] 0 (.slice none 0 0) (.slice none 0 0) [] wW :=
        { bel := hbW, lowM := Nat.le_succ _, lowS := Nat.le_refl _, blk := by rw [hmW]; simp [wkH, wkT, ASt0, hsn2, intVs, next0, mkB], slots := by rw [hsW]; simp [zrO, ASt0, hsn2], out := World.ownsRow_nil _ _ _ _, one := by simp [Value.ownBlock], calls := World.ownsRow_nil _ _ _ _, map := rfl, rows := fun t h => (by cases h), far := fun t h => (by cases h), fr := fun _ _ h => h.elim }
      have HWK : Hid (Calls Tryd.prog 25 #[.pointer (some ⟨w1.heap.size + 1, 0, none⟩)] wW (WalkP c A ca X args xc Y ans yc T w1 (w1.heap.size + 1) w1.heap.size)) := by
        have hin := fun w' hb => HIN.out w' (grow_trans HB1.out hb)
        exact walk_any HW HG.out HSM.out HI6.out (hin w1 (grow_refl _)).1 hT hT6 han HP.out HA6.out HN6.out (esV (E 3)) (fun w' hb => (hin w' hb).2.2.2.c3) (hin w1 (grow_refl _)).2.1 (hin w1 (grow_refl _)).2.2.1
      rw [hwW]
      obtain ⟨mb, hmb⟩ : ∃ mb, w1.heap.size + 1 = mb := ⟨_, rfl⟩
      rw [hmb] at HWK
      rw [hmb]
      have hl1 : w.heap.size + 1 < w1.heap.size := by have := HLA.out; have := HB1.out.size; omega
      have hne1 : ¬ mb = w.heap.size + 1 := by omega
      have hne2 : ¬ w.heap.size + 1 = mb := by omega
      have HMB := Lib.hid hmb
      clear hbW hsW hmW hsn2 HW hwW hmb e0 e1 e2 e3 i0 i1 i2 i3 hmk
      go_wp2_with (go_at_call 25; (with_reducible refine HWK.out.mono ?_); rintro y w2 ⟨hw, v2, s2, vO, vC, ts, rfl, h2, hok2, hz2⟩; obtain ⟨AO, cO, rfl⟩ := own_slice h2.out; obtain ⟨AC, cC, rfl⟩ := own_slice h2.calls; have H2 := Lib.hid (h2.setH hw); have HOK := Lib.hid hok2; have HZ := Lib.hid hz2; have t7 := h2.cellH (j := 7) rfl; have u7 := h2.frozen 7; have t8 := h2.cellH (j := 8) rfl; have t9 := h2.cellH (j := 9) rfl; have t10 := h2.cellH (j := 10) rfl; have t11 := h2.cellH (j := 11) rfl; have hr2 := (h2.bel.block (w.heap.size + 1) hl1).trans HR1.out; obtain ⟨s0, s1, s2', s3, s4⟩ := row5A hr2; have y0 := row_frozen hr2 0; have y1 := row_frozen hr2 1; have y2 := row_frozen hr2 2; have y3 := row_frozen hr2 3; have y4 := row_frozen hr2 4; have HR2 := Lib.hid hr2; clear h2 hok2 hz2 hr2)
      obtain ⟨wF, hwF⟩ : ∃ wF, w2.setCell ⟨mb, 7, none⟩ (.string (mkB hw)) = wF := ⟨_, rfl⟩
      have H3 := H2.out
      rw [hwF] at H3 ⊢
      have hrF : wF.heap[w.heap.size + 1]? = some (.cells #[.string ⟨#[]⟩, .int .i64 0, .int .i64 0, .slice none 0 0, .slice none 0 0] 48 (0, 0)) := by rw [← hwF]; exact (Below.heap_setCell _ _ _ _ hne2).trans HR2.out
      have hbF : Below w.heap.size w wF := grow_trans (HX.out w1 HB1.out).2.2 H3.bel
      obtain ⟨z0, z1, z2, z3, z4⟩ := row5A (set5A (v0 := .string (mkB hw)) (v1 := .int .i64 v2) (v2 := .int .i64 s2.ticks) (v3 := .slice AO s2.out.length cO) (v4 := .slice AC s2.calls.length cC) hrF)
      refine bodyPost_ret (v := .agg #[.string (mkB hw), .int .i64 v2, .int .i64 s2.ticks, .slice AO s2.out.length cO, .slice AC s2.calls.length cC]) (by simp [results, Tryd.results14, go_sem, z0, z1, z2, z3, z4]; try rfl) rfl ?_
      obtain ⟨AO', cO', AC', cC', e1, e2, hdn⟩ := H3.done (w' := ((((wF.setCell ⟨w.heap.size + 1, 0, none⟩ (.string (mkB hw))).setCell ⟨w.heap.size + 1, 1, none⟩ (.int .i64 v2)).setCell ⟨w.heap.size + 1, 2, none⟩ (.int .i64 s2.ticks)).setCell ⟨w.heap.size + 1, 3, none⟩ (.slice AO s2.out.length cO)).setCell ⟨w.heap.size + 1, 4, none⟩ (.slice AC s2.calls.length cC)) (fun k hk => far5A k (by omega))
      injection e1 with e1 _ e3
      injection e2 with e2 _ e4
      subst e1; subst e2; subst e3; subst e4
      have hok2 := HOK.out
      refine ⟨(hw, v2, s2.ticks, s2.out, s2.calls), AO, cO, AC, cC, ts, rfl, hdn, below5A hbF (by omega), ⟨hok2.out, by have := hok2.calls; show s2.calls.length ≤ 1000; omega, hok2.c6⟩, fun z hz => ?_⟩
      rw [HD.out] at hz
      cases hr : runA c T args ans 100000 0 (ASt0 c) with
      | none => rw [hr] at hz; cases hz
      | some q =>
        rw [hr] at hz
        have := HZ.out q hr
        subst this
        exact (Option.some.inj hz).symm
    · have HD : Hid (doneA c T args ans 100000 = some stuckD) := show _ = _ by unfold doneA; rw [if_neg (fun h => hc h.2)]
      have HC := Lib.hid hc
      have hpb : ((args.length : Int) != c.params) = false := by rw [hp]; simp
      clear hc
      go_enter Tryd.func14, Tryd.ntmps14
      go_upto_region 1 with fail
      change Code.wp _ _ _ _ ((w.alloc (.cells #[.string (mkB c.name), .int .i64 c.params, .int .i64 c.slots, .slice A c.blocks.length ca] 31)).alloc (.cells #[.string ⟨#[]⟩, .int .i64 0, .int .i64 0, .slice none 0 0, .slice none 0 0] 48))
      rw [HWA.out]
      go_wp2_with (go_at_call 10; (with_reducible refine HCK.out.mono ?_); rintro y w1 ⟨v, rfl, hv, hb1, -⟩; obtain ⟨t9, x9, rfl⟩ := errIs_if hv (by have := HC.out; omega); obtain ⟨s0, s1, s2, s3, s4⟩ := row5A (HX.out w1 hb1).2.1; have hr1 := (HX.out w1 hb1).2.1; have y0 := row_frozen hr1 0; have y1 := row_frozen hr1 1; have y2 := row_frozen hr1 2; have y3 := row_frozen hr1 3; have y4 := row_frozen hr1 4; clear hr1 hv)
      obtain ⟨z0, z1, z2, z3, z4⟩ := row5A (set5A (v0 := .string ⟨#[115, 116, 117, 99, 107]⟩) (v1 := .int .i64 0) (v2 := .int .i64 0) (v3 := .slice none 0 0) (v4 := .slice none 0 0) (HX.out w1 hb1).2.1)
      refine bodyPost_ret (v := .agg #[.string ⟨#[115, 116, 117, 99, 107]⟩, .int .i64 0, .int .i64 0, .slice none 0 0, .slice none 0 0]) (by simp [results, Tryd.results14, go_sem, z0, z1, z2, z3, z4]; try rfl) rfl ?_
      exact HSTK.out w1 hb1 HD.out
  · have HD : Hid (doneA c T args ans 100000 = some stuckD) := show _ = _ by unfold doneA; rw [if_neg (fun h => hp h.1)]
    have hpb : ((args.length : Int) != c.params) = true := by simpa using hp
    clear hp
    go_enter Tryd.func14, Tryd.ntmps14
    go_upto_region 1 with fail
    change Code.wp _ _ _ _ ((w.alloc (.cells #[.string (mkB c.name), .int .i64 c.params, .int .i64 c.slots, .slice A c.blocks.length ca] 31)).alloc (.cells #[.string ⟨#[]⟩, .int .i64 0, .int .i64 0, .slice none 0 0, .slice none 0 0] 48))
    rw [HWA.out]
    go_wp2_with fail
    obtain ⟨z0, z1, z2, z3, z4⟩ := row5A (set5A (v0 := .string ⟨#[115, 116, 117, 99, 107]⟩) (v1 := .int .i64 0) (v2 := .int .i64 0) (v3 := .slice none 0 0) (v4 := .slice none 0 0) hr0)
    refine bodyPost_ret (v := .agg #[.string ⟨#[115, 116, 117, 99, 107]⟩, .int .i64 0, .int .i64 0, .slice none 0 0, .slice none 0 0]) (by simp [results, Tryd.results14, go_sem, z0, z1, z2, z3, z4]; try rfl) rfl ?_
    exact HSTK.out wA (grow_refl _) HD.out
end Go.Proofs.YtpmpeihcdiohmaaDoor

namespace Go.Proofs.YtpmpeihcdiohmaaDoor
open Go.RowKit

/-! the document's ops: is a text one? -/
theorem isIn_ops2 (s : ByteArray) (a b : Int) : isIn s opsL = (doV s.toList a b).isSome := by
  rw [doV_ops, opsL, isIn_mkB]
theorem ROps2 (w : World) : Calls Tryd.prog 44 #[] w fun e w' => e = .returned (.slice (some ⟨w.heap.size, 0, none⟩) 14 14) ∧ w' = w.alloc opsO := by
  go_enter Tryd.func44, Tryd.ntmps44
  go_wp2_with fail
  go_ret
  exact ⟨rfl, rfl⟩
theorem isTwo2 (n : List UInt8) (w : World) : Calls Tryd.prog 28 #[.string (mkB n)] w (Ret (.bool (doV n 0 0).isSome) w) := by
  have HE : Hid (isIn (mkB n) opsL = (doV n 0 0).isSome) := show _ = _ by rw [isIn_ops2 (mkB n) 0 0, mkB_toList]
  go_enter Tryd.func28, Tryd.ntmps28
  go_wp2_with (first
    | (go_at_call 44; (with_reducible refine (ROps2 _).mono ?_); rintro y w1 ⟨rfl, rfl⟩)
    | (go_at_call 43; refine (IsIn_any _ _ opsL _ _ (opsO_row w) (by decide)).mono ?_; rintro y w2 ⟨rfl, rfl⟩))
  go_ret
  exact ⟨by rw [← HE.out]; rfl, grow_alloc (grow_refl w) _⟩
theorem isOne2 (n : List UInt8) (w : World) : Calls Tryd.prog 27 #[.string (mkB n)] w fun e w' => e = .returned (.bool (oneV n 0).isSome) ∧ w' = w := by
  have HE : Hid ((oneV n 0).isSome = ((n == [45]) || (n == [33]))) := show _ = _ by
    unfold oneV
    cases (n == [45]) <;> cases (n == [33]) <;> rfl
  have e1 : ((mkB n).toList == [45]) = (n == [45]) := by rw [mkB_toList]
  have e2 : ((mkB n).toList == [33]) = (n == [33]) := by rw [mkB_toList]
  cases h1 : (n == [45]) <;> cases h2 : (n == [33])
  all_goals
    rw [h1] at e1 HE
    rw [h2] at e2 HE
    clear h1 h2
    go_enter Tryd.func27, Tryd.ntmps27
    go_wp2_with fail
    go_ret
    exact ⟨by rw [HE.out]; rfl, rfl⟩
end Go.Proofs.YtpmpeihcdiohmaaDoor

namespace Go.Proofs.YtpmpeihcdiohmaaDoor
open Go.RowKit

/-! the document's look at an instruction (printed by gen_alre.py) -/
set_option maxRecDepth 100000 in
theorem isReg_any (n : Int) (w : World) : Calls Tryd.prog 17 #[.int .i64 n] w fun e w' => e = .returned (.bool (regA n)) ∧ w' = w := by
  have HR : Hid (regA n = (decide (0 ≤ n) && decide (n < 8))) := show _ = _ from rfl
  rcases Classical.em (0 ≤ n) with h | h
  · rcases Classical.em (n < 8) with h' | h'
    · have H1 : Hid (regA n = true) := show _ = _ by rw [HR.out]; simp [h, h']
      go_enter Tryd.func17, Tryd.ntmps17
      go_wp2_with fail
      go_ret
      exact ⟨by rw [H1.out]; rfl, rfl⟩
    · have H1 : Hid (regA n = false) := show _ = _ by rw [HR.out]; simp [h']
      go_enter Tryd.func17, Tryd.ntmps17
      go_wp2_with fail
      go_ret
      exact ⟨by rw [H1.out]; rfl, rfl⟩
  · have H1 : Hid (regA n = false) := show _ = _ by rw [HR.out]; simp [h]
    go_enter Tryd.func17, Tryd.ntmps17
    go_wp2_with fail
    go_ret
    exact ⟨by rw [H1.out]; rfl, rfl⟩
theorem hasL_drop {l : List UInt8} {c : UInt8} {k : Nat} (h : k < l.length) : hasL (l.drop k) c = ((c == l[k]) || hasL (l.drop (k + 1)) c) := by
  unfold hasL; rw [List.drop_eq_getElem_cons h, List.contains_cons]
set_option maxRecDepth 100000 in
theorem isOf_any (l : List UInt8) (hl : l.length ≤ 1000) (c : UInt8) (w : World) : Calls Tryd.prog 29 #[.string (mkB l), .int .u8 (c.toNat : Int)] w fun e w' => e = .returned (.bool (hasL l c)) ∧ w' = w := by
  have hsz : (mkB l).size = l.length := rfl
  go_enter Tryd.func29, Tryd.ntmps29
  go_wp2_with fail
  go_loop [5] (fun i => ∃ k : Nat, k ≤ l.length ∧ i = .int .i64 k ∧ hasL l c = hasL (l.drop k) c) (fun i => l.length - (intOf i).toNat)
  case atStart => exact ⟨0, Nat.zero_le _, rfl, rfl⟩
  case round =>
    obtain ⟨k, hk, rfl, hI⟩ := hrel
    have HI := Lib.hid hI
    clear hI
    by_cases hlt : k < l.length
    · have hlt' : (k : Int) < (l.length : Int) := by omega
      have hk0 : (0 : Int) ≤ (k : Int) := by omega
      obtain ⟨y, hy⟩ : ∃ y, l[k] = y := ⟨_, rfl⟩
      have HS : Hid (hasL (l.drop k) c = ((c == y) || hasL (l.drop (k + 1)) c)) := show _ = _ by rw [← hy]; exact hasL_drop hlt
      have hk2 : k < (mkB l).size := hlt
      have hat : (mkB l)[k] = y := hy
      have hcc : (((mkB l)[k].toNat : Int) == (c.toNat : Int)) = (c == y) := by
        rw [hat]
        by_cases he : c = y
        · rw [← he]; simp
        · rw [beq_eq_false_iff_ne.2 he]
          exact beq_eq_false_iff_ne.2 fun e => he (UInt8.toNat_inj.1 (by omega))
      clear hat hy
      cases hq : (c == y)
      · rw [hq] at hcc HS
        have HN : Hid (hasL l c = hasL (l.drop (k + 1)) c) := show _ = _ from HI.out.trans HS.out
        clear hq
        go_wp2_with fail
        go_round
        case rel => exact ⟨k + 1, by omega, by go_num, HN.out⟩
        case measure => simp [intOf]; omega
      · rw [hq] at hcc HS
        have HN : Hid (hasL l c = true) := show _ = _ from HI.out.trans HS.out
        clear hq
        go_wp2_with fail
        go_ret
        exact ⟨by rw [HN.out]; rfl, rfl⟩
    · have hk' : k = l.length := by omega
      have HN : Hid (hasL l c = false) := show _ = _ by rw [HI.out, hk', List.drop_length]; rfl
      subst hk'
      go_wp2_with fail
      go_ret
      exact ⟨by rw [HN.out]; rfl, rfl⟩
theorem kHasR_len (k : List UInt8) : (kHasR (kindN k)).length ≤ 1000 := by
  have hk := kind_lt k
  generalize kindN k = n at hk
  have : n = 0 ∨ n = 1 ∨ n = 2 ∨ n = 3 ∨ n = 4 ∨ n = 5 ∨ n = 6 ∨ n = 7 ∨ n = 8 ∨ n = 9 ∨ n = 10 ∨ n = 11 := by omega
  rcases this with rfl | rfl | rfl | rfl | rfl | rfl | rfl | rfl | rfl | rfl | rfl | rfl <;> decide
theorem kHasR_eq (k : List UInt8) (c : UInt8) (hc : c = 100 ∨ c = 97 ∨ c = 98 ∨ c = 110 ∨ c = 115) : hasL (kHasR (kindN k)) c = hasL (kHas (kindN k)) c := by
  have hk := kind_lt k
  generalize kindN k = n at hk
  have : n = 0 ∨ n = 1 ∨ n = 2 ∨ n = 3 ∨ n = 4 ∨ n = 5 ∨ n = 6 ∨ n = 7 ∨ n = 8 ∨ n = 9 ∨ n = 10 ∨ n = 11 := by omega
  rcases this with rfl | rfl | rfl | rfl | rfl | rfl | rfl | rfl | rfl | rfl | rfl | rfl <;> rcases hc with rfl | rfl | rfl | rfl | rfl <;> rfl
def lowE (c : PCd) (x : PLow) (t : Nat) : Nat := if t = 0 then (if lowKnown x then 0 else 4) else if t = 1 then (if lowWithin c x then 0 else 2) else (if lowBare x then 0 else 3)

set_option maxHeartbeats 8000000 in
set_option maxRecDepth 100000 in
theorem low0_any (c : PCd) (A : Option Addr) (ca : Nat) (x : PLow) (w : World) : Calls Tryd.prog 18 #[cdV c A ca, lowV x, .int .i64 0] w (Ret (.int .i64 (lowE c x 0 : Nat)) w) := by
  obtain ⟨wC, hwC⟩ : ∃ wC, w.alloc (.cells #[.string (mkB c.name), .int .i64 c.params, .int .i64 c.slots, .slice A c.blocks.length ca] 24) = wC := ⟨_, rfl⟩
  obtain ⟨wL, hwL⟩ : ∃ wL, wC.alloc (.cells #[.string (mkB x.kind), .int .i64 x.d, .int .i64 x.a, .int .i64 x.b, .int .i64 x.num, .string (mkB x.name)] 60) = wL := ⟨_, rfl⟩
  have hbC : Below w.heap.size w wC := by rw [← hwC]; exact grow_alloc (grow_refl w) _
  have hbL : Below wC.heap.size wC wL := by rw [← hwL]; exact grow_alloc (grow_refl wC) _
  have hmC : wC.heap[w.heap.size]? = some (.cells #[.string (mkB c.name), .int .i64 c.params, .int .i64 c.slots, .slice A c.blocks.length ca] 24 (0, 0)) := by rw [← hwC]; exact heap_alloc_new w _
  have hsz : wC.heap.size = w.heap.size + 1 := by rw [← hwC]; simp
  have hmL : wL.heap[w.heap.size + 1]? = some (.cells #[.string (mkB x.kind), .int .i64 x.d, .int .i64 x.a, .int .i64 x.b, .int .i64 x.num, .string (mkB x.name)] 60 (0, 0)) := by rw [← hwL, ← hsz]; exact heap_alloc_new wC _
  have hmC2 := (hbL.block _ (Array.getElem?_eq_some_iff.1 hmC).1).trans hmC
  have HX : Hid (∀ w', Below wL.heap.size wL w' → (w'.cell? ⟨w.heap.size, 0, none⟩ = some (.string (mkB c.name)) ∧ w'.cell? ⟨w.heap.size, 1, none⟩ = some (.int .i64 c.params) ∧ w'.cell? ⟨w.heap.size, 2, none⟩ = some (.int .i64 c.slots) ∧ w'.cell? ⟨w.heap.size, 3, none⟩ = some (.slice A c.blocks.length ca)) ∧
      (w'.cell? ⟨w.heap.size + 1, 0, none⟩ = some (.string (mkB x.kind)) ∧ w'.cell? ⟨w.heap.size + 1, 1, none⟩ = some (.int .i64 x.d) ∧ w'.cell? ⟨w.heap.size + 1, 2, none⟩ = some (.int .i64 x.a) ∧ w'.cell? ⟨w.heap.size + 1, 3, none⟩ = some (.int .i64 x.b) ∧ w'.cell? ⟨w.heap.size + 1, 4, none⟩ = some (.int .i64 x.num) ∧ w'.cell? ⟨w.heap.size + 1, 5, none⟩ = some (.string (mkB x.name))) ∧ Below w.heap.size w w') := fun w' hb =>
    ⟨row4A ((hb.block _ (Array.getElem?_eq_some_iff.1 hmC2).1).trans hmC2), row6A ((hb.block _ (Array.getElem?_eq_some_iff.1 hmL).1).trans hmL), grow_trans (grow_trans hbC hbL) hb⟩
  have HWC := Lib.hid hwC
  have HWL := Lib.hid hwL
  have HSZ := Lib.hid hsz
  obtain ⟨⟨i0, i1, i2, i3⟩, ⟨l0, l1, l2, l3, l4, l5⟩, -⟩ := HX.out wL (grow_refl _)
  clear hwC hwL hbC hbL hmC hmL hmC2 hsz
  obtain ⟨n, hn⟩ : ∃ n, kindN x.kind = n := ⟨_, rfl⟩
  have hk := kind_of hn
  have e4 : ((mkB x.kind).toList == [111, 110, 101]) = (n == 4) := by rw [mkB_toList]; exact hk.2.2.2.1
  have e5 : ((mkB x.kind).toList == [116, 119, 111]) = (n == 5) := by rw [mkB_toList]; exact hk.2.2.2.2.1
  obtain ⟨F, hF⟩ : ∃ F, kHasR (kindN x.kind) = F := ⟨_, rfl⟩
  have e0 : ((mkB F).toList == []) = (n == 0) := by
    rw [mkB_toList, ← hF, hn]
    have h11 := kind_lt x.kind
    rw [hn] at h11
    have : n = 0 ∨ n = 1 ∨ n = 2 ∨ n = 3 ∨ n = 4 ∨ n = 5 ∨ n = 6 ∨ n = 7 ∨ n = 8 ∨ n = 9 ∨ n = 10 ∨ n = 11 := by omega
    rcases this with rfl | rfl | rfl | rfl | rfl | rfl | rfl | rfl | rfl | rfl | rfl | rfl <;> rfl
  obtain ⟨io, hio⟩ : ∃ b, (oneV x.name 0).isSome = b := ⟨_, rfl⟩
  obtain ⟨it, hit⟩ : ∃ b, (doV x.name 0 0).isSome = b := ⟨_, rfl⟩
  have HEQ : Hid (lowE c x 0 = if (if n = 4 then io else if n = 5 then it else n != 0) then 0 else 4) := show _ = _ by unfold lowE lowKnown; rw [hn, hio, hit]; rfl
  have HH : Hid (∀ w', Calls Tryd.prog 26 #[.string (mkB x.kind)] w' (Ret (.string (mkB F)) w')) := fun w' => by
    have := hasOf_any x.kind w'
    rwa [hF] at this
  have HONE : Hid (∀ w', Calls Tryd.prog 27 #[.string (mkB x.name)] w' fun e w'' => e = .returned (.bool io) ∧ w'' = w') := fun w' => hio ▸ isOne2 x.name w'
  have HTWO : Hid (∀ w', Calls Tryd.prog 28 #[.string (mkB x.name)] w' (Ret (.bool it) w')) := fun w' => hit ▸ isTwo2 x.name w'
  have hbw : Below wL.heap.size wL wL := grow_refl wL
  unfold cdV lowV
  clear hn hk hF hio hit
  by_cases h0 : n = 0
  · subst h0
    go_enter Tryd.func18, Tryd.ntmps18
    go_upto_region 1 with fail
    change Code.wp _ _ _ _ ((w.alloc (.cells #[.string (mkB c.name), .int .i64 c.params, .int .i64 c.slots, .slice A c.blocks.length ca] 24)).alloc (.cells #[.string (mkB x.kind), .int .i64 x.d, .int .i64 x.a, .int .i64 x.b, .int .i64 x.num, .string (mkB x.name)] 60))
    rw [HWC.out]
    rw [HWL.out]
    try rw [HSZ.out]
    go_wp2_with (first
      | (go_at_call 26; (with_reducible refine (HH.out _).mono ?_); rintro y w1 ⟨rfl, hb1⟩; replace hbw := grow_trans hbw hb1; clear hb1; obtain ⟨⟨i0, i1, i2, i3⟩, ⟨l0, l1, l2, l3, l4, l5⟩, -⟩ := HX.out _ hbw)
      | (go_at_call 27; (with_reducible refine (HONE.out _).mono ?_); rintro y w1 ⟨rfl, rfl⟩)
      | (go_at_call 28; (with_reducible refine (HTWO.out _).mono ?_); rintro y w1 ⟨rfl, hb1⟩; replace hbw := grow_trans hbw hb1; clear hb1; obtain ⟨⟨i0, i1, i2, i3⟩, ⟨l0, l1, l2, l3, l4, l5⟩, -⟩ := HX.out _ hbw))
    go_ret
    exact ⟨by rw [HEQ.out]; rfl, (HX.out _ hbw).2.2⟩
  · rw [show (n == 0) = false from beq_eq_false_iff_ne.2 h0] at e0
    by_cases h4 : n = 4
    · subst h4
      cases io
      · skip
        go_enter Tryd.func18, Tryd.ntmps18
        go_upto_region 1 with fail
        change Code.wp _ _ _ _ ((w.alloc (.cells #[.string (mkB c.name), .int .i64 c.params, .int .i64 c.slots, .slice A c.blocks.length ca] 24)).alloc (.cells #[.string (mkB x.kind), .int .i64 x.d, .int .i64 x.a, .int .i64 x.b, .int .i64 x.num, .string (mkB x.name)] 60))
        rw [HWC.out]
        rw [HWL.out]
        try rw [HSZ.out]
        go_wp2_with (first
          | (go_at_call 26; (with_reducible refine (HH.out _).mono ?_); rintro y w1 ⟨rfl, hb1⟩; replace hbw := grow_trans hbw hb1; clear hb1; obtain ⟨⟨i0, i1, i2, i3⟩, ⟨l0, l1, l2, l3, l4, l5⟩, -⟩ := HX.out _ hbw)
          | (go_at_call 27; (with_reducible refine (HONE.out _).mono ?_); rintro y w1 ⟨rfl, rfl⟩)
          | (go_at_call 28; (with_reducible refine (HTWO.out _).mono ?_); rintro y w1 ⟨rfl, hb1⟩; replace hbw := grow_trans hbw hb1; clear hb1; obtain ⟨⟨i0, i1, i2, i3⟩, ⟨l0, l1, l2, l3, l4, l5⟩, -⟩ := HX.out _ hbw))
        go_ret
        exact ⟨by rw [HEQ.out]; rfl, (HX.out _ hbw).2.2⟩
      · skip
        go_enter Tryd.func18, Tryd.ntmps18
        go_upto_region 1 with fail
        change Code.wp _ _ _ _ ((w.alloc (.cells #[.string (mkB c.name), .int .i64 c.params, .int .i64 c.slots, .slice A c.blocks.length ca] 24)).alloc (.cells #[.string (mkB x.kind), .int .i64 x.d, .int .i64 x.a, .int .i64 x.b, .int .i64 x.num, .string (mkB x.name)] 60))
        rw [HWC.out]
        rw [HWL.out]
        try rw [HSZ.out]
        go_wp2_with (first
          | (go_at_call 26; (with_reducible refine (HH.out _).mono ?_); rintro y w1 ⟨rfl, hb1⟩; replace hbw := grow_trans hbw hb1; clear hb1; obtain ⟨⟨i0, i1, i2, i3⟩, ⟨l0, l1, l2, l3, l4, l5⟩, -⟩ := HX.out _ hbw)
          | (go_at_call 27; (with_reducible refine (HONE.out _).mono ?_); rintro y w1 ⟨rfl, rfl⟩)
          | (go_at_call 28; (with_reducible refine (HTWO.out _).mono ?_); rintro y w1 ⟨rfl, hb1⟩; replace hbw := grow_trans hbw hb1; clear hb1; obtain ⟨⟨i0, i1, i2, i3⟩, ⟨l0, l1, l2, l3, l4, l5⟩, -⟩ := HX.out _ hbw))
        go_ret
        exact ⟨by rw [HEQ.out]; rfl, (HX.out _ hbw).2.2⟩
    · rw [show (n == 4) = false from beq_eq_false_iff_ne.2 h4] at e4
      by_cases h5 : n = 5
      · subst h5
        cases it
        · skip
          go_enter Tryd.func18, Tryd.ntmps18
          go_upto_region 1 with fail
          change Code.wp _ _ _ _ ((w.alloc (.cells #[.string (mkB c.name), .int .i64 c.params, .int .i64 c.slots, .slice A c.blocks.length ca] 24)).alloc (.cells #[.string (mkB x.kind), .int .i64 x.d, .int .i64 x.a, .int .i64 x.b, .int .i64 x.num, .string (mkB x.name)] 60))
          rw [HWC.out]
          rw [HWL.out]
          try rw [HSZ.out]
          go_wp2_with (first
            | (go_at_call 26; (with_reducible refine (HH.out _).mono ?_); rintro y w1 ⟨rfl, hb1⟩; replace hbw := grow_trans hbw hb1; clear hb1; obtain ⟨⟨i0, i1, i2, i3⟩, ⟨l0, l1, l2, l3, l4, l5⟩, -⟩ := HX.out _ hbw)
            | (go_at_call 27; (with_reducible refine (HONE.out _).mono ?_); rintro y w1 ⟨rfl, rfl⟩)
            | (go_at_call 28; (with_reducible refine (HTWO.out _).mono ?_); rintro y w1 ⟨rfl, hb1⟩; replace hbw := grow_trans hbw hb1; clear hb1; obtain ⟨⟨i0, i1, i2, i3⟩, ⟨l0, l1, l2, l3, l4, l5⟩, -⟩ := HX.out _ hbw))
          go_ret
          exact ⟨by rw [HEQ.out]; rfl, (HX.out _ hbw).2.2⟩
        · skip
          go_enter Tryd.func18, Tryd.ntmps18
          go_upto_region 1 with fail
          change Code.wp _ _ _ _ ((w.alloc (.cells #[.string (mkB c.name), .int .i64 c.params, .int .i64 c.slots, .slice A c.blocks.length ca] 24)).alloc (.cells #[.string (mkB x.kind), .int .i64 x.d, .int .i64 x.a, .int .i64 x.b, .int .i64 x.num, .string (mkB x.name)] 60))
          rw [HWC.out]
          rw [HWL.out]
          try rw [HSZ.out]
          go_wp2_with (first
            | (go_at_call 26; (with_reducible refine (HH.out _).mono ?_); rintro y w1 ⟨rfl, hb1⟩; replace hbw := grow_trans hbw hb1; clear hb1; obtain ⟨⟨i0, i1, i2, i3⟩, ⟨l0, l1, l2, l3, l4, l5⟩, -⟩ := HX.out _ hbw)
            | (go_at_call 27; (with_reducible refine (HONE.out _).mono ?_); rintro y w1 ⟨rfl, rfl⟩)
            | (go_at_call 28; (with_reducible refine (HTWO.out _).mono ?_); rintro y w1 ⟨rfl, hb1⟩; replace hbw := grow_trans hbw hb1; clear hb1; obtain ⟨⟨i0, i1, i2, i3⟩, ⟨l0, l1, l2, l3, l4, l5⟩, -⟩ := HX.out _ hbw))
          go_ret
          exact ⟨by rw [HEQ.out]; rfl, (HX.out _ hbw).2.2⟩
      · rw [show (n == 5) = false from beq_eq_false_iff_ne.2 h5] at e5
        have HEQ2 : Hid (lowE c x 0 = 0) := show _ = _ by rw [HEQ.out, if_neg h4, if_neg h5, show (n != 0) = true from bne_iff_ne.2 h0]; rfl
        go_enter Tryd.func18, Tryd.ntmps18
        go_upto_region 1 with fail
        change Code.wp _ _ _ _ ((w.alloc (.cells #[.string (mkB c.name), .int .i64 c.params, .int .i64 c.slots, .slice A c.blocks.length ca] 24)).alloc (.cells #[.string (mkB x.kind), .int .i64 x.d, .int .i64 x.a, .int .i64 x.b, .int .i64 x.num, .string (mkB x.name)] 60))
        rw [HWC.out]
        rw [HWL.out]
        try rw [HSZ.out]
        go_wp2_with (first
          | (go_at_call 26; (with_reducible refine (HH.out _).mono ?_); rintro y w1 ⟨rfl, hb1⟩; replace hbw := grow_trans hbw hb1; clear hb1; obtain ⟨⟨i0, i1, i2, i3⟩, ⟨l0, l1, l2, l3, l4, l5⟩, -⟩ := HX.out _ hbw)
          | (go_at_call 27; (with_reducible refine (HONE.out _).mono ?_); rintro y w1 ⟨rfl, rfl⟩)
          | (go_at_call 28; (with_reducible refine (HTWO.out _).mono ?_); rintro y w1 ⟨rfl, hb1⟩; replace hbw := grow_trans hbw hb1; clear hb1; obtain ⟨⟨i0, i1, i2, i3⟩, ⟨l0, l1, l2, l3, l4, l5⟩, -⟩ := HX.out _ hbw))
        go_ret
        exact ⟨by rw [HEQ2.out]; rfl, (HX.out _ hbw).2.2⟩
set_option maxHeartbeats 8000000 in
set_option maxRecDepth 100000 in
theorem low1_any (c : PCd) (A : Option Addr) (ca : Nat) (x : PLow) (w : World) : Calls Tryd.prog 18 #[cdV c A ca, lowV x, .int .i64 1] w (Ret (.int .i64 (lowE c x 1 : Nat)) w) := by
  obtain ⟨wC, hwC⟩ : ∃ wC, w.alloc (.cells #[.string (mkB c.name), .int .i64 c.params, .int .i64 c.slots, .slice A c.blocks.length ca] 24) = wC := ⟨_, rfl⟩
  obtain ⟨wL, hwL⟩ : ∃ wL, wC.alloc (.cells #[.string (mkB x.kind), .int .i64 x.d, .int .i64 x.a, .int .i64 x.b, .int .i64 x.num, .string (mkB x.name)] 60) = wL := ⟨_, rfl⟩
  have hbC : Below w.heap.size w wC := by rw [← hwC]; exact grow_alloc (grow_refl w) _
  have hbL : Below wC.heap.size wC wL := by rw [← hwL]; exact grow_alloc (grow_refl wC) _
  have hmC : wC.heap[w.heap.size]? = some (.cells #[.string (mkB c.name), .int .i64 c.params, .int .i64 c.slots, .slice A c.blocks.length ca] 24 (0, 0)) := by rw [← hwC]; exact heap_alloc_new w _
  have hsz : wC.heap.size = w.heap.size + 1 := by rw [← hwC]; simp
  have hmL : wL.heap[w.heap.size + 1]? = some (.cells #[.string (mkB x.kind), .int .i64 x.d, .int .i64 x.a, .int .i64 x.b, .int .i64 x.num, .string (mkB x.name)] 60 (0, 0)) := by rw [← hwL, ← hsz]; exact heap_alloc_new wC _
  have hmC2 := (hbL.block _ (Array.getElem?_eq_some_iff.1 hmC).1).trans hmC
  have HX : Hid (∀ w', Below wL.heap.size wL w' → (w'.cell? ⟨w.heap.size, 0, none⟩ = some (.string (mkB c.name)) ∧ w'.cell? ⟨w.heap.size, 1, none⟩ = some (.int .i64 c.params) ∧ w'.cell? ⟨w.heap.size, 2, none⟩ = some (.int .i64 c.slots) ∧ w'.cell? ⟨w.heap.size, 3, none⟩ = some (.slice A c.blocks.length ca)) ∧
      (w'.cell? ⟨w.heap.size + 1, 0, none⟩ = some (.string (mkB x.kind)) ∧ w'.cell? ⟨w.heap.size + 1, 1, none⟩ = some (.int .i64 x.d) ∧ w'.cell? ⟨w.heap.size + 1, 2, none⟩ = some (.int .i64 x.a) ∧ w'.cell? ⟨w.heap.size + 1, 3, none⟩ = some (.int .i64 x.b) ∧ w'.cell? ⟨w.heap.size + 1, 4, none⟩ = some (.int .i64 x.num) ∧ w'.cell? ⟨w.heap.size + 1, 5, none⟩ = some (.string (mkB x.name))) ∧ Below w.heap.size w w') := fun w' hb =>
    ⟨row4A ((hb.block _ (Array.getElem?_eq_some_iff.1 hmC2).1).trans hmC2), row6A ((hb.block _ (Array.getElem?_eq_some_iff.1 hmL).1).trans hmL), grow_trans (grow_trans hbC hbL) hb⟩
  have HWC := Lib.hid hwC
  have HWL := Lib.hid hwL
  have HSZ := Lib.hid hsz
  obtain ⟨⟨i0, i1, i2, i3⟩, ⟨l0, l1, l2, l3, l4, l5⟩, -⟩ := HX.out wL (grow_refl _)
  clear hwC hwL hbC hbL hmC hmL hmC2 hsz
  obtain ⟨F, hF⟩ : ∃ F, kHasR (kindN x.kind) = F := ⟨_, rfl⟩
  obtain ⟨hd, hhd⟩ : ∃ b, lowHas x 100 = b := ⟨_, rfl⟩
  obtain ⟨ha, hha⟩ : ∃ b, lowHas x 97 = b := ⟨_, rfl⟩
  obtain ⟨hb, hhb⟩ : ∃ b, lowHas x 98 = b := ⟨_, rfl⟩
  obtain ⟨hn, hhn⟩ : ∃ b, lowHas x 110 = b := ⟨_, rfl⟩
  obtain ⟨hs, hhs⟩ : ∃ b, lowHas x 115 = b := ⟨_, rfl⟩
  have hlen : F.length ≤ 1000 := by rw [← hF]; exact kHasR_len x.kind
  have HH : Hid (∀ w', Calls Tryd.prog 26 #[.string (mkB x.kind)] w' (Ret (.string (mkB F)) w')) := fun w' => by
    have := hasOf_any x.kind w'
    rwa [hF] at this
  have HOd : Hid (∀ w', Calls Tryd.prog 29 #[.string (mkB F), .int .u8 100] w' fun e w'' => e = .returned (.bool hd) ∧ w'' = w') := fun w' => by
    have := isOf_any F hlen 100 w'
    rwa [show hasL F 100 = hd by rw [← hF, kHasR_eq x.kind 100 (by decide)]; exact hhd] at this
  have HOa : Hid (∀ w', Calls Tryd.prog 29 #[.string (mkB F), .int .u8 97] w' fun e w'' => e = .returned (.bool ha) ∧ w'' = w') := fun w' => by
    have := isOf_any F hlen 97 w'
    rwa [show hasL F 97 = ha by rw [← hF, kHasR_eq x.kind 97 (by decide)]; exact hha] at this
  have HOb : Hid (∀ w', Calls Tryd.prog 29 #[.string (mkB F), .int .u8 98] w' fun e w'' => e = .returned (.bool hb) ∧ w'' = w') := fun w' => by
    have := isOf_any F hlen 98 w'
    rwa [show hasL F 98 = hb by rw [← hF, kHasR_eq x.kind 98 (by decide)]; exact hhb] at this
  have HOn : Hid (∀ w', Calls Tryd.prog 29 #[.string (mkB F), .int .u8 110] w' fun e w'' => e = .returned (.bool hn) ∧ w'' = w') := fun w' => by
    have := isOf_any F hlen 110 w'
    rwa [show hasL F 110 = hn by rw [← hF, kHasR_eq x.kind 110 (by decide)]; exact hhn] at this
  have HOs : Hid (∀ w', Calls Tryd.prog 29 #[.string (mkB F), .int .u8 115] w' fun e w'' => e = .returned (.bool hs) ∧ w'' = w') := fun w' => by
    have := isOf_any F hlen 115 w'
    rwa [show hasL F 115 = hs by rw [← hF, kHasR_eq x.kind 115 (by decide)]; exact hhs] at this
  have hbw : Below wL.heap.size wL wL := grow_refl wL
  obtain ⟨rd, hrd⟩ : ∃ b, regA x.d = b := ⟨_, rfl⟩
  obtain ⟨ra, hra⟩ : ∃ b, regA x.a = b := ⟨_, rfl⟩
  obtain ⟨rb, hrb⟩ : ∃ b, regA x.b = b := ⟨_, rfl⟩
  obtain ⟨n, hn⟩ : ∃ n, kindN x.kind = n := ⟨_, rfl⟩
  have hk := kind_of hn
  have e1 : ((mkB x.kind).toList == [112, 97, 114, 97, 109]) = (n == 1) := by rw [mkB_toList]; exact hk.1
  have e3 : ((mkB x.kind).toList == [108, 111, 97, 100]) = (n == 3) := by rw [mkB_toList]; exact hk.2.2.1
  have e7 : ((mkB x.kind).toList == [115, 116, 111, 114, 101]) = (n == 7) := by rw [mkB_toList]; exact hk.2.2.2.2.2.2.1
  have e8 : ((mkB x.kind).toList == [97, 114, 103]) = (n == 8) := by rw [mkB_toList]; exact hk.2.2.2.2.2.2.2.1
  have e9 : ((mkB x.kind).toList == [99, 97, 108, 108]) = (n == 9) := by rw [mkB_toList]; exact hk.2.2.2.2.2.2.2.2.1
  have HN := Lib.hid (number_eq c x hn)
  have HEQ : Hid (lowWithin c x = (lowNumber c x && (!hd || rd) && (!ha || ra) && (!hb || rb))) := show _ = _ by unfold lowWithin; rw [hhd, hha, hhb, hrd, hra, hrb]
  have HE1 : Hid (lowE c x 1 = if lowWithin c x then 0 else 2) := show _ = _ from rfl
  have HRD : Hid (∀ w', Calls Tryd.prog 17 #[.int .i64 x.d] w' fun e w'' => e = .returned (.bool rd) ∧ w'' = w') := fun w' => hrd ▸ isReg_any x.d w'
  have HRA : Hid (∀ w', Calls Tryd.prog 17 #[.int .i64 x.a] w' fun e w'' => e = .returned (.bool ra) ∧ w'' = w') := fun w' => hra ▸ isReg_any x.a w'
  have HRB : Hid (∀ w', Calls Tryd.prog 17 #[.int .i64 x.b] w' fun e w'' => e = .returned (.bool rb) ∧ w'' = w') := fun w' => hrb ▸ isReg_any x.b w'
  unfold cdV lowV
  clear hn hk hF hrd hra hrb hhd hha hhb hhn hhs hlen
  go_enter Tryd.func18, Tryd.ntmps18
  go_upto_region 1 with fail
  change Code.wp _ _ _ _ ((w.alloc (.cells #[.string (mkB c.name), .int .i64 c.params, .int .i64 c.slots, .slice A c.blocks.length ca] 24)).alloc (.cells #[.string (mkB x.kind), .int .i64 x.d, .int .i64 x.a, .int .i64 x.b, .int .i64 x.num, .string (mkB x.name)] 60))
  rw [HWC.out]
  rw [HWL.out]
  try rw [HSZ.out]
  go_upto_region 17 with (first
    | (go_at_call 26; (with_reducible refine (HH.out _).mono ?_); rintro y w1 ⟨rfl, hb1⟩; replace hbw := grow_trans hbw hb1; clear hb1; obtain ⟨⟨i0, i1, i2, i3⟩, ⟨l0, l1, l2, l3, l4, l5⟩, -⟩ := HX.out _ hbw)
    | (go_at_call 29; (with_reducible refine (HOd.out _).mono ?_); rintro y w1 ⟨rfl, rfl⟩)
    | (go_at_call 29; (with_reducible refine (HOa.out _).mono ?_); rintro y w1 ⟨rfl, rfl⟩)
    | (go_at_call 29; (with_reducible refine (HOb.out _).mono ?_); rintro y w1 ⟨rfl, rfl⟩)
    | (go_at_call 29; (with_reducible refine (HOn.out _).mono ?_); rintro y w1 ⟨rfl, rfl⟩)
    | (go_at_call 29; (with_reducible refine (HOs.out _).mono ?_); rintro y w1 ⟨rfl, rfl⟩)
    | (go_at_call 17; (with_reducible refine (HRD.out _).mono ?_); rintro y w1 ⟨rfl, rfl⟩)
    | (go_at_call 17; (with_reducible refine (HRA.out _).mono ?_); rintro y w1 ⟨rfl, rfl⟩)
    | (go_at_call 17; (with_reducible refine (HRB.out _).mono ?_); rintro y w1 ⟨rfl, rfl⟩))
  obtain ⟨wk, hwk⟩ : ∃ wk, wk = w1 := ⟨_, rfl⟩
  rw [← hwk] at hbw
  rw [← hwk]
  clear hwk i0 i1 i2 i3 l0 l1 l2 l3 l4 l5
  go_cut [89] from 71 to 89 (fun v wx => v = .bool ((hd && !rd) || (ha && !ra) || (hb && !rb)) ∧ wk = wx)
  case first =>
    cases hd
    · skip
      cases ha
      · skip
        cases hb
        · skip
          go_wp2_with fail
          go_meet
          exact ⟨rfl, rfl⟩
        · cases rb
          · skip
            go_wp2_with fail
            go_meet
            exact ⟨rfl, rfl⟩
          · skip
            go_wp2_with fail
            go_meet
            exact ⟨rfl, rfl⟩
      · cases ra
        · skip
          go_wp2_with fail
          go_meet
          exact ⟨rfl, rfl⟩
        · skip
          cases hb
          · skip
            go_wp2_with fail
            go_meet
            exact ⟨rfl, rfl⟩
          · cases rb
            · skip
              go_wp2_with fail
              go_meet
              exact ⟨rfl, rfl⟩
            · skip
              go_wp2_with fail
              go_meet
              exact ⟨rfl, rfl⟩
    · cases rd
      · skip
        go_wp2_with fail
        go_meet
        exact ⟨rfl, rfl⟩
      · skip
        cases ha
        · skip
          cases hb
          · skip
            go_wp2_with fail
            go_meet
            exact ⟨rfl, rfl⟩
          · cases rb
            · skip
              go_wp2_with fail
              go_meet
              exact ⟨rfl, rfl⟩
            · skip
              go_wp2_with fail
              go_meet
              exact ⟨rfl, rfl⟩
        · cases ra
          · skip
            go_wp2_with fail
            go_meet
            exact ⟨rfl, rfl⟩
          · skip
            cases hb
            · skip
              go_wp2_with fail
              go_meet
              exact ⟨rfl, rfl⟩
            · cases rb
              · skip
                go_wp2_with fail
                go_meet
                exact ⟨rfl, rfl⟩
              · skip
                go_wp2_with fail
                go_meet
                exact ⟨rfl, rfl⟩
  case rest =>
    obtain ⟨rfl, rfl⟩ := hcut
    obtain ⟨⟨i0, i1, i2, i3⟩, ⟨l0, l1, l2, l3, l4, l5⟩, -⟩ := HX.out _ hbw
    obtain ⟨bad, hbad⟩ : ∃ z, ((hd && !rd) || (ha && !ra) || (hb && !rb)) = z := ⟨_, rfl⟩
    have HEB : Hid (lowWithin c x = (lowNumber c x && !bad)) := show _ = _ by
      rw [HEQ.out, ← hbad]
      cases hd <;> cases rd <;> cases ha <;> cases ra <;> cases hb <;> cases rb <;> simp
    rw [hbad]
    clear hbad
    cases bad
    · have HE2 : Hid (lowE c x 1 = if lowNumber c x then 0 else 2) := show _ = _ by rw [HE1.out, HEB.out]; simp
      by_cases g1 : n = 1
      · subst g1
        rcases Classical.em (x.num < 0) with q1 | q1
        · have HF : Hid (lowE c x 1 = 2) := show _ = _ by rw [HE2.out, HN.out]; simp [numIn]; omega
          go_wp2_with fail
          go_ret
          exact ⟨by rw [HF.out]; rfl, (HX.out _ hbw).2.2⟩
        · rcases Classical.em (c.params ≤ x.num) with q2 | q2
          · have HF : Hid (lowE c x 1 = 2) := show _ = _ by rw [HE2.out, HN.out]; simp [numIn]; omega
            go_wp2_with fail
            go_ret
            exact ⟨by rw [HF.out]; rfl, (HX.out _ hbw).2.2⟩
          · have HF : Hid (lowE c x 1 = 0) := show _ = _ by rw [HE2.out, HN.out]; simp [numIn]; omega
            go_wp2_with fail
            go_ret
            exact ⟨by rw [HF.out]; rfl, (HX.out _ hbw).2.2⟩
      · rw [show (n == 1) = false from beq_eq_false_iff_ne.2 g1] at e1
        by_cases g3 : n = 3
        · subst g3
          rcases Classical.em (x.num < 0) with q1 | q1
          · have HF : Hid (lowE c x 1 = 2) := show _ = _ by rw [HE2.out, HN.out]; simp [numIn]; omega
            go_wp2_with fail
            go_ret
            exact ⟨by rw [HF.out]; rfl, (HX.out _ hbw).2.2⟩
          · rcases Classical.em (c.slots ≤ x.num) with q2 | q2
            · have HF : Hid (lowE c x 1 = 2) := show _ = _ by rw [HE2.out, HN.out]; simp [numIn]; omega
              go_wp2_with fail
              go_ret
              exact ⟨by rw [HF.out]; rfl, (HX.out _ hbw).2.2⟩
            · have HF : Hid (lowE c x 1 = 0) := show _ = _ by rw [HE2.out, HN.out]; simp [numIn]; omega
              go_wp2_with fail
              go_ret
              exact ⟨by rw [HF.out]; rfl, (HX.out _ hbw).2.2⟩
        · rw [show (n == 3) = false from beq_eq_false_iff_ne.2 g3] at e3
          by_cases g7 : n = 7
          · subst g7
            rcases Classical.em (x.num < 0) with q1 | q1
            · have HF : Hid (lowE c x 1 = 2) := show _ = _ by rw [HE2.out, HN.out]; simp [numIn]; omega
              go_wp2_with fail
              go_ret
              exact ⟨by rw [HF.out]; rfl, (HX.out _ hbw).2.2⟩
            · rcases Classical.em (c.slots ≤ x.num) with q2 | q2
              · have HF : Hid (lowE c x 1 = 2) := show _ = _ by rw [HE2.out, HN.out]; simp [numIn]; omega
                go_wp2_with fail
                go_ret
                exact ⟨by rw [HF.out]; rfl, (HX.out _ hbw).2.2⟩
              · have HF : Hid (lowE c x 1 = 0) := show _ = _ by rw [HE2.out, HN.out]; simp [numIn]; omega
                go_wp2_with fail
                go_ret
                exact ⟨by rw [HF.out]; rfl, (HX.out _ hbw).2.2⟩
          · rw [show (n == 7) = false from beq_eq_false_iff_ne.2 g7] at e7
            by_cases g8 : n = 8
            · subst g8
              rcases Classical.em (x.num < 0) with q1 | q1
              · have HF : Hid (lowE c x 1 = 2) := show _ = _ by rw [HE2.out, HN.out]; simp [numIn]; omega
                go_wp2_with fail
                go_ret
                exact ⟨by rw [HF.out]; rfl, (HX.out _ hbw).2.2⟩
              · rcases Classical.em (4 ≤ x.num) with q2 | q2
                · have HF : Hid (lowE c x 1 = 2) := show _ = _ by rw [HE2.out, HN.out]; simp [numIn]; omega
                  go_wp2_with fail
                  go_ret
                  exact ⟨by rw [HF.out]; rfl, (HX.out _ hbw).2.2⟩
                · have HF : Hid (lowE c x 1 = 0) := show _ = _ by rw [HE2.out, HN.out]; simp [numIn]; omega
                  go_wp2_with fail
                  go_ret
                  exact ⟨by rw [HF.out]; rfl, (HX.out _ hbw).2.2⟩
            · rw [show (n == 8) = false from beq_eq_false_iff_ne.2 g8] at e8
              by_cases g9 : n = 9
              · subst g9
                rcases Classical.em (x.num < 0) with q1 | q1
                · have HF : Hid (lowE c x 1 = 2) := show _ = _ by rw [HE2.out, HN.out]; simp [numIn]; omega
                  go_wp2_with fail
                  go_ret
                  exact ⟨by rw [HF.out]; rfl, (HX.out _ hbw).2.2⟩
                · rcases Classical.em (5 ≤ x.num) with q2 | q2
                  · have HF : Hid (lowE c x 1 = 2) := show _ = _ by rw [HE2.out, HN.out]; simp [numIn]; omega
                    go_wp2_with fail
                    go_ret
                    exact ⟨by rw [HF.out]; rfl, (HX.out _ hbw).2.2⟩
                  · have HF : Hid (lowE c x 1 = 0) := show _ = _ by rw [HE2.out, HN.out]; simp [numIn]; omega
                    go_wp2_with fail
                    go_ret
                    exact ⟨by rw [HF.out]; rfl, (HX.out _ hbw).2.2⟩
              · rw [show (n == 9) = false from beq_eq_false_iff_ne.2 g9] at e9
                have HF : Hid (lowE c x 1 = 0) := show _ = _ by rw [HE2.out, HN.out]; simp [g1, g3, g7, g8, g9]
                go_wp2_with fail
                go_ret
                exact ⟨by rw [HF.out]; rfl, (HX.out _ hbw).2.2⟩
    · have HF : Hid (lowE c x 1 = 2) := show _ = _ by rw [HE1.out, HEB.out]; simp
      go_wp2_with fail
      go_ret
      exact ⟨by rw [HF.out]; rfl, (HX.out _ hbw).2.2⟩
set_option maxHeartbeats 8000000 in
set_option maxRecDepth 100000 in
theorem low2_any (c : PCd) (A : Option Addr) (ca : Nat) (x : PLow) (w : World) : Calls Tryd.prog 18 #[cdV c A ca, lowV x, .int .i64 2] w (Ret (.int .i64 (lowE c x 2 : Nat)) w) := by
  obtain ⟨wC, hwC⟩ : ∃ wC, w.alloc (.cells #[.string (mkB c.name), .int .i64 c.params, .int .i64 c.slots, .slice A c.blocks.length ca] 24) = wC := ⟨_, rfl⟩
  obtain ⟨wL, hwL⟩ : ∃ wL, wC.alloc (.cells #[.string (mkB x.kind), .int .i64 x.d, .int .i64 x.a, .int .i64 x.b, .int .i64 x.num, .string (mkB x.name)] 60) = wL := ⟨_, rfl⟩
  have hbC : Below w.heap.size w wC := by rw [← hwC]; exact grow_alloc (grow_refl w) _
  have hbL : Below wC.heap.size wC wL := by rw [← hwL]; exact grow_alloc (grow_refl wC) _
  have hmC : wC.heap[w.heap.size]? = some (.cells #[.string (mkB c.name), .int .i64 c.params, .int .i64 c.slots, .slice A c.blocks.length ca] 24 (0, 0)) := by rw [← hwC]; exact heap_alloc_new w _
  have hsz : wC.heap.size = w.heap.size + 1 := by rw [← hwC]; simp
  have hmL : wL.heap[w.heap.size + 1]? = some (.cells #[.string (mkB x.kind), .int .i64 x.d, .int .i64 x.a, .int .i64 x.b, .int .i64 x.num, .string (mkB x.name)] 60 (0, 0)) := by rw [← hwL, ← hsz]; exact heap_alloc_new wC _
  have hmC2 := (hbL.block _ (Array.getElem?_eq_some_iff.1 hmC).1).trans hmC
  have HX : Hid (∀ w', Below wL.heap.size wL w' → (w'.cell? ⟨w.heap.size, 0, none⟩ = some (.string (mkB c.name)) ∧ w'.cell? ⟨w.heap.size, 1, none⟩ = some (.int .i64 c.params) ∧ w'.cell? ⟨w.heap.size, 2, none⟩ = some (.int .i64 c.slots) ∧ w'.cell? ⟨w.heap.size, 3, none⟩ = some (.slice A c.blocks.length ca)) ∧
      (w'.cell? ⟨w.heap.size + 1, 0, none⟩ = some (.string (mkB x.kind)) ∧ w'.cell? ⟨w.heap.size + 1, 1, none⟩ = some (.int .i64 x.d) ∧ w'.cell? ⟨w.heap.size + 1, 2, none⟩ = some (.int .i64 x.a) ∧ w'.cell? ⟨w.heap.size + 1, 3, none⟩ = some (.int .i64 x.b) ∧ w'.cell? ⟨w.heap.size + 1, 4, none⟩ = some (.int .i64 x.num) ∧ w'.cell? ⟨w.heap.size + 1, 5, none⟩ = some (.string (mkB x.name))) ∧ Below w.heap.size w w') := fun w' hb =>
    ⟨row4A ((hb.block _ (Array.getElem?_eq_some_iff.1 hmC2).1).trans hmC2), row6A ((hb.block _ (Array.getElem?_eq_some_iff.1 hmL).1).trans hmL), grow_trans (grow_trans hbC hbL) hb⟩
  have HWC := Lib.hid hwC
  have HWL := Lib.hid hwL
  have HSZ := Lib.hid hsz
  obtain ⟨⟨i0, i1, i2, i3⟩, ⟨l0, l1, l2, l3, l4, l5⟩, -⟩ := HX.out wL (grow_refl _)
  clear hwC hwL hbC hbL hmC hmL hmC2 hsz
  obtain ⟨F, hF⟩ : ∃ F, kHasR (kindN x.kind) = F := ⟨_, rfl⟩
  obtain ⟨hd, hhd⟩ : ∃ b, lowHas x 100 = b := ⟨_, rfl⟩
  obtain ⟨ha, hha⟩ : ∃ b, lowHas x 97 = b := ⟨_, rfl⟩
  obtain ⟨hb, hhb⟩ : ∃ b, lowHas x 98 = b := ⟨_, rfl⟩
  obtain ⟨hn, hhn⟩ : ∃ b, lowHas x 110 = b := ⟨_, rfl⟩
  obtain ⟨hs, hhs⟩ : ∃ b, lowHas x 115 = b := ⟨_, rfl⟩
  have hlen : F.length ≤ 1000 := by rw [← hF]; exact kHasR_len x.kind
  have HH : Hid (∀ w', Calls Tryd.prog 26 #[.string (mkB x.kind)] w' (Ret (.string (mkB F)) w')) := fun w' => by
    have := hasOf_any x.kind w'
    rwa [hF] at this
  have HOd : Hid (∀ w', Calls Tryd.prog 29 #[.string (mkB F), .int .u8 100] w' fun e w'' => e = .returned (.bool hd) ∧ w'' = w') := fun w' => by
    have := isOf_any F hlen 100 w'
    rwa [show hasL F 100 = hd by rw [← hF, kHasR_eq x.kind 100 (by decide)]; exact hhd] at this
  have HOa : Hid (∀ w', Calls Tryd.prog 29 #[.string (mkB F), .int .u8 97] w' fun e w'' => e = .returned (.bool ha) ∧ w'' = w') := fun w' => by
    have := isOf_any F hlen 97 w'
    rwa [show hasL F 97 = ha by rw [← hF, kHasR_eq x.kind 97 (by decide)]; exact hha] at this
  have HOb : Hid (∀ w', Calls Tryd.prog 29 #[.string (mkB F), .int .u8 98] w' fun e w'' => e = .returned (.bool hb) ∧ w'' = w') := fun w' => by
    have := isOf_any F hlen 98 w'
    rwa [show hasL F 98 = hb by rw [← hF, kHasR_eq x.kind 98 (by decide)]; exact hhb] at this
  have HOn : Hid (∀ w', Calls Tryd.prog 29 #[.string (mkB F), .int .u8 110] w' fun e w'' => e = .returned (.bool hn) ∧ w'' = w') := fun w' => by
    have := isOf_any F hlen 110 w'
    rwa [show hasL F 110 = hn by rw [← hF, kHasR_eq x.kind 110 (by decide)]; exact hhn] at this
  have HOs : Hid (∀ w', Calls Tryd.prog 29 #[.string (mkB F), .int .u8 115] w' fun e w'' => e = .returned (.bool hs) ∧ w'' = w') := fun w' => by
    have := isOf_any F hlen 115 w'
    rwa [show hasL F 115 = hs by rw [← hF, kHasR_eq x.kind 115 (by decide)]; exact hhs] at this
  have hbw : Below wL.heap.size wL wL := grow_refl wL
  obtain ⟨zd, hzd⟩ : ∃ b, (x.d != 0) = b := ⟨_, rfl⟩
  obtain ⟨za, hza⟩ : ∃ b, (x.a != 0) = b := ⟨_, rfl⟩
  obtain ⟨zb, hzb⟩ : ∃ b, (x.b != 0) = b := ⟨_, rfl⟩
  obtain ⟨zn, hzn⟩ : ∃ b, (x.num != 0) = b := ⟨_, rfl⟩
  obtain ⟨zs, hzs⟩ : ∃ b, (!x.name.isEmpty) = b := ⟨_, rfl⟩
  have hnm : ((mkB x.name).toList != []) = zs := by
    rw [mkB_toList, ← hzs]; cases x.name <;> rfl
  have hnm0 : ((mkB x.name).toList == []) = !zs := by
    rw [mkB_toList, ← hzs]; cases x.name <;> rfl
  have HEQ : Hid (lowBare x = (!((!hd && zd) || (!ha && za) || (!hb && zb)) && !((!hn && zn) || (!hs && zs)))) := show _ = _ by
    unfold lowBare
    rw [hhd, hha, hhb, hhn, hhs, ← hzd, ← hza, ← hzb, ← hzn, ← hzs]
    unfold bne
    cases hd <;> cases ha <;> cases hb <;> cases hn <;> cases hs <;> cases (x.d == 0) <;> cases (x.a == 0) <;> cases (x.b == 0) <;> cases (x.num == 0) <;> cases x.name.isEmpty <;> rfl
  have HE1 : Hid (lowE c x 2 = if lowBare x then 0 else 3) := show _ = _ from rfl
  unfold cdV lowV
  clear hF hhd hha hhb hhn hhs hlen hzs
  go_enter Tryd.func18, Tryd.ntmps18
  go_upto_region 1 with fail
  change Code.wp _ _ _ _ ((w.alloc (.cells #[.string (mkB c.name), .int .i64 c.params, .int .i64 c.slots, .slice A c.blocks.length ca] 24)).alloc (.cells #[.string (mkB x.kind), .int .i64 x.d, .int .i64 x.a, .int .i64 x.b, .int .i64 x.num, .string (mkB x.name)] 60))
  rw [HWC.out]
  rw [HWL.out]
  try rw [HSZ.out]
  go_upto_region 34 with (first
    | (go_at_call 26; (with_reducible refine (HH.out _).mono ?_); rintro y w1 ⟨rfl, hb1⟩; replace hbw := grow_trans hbw hb1; clear hb1; obtain ⟨⟨i0, i1, i2, i3⟩, ⟨l0, l1, l2, l3, l4, l5⟩, -⟩ := HX.out _ hbw)
    | (go_at_call 29; (with_reducible refine (HOd.out _).mono ?_); rintro y w1 ⟨rfl, rfl⟩)
    | (go_at_call 29; (with_reducible refine (HOa.out _).mono ?_); rintro y w1 ⟨rfl, rfl⟩)
    | (go_at_call 29; (with_reducible refine (HOb.out _).mono ?_); rintro y w1 ⟨rfl, rfl⟩)
    | (go_at_call 29; (with_reducible refine (HOn.out _).mono ?_); rintro y w1 ⟨rfl, rfl⟩)
    | (go_at_call 29; (with_reducible refine (HOs.out _).mono ?_); rintro y w1 ⟨rfl, rfl⟩))
  obtain ⟨wk, hwk⟩ : ∃ wk, wk = w1 := ⟨_, rfl⟩
  rw [← hwk] at hbw l0 l1 l2 l3 l4 l5
  rw [← hwk]
  clear hwk i0 i1 i2 i3
  go_cut [138] from 114 to 138 (fun v wx => v = .bool ((!hd && zd) || (!ha && za) || (!hb && zb)) ∧ wk = wx)
  case first =>
    cases hd
    · cases zd
      · skip
        cases ha
        · cases za
          · skip
            cases hb
            · cases zb
              · skip
                go_wp2_with fail
                go_meet
                exact ⟨rfl, rfl⟩
              · skip
                go_wp2_with fail
                go_meet
                exact ⟨rfl, rfl⟩
            · skip
              go_wp2_with fail
              go_meet
              exact ⟨rfl, rfl⟩
          · skip
            go_wp2_with fail
            go_meet
            exact ⟨rfl, rfl⟩
        · skip
          cases hb
          · cases zb
            · skip
              go_wp2_with fail
              go_meet
              exact ⟨rfl, rfl⟩
            · skip
              go_wp2_with fail
              go_meet
              exact ⟨rfl, rfl⟩
          · skip
            go_wp2_with fail
            go_meet
            exact ⟨rfl, rfl⟩
      · skip
        go_wp2_with fail
        go_meet
        exact ⟨rfl, rfl⟩
    · skip
      cases ha
      · cases za
        · skip
          cases hb
          · cases zb
            · skip
              go_wp2_with fail
              go_meet
              exact ⟨rfl, rfl⟩
            · skip
              go_wp2_with fail
              go_meet
              exact ⟨rfl, rfl⟩
          · skip
            go_wp2_with fail
            go_meet
            exact ⟨rfl, rfl⟩
        · skip
          go_wp2_with fail
          go_meet
          exact ⟨rfl, rfl⟩
      · skip
        cases hb
        · cases zb
          · skip
            go_wp2_with fail
            go_meet
            exact ⟨rfl, rfl⟩
          · skip
            go_wp2_with fail
            go_meet
            exact ⟨rfl, rfl⟩
        · skip
          go_wp2_with fail
          go_meet
          exact ⟨rfl, rfl⟩
  case rest =>
    obtain ⟨rfl, rfl⟩ := hcut
    obtain ⟨bad, hbad⟩ : ∃ z, ((!hd && zd) || (!ha && za) || (!hb && zb)) = z := ⟨_, rfl⟩
    rw [hbad] at HEQ
    rw [hbad]
    clear hbad
    cases bad
    · cases hn
      · cases zn
        · cases hs
          · cases zs
            · skip
              have HF : Hid (lowE c x 2 = 0) := show _ = _ by rw [HE1.out, HEQ.out] <;> rfl
              go_wp2_with fail
              go_ret
              exact ⟨by rw [HF.out]; rfl, (HX.out _ hbw).2.2⟩
            · skip
              have HF : Hid (lowE c x 2 = 3) := show _ = _ by rw [HE1.out, HEQ.out] <;> rfl
              go_wp2_with fail
              go_ret
              exact ⟨by rw [HF.out]; rfl, (HX.out _ hbw).2.2⟩
          · skip
            have HF : Hid (lowE c x 2 = 0) := show _ = _ by rw [HE1.out, HEQ.out] <;> rfl
            go_wp2_with fail
            go_ret
            exact ⟨by rw [HF.out]; rfl, (HX.out _ hbw).2.2⟩
        · skip
          have HF : Hid (lowE c x 2 = 3) := show _ = _ by rw [HE1.out, HEQ.out] <;> rfl
          go_wp2_with fail
          go_ret
          exact ⟨by rw [HF.out]; rfl, (HX.out _ hbw).2.2⟩
      · cases hs
        · cases zs
          · skip
            have HF : Hid (lowE c x 2 = 0) := show _ = _ by rw [HE1.out, HEQ.out] <;> rfl
            go_wp2_with fail
            go_ret
            exact ⟨by rw [HF.out]; rfl, (HX.out _ hbw).2.2⟩
          · skip
            have HF : Hid (lowE c x 2 = 3) := show _ = _ by rw [HE1.out, HEQ.out] <;> rfl
            go_wp2_with fail
            go_ret
            exact ⟨by rw [HF.out]; rfl, (HX.out _ hbw).2.2⟩
        · skip
          have HF : Hid (lowE c x 2 = 0) := show _ = _ by rw [HE1.out, HEQ.out] <;> rfl
          go_wp2_with fail
          go_ret
          exact ⟨by rw [HF.out]; rfl, (HX.out _ hbw).2.2⟩
    · skip
      have HF : Hid (lowE c x 2 = 3) := show _ = _ by rw [HE1.out, HEQ.out] <;> rfl
      go_wp2_with fail
      go_ret
      exact ⟨by rw [HF.out]; rfl, (HX.out _ hbw).2.2⟩
end Go.Proofs.YtpmpeihcdiohmaaDoor

namespace Go.Proofs.YtpmpeihcdiohmaaDoor
open Go.RowKit

/-! the reference's walk of registers: its code, its rows (printed by gen_aor.py) -/
def cR : Code → Code
  | .seq _ b => b
  | c => c
def cL : Code → Code
  | .seq a _ => a
  | c => c
def cI : Code → Code
  | .block _ c => c
  | .loop c => c
  | c => c
/-- The switch. -/
noncomputable def swO : Code := cR (cR (cI (cL (cR (cI (cI (cR (cL (cR (cI (cL (cR (cI (cI (cR (cL (cR (cR (cR (cR (cR (cR (Tryd.f11.body.getD .skip)))))))))))))))))))))))
def rowsR (rB sB nb : Nat) (s : ASt) : List (Nat × List Int) := [(rB, s.r), (sB, s.slots), (nb, s.next)]
abbrev RoS (w0 : World) (mb rB sB nb : Nat) (F : Nat → Array Value → Prop) (s : ASt) (vO vC : Value) (ts : List CC) (w : World) : Prop := RoAt w0 mb (rowsR rB sB nb s) F s [] 0 vO vC ts w
theorem wpList_append_intsO {w : World} {ops : Array Oper} {rest : List Oper} {o : Oper} {a : Act} {Q : Exit → Act → World → Prop} (hgd : o.guard = none) (s x : Operand)
    (ho : o.op = .call { callee := .builtin .append, args := #[s, x], argTypes := #[25, 25] }) (ys : List Int) (hs : a.eval s = .slice none 0 0)
    (X : Option Addr) (c : Nat) (hx : a.eval x = .slice X ys.length c) (hrow : Row w X (intVs ys)) (hn : ys.length ≤ 100000)
    (h : ∀ A' c' w', w'.ownsRow w.heap.size 3 1 (.slice A' ys.length c') ys.length (intVs ys) → Row w' A' (intVs ys) → Below w.heap.size w w' → wpList Tryd.prog ops Q rest (a.put o.dst (.slice A' ys.length c')) w') :
    wpList Tryd.prog ops Q (o :: rest) a w :=
  wpList_plain hgd fun _ hK => wp_append_intsO s x ho ys hs X c hx hrow hn fun A' c' w' h1 h2 h3 => hK _ _ (h A' c' w' h1 h2 h3)
theorem wp_of_then {P : Program} {c : Code} {Q : Exit → Act → World → Prop} {a : Act} {w : World} (h : Code.wp P c (Exit.then (fun a w => Q .normal a w) Q) a w) : Code.wp P c Q a w := by
  have e : Exit.then (fun a w => Q .normal a w) Q = Q := by funext e a w; cases e <;> rfl
  rwa [e] at h
theorem toldInfo : (Tryd.prog.info? 74).map (fun i => (i.zero, i.size, i.bytes)) = some (some (.agg #[.string ⟨#[]⟩, .slice none 0 0]), 2, 40) := by kernel_rfl
theorem row_take {w : World} {nb n : Nat} {l : List Int} (h : w.heap[nb]? = some (.cells (intVs l).toArray 3 (0, 0))) : Row w (some ⟨nb, 0, none⟩) (intVs (l.take n)) := fun j u hj => by
  refine ⟨nb, 0, rfl, ?_⟩
  rw [Nat.zero_add, cell_of_row _ _ j _ _ _ h, List.getElem?_toArray]
  have h1 : j < (l.take n).length := by have := (List.getElem?_eq_some_iff.1 hj).1; rwa [intVs_len] at this
  rw [intVs_get h1] at hj
  rw [intVs_get (by rw [List.length_take] at h1; omega), ← hj, List.getElem_take]
end Go.Proofs.YtpmpeihcdiohmaaDoor
