import Derived.StillTailTactics
import Derived.Deep.RegionLaw
import Derived.BigRegion
import Derived.BigQuiet
import Derived.Deep.QuietTactic
import Derived.Deep.DeepCutAuto
import Derived.Laws.OwnMore
import Derived.Maps.AppendAt
import Derived.Test.YtpmpeihcdiohmaaDoorBn17
import Derived.Test.YtpmpeihcdiohmaaDoorBn5
import Derived.Test.YtpmpeihcdiohmaaDoorBn8
import Derived.Test.YtpmpeihcdiohmaaDoorBn7
set_option linter.unusedVariables false
set_option linter.unusedSimpArgs false
namespace Go.Proofs.YtpmpeihcdiohmaaDoor
open Go.RowKit

/-! the walker: pure instructions (printed by gen_alpu.py) -/
section
variable {c : PCd} {A : Option Addr} {ca : Nat} {X : Option Addr} {args : List Int} {xc : Nat} {Y : Option Addr} {ans : List Int} {yc : Nat} {T : Int} {w0 : World} {mb sb : Nat} {F : Nat → Array Value → Prop} {s : ASt} {h : List UInt8} {v : Int} {vO vC : Value} {ts : List CC} {w w' : World}

set_option maxHeartbeats 4000000 in
set_option maxRecDepth 100000 in
theorem pu_const (H : WkAt c A ca X args xc Y ans yc T w0 mb sb F s h v vO vC ts w) (h8 : s.r.length = 8) (d : Nat) (hd : d < 8) (a b n : Int) (nm : List UInt8) :
    Calls Tryd.prog 60 #[.pointer (some ⟨mb, 0, none⟩), .agg #[.string ⟨#[99, 111, 110, 115, 116]⟩, .int .i64 d, .int .i64 a, .int .i64 b, .int .i64 n, .string (mkB nm)]] w (fun e w' => e = .returned (.tuple #[]) ∧ WkAt c A ca X args xc Y ans yc T w0 mb sb F { s with r := s.r.set d n } h v vO vC ts w') := by
  obtain ⟨bx, hbx⟩ : ∃ bx, w.alloc (.cells #[.string ⟨#[99, 111, 110, 115, 116]⟩, .int .i64 d, .int .i64 a, .int .i64 b, .int .i64 n, .string (mkB nm)] 52) = bx := ⟨_, rfl⟩
  have hb := grow_alloc (grow_refl w) (.cells #[.string ⟨#[99, 111, 110, 115, 116]⟩, .int .i64 d, .int .i64 a, .int .i64 b, .int .i64 n, .string (mkB nm)] 52)
  have hn := heap_alloc_new w (.cells #[.string ⟨#[99, 111, 110, 115, 116]⟩, .int .i64 d, .int .i64 a, .int .i64 b, .int .i64 n, .string (mkB nm)] 52)
  rw [hbx] at hb hn
  have h2 := H.below hb
  have hd0 : (0 : Int) ≤ d := by omega
  have hd1 : (d : Int) < 8 := by omega
  have r1 := h2.cellT (wkT_r h8 hd)
  have z1 := h2.frozen (12 + d)
  have R1 := Lib.hid r1
  have Z1 := Lib.hid z1
  have HST := Lib.hid (fun j9 => (h2.drewN j9).setR h8 hd n)
  have HS0 := Lib.hid (h2.setR h8 hd n)
  have HBX := Lib.hid hbx
  have e0 := cell_of_row _ _ 0 _ _ _ hn
  have e1 := cell_of_row _ _ 1 _ _ _ hn
  have e2 := cell_of_row _ _ 2 _ _ _ hn
  have e3 := cell_of_row _ _ 3 _ _ _ hn
  have e4 := cell_of_row _ _ 4 _ _ _ hn
  have e5 := cell_of_row _ _ 5 _ _ _ hn
  have E1 := Lib.hid e1
  clear H h2 hb hbx hn r1 z1 h8
  try clear hvv
  go_enter Tryd.func60, Tryd.ntmps60
  go_upto_region 1 with fail
  change Code.wp _ _ _ _ (w.alloc (.cells #[.string ⟨#[99, 111, 110, 115, 116]⟩, .int .i64 d, .int .i64 a, .int .i64 b, .int .i64 n, .string (mkB nm)] 52))
  rw [HBX.out]
  go_wp2_with fail
  have r1 := R1.out
  have z1 := Z1.out
  have e1 := E1.out
  go_wp2_with fail
  go_region
  go_wp2_with fail
  go_returns
  first
    | exact ⟨rfl, HST.out _⟩
    | exact ⟨rfl, HS0.out.drewN 1⟩
set_option maxHeartbeats 4000000 in
set_option maxRecDepth 100000 in
theorem pu_param (H : WkAt c A ca X args xc Y ans yc T w0 mb sb F s h v vO vC ts w) (h8 : s.r.length = 8) (d : Nat) (hd : d < 8) (a b : Int) (n : Nat) (hnn : n < args.length) (nm : List UInt8) (hX : Row w0 X (intVs args)) :
    Calls Tryd.prog 60 #[.pointer (some ⟨mb, 0, none⟩), .agg #[.string ⟨#[112, 97, 114, 97, 109]⟩, .int .i64 d, .int .i64 a, .int .i64 b, .int .i64 (n : Nat), .string (mkB nm)]] w (fun e w' => e = .returned (.tuple #[]) ∧ WkAt c A ca X args xc Y ans yc T w0 mb sb F { s with r := s.r.set d (args.getD n 0) } h v vO vC ts w') := by
  obtain ⟨bx, hbx⟩ : ∃ bx, w.alloc (.cells #[.string ⟨#[112, 97, 114, 97, 109]⟩, .int .i64 d, .int .i64 a, .int .i64 b, .int .i64 (n : Nat), .string (mkB nm)] 52) = bx := ⟨_, rfl⟩
  have hb := grow_alloc (grow_refl w) (.cells #[.string ⟨#[112, 97, 114, 97, 109]⟩, .int .i64 d, .int .i64 a, .int .i64 b, .int .i64 (n : Nat), .string (mkB nm)] 52)
  have hn := heap_alloc_new w (.cells #[.string ⟨#[112, 97, 114, 97, 109]⟩, .int .i64 d, .int .i64 a, .int .i64 b, .int .i64 (n : Nat), .string (mkB nm)] 52)
  rw [hbx] at hb hn
  have h2 := H.below hb
  obtain ⟨vv, hvv⟩ : ∃ z, (args.getD n 0) = z := ⟨_, rfl⟩
  rw [hvv]
  have hd0 : (0 : Int) ≤ d := by omega
  have hd1 : (d : Int) < 8 := by omega
  have r1 := h2.cellT (wkT_r h8 hd)
  have z1 := h2.frozen (12 + d)
  have hn0 : (0 : Int) ≤ (n : Nat) := by omega
  have hn1 : ((n : Nat) : Int) < (args.length : Int) := by omega
  have r2 : bx.cell? ⟨mb, 4, none⟩ = some (.slice X args.length xc) := h2.cellH rfl
  obtain ⟨xb, xo, rfl, r3⟩ := (hX.keep (Keeps.of_below h2.bel)) n _ (intVs_get hnn)
  have hv : args.getD n 0 = args[n] := by rw [List.getD_eq_getElem?_getD, List.getElem?_eq_getElem hnn]; rfl
  rw [← hv, hvv] at r3
  clear hv
  have R1 := Lib.hid r1
  have Z1 := Lib.hid z1
  have HST := Lib.hid (fun j9 => (h2.drewN j9).setR h8 hd vv)
  have HS0 := Lib.hid (h2.setR h8 hd vv)
  have HBX := Lib.hid hbx
  have e0 := cell_of_row _ _ 0 _ _ _ hn
  have e1 := cell_of_row _ _ 1 _ _ _ hn
  have e2 := cell_of_row _ _ 2 _ _ _ hn
  have e3 := cell_of_row _ _ 3 _ _ _ hn
  have e4 := cell_of_row _ _ 4 _ _ _ hn
  have e5 := cell_of_row _ _ 5 _ _ _ hn
  have E1 := Lib.hid e1
  clear H h2 hb hbx hn r1 z1 h8
  try clear hvv
  go_enter Tryd.func60, Tryd.ntmps60
  go_upto_region 1 with fail
  change Code.wp _ _ _ _ (w.alloc (.cells #[.string ⟨#[112, 97, 114, 97, 109]⟩, .int .i64 d, .int .i64 a, .int .i64 b, .int .i64 (n : Nat), .string (mkB nm)] 52))
  rw [HBX.out]
  go_wp2_with fail
  go_quiet (fail)
  have r1 := R1.out
  have z1 := Z1.out
  have e1 := E1.out
  go_wp2_with fail
  go_region
  go_wp2_with fail
  go_returns
  first
    | exact ⟨rfl, HST.out _⟩
    | exact ⟨rfl, HS0.out.drewN 1⟩
set_option maxHeartbeats 4000000 in
set_option maxRecDepth 100000 in
theorem pu_load (H : WkAt c A ca X args xc Y ans yc T w0 mb sb F s h v vO vC ts w) (h8 : s.r.length = 8) (d : Nat) (hd : d < 8) (a b : Int) (n : Nat) (hnn : n < s.slots.length) (nm : List UInt8) :
    Calls Tryd.prog 60 #[.pointer (some ⟨mb, 0, none⟩), .agg #[.string ⟨#[108, 111, 97, 100]⟩, .int .i64 d, .int .i64 a, .int .i64 b, .int .i64 (n : Nat), .string (mkB nm)]] w (fun e w' => e = .returned (.tuple #[]) ∧ WkAt c A ca X args xc Y ans yc T w0 mb sb F { s with r := s.r.set d (s.slots.getD n 0) } h v vO vC ts w') := by
  obtain ⟨bx, hbx⟩ : ∃ bx, w.alloc (.cells #[.string ⟨#[108, 111, 97, 100]⟩, .int .i64 d, .int .i64 a, .int .i64 b, .int .i64 (n : Nat), .string (mkB nm)] 52) = bx := ⟨_, rfl⟩
  have hb := grow_alloc (grow_refl w) (.cells #[.string ⟨#[108, 111, 97, 100]⟩, .int .i64 d, .int .i64 a, .int .i64 b, .int .i64 (n : Nat), .string (mkB nm)] 52)
  have hn := heap_alloc_new w (.cells #[.string ⟨#[108, 111, 97, 100]⟩, .int .i64 d, .int .i64 a, .int .i64 b, .int .i64 (n : Nat), .string (mkB nm)] 52)
  rw [hbx] at hb hn
  have h2 := H.below hb
  obtain ⟨vv, hvv⟩ : ∃ z, (s.slots.getD n 0) = z := ⟨_, rfl⟩
  rw [hvv]
  have hd0 : (0 : Int) ≤ d := by omega
  have hd1 : (d : Int) < 8 := by omega
  have r1 := h2.cellT (wkT_r h8 hd)
  have z1 := h2.frozen (12 + d)
  have hn0 : (0 : Int) ≤ (n : Nat) := by omega
  have hn1 : ((n : Nat) : Int) < (s.slots.length : Int) := by omega
  have r2 : bx.cell? ⟨mb, 20, none⟩ = some (.slice (some ⟨sb, 0, none⟩) s.slots.length s.slots.length) := h2.cellT (j := 8) (wkT_sl h8)
  have r3 : bx.cell? ⟨sb, n, none⟩ = some (.int .i64 (s.slots.getD n 0)) := by
    rw [cell_of_row _ _ n _ _ _ h2.slots, List.getElem?_toArray, intVs_get hnn, List.getD_eq_getElem?_getD, List.getElem?_eq_getElem hnn]; rfl
  rw [hvv] at r3
  have R1 := Lib.hid r1
  have Z1 := Lib.hid z1
  have HST := Lib.hid (fun j9 => (h2.drewN j9).setR h8 hd vv)
  have HS0 := Lib.hid (h2.setR h8 hd vv)
  have HBX := Lib.hid hbx
  have e0 := cell_of_row _ _ 0 _ _ _ hn
  have e1 := cell_of_row _ _ 1 _ _ _ hn
  have e2 := cell_of_row _ _ 2 _ _ _ hn
  have e3 := cell_of_row _ _ 3 _ _ _ hn
  have e4 := cell_of_row _ _ 4 _ _ _ hn
  have e5 := cell_of_row _ _ 5 _ _ _ hn
  have E1 := Lib.hid e1
  clear H h2 hb hbx hn r1 z1 h8
  try clear hvv
  go_enter Tryd.func60, Tryd.ntmps60
  go_upto_region 1 with fail
  change Code.wp _ _ _ _ (w.alloc (.cells #[.string ⟨#[108, 111, 97, 100]⟩, .int .i64 d, .int .i64 a, .int .i64 b, .int .i64 (n : Nat), .string (mkB nm)] 52))
  rw [HBX.out]
  go_wp2_with fail
  go_quiet (fail)
  have r1 := R1.out
  have z1 := Z1.out
  have e1 := E1.out
  go_wp2_with fail
  go_region
  go_wp2_with fail
  go_returns
  first
    | exact ⟨rfl, HST.out _⟩
    | exact ⟨rfl, HS0.out.drewN 1⟩
set_option maxHeartbeats 4000000 in
set_option maxRecDepth 100000 in
theorem pu_move (H : WkAt c A ca X args xc Y ans yc T w0 mb sb F s h v vO vC ts w) (h8 : s.r.length = 8) (d : Nat) (hd : d < 8) (a : Nat) (ha : a < 8) (b n : Int) (nm : List UInt8) :
    Calls Tryd.prog 60 #[.pointer (some ⟨mb, 0, none⟩), .agg #[.string ⟨#[109, 111, 118, 101]⟩, .int .i64 d, .int .i64 a, .int .i64 b, .int .i64 n, .string (mkB nm)]] w (fun e w' => e = .returned (.tuple #[]) ∧ WkAt c A ca X args xc Y ans yc T w0 mb sb F { s with r := s.r.set d (s.r.getD a 0) } h v vO vC ts w') := by
  obtain ⟨bx, hbx⟩ : ∃ bx, w.alloc (.cells #[.string ⟨#[109, 111, 118, 101]⟩, .int .i64 d, .int .i64 a, .int .i64 b, .int .i64 n, .string (mkB nm)] 52) = bx := ⟨_, rfl⟩
  have hb := grow_alloc (grow_refl w) (.cells #[.string ⟨#[109, 111, 118, 101]⟩, .int .i64 d, .int .i64 a, .int .i64 b, .int .i64 n, .string (mkB nm)] 52)
  have hn := heap_alloc_new w (.cells #[.string ⟨#[109, 111, 118, 101]⟩, .int .i64 d, .int .i64 a, .int .i64 b, .int .i64 n, .string (mkB nm)] 52)
  rw [hbx] at hb hn
  have h2 := H.below hb
  obtain ⟨vv, hvv⟩ : ∃ z, (s.r.getD a 0) = z := ⟨_, rfl⟩
  rw [hvv]
  have hd0 : (0 : Int) ≤ d := by omega
  have hd1 : (d : Int) < 8 := by omega
  have r1 := h2.cellT (wkT_r h8 hd)
  have z1 := h2.frozen (12 + d)
  have ha0 : (0 : Int) ≤ a := by omega
  have ha1 : (a : Int) < 8 := by omega
  have r2 := h2.cellT (wkT_r h8 ha)
  rw [hvv] at r2
  have R1 := Lib.hid r1
  have Z1 := Lib.hid z1
  have HST := Lib.hid (fun j9 => (h2.drewN j9).setR h8 hd vv)
  have HS0 := Lib.hid (h2.setR h8 hd vv)
  have HBX := Lib.hid hbx
  have e0 := cell_of_row _ _ 0 _ _ _ hn
  have e1 := cell_of_row _ _ 1 _ _ _ hn
  have e2 := cell_of_row _ _ 2 _ _ _ hn
  have e3 := cell_of_row _ _ 3 _ _ _ hn
  have e4 := cell_of_row _ _ 4 _ _ _ hn
  have e5 := cell_of_row _ _ 5 _ _ _ hn
  have E1 := Lib.hid e1
  clear H h2 hb hbx hn r1 z1 h8
  try clear hvv
  go_enter Tryd.func60, Tryd.ntmps60
  go_upto_region 1 with fail
  change Code.wp _ _ _ _ (w.alloc (.cells #[.string ⟨#[109, 111, 118, 101]⟩, .int .i64 d, .int .i64 a, .int .i64 b, .int .i64 n, .string (mkB nm)] 52))
  rw [HBX.out]
  go_wp2_with fail
  go_quiet (fail)
  have r1 := R1.out
  have z1 := Z1.out
  have e1 := E1.out
  go_wp2_with fail
  go_region
  go_wp2_with fail
  go_returns
  first
    | exact ⟨rfl, HST.out _⟩
    | exact ⟨rfl, HS0.out.drewN 1⟩
set_option maxHeartbeats 4000000 in
set_option maxRecDepth 100000 in
theorem pu_one (H : WkAt c A ca X args xc Y ans yc T w0 mb sb F s h v vO vC ts w) (h8 : s.r.length = 8) (d : Nat) (hd : d < 8) (a : Nat) (ha : a < 8) (b n : Int) (nm : List UInt8) (K : Value) (hK : ∀ w', Below w0.heap.size w0 w' → w'.cell? ⟨5, 0, none⟩ = some K) :
    Calls Tryd.prog 60 #[.pointer (some ⟨mb, 0, none⟩), .agg #[.string ⟨#[111, 110, 101]⟩, .int .i64 d, .int .i64 a, .int .i64 b, .int .i64 n, .string (mkB nm)]] w (fun e w' => e = .returned (.tuple #[]) ∧ WkAt c A ca X args xc Y ans yc T w0 mb sb F { s with r := s.r.set d (valOf (oneV nm (s.r.getD a 0))) } h v vO vC ts w') := by
  obtain ⟨bx, hbx⟩ : ∃ bx, w.alloc (.cells #[.string ⟨#[111, 110, 101]⟩, .int .i64 d, .int .i64 a, .int .i64 b, .int .i64 n, .string (mkB nm)] 52) = bx := ⟨_, rfl⟩
  have hb := grow_alloc (grow_refl w) (.cells #[.string ⟨#[111, 110, 101]⟩, .int .i64 d, .int .i64 a, .int .i64 b, .int .i64 n, .string (mkB nm)] 52)
  have hn := heap_alloc_new w (.cells #[.string ⟨#[111, 110, 101]⟩, .int .i64 d, .int .i64 a, .int .i64 b, .int .i64 n, .string (mkB nm)] 52)
  rw [hbx] at hb hn
  have h2 := H.below hb
  obtain ⟨vv, hvv⟩ : ∃ z, (valOf (oneV nm (s.r.getD a 0))) = z := ⟨_, rfl⟩
  rw [hvv]
  have hd0 : (0 : Int) ≤ d := by omega
  have hd1 : (d : Int) < 8 := by omega
  have r1 := h2.cellT (wkT_r h8 hd)
  have z1 := h2.frozen (12 + d)
  have ha0 : (0 : Int) ≤ a := by omega
  have ha1 : (a : Int) < 8 := by omega
  have r2 := h2.cellT (wkT_r h8 ha)
  have HC : Hid (∀ j9, Calls Tryd.prog 55 #[.string (mkB nm), .int .i64 (s.r.getD a 0)] (bx.drewN j9) (Quiet (.tuple #[.int .i64 vv, errOf (oneV nm (s.r.getD a 0)) K]) (bx.drewN j9))) := fun j9 => by
    have := One_any (mkB nm) (s.r.getD a 0) K (bx.drewN j9) (hK _ (h2.drewN j9).bel)
    rwa [mkB_toList, hvv] at this
  obtain ⟨rv, hrv⟩ : ∃ z, s.r.getD a 0 = z := ⟨_, rfl⟩
  rw [hrv] at r2 HC
  have R1 := Lib.hid r1
  have Z1 := Lib.hid z1
  have HST := Lib.hid (fun j9 => (h2.drewN j9).setR h8 hd vv)
  have HS0 := Lib.hid (h2.setR h8 hd vv)
  have HBX := Lib.hid hbx
  have e0 := cell_of_row _ _ 0 _ _ _ hn
  have e1 := cell_of_row _ _ 1 _ _ _ hn
  have e2 := cell_of_row _ _ 2 _ _ _ hn
  have e3 := cell_of_row _ _ 3 _ _ _ hn
  have e4 := cell_of_row _ _ 4 _ _ _ hn
  have e5 := cell_of_row _ _ 5 _ _ _ hn
  have E1 := Lib.hid e1
  clear H h2 hb hbx hn r1 z1 h8
  try clear hvv
  go_enter Tryd.func60, Tryd.ntmps60
  go_upto_region 1 with fail
  change Code.wp _ _ _ _ (w.alloc (.cells #[.string ⟨#[111, 110, 101]⟩, .int .i64 d, .int .i64 a, .int .i64 b, .int .i64 n, .string (mkB nm)] 52))
  rw [HBX.out]
  go_wp2_with fail
  go_quiet ((go_at_call 55; exact Calls.quiet_of (HC.out _)))
  have r1 := R1.out
  have z1 := Z1.out
  have e1 := E1.out
  go_wp2_with fail
  go_region
  go_wp2_with fail
  go_returns
  first
    | exact ⟨rfl, HST.out _⟩
    | exact ⟨rfl, HS0.out.drewN 1⟩
set_option maxHeartbeats 4000000 in
set_option maxRecDepth 100000 in
theorem pu_two (H : WkAt c A ca X args xc Y ans yc T w0 mb sb F s h v vO vC ts w) (h8 : s.r.length = 8) (d : Nat) (hd : d < 8) (a : Nat) (ha : a < 8) (b : Nat) (hbb : b < 8) (n : Int) (nm : List UInt8) (K : Value) (hK : ∀ w', Below w0.heap.size w0 w' → w'.cell? ⟨5, 0, none⟩ = some K) :
    Calls Tryd.prog 60 #[.pointer (some ⟨mb, 0, none⟩), .agg #[.string ⟨#[116, 119, 111]⟩, .int .i64 d, .int .i64 a, .int .i64 b, .int .i64 n, .string (mkB nm)]] w (fun e w' => e = .returned (.tuple #[]) ∧ WkAt c A ca X args xc Y ans yc T w0 mb sb F { s with r := s.r.set d (valOf (doV nm (s.r.getD a 0) (s.r.getD b 0))) } h v vO vC ts w') := by
  obtain ⟨bx, hbx⟩ : ∃ bx, w.alloc (.cells #[.string ⟨#[116, 119, 111]⟩, .int .i64 d, .int .i64 a, .int .i64 b, .int .i64 n, .string (mkB nm)] 52) = bx := ⟨_, rfl⟩
  have hb := grow_alloc (grow_refl w) (.cells #[.string ⟨#[116, 119, 111]⟩, .int .i64 d, .int .i64 a, .int .i64 b, .int .i64 n, .string (mkB nm)] 52)
  have hn := heap_alloc_new w (.cells #[.string ⟨#[116, 119, 111]⟩, .int .i64 d, .int .i64 a, .int .i64 b, .int .i64 n, .string (mkB nm)] 52)
  rw [hbx] at hb hn
  have h2 := H.below hb
  obtain ⟨vv, hvv⟩ : ∃ z, (valOf (doV nm (s.r.getD a 0) (s.r.getD b 0))) = z := ⟨_, rfl⟩
  rw [hvv]
  have hd0 : (0 : Int) ≤ d := by omega
  have hd1 : (d : Int) < 8 := by omega
  have r1 := h2.cellT (wkT_r h8 hd)
  have z1 := h2.frozen (12 + d)
  have ha0 : (0 : Int) ≤ a := by omega
  have ha1 : (a : Int) < 8 := by omega
  have hb0 : (0 : Int) ≤ b := by omega
  have hb1 : (b : Int) < 8 := by omega
  have r2 := h2.cellT (wkT_r h8 ha)
  have r3 := h2.cellT (wkT_r h8 hbb)
  have HC : Hid (∀ j9, Calls Tryd.prog 56 #[.string (mkB nm), .int .i64 (s.r.getD a 0), .int .i64 (s.r.getD b 0)] (bx.drewN j9) (Quiet (.tuple #[.int .i64 vv, errOf (doV nm (s.r.getD a 0) (s.r.getD b 0)) K]) (bx.drewN j9))) := fun j9 => by
    have := Do_any (mkB nm) (s.r.getD a 0) (s.r.getD b 0) K (bx.drewN j9) (hK _ (h2.drewN j9).bel)
    rwa [mkB_toList, hvv] at this
  obtain ⟨rv, hrv⟩ : ∃ z, s.r.getD a 0 = z := ⟨_, rfl⟩
  obtain ⟨rw2, hrw⟩ : ∃ z, s.r.getD b 0 = z := ⟨_, rfl⟩
  rw [hrv, hrw] at HC
  rw [hrv] at r2
  rw [hrw] at r3
  have R1 := Lib.hid r1
  have Z1 := Lib.hid z1
  have HST := Lib.hid (fun j9 => (h2.drewN j9).setR h8 hd vv)
  have HS0 := Lib.hid (h2.setR h8 hd vv)
  have HBX := Lib.hid hbx
  have e0 := cell_of_row _ _ 0 _ _ _ hn
  have e1 := cell_of_row _ _ 1 _ _ _ hn
  have e2 := cell_of_row _ _ 2 _ _ _ hn
  have e3 := cell_of_row _ _ 3 _ _ _ hn
  have e4 := cell_of_row _ _ 4 _ _ _ hn
  have e5 := cell_of_row _ _ 5 _ _ _ hn
  have E1 := Lib.hid e1
  clear H h2 hb hbx hn r1 z1 h8
  try clear hvv
  go_enter Tryd.func60, Tryd.ntmps60
  go_upto_region 1 with fail
  change Code.wp _ _ _ _ (w.alloc (.cells #[.string ⟨#[116, 119, 111]⟩, .int .i64 d, .int .i64 a, .int .i64 b, .int .i64 n, .string (mkB nm)] 52))
  rw [HBX.out]
  go_wp2_with fail
  go_quiet ((go_at_call 56; exact Calls.quiet_of (HC.out _)))
  have r1 := R1.out
  have z1 := Z1.out
  have e1 := E1.out
  go_wp2_with fail
  go_region
  go_wp2_with fail
  go_returns
  first
    | exact ⟨rfl, HST.out _⟩
    | exact ⟨rfl, HS0.out.drewN 1⟩
end
end Go.Proofs.YtpmpeihcdiohmaaDoor

namespace Go.Proofs.YtpmpeihcdiohmaaDoor
open Go.RowKit

/-! the walker: tick, print, store, arg (printed by gen_aldo.py) -/
section
variable {c : PCd} {A : Option Addr} {ca : Nat} {X : Option Addr} {args : List Int} {xc : Nat} {Y : Option Addr} {ans : List Int} {yc : Nat} {T : Int} {w0 : World} {mb sb : Nat} {F : Nat → Array Value → Prop} {s : ASt} {h : List UInt8} {v : Int} {vO vC : Value} {ts : List CC} {w w' : World}

theorem row_lt {w : World} {X : Option Addr} {l : List Int} (h : Row w X (intVs l)) (hl : l ≠ []) (a : Addr) (ha : X = some a) : a.block < w.heap.size := by
  cases l with
  | nil => exact absurd rfl hl
  | cons y l =>
    obtain ⟨b, off, e, hc⟩ := h 0 _ rfl
    rw [ha] at e
    injection e with e
    subst e
    exact World.block_lt_of_cell? w _ hc
/-- Behind an append to what was printed. -/
theorem WkAt.putO {w4 : World} {o : Obj} {n : Int} {g cap : Nat} (H : WkAt c A ca X args xc Y ans yc T w0 mb sb F s h v vO vC ts w) (hown : w4.ownsRow w0.heap.size 3 1 (.slice (some ⟨g, 0, none⟩) (s.out.length + 1) cap) (s.out.length + 1) (intVs s.out ++ [.int .i64 n]))
    (hg : (w.alloc o).grownBy w4 vO.ownBlock) (hat : vO.ownBlock = some g ∨ g = w.heap.size + 1) :
    w4.heap[mb]? = w.heap[mb]? ∧ WkAt c A ca X args xc Y ans yc T w0 mb sb F { s with out := s.out ++ [n] } h v (.slice (some ⟨g, 0, none⟩) (s.out.length + 1) cap) vC ts (w4.setCell ⟨mb, 10, none⟩ (.slice (some ⟨g, 0, none⟩) (s.out.length + 1) cap)) := by
  have hm : ∀ k, k < w.heap.size → vO.ownBlock ≠ some k → w4.heap[k]? = w.heap[k]? := fun k hk hne => by rw [hg.block k (by simp; omega) (fun e => hne e.symm)]; exact old_block _ _ hk
  have hmb := hm mb H.ltM H.nO
  have hgm : g ≠ mb := fun e => own_else hown (hmb.trans H.blk) (fun cs e => by injection e with _ e _; exact absurd e (by decide)) (by rw [e]; rfl)
  have hgs : g ≠ sb := fun e => by
    rcases hat with h1 | h1
    · exact H.one (by rw [h1, e])
    · have := H.ltS; omega
  have hs2 : ∀ k, k ≠ mb → (w4.setCell ⟨mb, 10, none⟩ (.slice (some ⟨g, 0, none⟩) (s.out.length + 1) cap)).heap[k]? = w4.heap[k]? := fun k hk => Below.heap_setCell _ _ _ _ hk
  refine ⟨hmb, ?_⟩
  refine { bel := H.bel.trans ((Below.grown ((Below.refl w0.heap.size w).alloc H.bel.size o) hg (by simp; have := H.bel.size; omega) (fun q hq => (own_lt H.out hq).1)).setCell H.lowM _), lowM := H.lowM, lowS := H.lowS, blk := row_set (j := 10) _ (hmb.trans H.blk) ?_, slots := (hs2 _ (Ne.symm H.ne)).trans ((hm sb H.ltS H.one).trans H.slots), out := ?_, one := ?_, calls := ?_, map := H.map, rows := fun t ht => ?_, far := fun t ht hl a ha => ?_, fr := fun q cs hq => (hs2 _ (H.frM hq)).trans ((hm _ (H.frL hq) (H.frO hq)).trans (H.fr q cs hq)) }
  · unfold wkH wkT; simp
  · have e : intVs (s.out ++ [n]) = intVs s.out ++ [.int .i64 n] := intVs_snoc _ _
    show World.ownsRow _ _ _ _ _ (s.out ++ [n]).length (intVs (s.out ++ [n]))
    rw [e, List.length_append, List.length_singleton]
    exact own_same hown fun j hj => hs2 j (fun e => hgm (by injection hj with hj; exact (show g = j from hj).trans e))
  · intro e; injection e with e; exact hgs e
  · refine own_same H.calls fun j hj => ?_
    have h1 := own_lt H.calls hj
    have h2 := own_ne H.calls H.out (by decide) hj
    exact (hs2 j (fun e => H.nC (by rw [hj, e]))).trans (hm j h1.2 h2)
  · refine row_by (H.rows t ht) fun hl a ha => ?_
    have hf := H.far t ht hl a ha
    exact (hs2 _ hf.1).trans (hm _ (row_lt (H.rows t ht) hl a ha) hf.2.2.1)
  · have hf := H.far t ht hl a ha
    refine ⟨hf.1, hf.2.1, ?_, hf.2.2.2⟩
    intro e
    injection e with e
    have e2 : g = a.block := e
    rcases hat with h1 | h1
    · exact hf.2.2.1 (by rw [h1, e2])
    · have := row_lt (H.rows t ht) hl a ha; omega

set_option maxHeartbeats 8000000 in
set_option maxRecDepth 100000 in
theorem do_tick_no (H : WkAt c A ca X args xc Y ans yc T w0 mb sb F s h v vO vC ts w) (h8 : s.r.length = 8) (d a b n : Int) (nm : List UInt8) (hT : T ≤ s.ticks) :
    Calls Tryd.prog 42 #[.pointer (some ⟨mb, 0, none⟩), .agg #[.string ⟨#[116, 105, 99, 107]⟩, .int .i64 d, .int .i64 a, .int .i64 b, .int .i64 n, .string (mkB nm)]] w (fun e w' => e = .returned (.bool false) ∧ WkAt c A ca X args xc Y ans yc T w0 mb sb F s h v vO vC ts w') := by
  obtain ⟨bx, hbx⟩ : ∃ bx, w.alloc (.cells #[.string ⟨#[116, 105, 99, 107]⟩, .int .i64 d, .int .i64 a, .int .i64 b, .int .i64 n, .string (mkB nm)] 52) = bx := ⟨_, rfl⟩
  have hb := grow_alloc (grow_refl w) (.cells #[.string ⟨#[116, 105, 99, 107]⟩, .int .i64 d, .int .i64 a, .int .i64 b, .int .i64 n, .string (mkB nm)] 52)
  have hn := heap_alloc_new w (.cells #[.string ⟨#[116, 105, 99, 107]⟩, .int .i64 d, .int .i64 a, .int .i64 b, .int .i64 n, .string (mkB nm)] 52)
  rw [hbx] at hb hn
  have h2 := H.below hb
  have HBX := Lib.hid hbx
  have e0 := cell_of_row _ _ 0 _ _ _ hn
  have e1 := cell_of_row _ _ 1 _ _ _ hn
  have e2 := cell_of_row _ _ 2 _ _ _ hn
  have e3 := cell_of_row _ _ 3 _ _ _ hn
  have e4 := cell_of_row _ _ 4 _ _ _ hn
  have e5 := cell_of_row _ _ 5 _ _ _ hn
  have t1 : bx.cell? ⟨mb, 9, none⟩ = some (.int .i64 s.ticks) := h2.cellH rfl
  have t2 : bx.cell? ⟨mb, 6, none⟩ = some (.int .i64 T) := h2.cellH rfl
  have z1 := h2.frozen 9
  have T1 := Lib.hid t1
  have Z1 := Lib.hid z1
  have HH := Lib.hid (fun j9 => h2.drewN j9)
  clear H h2 hb hbx hn h8
  go_enter Tryd.func42, Tryd.ntmps42
  go_upto_region 1 with fail
  change Code.wp _ _ _ _ (w.alloc (.cells #[.string ⟨#[116, 105, 99, 107]⟩, .int .i64 d, .int .i64 a, .int .i64 b, .int .i64 n, .string (mkB nm)] 52))
  rw [HBX.out]
  go_wp2_with fail
  go_quiet (fail)
  go_wp2_with fail
  go_ret
  exact ⟨rfl, HH.out _⟩
set_option maxHeartbeats 8000000 in
set_option maxRecDepth 100000 in
theorem do_tick_go (H : WkAt c A ca X args xc Y ans yc T w0 mb sb F s h v vO vC ts w) (h8 : s.r.length = 8) (d a b n : Int) (nm : List UInt8) (hT : s.ticks < T) (hT0 : 0 ≤ s.ticks) (hT6 : T ≤ 60) :
    Calls Tryd.prog 42 #[.pointer (some ⟨mb, 0, none⟩), .agg #[.string ⟨#[116, 105, 99, 107]⟩, .int .i64 d, .int .i64 a, .int .i64 b, .int .i64 n, .string (mkB nm)]] w (fun e w' => e = .returned (.bool true) ∧ WkAt c A ca X args xc Y ans yc T w0 mb sb F { s with ticks := s.ticks + 1 } h v vO vC ts w') := by
  obtain ⟨bx, hbx⟩ : ∃ bx, w.alloc (.cells #[.string ⟨#[116, 105, 99, 107]⟩, .int .i64 d, .int .i64 a, .int .i64 b, .int .i64 n, .string (mkB nm)] 52) = bx := ⟨_, rfl⟩
  have hb := grow_alloc (grow_refl w) (.cells #[.string ⟨#[116, 105, 99, 107]⟩, .int .i64 d, .int .i64 a, .int .i64 b, .int .i64 n, .string (mkB nm)] 52)
  have hn := heap_alloc_new w (.cells #[.string ⟨#[116, 105, 99, 107]⟩, .int .i64 d, .int .i64 a, .int .i64 b, .int .i64 n, .string (mkB nm)] 52)
  rw [hbx] at hb hn
  have h2 := H.below hb
  have HBX := Lib.hid hbx
  have e0 := cell_of_row _ _ 0 _ _ _ hn
  have e1 := cell_of_row _ _ 1 _ _ _ hn
  have e2 := cell_of_row _ _ 2 _ _ _ hn
  have e3 := cell_of_row _ _ 3 _ _ _ hn
  have e4 := cell_of_row _ _ 4 _ _ _ hn
  have e5 := cell_of_row _ _ 5 _ _ _ hn
  have t1 : bx.cell? ⟨mb, 9, none⟩ = some (.int .i64 s.ticks) := h2.cellH rfl
  have t2 : bx.cell? ⟨mb, 6, none⟩ = some (.int .i64 T) := h2.cellH rfl
  have z1 := h2.frozen 9
  have T1 := Lib.hid t1
  have Z1 := Lib.hid z1
  have HH := Lib.hid (fun j9 => (h2.drewN j9).setTk (s.ticks + 1))
  have hw : IntKind.i64.wrap (s.ticks + 1) = s.ticks + 1 := IntWalk.i64_in _ (by omega)
  clear H h2 hb hbx hn h8
  go_enter Tryd.func42, Tryd.ntmps42
  go_upto_region 1 with fail
  change Code.wp _ _ _ _ (w.alloc (.cells #[.string ⟨#[116, 105, 99, 107]⟩, .int .i64 d, .int .i64 a, .int .i64 b, .int .i64 n, .string (mkB nm)] 52))
  rw [HBX.out]
  go_wp2_with fail
  go_quiet (fail)
  have t1 := T1.out
  have z1 := Z1.out
  go_wp2_with fail
  go_ret
  exact ⟨rfl, HH.out _⟩
set_option maxHeartbeats 8000000 in
set_option maxRecDepth 100000 in
theorem do_store (H : WkAt c A ca X args xc Y ans yc T w0 mb sb F s h v vO vC ts w) (h8 : s.r.length = 8) (d : Int) (a : Nat) (ha : a < 8) (b : Int) (n : Nat) (hnn : n < s.slots.length) (nm : List UInt8) :
    Calls Tryd.prog 42 #[.pointer (some ⟨mb, 0, none⟩), .agg #[.string ⟨#[115, 116, 111, 114, 101]⟩, .int .i64 d, .int .i64 a, .int .i64 b, .int .i64 (n : Nat), .string (mkB nm)]] w (fun e w' => e = .returned (.bool true) ∧ WkAt c A ca X args xc Y ans yc T w0 mb sb F { s with slots := s.slots.set n (s.r.getD a 0) } h v vO vC ts w') := by
  obtain ⟨bx, hbx⟩ : ∃ bx, w.alloc (.cells #[.string ⟨#[115, 116, 111, 114, 101]⟩, .int .i64 d, .int .i64 a, .int .i64 b, .int .i64 (n : Nat), .string (mkB nm)] 52) = bx := ⟨_, rfl⟩
  have hb := grow_alloc (grow_refl w) (.cells #[.string ⟨#[115, 116, 111, 114, 101]⟩, .int .i64 d, .int .i64 a, .int .i64 b, .int .i64 (n : Nat), .string (mkB nm)] 52)
  have hn := heap_alloc_new w (.cells #[.string ⟨#[115, 116, 111, 114, 101]⟩, .int .i64 d, .int .i64 a, .int .i64 b, .int .i64 (n : Nat), .string (mkB nm)] 52)
  rw [hbx] at hb hn
  have h2 := H.below hb
  have HBX := Lib.hid hbx
  have e0 := cell_of_row _ _ 0 _ _ _ hn
  have e1 := cell_of_row _ _ 1 _ _ _ hn
  have e2 := cell_of_row _ _ 2 _ _ _ hn
  have e3 := cell_of_row _ _ 3 _ _ _ hn
  have e4 := cell_of_row _ _ 4 _ _ _ hn
  have e5 := cell_of_row _ _ 5 _ _ _ hn
  have hn0 : (0 : Int) ≤ (n : Nat) := by omega
  have hn1 : ((n : Nat) : Int) < (s.slots.length : Int) := by omega
  have ha0 : (0 : Int) ≤ a := by omega
  have ha1 : (a : Int) < 8 := by omega
  obtain ⟨vv, hvv⟩ : ∃ z, s.r.getD a 0 = z := ⟨_, rfl⟩
  have r1 := h2.cellT (wkT_r h8 ha)
  rw [hvv] at r1 ⊢
  have r2 : bx.cell? ⟨mb, 20, none⟩ = some (.slice (some ⟨sb, 0, none⟩) s.slots.length s.slots.length) := h2.cellT (j := 8) (wkT_sl h8)
  have r3 : bx.cell? ⟨sb, n, none⟩ = some (.int .i64 (s.slots.getD n 0)) := by
    rw [cell_of_row _ _ n _ _ _ h2.slots, List.getElem?_toArray, intVs_get hnn, List.getD_eq_getElem?_getD, List.getElem?_eq_getElem hnn]; rfl
  obtain ⟨oldv, hold⟩ : ∃ z, s.slots.getD n 0 = z := ⟨_, rfl⟩
  rw [hold] at r3
  have z3 := row_frozen h2.slots n
  have HH := Lib.hid (fun j9 => (h2.drewN j9).setS (d := n) vv)
  have HS0 := Lib.hid (h2.setS (d := n) vv)
  clear hvv hold
  clear H h2 hb hbx hn h8
  go_enter Tryd.func42, Tryd.ntmps42
  go_upto_region 1 with fail
  change Code.wp _ _ _ _ (w.alloc (.cells #[.string ⟨#[115, 116, 111, 114, 101]⟩, .int .i64 d, .int .i64 a, .int .i64 b, .int .i64 (n : Nat), .string (mkB nm)] 52))
  rw [HBX.out]
  go_wp2_with fail
  go_region
  go_wp2_with fail
  go_ret
  first
    | exact ⟨rfl, HH.out _⟩
    | exact ⟨rfl, HS0.out.drewN 1⟩
set_option maxHeartbeats 8000000 in
set_option maxRecDepth 100000 in
theorem do_arg (H : WkAt c A ca X args xc Y ans yc T w0 mb sb F s h v vO vC ts w) (h8 : s.r.length = 8) (d : Int) (a : Nat) (ha : a < 8) (b : Int) (n : Nat) (hnn : n < 4) (nm : List UInt8) (h4 : s.next.length = 4) :
    Calls Tryd.prog 42 #[.pointer (some ⟨mb, 0, none⟩), .agg #[.string ⟨#[97, 114, 103]⟩, .int .i64 d, .int .i64 a, .int .i64 b, .int .i64 (n : Nat), .string (mkB nm)]] w (fun e w' => e = .returned (.bool true) ∧ WkAt c A ca X args xc Y ans yc T w0 mb sb F { s with next := s.next.set n (s.r.getD a 0) } h v vO vC ts w') := by
  obtain ⟨bx, hbx⟩ : ∃ bx, w.alloc (.cells #[.string ⟨#[97, 114, 103]⟩, .int .i64 d, .int .i64 a, .int .i64 b, .int .i64 (n : Nat), .string (mkB nm)] 52) = bx := ⟨_, rfl⟩
  have hb := grow_alloc (grow_refl w) (.cells #[.string ⟨#[97, 114, 103]⟩, .int .i64 d, .int .i64 a, .int .i64 b, .int .i64 (n : Nat), .string (mkB nm)] 52)
  have hn := heap_alloc_new w (.cells #[.string ⟨#[97, 114, 103]⟩, .int .i64 d, .int .i64 a, .int .i64 b, .int .i64 (n : Nat), .string (mkB nm)] 52)
  rw [hbx] at hb hn
  have h2 := H.below hb
  have HBX := Lib.hid hbx
  have e0 := cell_of_row _ _ 0 _ _ _ hn
  have e1 := cell_of_row _ _ 1 _ _ _ hn
  have e2 := cell_of_row _ _ 2 _ _ _ hn
  have e3 := cell_of_row _ _ 3 _ _ _ hn
  have e4 := cell_of_row _ _ 4 _ _ _ hn
  have e5 := cell_of_row _ _ 5 _ _ _ hn
  have hn0 : (0 : Int) ≤ (n : Nat) := by omega
  have hn1 : ((n : Nat) : Int) < 4 := by omega
  have ha0 : (0 : Int) ≤ a := by omega
  have ha1 : (a : Int) < 8 := by omega
  obtain ⟨vv, hvv⟩ : ∃ z, s.r.getD a 0 = z := ⟨_, rfl⟩
  have r1 := h2.cellT (wkT_r h8 ha)
  rw [hvv] at r1 ⊢
  have r3 := h2.cellT (wkT_n h8 h4 hnn)
  rw [show 12 + (9 + n) = 21 + n by omega] at r3
  have z3 := h2.frozen (21 + n)
  have HH := Lib.hid (fun j9 => (h2.drewN j9).setN h8 (d := n) vv)
  have HS0 := Lib.hid (h2.setN h8 (d := n) vv)
  clear hvv h4
  clear H h2 hb hbx hn h8
  go_enter Tryd.func42, Tryd.ntmps42
  go_upto_region 1 with fail
  change Code.wp _ _ _ _ (w.alloc (.cells #[.string ⟨#[97, 114, 103]⟩, .int .i64 d, .int .i64 a, .int .i64 b, .int .i64 (n : Nat), .string (mkB nm)] 52))
  rw [HBX.out]
  go_wp2_with fail
  go_region
  go_wp2_with fail
  go_ret
  first
    | exact ⟨rfl, HH.out _⟩
    | exact ⟨rfl, HS0.out.drewN 1⟩
set_option maxHeartbeats 8000000 in
set_option maxRecDepth 100000 in
theorem do_print_no (H : WkAt c A ca X args xc Y ans yc T w0 mb sb F s h v vO vC ts w) (h8 : s.r.length = 8) (d a b n : Int) (nm : List UInt8) (hO : (1000 : Int) ≤ (s.out.length : Int)) :
    Calls Tryd.prog 42 #[.pointer (some ⟨mb, 0, none⟩), .agg #[.string ⟨#[112, 114, 105, 110, 116]⟩, .int .i64 d, .int .i64 a, .int .i64 b, .int .i64 n, .string (mkB nm)]] w (fun e w' => e = .returned (.bool false) ∧ WkAt c A ca X args xc Y ans yc T w0 mb sb F s h v vO vC ts w') := by
  obtain ⟨bx, hbx⟩ : ∃ bx, w.alloc (.cells #[.string ⟨#[112, 114, 105, 110, 116]⟩, .int .i64 d, .int .i64 a, .int .i64 b, .int .i64 n, .string (mkB nm)] 52) = bx := ⟨_, rfl⟩
  have hb := grow_alloc (grow_refl w) (.cells #[.string ⟨#[112, 114, 105, 110, 116]⟩, .int .i64 d, .int .i64 a, .int .i64 b, .int .i64 n, .string (mkB nm)] 52)
  have hn := heap_alloc_new w (.cells #[.string ⟨#[112, 114, 105, 110, 116]⟩, .int .i64 d, .int .i64 a, .int .i64 b, .int .i64 n, .string (mkB nm)] 52)
  rw [hbx] at hb hn
  have h2 := H.below hb
  have HBX := Lib.hid hbx
  have e0 := cell_of_row _ _ 0 _ _ _ hn
  have e1 := cell_of_row _ _ 1 _ _ _ hn
  have e2 := cell_of_row _ _ 2 _ _ _ hn
  have e3 := cell_of_row _ _ 3 _ _ _ hn
  have e4 := cell_of_row _ _ 4 _ _ _ hn
  have e5 := cell_of_row _ _ 5 _ _ _ hn
  obtain ⟨AO, cO, hvO⟩ := own_slice H.out
  have o1 : bx.cell? ⟨mb, 10, none⟩ = some vO := h2.cellH rfl
  have z1 := h2.frozen 10
  have O1 := Lib.hid o1
  have HH := Lib.hid h2
  have HVO := Lib.hid hvO
  rw [hvO] at o1
  clear O1 z1
  clear H h2 hb hbx hn h8
  go_enter Tryd.func42, Tryd.ntmps42
  go_upto_region 1 with fail
  change Code.wp _ _ _ _ (w.alloc (.cells #[.string ⟨#[112, 114, 105, 110, 116]⟩, .int .i64 d, .int .i64 a, .int .i64 b, .int .i64 n, .string (mkB nm)] 52))
  rw [HBX.out]
  go_wp2_with fail
  go_ret
  exact ⟨rfl, HH.out⟩
set_option maxHeartbeats 8000000 in
set_option maxRecDepth 100000 in
theorem do_print_go (H : WkAt c A ca X args xc Y ans yc T w0 mb sb F s h v vO vC ts w) (h8 : s.r.length = 8) (d : Int) (a : Nat) (ha : a < 8) (b n : Int) (nm : List UInt8) (hO : (s.out.length : Int) < 1000) :
    Calls Tryd.prog 42 #[.pointer (some ⟨mb, 0, none⟩), .agg #[.string ⟨#[112, 114, 105, 110, 116]⟩, .int .i64 d, .int .i64 a, .int .i64 b, .int .i64 n, .string (mkB nm)]] w (fun e w' => e = .returned (.bool true) ∧ ∃ vO', WkAt c A ca X args xc Y ans yc T w0 mb sb F { s with out := s.out ++ [s.r.getD a 0] } h v vO' vC ts w') := by
  obtain ⟨bx, hbx⟩ : ∃ bx, w.alloc (.cells #[.string ⟨#[112, 114, 105, 110, 116]⟩, .int .i64 d, .int .i64 a, .int .i64 b, .int .i64 n, .string (mkB nm)] 52) = bx := ⟨_, rfl⟩
  have hb := grow_alloc (grow_refl w) (.cells #[.string ⟨#[112, 114, 105, 110, 116]⟩, .int .i64 d, .int .i64 a, .int .i64 b, .int .i64 n, .string (mkB nm)] 52)
  have hn := heap_alloc_new w (.cells #[.string ⟨#[112, 114, 105, 110, 116]⟩, .int .i64 d, .int .i64 a, .int .i64 b, .int .i64 n, .string (mkB nm)] 52)
  rw [hbx] at hb hn
  have h2 := H.below hb
  have HBX := Lib.hid hbx
  have e0 := cell_of_row _ _ 0 _ _ _ hn
  have e1 := cell_of_row _ _ 1 _ _ _ hn
  have e2 := cell_of_row _ _ 2 _ _ _ hn
  have e3 := cell_of_row _ _ 3 _ _ _ hn
  have e4 := cell_of_row _ _ 4 _ _ _ hn
  have e5 := cell_of_row _ _ 5 _ _ _ hn
  obtain ⟨AO, cO, hvO⟩ := own_slice H.out
  have o1 : bx.cell? ⟨mb, 10, none⟩ = some vO := h2.cellH rfl
  have z1 := h2.frozen 10
  have O1 := Lib.hid o1
  have HH := Lib.hid h2
  have HVO := Lib.hid hvO
  rw [hvO] at o1
  have ha0 : (0 : Int) ≤ a := by omega
  have ha1 : (a : Int) < 8 := by omega
  obtain ⟨vv, hvv⟩ : ∃ z, s.r.getD a 0 = z := ⟨_, rfl⟩
  have r1 := h2.cellT (wkT_r h8 ha)
  rw [hvv] at r1 ⊢
  obtain ⟨i0, hi, hz0, hz1, hz2⟩ := info_parts intInfo
  have HO : Hid (bx.ownsRow w0.heap.size 3 1 (.slice AO s.out.length cO) s.out.length (intVs s.out)) := hvO ▸ h2.out
  have hw0 : w0.heap.size ≤ bx.heap.size := h2.bel.size
  have hnO := World.new_ne bx _ o1
  have hnR := World.new_ne bx _ r1
  have q1 : (bx.alloc (.cells #[.int .i64 vv] 3)).cell? ⟨mb, 10, none⟩ = some (.slice AO s.out.length cO) := Keeps.alloc _ _ _ _ o1
  have q2 : (bx.alloc (.cells #[.int .i64 vv] 3)).cell? ⟨mb, 12 + a, none⟩ = some (.int .i64 vv) := Keeps.alloc _ _ _ _ r1
  clear hvv O1
  subst hvO
  clear H h2 hb hbx hn h8
  go_enter Tryd.func42, Tryd.ntmps42
  go_upto_region 1 with fail
  change Code.wp _ _ _ _ (w.alloc (.cells #[.string ⟨#[112, 114, 105, 110, 116]⟩, .int .i64 d, .int .i64 a, .int .i64 b, .int .i64 n, .string (mkB nm)] 52))
  rw [HBX.out]
  go_wp2_with fail
  go_region_law? (first
    | (refine step_append_lies _ rfl _ _ 25 rfl w0.heap.size 3 i0 _ 1 8 Tryd.underlying25 hi hz0 hz1 hz2 rfl (by decide) _ s.out.length (intVs s.out) rfl (by first | exact (World.ownsRow.alloc HO.out _).drewN 1 | exact (HO.out.drewN 1).alloc _ | exact World.ownsRow.alloc HO.out _) ⟨bx.heap.size, 0, none⟩ 1 1 [.int .i64 vv] rfl rfl (by first | exact World.news_of_block (heap_alloc_new bx _) | exact World.news_of_block (heap_alloc_new bx.drew _) | exact World.news_of_block (w := (bx.alloc (.cells #[.int .i64 vv] 3)).drew) (heap_alloc_new bx _)) (fun u hu => by simp at hu; subst hu; rfl) (by decide) (by unfold maxLen; omega) (by omega) (by first | (show w0.heap.size ≤ (bx.alloc _).heap.size; simp; omega) | (simp; omega)) _ rfl ?_; intro g cap w9 hown hgrow hat hlt9; obtain ⟨j1, j2⟩ := HH.out.putO (o := .cells #[.int .i64 vv] 3) hown ⟨hgrow.os, hgrow.tape, hgrow.output, hgrow.size, hgrow.block⟩ (hat.imp id fun e => e.trans (by first | (show (bx.alloc _).heap.size = _; simp) | simp)); have o1 : w9.cell? ⟨mb, 10, none⟩ = some (.slice AO s.out.length cO) := (World.cell?_of_block j1).trans (HH.out.cellH rfl); have z1 := row_frozen (j1.trans HH.out.blk) 10; have H9 := Lib.hid j2; clear j1 j2 hown hgrow hat))
  all_goals go_wp2_with fail
  all_goals go_ret
  all_goals exact ⟨rfl, _, H9.out⟩
end
end Go.Proofs.YtpmpeihcdiohmaaDoor

namespace Go.Proofs.YtpmpeihcdiohmaaDoor
open Go.RowKit

/-! make([]int, n) -/
def zrO (n : Nat) : Obj := .cells (intVs (List.replicate n 0)).toArray 3
theorem zr_made (n : Nat) : madeCells #[Value.int .i64 0] n = (intVs (List.replicate n 0)).toArray := by
  apply Array.ext
  · simp [intVs, size_madeCells]
  · intro i h1 h2
    simp [intVs, madeCells, Nat.mod_one]
theorem make_zr (n : Nat) (hn : n ≤ 100000) (w : World) : (Instr.makeSlice 25 (.int .i64 n) (.int .i64 n)).run Tryd.prog w = .ok (.slice (some ⟨w.heap.size, 0, none⟩) n n) (w.alloc (zrO n)) := by
  obtain ⟨i0, hi, hz0, hz1, hz2⟩ := info_parts intInfo
  have h := run_makeSlice (P := Tryd.prog) (w := w) 25 3 i0 (.int .i64 0) Tryd.underlying25 hi hz0 .i64 .i64 n n (by omega) (by omega) (by rw [hz1]; simp; omega) (by rw [hz2]; omega) (by omega)
  rw [h, hz1]
  simp only [Int.toNat_natCast, Nat.mul_one]
  unfold zrO
  rw [← zr_made]
  rfl
end Go.Proofs.YtpmpeihcdiohmaaDoor

namespace Go.Proofs.YtpmpeihcdiohmaaDoor
open Go.RowKit

/-! the reference's walk of registers in memory -/
def FarR (t : CC) (lo mb : Nat) (ks : List Nat) (vO vC : Value) : Prop := t.p.2 ≠ [] → ∀ a, t.X = some a → a.block ≠ mb ∧ a.block ∉ ks ∧ vO.ownBlock ≠ some a.block ∧ vC.ownBlock ≠ some a.block ∧ lo ≤ a.block
def roL (h : List UInt8) (v tk : Int) (vO vC : Value) : Array Value := #[.string (mkB h), .int .i64 v, vO, .int .i64 tk, vC]
section
variable (w0 : World) (mb : Nat) (R : List (Nat × List Int)) (F : Nat → Array Value → Prop) (s : ASt) (h : List UInt8) (v : Int) (vO vC : Value) (ts : List CC) (w : World)
structure RoAt : Prop where
  bel : Below w0.heap.size w0 w
  lowM : w0.heap.size ≤ mb
  lowR : ∀ p ∈ R, w0.heap.size ≤ p.1
  blk : w.heap[mb]? = some (.cells (roL h v s.ticks vO vC) 42 (0, 0))
  rs : ∀ p ∈ R, w.heap[p.1]? = some (.cells (intVs p.2).toArray 3 (0, 0))
  nd : (R.map (·.1)).Nodup
  out : w.ownsRow w0.heap.size 3 1 vO s.out.length (intVs s.out)
  one : ∀ p ∈ R, vO.ownBlock ≠ some p.1
  calls : w.ownsRow w0.heap.size 74 2 vC s.calls.length (ts.flatMap CC.cells)
  map : ts.map (·.p) = s.calls
  rows : ∀ t ∈ ts, Row w t.X (intVs t.p.2)
  far : ∀ t ∈ ts, FarR t w0.heap.size mb (R.map (·.1)) vO vC
  fr : ∀ q cs, F q cs → w.heap[q]? = some (.cells cs 59 (0, 0))
end
section
variable {w0 : World} {mb : Nat} {R : List (Nat × List Int)} {F : Nat → Array Value → Prop} {s : ASt} {h : List UInt8} {v : Int} {vO vC : Value} {ts : List CC} {w w' : World}
theorem RoAt.ltM (H : RoAt w0 mb R F s h v vO vC ts w) : mb < w.heap.size := (Array.getElem?_eq_some_iff.1 H.blk).1
theorem RoAt.ltR (H : RoAt w0 mb R F s h v vO vC ts w) {p : Nat × List Int} (hp : p ∈ R) : p.1 < w.heap.size := (Array.getElem?_eq_some_iff.1 (H.rs p hp)).1
theorem RoAt.neR (H : RoAt w0 mb R F s h v vO vC ts w) {p : Nat × List Int} (hp : p ∈ R) : p.1 ≠ mb := fun e => by
  have h1 := H.rs p hp
  rw [e, H.blk] at h1
  injection h1 with h1
  injection h1 with _ h1 _
  exact absurd h1 (by decide)
theorem RoAt.nO (H : RoAt w0 mb R F s h v vO vC ts w) : vO.ownBlock ≠ some mb := own_else H.out H.blk fun cs e => by injection e with _ e _; exact absurd e (by decide)
theorem RoAt.nC (H : RoAt w0 mb R F s h v vO vC ts w) : vC.ownBlock ≠ some mb := own_else H.calls H.blk fun cs e => by injection e with _ e _; exact absurd e (by decide)
theorem RoAt.nCR (H : RoAt w0 mb R F s h v vO vC ts w) {p : Nat × List Int} (hp : p ∈ R) : vC.ownBlock ≠ some p.1 := own_else H.calls (H.rs p hp) fun cs e => by injection e with _ e _; exact absurd e (by decide)
theorem RoAt.frM (H : RoAt w0 mb R F s h v vO vC ts w) {q : Nat} {cs : Array Value} (hq : F q cs) : q ≠ mb := fun e => by
  have h1 := H.fr q cs hq
  rw [e, H.blk] at h1
  injection h1 with h1
  injection h1 with _ h1 _
  exact absurd h1 (by decide)
theorem RoAt.frR (H : RoAt w0 mb R F s h v vO vC ts w) {q : Nat} {cs : Array Value} (hq : F q cs) {p : Nat × List Int} (hp : p ∈ R) : q ≠ p.1 := fun e => by
  have h1 := H.fr q cs hq
  rw [e, H.rs p hp] at h1
  injection h1 with h1
  injection h1 with _ h1 _
  exact absurd h1 (by decide)
theorem RoAt.frL (H : RoAt w0 mb R F s h v vO vC ts w) {q : Nat} {cs : Array Value} (hq : F q cs) : q < w.heap.size := (Array.getElem?_eq_some_iff.1 (H.fr q cs hq)).1
theorem RoAt.frO (H : RoAt w0 mb R F s h v vO vC ts w) {q : Nat} {cs : Array Value} (hq : F q cs) : vO.ownBlock ≠ some q := own_else H.out (H.fr q cs hq) fun cs e => by injection e with _ e _; exact absurd e (by decide)
theorem RoAt.frC (H : RoAt w0 mb R F s h v vO vC ts w) {q : Nat} {cs : Array Value} (hq : F q cs) : vC.ownBlock ≠ some q := own_else H.calls (H.fr q cs hq) fun cs e => by injection e with _ e _; exact absurd e (by decide)
theorem RoAt.reF {F' : Nat → Array Value → Prop} (H : RoAt w0 mb R F s h v vO vC ts w) (hF : ∀ q cs, F' q cs → w.heap[q]? = some (.cells cs 59 (0, 0))) : RoAt w0 mb R F' s h v vO vC ts w :=
  { H with fr := hF }
theorem RoAt.cells (H : RoAt w0 mb R F s h v vO vC ts w) : w.cell? ⟨mb, 0, none⟩ = some (.string (mkB h)) ∧ w.cell? ⟨mb, 1, none⟩ = some (.int .i64 v) ∧ w.cell? ⟨mb, 2, none⟩ = some vO ∧ w.cell? ⟨mb, 3, none⟩ = some (.int .i64 s.ticks) ∧ w.cell? ⟨mb, 4, none⟩ = some vC :=
  ⟨cell_of_row _ _ 0 _ _ _ H.blk, cell_of_row _ _ 1 _ _ _ H.blk, cell_of_row _ _ 2 _ _ _ H.blk, cell_of_row _ _ 3 _ _ _ H.blk, cell_of_row _ _ 4 _ _ _ H.blk⟩
theorem RoAt.cellR (H : RoAt w0 mb R F s h v vO vC ts w) {p : Nat × List Int} (hp : p ∈ R) {j : Nat} (hj : j < p.2.length) : w.cell? ⟨p.1, j, none⟩ = some (.int .i64 (p.2.getD j 0)) := by
  rw [cell_of_row _ _ j _ _ _ (H.rs p hp), List.getElem?_toArray, intVs_get hj, List.getD_eq_getElem?_getD, List.getElem?_eq_getElem hj]; rfl
theorem RoAt.rowR (H : RoAt w0 mb R F s h v vO vC ts w) {p : Nat × List Int} (hp : p ∈ R) : Row w (some ⟨p.1, 0, none⟩) (intVs p.2) := fun j u hj =>
  ⟨p.1, 0, rfl, by rw [Nat.zero_add, cell_of_row _ _ j _ _ _ (H.rs p hp), List.getElem?_toArray]; exact hj⟩
/-- What is not touched is kept. -/
theorem RoAt.same (H : RoAt w0 mb R F s h v vO vC ts w) (hb : Below w0.heap.size w w') (hs : ∀ k, k < w.heap.size → w'.heap[k]? = w.heap[k]?) : RoAt w0 mb R F s h v vO vC ts w' where
  bel := H.bel.trans hb
  lowM := H.lowM
  lowR := H.lowR
  blk := (hs _ H.ltM).trans H.blk
  rs := fun p hp => (hs _ (H.ltR hp)).trans (H.rs p hp)
  nd := H.nd
  out := own_same H.out fun j hj => hs _ (own_lt H.out hj).2
  one := H.one
  calls := own_same H.calls fun j hj => hs _ (own_lt H.calls hj).2
  map := H.map
  rows := fun t ht => row_by (H.rows t ht) fun hl a ha => hs _ (row_lt (H.rows t ht) hl a ha)
  far := H.far
  fr := fun q cs hq => (hs _ (H.frL hq)).trans (H.fr q cs hq)
theorem RoAt.below (H : RoAt w0 mb R F s h v vO vC ts w) (hb : Below w.heap.size w w') : RoAt w0 mb R F s h v vO vC ts w' :=
  H.same (hb.mono H.bel.size) fun k hk => hb.block k hk
theorem RoAt.drewN (H : RoAt w0 mb R F s h v vO vC ts w) (n : Nat) : RoAt w0 mb R F s h v vO vC ts (w.drewN n) := H.below (below_drewN (Below.refl _ _) n)
theorem RoAt.frozen (H : RoAt w0 mb R F s h v vO vC ts w) (j : Nat) : w.frozen? ⟨mb, j, none⟩ = false := row_frozen H.blk j
theorem RoAt.frozenR (H : RoAt w0 mb R F s h v vO vC ts w) {p : Nat × List Int} (hp : p ∈ R) (j : Nat) : w.frozen? ⟨p.1, j, none⟩ = false := row_frozen (H.rs p hp) j
/-- A cell of the end's own block is stored. -/
theorem RoAt.set {s' : ASt} {h' : List UInt8} {v' : Int} {j : Nat} (y : Value) (H : RoAt w0 mb R F s h v vO vC ts w) (hl : roL h' v' s'.ticks vO vC = (roL h v s.ticks vO vC).setIfInBounds j y) (e2 : s'.out = s.out) (e3 : s'.calls = s.calls) :
    RoAt w0 mb R F s' h' v' vO vC ts (w.setCell ⟨mb, j, none⟩ y) where
  bel := H.bel.setCell H.lowM _
  lowM := H.lowM
  lowR := H.lowR
  blk := row_set (j := j) y H.blk hl
  rs := fun p hp => (Below.heap_setCell _ _ _ _ (H.neR hp)).trans (H.rs p hp)
  nd := H.nd
  out := by rw [e2]; exact own_same H.out fun k hk => Below.heap_setCell _ _ _ _ (fun e => H.nO (by rw [hk, e]))
  one := H.one
  calls := by rw [e3]; exact own_same H.calls fun k hk => Below.heap_setCell _ _ _ _ (fun e => H.nC (by rw [hk, e]))
  map := by rw [e3]; exact H.map
  rows := fun t ht => row_by (H.rows t ht) fun hl a ha => Below.heap_setCell _ _ _ _ (H.far t ht hl a ha).1
  far := H.far
  fr := fun q cs hq => (Below.heap_setCell _ _ _ _ (H.frM hq)).trans (H.fr q cs hq)
theorem nodup_ne {R : List (Nat × List Int)} (h : (R.map (·.1)).Nodup) {i k : Nat} (hi : i < R.length) (hk : k < R.length) (hik : i ≠ k) : R[i].1 ≠ R[k].1 := by
  have h1 := List.pairwise_iff_getElem.1 h
  by_cases hlt : i < k
  · have := h1 i k (by simpa using hi) (by simpa using hk) hlt
    simpa using this
  · have := h1 k i (by simpa using hk) (by simpa using hi) (by omega)
    simp only [List.getElem_map] at this
    exact fun e => this e.symm
/-- A number of a row is stored. -/
theorem RoAt.setR (H : RoAt w0 mb R F s h v vO vC ts w) {s' : ASt} {k b : Nat} {l : List Int} (hk : R[k]? = some (b, l)) (j : Nat) (n : Int) (e1 : s'.ticks = s.ticks) (e2 : s'.out = s.out) (e3 : s'.calls = s.calls) :
    RoAt w0 mb (R.set k (b, l.set j n)) F s' h v vO vC ts (w.setCell ⟨b, j, none⟩ (.int .i64 n)) := by
  obtain ⟨hkl, hke⟩ := List.getElem?_eq_some_iff.1 hk
  have hm : (b, l) ∈ R := hke ▸ List.getElem_mem hkl
  have hmp : (R.set k (b, l.set j n)).map (·.1) = R.map (·.1) := by
    apply List.ext_getElem
    · simp
    · intro i h1 h2
      simp only [List.getElem_map, List.getElem_set]
      split
      · rename_i e; subst e; rw [hke]
      · rfl
  have hin : ∀ p ∈ R.set k (b, l.set j n), (p.1 = b ∧ p = (b, l.set j n)) ∨ (p ∈ R ∧ p.1 ≠ b) := fun p hp => by
    obtain ⟨i, hi, rfl⟩ := List.mem_iff_getElem.1 hp
    rw [List.getElem_set]
    split
    · exact .inl ⟨rfl, rfl⟩
    · rename_i e
      have hi' : i < R.length := by simpa using hi
      exact .inr ⟨List.getElem_mem hi', by have := nodup_ne H.nd hi' hkl (Ne.symm e); rw [hke] at this; exact this⟩
  have hkp : ∀ q, q ≠ b → (w.setCell ⟨b, j, none⟩ (.int .i64 n)).heap[q]? = w.heap[q]? := fun q hq => Below.heap_setCell _ _ _ _ hq
  exact {
    bel := H.bel.setCell (H.lowR _ hm) _
    lowM := H.lowM
    lowR := fun p hp => by
      rcases hin p hp with ⟨e, -⟩ | ⟨hp, -⟩
      · rw [e]; exact H.lowR _ hm
      · exact H.lowR p hp
    blk := (hkp _ (Ne.symm (H.neR hm))).trans (by rw [e1]; exact H.blk)
    rs := fun p hp => by
      rcases hin p hp with ⟨-, e⟩ | ⟨hp, hn⟩
      · subst e; exact row_set (j := j) _ (H.rs _ hm) (by rw [intVs_set]; simp)
      · exact (hkp _ hn).trans (H.rs p hp)
    nd := by rw [hmp]; exact H.nd
    out := by rw [e2]; exact own_same H.out fun q hq => hkp _ (fun e => H.one _ hm (by rw [hq, e]))
    one := fun p hp => by
      rcases hin p hp with ⟨e, -⟩ | ⟨hp, -⟩
      · rw [e]; exact H.one _ hm
      · exact H.one p hp
    calls := by rw [e3]; exact own_same H.calls fun q hq => hkp _ (fun e => H.nCR hm (by rw [hq, e]))
    map := by rw [e3]; exact H.map
    rows := fun t ht => row_by (H.rows t ht) fun hl a ha => hkp _ (fun e => (H.far t ht hl a ha).2.1 (by rw [e]; exact List.mem_map_of_mem hm))
    far := fun t ht => by rw [hmp]; exact H.far t ht
    fr := fun q cs hq => (hkp _ (H.frR hq hm)).trans (H.fr q cs hq) }
/-- A row is made anew. -/
theorem RoAt.newR (H : RoAt w0 mb R F s h v vO vC ts w) {s' : ASt} {k : Nat} (hk : k < R.length) (n : Nat) (e1 : s'.ticks = s.ticks) (e2 : s'.out = s.out) (e3 : s'.calls = s.calls) :
    RoAt w0 mb (R.set k (w.heap.size, List.replicate n 0)) F s' h v vO vC ts (w.alloc (zrO n)) := by
  have H1 := H.below (w' := w.alloc (zrO n)) (grow_alloc (grow_refl _) _)
  have hin : ∀ p ∈ R.set k (w.heap.size, List.replicate n 0), p = (w.heap.size, List.replicate n 0) ∨ p ∈ R := fun p hp => by
    obtain ⟨i, hi, rfl⟩ := List.mem_iff_getElem.1 hp
    rw [List.getElem_set]
    split
    · exact .inl rfl
    · exact .inr (List.getElem_mem (by simpa using hi))
  exact {
    bel := H1.bel
    lowM := H1.lowM
    lowR := fun p hp => by
      rcases hin p hp with e | hp
      · rw [e]; exact H.bel.size
      · exact H.lowR p hp
    blk := by rw [e1]; exact H1.blk
    rs := fun p hp => by
      rcases hin p hp with e | hp
      · rw [e]; exact heap_alloc_new w _
      · exact H1.rs p hp
    nd := by
      refine List.pairwise_iff_getElem.2 fun i j hi hj hij => ?_
      simp only [List.length_map, List.length_set] at hi hj
      simp only [List.getElem_map, List.getElem_set]
      have hlt : ∀ i (hi : i < R.length), R[i].1 < w.heap.size := fun i hi => H.ltR (List.getElem_mem hi)
      by_cases hki : k = i
      · rw [if_pos hki, if_neg (by omega)]
        have := hlt j hj
        simp only
        omega
      · rw [if_neg hki]
        by_cases hkj : k = j
        · rw [if_pos hkj]
          have := hlt i hi
          simp only
          omega
        · rw [if_neg hkj]
          exact nodup_ne H.nd hi hj (by omega)
    out := by rw [e2]; exact H1.out
    one := fun p hp => by
      rcases hin p hp with e | hp
      · rw [e]; intro e; have := (own_lt H.out e).2; simp only at this; omega
      · exact H.one p hp
    calls := by rw [e3]; exact H1.calls
    map := by rw [e3]; exact H1.map
    rows := H1.rows
    far := fun t ht hl a ha => by
      have hf := H.far t ht hl a ha
      refine ⟨hf.1, fun hm => ?_, hf.2.2⟩
      obtain ⟨p, hp, e⟩ := List.mem_map.1 hm
      rcases hin p hp with e2 | hp
      · have := row_lt (H.rows t ht) hl a ha
        rw [e2] at e
        simp only at e
        omega
      · exact hf.2.1 (e ▸ List.mem_map_of_mem hp)
    fr := H1.fr }
theorem RoAt.putO {w4 : World} {o : Obj} {n : Int} {g cap : Nat} (H : RoAt w0 mb R F s h v vO vC ts w) (hown : w4.ownsRow w0.heap.size 3 1 (.slice (some ⟨g, 0, none⟩) (s.out.length + 1) cap) (s.out.length + 1) (intVs s.out ++ [.int .i64 n]))
    (hg : (w.alloc o).grownBy w4 vO.ownBlock) (hat : vO.ownBlock = some g ∨ g = w.heap.size + 1) :
    w4.heap[mb]? = w.heap[mb]? ∧ RoAt w0 mb R F { s with out := s.out ++ [n] } h v (.slice (some ⟨g, 0, none⟩) (s.out.length + 1) cap) vC ts (w4.setCell ⟨mb, 2, none⟩ (.slice (some ⟨g, 0, none⟩) (s.out.length + 1) cap)) := by
  have hm : ∀ k, k < w.heap.size → vO.ownBlock ≠ some k → w4.heap[k]? = w.heap[k]? := fun k hk hne => by rw [hg.block k (by simp; omega) (fun e => hne e.symm)]; exact old_block _ _ hk
  have hmb := hm mb H.ltM H.nO
  have hgm : g ≠ mb := fun e => own_else hown (hmb.trans H.blk) (fun cs e => by injection e with _ e _; exact absurd e (by decide)) (by rw [e]; rfl)
  have hgs : ∀ p ∈ R, g ≠ p.1 := fun p hp e => by
    rcases hat with h1 | h1
    · exact H.one p hp (by rw [h1, e])
    · have := H.ltR hp; omega
  have hs2 : ∀ k, k ≠ mb → (w4.setCell ⟨mb, 2, none⟩ (.slice (some ⟨g, 0, none⟩) (s.out.length + 1) cap)).heap[k]? = w4.heap[k]? := fun k hk => Below.heap_setCell _ _ _ _ hk
  refine ⟨hmb, ?_⟩
  refine { bel := H.bel.trans ((Below.grown ((Below.refl w0.heap.size w).alloc H.bel.size o) hg (by simp; have := H.bel.size; omega) (fun q hq => (own_lt H.out hq).1)).setCell H.lowM _), lowM := H.lowM, lowR := H.lowR, blk := row_set (j := 2) _ (hmb.trans H.blk) (by unfold roL; simp), rs := fun p hp => (hs2 _ (H.neR hp)).trans ((hm p.1 (H.ltR hp) (H.one p hp)).trans (H.rs p hp)), nd := H.nd, out := ?_, one := fun p hp e => hgs p hp (by injection e), calls := ?_, map := H.map, rows := fun t ht => ?_, far := fun t ht hl a ha => ?_, fr := fun q cs hq => (hs2 _ (H.frM hq)).trans ((hm _ (H.frL hq) (H.frO hq)).trans (H.fr q cs hq)) }
  · have e : intVs (s.out ++ [n]) = intVs s.out ++ [.int .i64 n] := intVs_snoc _ _
    show World.ownsRow _ _ _ _ _ (s.out ++ [n]).length (intVs (s.out ++ [n]))
    rw [e, List.length_append, List.length_singleton]
    exact own_same hown fun j hj => hs2 j (fun e => hgm (by injection hj with hj; exact (show g = j from hj).trans e))
  · refine own_same H.calls fun j hj => ?_
    have h1 := own_lt H.calls hj
    have h2 := own_ne H.calls H.out (by decide) hj
    exact (hs2 j (fun e => H.nC (by rw [hj, e]))).trans (hm j h1.2 h2)
  · refine row_by (H.rows t ht) fun hl a ha => ?_
    have hf := H.far t ht hl a ha
    exact (hs2 _ hf.1).trans (hm _ (row_lt (H.rows t ht) hl a ha) hf.2.2.1)
  · have hf := H.far t ht hl a ha
    refine ⟨hf.1, hf.2.1, ?_, hf.2.2.2⟩
    intro e
    injection e with e
    have e2 : g = a.block := e
    rcases hat with h1 | h1
    · exact hf.2.2.1 (by rw [h1, e2])
    · have := row_lt (H.rows t ht) hl a ha; omega
theorem RoAt.putC {w4 : World} {o : Obj} {t : CC} {g cap : Nat} (H : RoAt w0 mb R F s h v vO vC ts w) (hown : w4.ownsRow w0.heap.size 74 2 (.slice (some ⟨g, 0, none⟩) (s.calls.length + 1) cap) (s.calls.length + 1) (ts.flatMap CC.cells ++ t.cells))
    (hg : (w.alloc o).grownBy w4 vC.ownBlock) (hat : vC.ownBlock = some g ∨ g = w.heap.size + 1) (hrow : Row w t.X (intVs t.p.2)) (hfar : FarR t w0.heap.size mb (R.map (·.1)) vO vC) :
    w4.heap[mb]? = w.heap[mb]? ∧ RoAt w0 mb R F { s with calls := s.calls ++ [t.p] } h v vO (.slice (some ⟨g, 0, none⟩) (s.calls.length + 1) cap) (ts ++ [t]) (w4.setCell ⟨mb, 4, none⟩ (.slice (some ⟨g, 0, none⟩) (s.calls.length + 1) cap)) := by
  have hm : ∀ k, k < w.heap.size → vC.ownBlock ≠ some k → w4.heap[k]? = w.heap[k]? := fun k hk hne => by rw [hg.block k (by simp; omega) (fun e => hne e.symm)]; exact old_block _ _ hk
  have hmb := hm mb H.ltM H.nC
  have hgm : g ≠ mb := fun e => own_else hown (hmb.trans H.blk) (fun cs e => by injection e with _ e _; exact absurd e (by decide)) (by rw [e]; rfl)
  have hs2 : ∀ k, k ≠ mb → (w4.setCell ⟨mb, 4, none⟩ (.slice (some ⟨g, 0, none⟩) (s.calls.length + 1) cap)).heap[k]? = w4.heap[k]? := fun k hk => Below.heap_setCell _ _ _ _ hk
  have hall : ∀ t' ∈ ts ++ [t], Row w t'.X (intVs t'.p.2) ∧ FarR t' w0.heap.size mb (R.map (·.1)) vO vC := fun t' ht => by
    rcases List.mem_append.1 ht with ht | ht
    · exact ⟨H.rows _ ht, H.far _ ht⟩
    · rw [List.mem_singleton.1 ht]; exact ⟨hrow, hfar⟩
  refine ⟨hmb, ?_⟩
  refine { bel := H.bel.trans ((Below.grown ((Below.refl w0.heap.size w).alloc H.bel.size o) hg (by simp; have := H.bel.size; omega) (fun q hq => (own_lt H.calls hq).1)).setCell H.lowM _), lowM := H.lowM, lowR := H.lowR, blk := row_set (j := 4) _ (hmb.trans H.blk) (by unfold roL; simp), rs := fun p hp => (hs2 _ (H.neR hp)).trans ((hm p.1 (H.ltR hp) (H.nCR hp)).trans (H.rs p hp)), nd := H.nd, out := ?_, one := H.one, calls := ?_, map := ?_, rows := fun t' ht => ?_, far := fun t' ht hl a ha => ?_, fr := fun q cs hq => (hs2 _ (H.frM hq)).trans ((hm _ (H.frL hq) (H.frC hq)).trans (H.fr q cs hq)) }
  · refine own_same H.out fun j hj => ?_
    have h1 := own_lt H.out hj
    have h2 := own_ne H.out H.calls (by decide) hj
    exact (hs2 j (fun e => H.nO (by rw [hj, e]))).trans (hm j h1.2 h2)
  · show World.ownsRow _ _ _ _ _ (s.calls ++ [t.p]).length ((ts ++ [t]).flatMap CC.cells)
    rw [List.length_append, List.length_singleton, List.flatMap_append, List.flatMap_singleton]
    exact own_same hown fun j hj => hs2 j (fun e => hgm (by injection hj with hj; exact (show g = j from hj).trans e))
  · show (ts ++ [t]).map (·.p) = s.calls ++ [t.p]
    rw [List.map_append, H.map]; rfl
  · refine row_by (hall t' ht).1 fun hl a ha => ?_
    have hf := (hall t' ht).2 hl a ha
    exact (hs2 _ hf.1).trans (hm _ (row_lt (hall t' ht).1 hl a ha) hf.2.2.2.1)
  · have hf := (hall t' ht).2 hl a ha
    refine ⟨hf.1, hf.2.1, hf.2.2.1, ?_, hf.2.2.2.2⟩
    intro e
    injection e with e
    have e2 : g = a.block := e
    rcases hat with h1 | h1
    · exact hf.2.2.2.1 (by rw [h1, e2])
    · have := row_lt (hall t' ht).1 hl a ha; omega
end
end Go.Proofs.YtpmpeihcdiohmaaDoor
