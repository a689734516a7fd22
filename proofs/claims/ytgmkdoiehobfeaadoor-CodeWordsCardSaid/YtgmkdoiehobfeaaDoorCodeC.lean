import Derived.Test.YtgmkdoiehobfeaaDoorCodeS
namespace Go.Proofs.YtgmkdoiehobfeaaDoor
open Go.RowKit

/-- What a world holds that the package code reads. -/
structure CodeLaid (KB KS KK : Addr) (w : World) : Prop where
  b : w.cell? ⟨1, 0, none⟩ = some (esV KB)
  s : w.cell? ⟨2, 0, none⟩ = some (esV KS)
  k : w.cell? ⟨0, 0, none⟩ = some (esV KK)
  tab : Lib.TabBelow Tryd.prog w.heap.size w "internal/strconv.uint64pow10" .u64 Lib.pow10Tab
theorem CodeLaid.below {KB KS KK : Addr} {w w' : World} (h : CodeLaid KB KS KK w) (hb : Below w.heap.size w w') : CodeLaid KB KS KK w' :=
  ⟨Keeps.of_below hb _ _ h.b, Keeps.of_below hb _ _ h.s, Keeps.of_below hb _ _ h.k, Lib.tabBelow_of_tabIs (h.tab w' hb)⟩
theorem encode_ok {i : PIns} (h : errI i = 0) {KB KS KK : Addr} {w : World} (hL : CodeLaid KB KS KK w) : Calls Tryd.prog 7 #[insV i] w (Ret (.tuple #[.int .u64 (wordP i), .nilIface]) w) := by
  have := Encode_any i KB KS KK w hL.b hL.s hL.k
  unfold encV at this
  rw [h] at this
  exact this
theorem errV_bad (KB KS KK : Addr) (n : Nat) (h : n ≠ 0) : ∃ K, errV KB KS KK n = .iface 118 (.pointer (some K)) := by
  unfold errV
  rw [if_neg h]
  split
  · exact ⟨_, rfl⟩
  · split <;> exact ⟨_, rfl⟩
theorem encode_bad {i : PIns} (h : errI i ≠ 0) {KB KS KK : Addr} {w : World} (hL : CodeLaid KB KS KK w) : Calls Tryd.prog 7 #[insV i] w fun e w' => ∃ K, e = .returned (.tuple #[.int .u64 0, .iface 118 (.pointer (some K))]) ∧ Below w.heap.size w w' := by
  obtain ⟨K, hK⟩ := errV_bad KB KS KK (errI i) h
  refine (Encode_any i KB KS KK w hL.b hL.s hL.k).mono ?_
  rintro e w' ⟨rfl, hb⟩
  exact ⟨K, by unfold encV; rw [if_neg h, hK], hb⟩
theorem decode_ok {v : Int} (h0 : 0 ≤ v) (h1 : v < 18446744073709551616) (h : errW v = 0) {KB KS KK : Addr} {w : World} (hL : CodeLaid KB KS KK w) : Calls Tryd.prog 6 #[.int .u64 v] w (Ret (.tuple #[insV (insP v), .nilIface]) w) := by
  have := Decode_any v h0 h1 KB KS KK w hL.b hL.s hL.k
  unfold decV at this
  rw [h] at this
  exact this
theorem decode_bad {v : Int} (h0 : 0 ≤ v) (h1 : v < 18446744073709551616) (h : errW v ≠ 0) {KB KS KK : Addr} {w : World} (hL : CodeLaid KB KS KK w) : Calls Tryd.prog 6 #[.int .u64 v] w fun e w' => ∃ K, e = .returned (.tuple #[noIns, .iface 118 (.pointer (some K))]) ∧ Below w.heap.size w w' := by
  obtain ⟨K, hK⟩ := errV_bad KB KS KK (errW v) h
  refine (Decode_any v h0 h1 KB KS KK w hL.b hL.s hL.k).mono ?_
  rintro e w' ⟨rfl, hb⟩
  exact ⟨K, by unfold decV; rw [if_neg h, hK], hb⟩
theorem coding_any (KB KS KK : Addr) (w : World) (hL : CodeLaid KB KS KK w) : Calls Tryd.prog 5 #[] w (Ret (.bool true) w) := by
  have H1 : Hid (∀ w', Below w.heap.size w w' → Calls Tryd.prog 7 #[.agg #[.string ⟨#[99, 111, 110, 115, 116]⟩, .int .i64 1, .int .i64 0, .int .i64 0, .int .i64 (-1)]] w' (Ret (.tuple #[.int .u64 72339073309605887, .nilIface]) w')) := fun w' hb =>
    encode_ok (i := ⟨[99, 111, 110, 115, 116], 1, 0, 0, -1⟩) (by decide) (hL.below hb)
  have H2 : Hid (∀ w', Below w.heap.size w w' → Calls Tryd.prog 6 #[.int .u64 72339073309605887] w' (Ret (.tuple #[.agg #[.string ⟨#[99, 111, 110, 115, 116]⟩, .int .i64 1, .int .i64 0, .int .i64 0, .int .i64 (-1)], .nilIface]) w')) := fun w' hb =>
    decode_ok (by decide) (by decide) (by decide) (hL.below hb)
  go_enter Tryd.func5, Tryd.ntmps5
  go_wp2_with (first
    | (go_at_call 7; (with_reducible refine (H1.out _ (Below.refl _ _)).mono ?_); rintro x w1 ⟨rfl, hb1⟩)
    | (go_at_call 6; (with_reducible refine (H2.out _ hb1).mono ?_); rintro x w2 ⟨rfl, hb2⟩))
  go_ret
  exact ⟨rfl, grow_alloc (grow_trans hb1 hb2) _⟩
end Go.Proofs.YtgmkdoiehobfeaaDoor
