import Derived.Deep.RegionWith
import Derived.Deep.RegionHeld3
import Derived.Test.YtpfgimohginbdaaDoorBn9
import Derived.Test.YtpfgimohginbdaaDoorBn14
import Derived.Test.YtpfgimohginbdaaDoorBn3
import Derived.Test.YtpfgimohginbdaaDoorBn8
set_option linter.unusedVariables false
set_option linter.unusedSimpArgs false
namespace Go.Proofs.YtpfgimohginbdaaDoor
open Go.RowKit

end Go.Proofs.YtpfgimohginbdaaDoor

namespace Go.Proofs.YtpfgimohginbdaaDoor
open Go.RowKit


theorem Index_any (s : ByteArray) (A : Option Addr) (xs : List ByteArray) (c : Nat) (w : World) (hr : Row w A (xs.map .string)) (hn : xs.length ≤ 1000000) :
    Calls Tryd.prog 60 #[.slice A xs.length c, .string s] w fun e w' => e = .returned (.int .i64 (idxV s xs 0)) ∧ w' = w := by
  go_enter Tryd.func60, Tryd.ntmps60
  go_wp2_with fail
  go_loop [8] (fun i => ∃ k : Nat, k ≤ xs.length ∧ i = .int .i64 k ∧ idxV s xs 0 = idxV s (xs.drop k) k) (fun i => xs.length - (intOf i).toNat)
  case atStart => exact ⟨0, Nat.zero_le _, rfl, by simp⟩
  case round =>
    obtain ⟨k, hk, rfl, hI⟩ := hrel
    have HI := Lib.hid hI
    clear hI
    by_cases hlt : k < xs.length
    · obtain ⟨b, off, rfl, hc⟩ := hr k _ (strs_get hlt)
      have HD := Lib.hid (idxV_drop (s := s) hlt)
      by_cases he : (s.toList == xs[k].toList) = true
      · go_wp2_with fail
        go_ret
        exact ⟨by rw [HI.out, HD.out, if_pos he]; rfl, rfl⟩
      · have he' : (s.toList == xs[k].toList) = false := by simpa using he
        have HE := Lib.hid he
        clear he
        go_wp2_with fail
        go_round
        case rel => exact ⟨k + 1, by omega, by go_num, by rw [HI.out, HD.out, if_neg HE.out]⟩
        case measure => simp [intOf]; omega
    · have hk' : k = xs.length := by omega
      subst hk'
      go_wp2_with fail
      go_ret
      exact ⟨by rw [HI.out]; simp [idxV], rfl⟩
theorem Contains_any (s : ByteArray) (A : Option Addr) (xs : List ByteArray) (c : Nat) (w : World) (hr : Row w A (xs.map .string)) (hn : xs.length ≤ 1000000) :
    Calls Tryd.prog 49 #[.slice A xs.length c, .string s] w fun e w' => e = .returned (.bool (isIn s xs)) ∧ w' = w := by
  have HB := Lib.hid (idxV_isIn s xs 0)
  go_enter Tryd.func49, Tryd.ntmps49
  go_wp2_with (go_at_call 60; refine (Index_any _ _ _ _ _ hr hn).mono ?_; rintro e w' ⟨rfl, rfl⟩)
  go_ret
  exact ⟨by rw [← HB.out]; rfl, rfl⟩
end Go.Proofs.YtpfgimohginbdaaDoor

namespace Go.Proofs.YtpfgimohginbdaaDoor
open Go.RowKit

def strV (l : List UInt8) : Value := .string (mkB l)
theorem isIn_strV (s : List UInt8) (r : List (List UInt8)) : isIn (mkB s) (r.map mkB) = r.contains s := by
  rw [isIn_mkB, mkB_toList, List.contains_eq_any_beq]
  congr 1
  funext x
  exact Bool.beq_comm ..
end Go.Proofs.YtpfgimohginbdaaDoor

namespace Go.Proofs.YtpfgimohginbdaaDoor
open Go.RowKit

/-- The rows of ops in memory. -/
def LevRows (w : World) (A : Option Addr) : Prop := ∀ k, k < 8 → ∃ b off B c, A = some ⟨b, off, none⟩ ∧ w.cell? ⟨b, off + k, none⟩ = some (.slice B (opsRows.getD k []).length c) ∧ Row w B ((opsRows.getD k []).map strV)
theorem LevRows.keep {w w' : World} {A : Option Addr} (h : LevRows w A) (k : Keeps w w') : LevRows w' A := fun i hi => by
  obtain ⟨b, off, B, c, e, h1, h2⟩ := h i hi
  exact ⟨b, off, B, c, e, k _ _ h1, h2.keep k⟩
theorem new_blockS (W : World) (o : Obj) {n : Nat} (h : W.heap.size = n) : (W.alloc o).heap[n]? = some o := h ▸ heap_alloc_new W o
theorem old_blockS (W : World) (o x : Obj) {n : Nat} (h : n < W.heap.size) (hx : W.heap[n]? = some x) : (W.alloc o).heap[n]? = some x := (((Below.refl W.heap.size W).alloc (Nat.le_refl _) o).block n h).trans hx
set_option maxHeartbeats 4000000 in
set_option maxRecDepth 100000 in
theorem Levels_any (w : World) : Calls Tryd.prog 32 #[] w fun e w' => ∃ A, e = .returned (.slice A 8 8) ∧ LevRows w' A ∧ Below w.heap.size w w' := by
  go_enter Tryd.func32, Tryd.ntmps32
  go_wp2_with fail
  go_ret
  refine ⟨_, rfl, ?_, ?_⟩
  · intro k hk
    have e : ∀ (W : World) (o : Obj), (W.alloc o).heap.size = W.heap.size + 1 := fun W o => by simp
    rcases (by omega : k = 0 ∨ k = 1 ∨ k = 2 ∨ k = 3 ∨ k = 4 ∨ k = 5 ∨ k = 6 ∨ k = 7) with rfl | rfl | rfl | rfl | rfl | rfl | rfl | rfl
    · refine ⟨_, 0, some ⟨w.heap.size, 0, none⟩, 2, rfl, cell_of_row _ _ 0 _ _ _ (new_blockS _ _ (by simp)), Row.of_eq (Row.block (t := 9) (fz := (0, 0)) ?_) rfl⟩
      repeat (first | exact new_blockS _ _ (by simp) | refine old_blockS _ _ _ (by simp only [e]; omega) ?_)
    · refine ⟨_, 0, some ⟨w.heap.size + 1, 0, none⟩, 2, rfl, cell_of_row _ _ 1 _ _ _ (new_blockS _ _ (by simp)), Row.of_eq (Row.block (t := 9) (fz := (0, 0)) ?_) rfl⟩
      repeat (first | exact new_blockS _ _ (by simp) | refine old_blockS _ _ _ (by simp only [e]; omega) ?_)
    · refine ⟨_, 0, some ⟨w.heap.size + 1 + 1, 0, none⟩, 1, rfl, cell_of_row _ _ 2 _ _ _ (new_blockS _ _ (by simp)), Row.of_eq (Row.block (t := 9) (fz := (0, 0)) ?_) rfl⟩
      repeat (first | exact new_blockS _ _ (by simp) | refine old_blockS _ _ _ (by simp only [e]; omega) ?_)
    · refine ⟨_, 0, some ⟨w.heap.size + 1 + 1 + 1, 0, none⟩, 1, rfl, cell_of_row _ _ 3 _ _ _ (new_blockS _ _ (by simp)), Row.of_eq (Row.block (t := 9) (fz := (0, 0)) ?_) rfl⟩
      repeat (first | exact new_blockS _ _ (by simp) | refine old_blockS _ _ _ (by simp only [e]; omega) ?_)
    · refine ⟨_, 0, some ⟨w.heap.size + 1 + 1 + 1 + 1, 0, none⟩, 1, rfl, cell_of_row _ _ 4 _ _ _ (new_blockS _ _ (by simp)), Row.of_eq (Row.block (t := 9) (fz := (0, 0)) ?_) rfl⟩
      repeat (first | exact new_blockS _ _ (by simp) | refine old_blockS _ _ _ (by simp only [e]; omega) ?_)
    · refine ⟨_, 0, some ⟨w.heap.size + 1 + 1 + 1 + 1 + 1, 0, none⟩, 2, rfl, cell_of_row _ _ 5 _ _ _ (new_blockS _ _ (by simp)), Row.of_eq (Row.block (t := 9) (fz := (0, 0)) ?_) rfl⟩
      repeat (first | exact new_blockS _ _ (by simp) | refine old_blockS _ _ _ (by simp only [e]; omega) ?_)
    · refine ⟨_, 0, some ⟨w.heap.size + 1 + 1 + 1 + 1 + 1 + 1, 0, none⟩, 2, rfl, cell_of_row _ _ 6 _ _ _ (new_blockS _ _ (by simp)), Row.of_eq (Row.block (t := 9) (fz := (0, 0)) ?_) rfl⟩
      repeat (first | exact new_blockS _ _ (by simp) | refine old_blockS _ _ _ (by simp only [e]; omega) ?_)
    · refine ⟨_, 0, some ⟨w.heap.size + 1 + 1 + 1 + 1 + 1 + 1 + 1, 0, none⟩, 3, rfl, cell_of_row _ _ 7 _ _ _ (new_blockS _ _ (by simp)), Row.of_eq (Row.block (t := 9) (fz := (0, 0)) ?_) rfl⟩
      repeat (first | exact new_blockS _ _ (by simp) | refine old_blockS _ _ _ (by simp only [e]; omega) ?_)
  · exact grow_alloc (grow_alloc (grow_alloc (grow_alloc (grow_alloc (grow_alloc (grow_alloc (grow_alloc (grow_alloc (grow_refl w) _) _) _) _) _) _) _) _) _
theorem level1_any (s : List UInt8) (p : Nat) (B : Option Addr) (r : List (List UInt8)) (c : Nat) (w : World) (hr : Row w B (r.map strV)) (hl : r.length ≤ 1000000) (h : w.cell? ⟨p, 0, none⟩ = some (.string (mkB s))) :
    Calls Tryd.prog 48 #[.slice B r.length c, .pointer (some ⟨p, 0, none⟩)] w (Ret (.bool (r.contains s)) w) := by
  have hI := Lib.hid (isIn_strV s r)
  have hc := Contains_any (mkB s) B (r.map mkB) c w (by rw [List.map_map]; exact hr) (by simpa using hl)
  rw [List.length_map] at hc
  have HC := Lib.hid hc
  clear hc
  go_enter Tryd.func48, Tryd.ntmps48
  go_wp2_with (go_at_call 49; (with_reducible refine HC.out.mono ?_); rintro x w1 ⟨rfl, rfl⟩)
  go_ret
  exact ⟨by rw [← hI.out]; rfl, grow_refl _⟩
theorem lev_step (s : List UInt8) {k : Nat} (h : k < 8) : levFrom s (opsRows.drop k) k = if (opsRows.getD k []).contains s then (k : Int) else levFrom s (opsRows.drop (k + 1)) (k + 1) := by
  have hk : k < opsRows.length := h
  rw [levFrom_drop hk, List.getD_eq_getElem?_getD, List.getElem?_eq_getElem hk]
  rfl
theorem row_small : ∀ k, k < 8 → (opsRows.getD k []).length ≤ 1000000 := by
  intro k hk
  rcases (by omega : k = 0 ∨ k = 1 ∨ k = 2 ∨ k = 3 ∨ k = 4 ∨ k = 5 ∨ k = 6 ∨ k = 7) with rfl | rfl | rfl | rfl | rfl | rfl | rfl | rfl <;> simp [opsRows]
set_option maxRecDepth 100000 in
theorem indexLev_any (s : List UInt8) (A : Option Addr) (c p : Nat) (w : World) (hr : LevRows w A) (h : w.cell? ⟨p, 0, none⟩ = some (.string (mkB s))) :
    Calls Tryd.prog 47 #[.slice A 8 c, .func (.func 48) #[] #[.pointer (some ⟨p, 0, none⟩)]] w (Ret (.int .i64 (levelP s)) w) := by
  have HR := Lib.hid hr
  have HC := Lib.hid h
  have HL : Hid (levelP s = levFrom s (opsRows.drop 0) 0) := show levelP s = _ from rfl
  clear hr h
  go_enter Tryd.func47, Tryd.ntmps47
  go_wp2_with fail
  go_loopw [5, 8] (fun _ i wr => ∃ k : Nat, k ≤ 8 ∧ i = .int .i64 k ∧ levelP s = levFrom s (opsRows.drop k) k ∧ Below w.heap.size w wr) (fun _ i _ => 8 - (intOf i).toNat)
  case atStart => exact ⟨0, by omega, rfl, HL.out, Below.refl _ _⟩
  case round =>
    obtain ⟨k, hk, rfl, hf, hW⟩ := hrel
    have HF := Lib.hid hf
    clear hf
    have HW := Lib.hid hW
    by_cases hlt : k < 8
    · obtain ⟨b, off, B, c1, rfl, a0, a1⟩ := HR.out.keep (.of_below hW) k hlt
      have hp := Keeps.of_below hW _ _ HC.out
      clear hW
      have hlt' : (k : Int) < 8 := by omega
      have HK := Lib.hid (level1_any s p B (opsRows.getD k []) c1 wr a1 (row_small k hlt) hp)
      have hst := lev_step s hlt
      clear a1 hp
      obtain ⟨r, hr⟩ : ∃ r, opsRows.getD k [] = r := ⟨_, rfl⟩
      rw [hr] at HK hst a0
      cases ht : r.contains s
      · rw [ht] at HK hst
        have HN := Lib.hid hst
        clear hst ht hr
        go_wp2_with (go_at_call 48; (with_reducible refine HK.out.mono ?_); rintro x w1 ⟨rfl, hb1⟩)
        go_roundw
        case rel => exact ⟨k + 1, by omega, by go_num, by rw [HF.out, HN.out]; rfl, grow_trans HW.out hb1⟩
        case measure => simp [intOf]; omega
      · rw [ht] at HK hst
        have HN := Lib.hid hst
        clear hst ht hr
        go_wp2_with (go_at_call 48; (with_reducible refine HK.out.mono ?_); rintro x w1 ⟨rfl, hb1⟩)
        go_ret
        exact ⟨by rw [HF.out, HN.out]; rfl, grow_trans HW.out hb1⟩
    · have hk' : k = 8 := by omega
      subst hk'
      clear hW
      go_wp2_with fail
      go_ret
      exact ⟨by rw [HF.out]; rfl, HW.out⟩
theorem level_any (s : List UInt8) (w : World) : Calls Tryd.prog 33 #[.string (mkB s)] w (Ret (.int .i64 (levelP s)) w) := by
  go_enter Tryd.func33, Tryd.ntmps33
  go_wp2_with (first
    | (go_at_call 32; (with_reducible refine (Levels_any _).mono ?_); rintro x w1 ⟨A, rfl, hr, hb1⟩; have hc := Keeps.of_below hb1 _ _ (cell_of_row _ _ 0 _ _ _ (heap_alloc_new w (.cells #[.string (mkB s)] 9))))
    | (go_at_call 47; (with_reducible refine (indexLev_any s _ _ _ _ hr hc).mono ?_); rintro x w2 ⟨rfl, hb2⟩))
  go_ret
  exact ⟨rfl, grow_trans (grow_trans (grow_alloc (grow_refl _) _) hb1) hb2⟩
end Go.Proofs.YtpfgimohginbdaaDoor

namespace Go.Proofs.YtpfgimohginbdaaDoor
open Go.RowKit

def exprV (e : PExpr) (A : Option Addr) (c : Nat) : Value := .agg #[.string (mkB e.kind), .int .i64 e.num, .string (mkB e.name), .slice A e.kids.length c]
end Go.Proofs.YtpfgimohginbdaaDoor
