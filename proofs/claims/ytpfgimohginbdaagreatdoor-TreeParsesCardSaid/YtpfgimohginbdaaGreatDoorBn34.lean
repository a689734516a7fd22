import Derived.StillTailTactics
import Derived.Deep.AppendLies
import Derived.Deep.RegionHeld3
import Derived.BigQuiet
import Derived.Test.YtpfgimohginbdaaGreatDoorBn19
import Derived.Test.YtpfgimohginbdaaGreatDoorBn33
import Derived.Test.YtpfgimohginbdaaGreatDoorBn4
set_option linter.unusedVariables false
set_option linter.unusedSimpArgs false
namespace Go.Proofs.YtpfgimohginbdaaGreatDoor
open Go.RowKit

/-! tokensOf, treed -/
theorem toks_at {w : World} {A : Option Addr} {ts : List Tok} (h : Row w A (ts.flatMap tokCells)) {k : Nat} (hk : k < ts.length) :
    ∃ b off, A = some ⟨b, off, none⟩ ∧ w.cell? ⟨b, off + k * 3, none⟩ = some (.string (mkB ts[k].kind)) ∧ w.cell? ⟨b, off + k * 3 + 1, none⟩ = some (.string (mkB ts[k].text)) ∧ w.cell? ⟨b, off + k * 3 + 2, none⟩ = some (.int .i64 ts[k].pos) := by
  have hg : ∀ j u, (tokCells ts[k])[j]? = some u → (ts.flatMap tokCells)[k * 3 + j]? = some u := fun j u hj => flat_cells (n := 3) (F := tokCells) (fun x _ => rfl) hk hj
  obtain ⟨b, off, e, h0⟩ := h (k * 3 + 0) _ (hg 0 _ rfl)
  obtain ⟨b', off', e', h1⟩ := h (k * 3 + 1) _ (hg 1 _ rfl)
  obtain ⟨b2, off2, e2, h2⟩ := h (k * 3 + 2) _ (hg 2 _ rfl)
  rw [e] at e' e2; injection e' with e'; injection e' with e1 e1' _; injection e2 with e2; injection e2 with e3 e3' _
  subst e1; subst e1'; subst e3; subst e3'
  exact ⟨b, off, e, h0, by rw [Nat.add_assoc]; exact h1, by rw [Nat.add_assoc]; exact h2⟩
theorem take_flat (ts : List Tok) {k : Nat} (h : k < ts.length) : (ts.take (k + 1)).flatMap tokCells = (ts.take k).flatMap tokCells ++ tokCells ts[k] := by
  rw [List.take_succ_eq_append_getElem h, List.flatMap_append, List.flatMap_singleton]
set_option maxHeartbeats 8000000 in
set_option maxRecDepth 100000 in
theorem tokensOf_any (ts : List Tok) (hn : ts.length ≤ 100000) (A : Option Addr) (c : Nat) (w : World) (hr : Row w A (ts.flatMap tokCells)) :
    Calls Tryz.prog 7 #[.slice A ts.length c] w (fun y w' => ∃ B d, y = .returned (.slice B ts.length d) ∧ Row w' B (ts.flatMap tokCells) ∧ Below w.heap.size w w') := by
  obtain ⟨ti, hi, hz0, hz1, hz2⟩ := info_parts tokInfo
  have HR := Lib.hid hr
  obtain ⟨kl, hkl⟩ : ∃ n, ts.length = n := ⟨_, rfl⟩
  rw [hkl]
  rw [hkl] at hn
  have HKL := Lib.hid hkl
  clear hr hkl
  go_enter Tryz.func7, Tryz.ntmps7
  go_wp2_with fail
  go_loopw [3, 4] (fun v i wr => ∃ k : Nat, k ≤ kl ∧ i = .int .i64 k ∧ wr.ownsRow w.heap.size 62 3 v k ((ts.take k).flatMap tokCells) ∧ Below w.heap.size w wr) (fun _ i _ => kl - (intOf i).toNat)
  case atStart => exact ⟨0, Nat.zero_le _, rfl, World.ownsRow_nil _ _ _ _, Below.refl _ _⟩
  case round =>
    obtain ⟨k, hk, rfl, hown, hb⟩ := hrel
    obtain ⟨AK, cK, hvK⟩ := owns_slice hown
    subst hvK
    have HO := Lib.hid (And.intro hown hb)
    clear hown hb
    by_cases hlt : k < kl
    · have hki : k < ts.length := by rw [HKL.out]; exact hlt
      obtain ⟨b, off, rfl, c0, c1, c2⟩ := toks_at (HR.out.keep (Keeps.of_below HO.out.2)) hki
      have HTF := Lib.hid (take_flat ts hki)
      have hlt' : (k : Int) < (kl : Int) := by omega
      have hk0 : (0 : Int) ≤ (k : Int) := by omega
      have hkm : (k : Int) ≤ 100000 := by omega
      obtain ⟨tk, htk⟩ : ∃ t, ts[k] = t := ⟨_, rfl⟩
      rw [htk] at c0 c1 c2 HTF
      have HO2 : Hid (wr.drew.ownsRow w.heap.size 62 3 (.slice AK k cK) k ((ts.take k).flatMap tokCells)) := ownsRow_below HO.out.1 (Below.refl _ _).drew
      clear htk
      have HOA : Hid ((wr.drew.alloc (.cells #[.string (mkB tk.kind), .string (mkB tk.text), .int .i64 (tk.pos : Nat)] 62)).ownsRow w.heap.size 62 3 (.slice AK k cK) k ((ts.take k).flatMap tokCells)) := World.ownsRow.alloc HO2.out _
      have HNW : Hid (∀ j u, (tokCells tk)[j]? = some u → (wr.drew.alloc (.cells #[.string (mkB tk.kind), .string (mkB tk.text), .int .i64 (tk.pos : Nat)] 62)).cell? ((⟨wr.heap.size, 0, none⟩ : Addr).add j) = some u) := World.news_of_block (heap_alloc_new wr.drew _)
      have HOC : Hid (∀ u ∈ tokCells tk, u.oneCell' = true) := fun u hu => by simp [tokCells] at hu; rcases hu with rfl | rfl | rfl <;> rfl
      have HF := Lib.hid (And.intro c0 (And.intro c1 c2))
      have HBB : Hid (b < w.heap.size) := by
        obtain ⟨b', off', e, h0, -⟩ := toks_at HR.out hki
        injection e with e
        injection e with e _ _
        subst e
        exact World.block_lt_of_cell? w _ h0
      have HSZ := Lib.hid HO.out.2.size
      clear c0 c1 c2
      go_upto_region 5 with fail
      go_region_held3 (fun w' => w'.cell? ⟨b, off + k * 3, none⟩ = some (.string (mkB tk.kind)) ∧ w'.cell? ⟨b, off + k * 3 + 1, none⟩ = some (.string (mkB tk.text)) ∧ w'.cell? ⟨b, off + k * 3 + 2, none⟩ = some (.int .i64 (tk.pos : Nat)))
        (first
          | exact J1.out
          | exact ⟨Keeps.alloc _ _ _ _ HF.out.1, Keeps.alloc _ _ _ _ HF.out.2.1, Keeps.alloc _ _ _ _ HF.out.2.2⟩
          | exact HF.out)
        (first
          | (refine step_append_lies _ rfl _ _ 33 rfl w.heap.size 62 ti _ 3 40 Tryz.underlying33 hi hz0 hz1 hz2 rfl (by decide) _ k ((ts.take k).flatMap tokCells) rfl HOA.out ⟨wr.heap.size, 0, none⟩ 1 1 (tokCells tk) rfl rfl HNW.out HOC.out (by decide) (by unfold maxLen; omega) (by omega) (by have := HSZ.out; show w.heap.size ≤ (wr.drew.alloc _).heap.size; simp; omega) _ rfl ?_; intro g cap w5 hown' hgrow hat hlt5; have J1 : Hid (w5.cell? ⟨b, off + k * 3, none⟩ = some (.string (mkB tk.kind)) ∧ w5.cell? ⟨b, off + k * 3 + 1, none⟩ = some (.string (mkB tk.text)) ∧ w5.cell? ⟨b, off + k * 3 + 2, none⟩ = some (.int .i64 (tk.pos : Nat))) := ⟨hgrow.cell (Keeps.alloc _ _ _ _ HF.out.1) (fun q => by have h9 : w.heap.size ≤ b := (ownS_lt HO.out.1 q.symm).1; have := HBB.out; omega), hgrow.cell (Keeps.alloc _ _ _ _ HF.out.2.1) (fun q => by have h9 : w.heap.size ≤ b := (ownS_lt HO.out.1 q.symm).1; have := HBB.out; omega), hgrow.cell (Keeps.alloc _ _ _ _ HF.out.2.2) (fun q => by have h9 : w.heap.size ≤ b := (ownS_lt HO.out.1 q.symm).1; have := HBB.out; omega)⟩; have HN := Lib.hid (And.intro hown' (Below.grown ((HO.out.2.drew).alloc (by have := HSZ.out; simpa using this) _) hgrow (by have := HSZ.out; simp; omega) (fun i hi => by have := (ownS_lt HO.out.1 hi).1; omega))); clear hown' hgrow hat hlt5))
      all_goals
        go_wp2_with fail
        go_roundw
        case rel => exact ⟨k + 1, by omega, by go_num, by rw [HTF.out]; exact HN.out.1, HN.out.2⟩
        case measure => simp [intOf]; omega
    · have hk' : k = kl := by omega
      subst hk'
      go_wp2_with fail
      go_ret
      have h1 := HO.out.1
      rw [List.take_of_length_le (by rw [HKL.out]; exact Nat.le_refl _)] at h1
      obtain ⟨B, d, e, hB⟩ := owns_at h1
      injection e with e1 e2 e3
      subst e1
      subst e3
      refine ⟨AK, cK, rfl, fun j u hj => ?_, HO.out.2⟩
      obtain ⟨g, rfl, -, -, hc⟩ := hB (by have := (List.getElem?_eq_some_iff.1 hj).1; rcases Nat.eq_zero_or_pos k with h0 | h0; (have h2 : ts = [] := List.length_eq_zero_iff.1 (by rw [HKL.out]; exact h0)); (rw [h2] at this; simp at this); exact h0)
      exact ⟨g, 0, rfl, by rw [Nat.zero_add]; exact hc j u hj⟩
def trTxt : ByteArray := ⟨#[102, 110, 32, 102, 40, 97, 41, 32, 123, 32, 114, 101, 116, 117, 114, 110, 32, 97, 32, 43, 32, 50, 32, 42, 32, 97, 59, 32, 125]⟩
def trToks : List Tok := [⟨kWord, [102, 110], 0⟩, ⟨kName, [102], 3⟩, ⟨kSign, [40], 4⟩, ⟨kName, [97], 5⟩, ⟨kSign, [41], 6⟩, ⟨kSign, [123], 8⟩, ⟨kWord, [114, 101, 116, 117, 114, 110], 10⟩, ⟨kName, [97], 17⟩, ⟨kSign, [43], 19⟩, ⟨kNumber, [50], 21⟩, ⟨kSign, [42], 23⟩, ⟨kName, [97], 25⟩, ⟨kSign, [59], 26⟩, ⟨kSign, [125], 28⟩]
theorem tr_toks : lexA (bytesL trTxt) 0 = (trToks, none) := by decide +kernel
def trFun : PFun := ⟨[102], [[97]], [⟨zReturn, [], ⟨yTwo, 0, [43], [⟨yName, 0, [97], []⟩, ⟨yTwo, 0, [42], [⟨yNum, 2, [], []⟩, ⟨yName, 0, [97], []⟩]⟩]⟩, [], []⟩]⟩
set_option maxRecDepth 100000 in
theorem tr_parse : parseP trToks = ([trFun], ⟨14, 0, none⟩) := by kernel_rfl
end Go.Proofs.YtpfgimohginbdaaGreatDoor
