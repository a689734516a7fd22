import Derived.Test.YtddilnibglcabaaDoorLexRead
import Derived.Test.YtddilnibglcabaaDoorCoded
import Derived.Deep.AppendLies
namespace Go.Proofs.YtddilnibglcabaaDoor
open Go.RowKit

theorem flat_get : ∀ (ts : List Tok) (k : Nat) (h : k < ts.length) (i : Nat), i < 3 → (ts.flatMap tokCells)[k * 3 + i]? = (tokCells ts[k])[i]? := by
  intro ts
  induction ts with
  | nil => intro k h; simp at h
  | cons t ts ih =>
    intro k h i hi
    rw [List.flatMap_cons]
    cases k with
    | zero => rw [List.getElem?_append_left (by simp [tokCells]; omega)]; simp
    | succ k =>
      rw [List.getElem?_append_right (by simp [tokCells]; omega), show (k + 1) * 3 + i - (tokCells t).length = k * 3 + i by simp [tokCells]; omega, ih k (by simpa using h) i hi]
      rfl
/-- The cells of the k-th token of a row. -/
theorem tok_cells {w : World} {A : Option Addr} {ts : List Tok} (h : Row w A (ts.flatMap tokCells)) {k : Nat} (hk : k < ts.length) :
    ∃ b off, A = some ⟨b, off, none⟩ ∧ w.cell? ⟨b, off + k * 3, none⟩ = some (.string (mkB ts[k].kind)) ∧ w.cell? ⟨b, off + k * 3 + 1, none⟩ = some (.string (mkB ts[k].text)) ∧ w.cell? ⟨b, off + k * 3 + 2, none⟩ = some (.int .i64 ts[k].pos) := by
  obtain ⟨b, off, rfl, h0⟩ := h (k * 3) (.string (mkB ts[k].kind)) (flat_get ts k hk 0 (by omega))
  obtain ⟨b1, off1, e1, h1⟩ := h (k * 3 + 1) (.string (mkB ts[k].text)) (flat_get ts k hk 1 (by omega))
  obtain ⟨b2, off2, e2, h2⟩ := h (k * 3 + 2) (.int .i64 ts[k].pos) (flat_get ts k hk 2 (by omega))
  simp only [Option.some.injEq, Addr.mk.injEq, and_true] at e1 e2
  obtain ⟨rfl, rfl⟩ := e1
  obtain ⟨rfl, rfl⟩ := e2
  exact ⟨b, off, rfl, h0, h1, h2⟩
theorem owns_row {w : World} {base : Nat} {e : TypeId} {size : Nat} {v : Value} {n : Nat} {xs : List Value} (h : w.ownsRow base e size v n xs) : ∃ A c, v = .slice A n c ∧ Row w A xs := by
  rcases h.2 with ⟨rfl, rfl⟩ | ⟨g, cap, cur, rfl, h1, h2, h3, h4, h5, h6⟩
  · refine ⟨none, 0, rfl, ?_⟩
    have : xs = [] := List.length_eq_zero_iff.1 (by rw [h.1]; omega)
    rw [this]; exact Row.nil _ _
  · refine ⟨_, _, rfl, fun j u hj => ⟨g, 0, rfl, ?_⟩⟩
    have hr := Row.block h2 j u
    have hlt : j < n * size := by rw [← h.1]; exact (List.getElem?_eq_some_iff.1 hj).1
    obtain ⟨b, off, e, hc⟩ := hr (by rw [← h6, List.getElem?_take, if_pos hlt] at hj; exact hj)
    simp only [Option.some.injEq, Addr.mk.injEq, and_true] at e
    obtain ⟨rfl, rfl⟩ := e
    exact hc
theorem same_true (ts : List Tok) (A B : Option Addr) (c d : Nat) (w : World) (ha : Row w A (ts.flatMap tokCells)) (hb : Row w B (ts.flatMap tokCells)) (hn : ts.length ≤ 1000000) :
    Calls Tryd.prog 35 #[.slice A ts.length c, .slice B ts.length d] w (Quiet (.bool true) w) := by
  have hnn : ((ts.length : Int) != (ts.length : Int)) = false := by simp
  go_enter Tryd.func35, Tryd.ntmps35
  go_wp2_with fail
  go_loopw [5] (fun i wr => ∃ k m : Nat, k ≤ ts.length ∧ i = .int .i64 k ∧ wr = w.drewN m) (fun i _ => ts.length - (intOf i).toNat)
  case atStart => exact ⟨0, 0, by omega, rfl, rfl⟩
  case round =>
    obtain ⟨k, m, hk, rfl, rfl⟩ := hrel
    by_cases hlt : k < ts.length
    · obtain ⟨b, off, rfl, a0, a1, a2⟩ := tok_cells ha hlt
      obtain ⟨b', off', rfl, b0, b1, b2⟩ := tok_cells hb hlt
      have hlt' : (k : Int) < (ts.length : Int) := by omega
      have s0 : ((mkB ts[k].kind).toList == (mkB ts[k].kind).toList) = true := by simp
      have s1 : ((mkB ts[k].text).toList == (mkB ts[k].text).toList) = true := by simp
      have s2 : ((ts[k].pos : Int) != (ts[k].pos : Int)) = false := by simp
      go_wp2_with fail
      go_quiet (fail)
      go_wp2_with fail
      go_roundw
      case rel => exact ⟨k + 1, _, by omega, by go_num, rfl⟩
      case measure => simp [intOf]; omega
    · have hk' : k = ts.length := by omega
      subst hk'
      go_wp2_with fail
      go_ret
      exact ⟨rfl, _, rfl⟩
theorem faulted_yes (E : Nat → Addr) (w : World) (h : Laid E w) (v : Value) (c a fa : Int) (hv : ErrIs E w v c a) (hc : c = 0 ∨ a = fa) :
    Calls Tryd.prog 34 #[v, .agg #[.int .i64 c, .int .i64 fa]] w (Ret (.bool true) w) := by
  refine (faulted_any E w h v c a c fa hv).mono ?_
  rintro e w' ⟨rfl, hb⟩
  refine ⟨?_, hb⟩
  rcases hc with rfl | rfl <;> simp
theorem lexed_toks : lexA (bytesL ⟨#[105, 102, 32, 120, 49, 60, 61, 50, 48]⟩) 0 = ([⟨kWord, [105, 102], 0⟩, ⟨kName, [120, 49], 3⟩, ⟨kSign, [60, 61], 5⟩, ⟨kNumber, [50, 48], 7⟩], none) := by decide +kernel
theorem lexed_any (KT KB KF : Addr) (w : World) (hT : w.cell? ⟨0, 0, none⟩ = some (esV KT)) (hB : w.cell? ⟨1, 0, none⟩ = some (esV KB)) (hF : w.cell? ⟨7, 0, none⟩ = some (esV KF)) :
    Calls Tryd.prog 19 #[] w (Ret (.bool true) w) := by
  have hc : Calls Tryd.prog 20 #[.string ⟨#[105, 102, 32, 120, 49, 60, 61, 50, 48]⟩] w fun e w' => ∃ g c, e = .returned (.tuple #[.slice (some ⟨g, 0, none⟩) 4 c, .nilIface]) ∧ w'.cell? ⟨g, 6, none⟩ = some (.string ⟨#[115, 105, 103, 110]⟩) ∧ w'.cell? ⟨g, 7, none⟩ = some (.string ⟨#[60, 61]⟩) ∧ w'.cell? ⟨g, 8, none⟩ = some (.int .i64 5) ∧ Below w.heap.size w w' := by
    refine (Read_any ⟨#[105, 102, 32, 120, 49, 60, 61, 50, 48]⟩ (by decide) KT KB KF w hT hB hF).mono ?_
    rintro e w' ⟨sl, er, rfl, hv, hb⟩
    unfold ReadVal at hv
    rw [lexed_toks] at hv
    rcases hv with ⟨h, _⟩ | ⟨_, p, fb, h, _⟩ | ⟨_, _, h, _⟩ | ⟨_, _, _, rfl, ho⟩
    · exact absurd h (by decide)
    · cases h
    · exact absurd h (by decide)
    · obtain ⟨g, cap, rfl, _⟩ := ho.form (by decide)
      exact ⟨g, cap, rfl, ho.cellAt 6 (by decide), ho.cellAt 7 (by decide), ho.cellAt 8 (by decide), hb⟩
  have HC := Lib.hid hc
  clear hc
  go_enter Tryd.func19, Tryd.ntmps19
  go_wp2_with (go_at_call 20; refine HC.out.mono ?_; rintro x w' ⟨g, c, rfl, c0, c1, c2, hb⟩)
  go_ret
  exact ⟨rfl, hb⟩
end Go.Proofs.YtddilnibglcabaaDoor
