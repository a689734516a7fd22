import Derived.Test.YteifmgcbafemeaaGreatDoorErrAsW
import Derived.Test.YteifmgcbafemeaaGreatDoorRet
namespace Go.Proofs.YteifmgcbafemeaaGreatDoor
open Go.RowKit Go.Extern.Stop Go.Stop Go.Extern

/-- What the laid package variables give in a world: the ten sentinels, unlike; errors' own handle. -/
structure Laid (E : Nat → Addr) (w : World) : Prop where
  c0 : w.cell? ⟨4, 0, none⟩ = some (esV (E 0))
  c1 : w.cell? ⟨3, 0, none⟩ = some (esV (E 1))
  c2 : w.cell? ⟨5, 0, none⟩ = some (esV (E 2))
  c3 : w.cell? ⟨6, 0, none⟩ = some (esV (E 3))
  c4 : w.cell? ⟨7, 0, none⟩ = some (esV (E 4))
  c5 : w.cell? ⟨1, 0, none⟩ = some (esV (E 5))
  c6 : w.cell? ⟨8, 0, none⟩ = some (esV (E 6))
  c7 : w.cell? ⟨0, 0, none⟩ = some (esV (E 7))
  c8 : w.cell? ⟨2, 0, none⟩ = some (esV (E 8))
  c9 : w.cell? ⟨9, 0, none⟩ = some (esV (E 9))
  et : w.cell? ⟨10, 0, none⟩ = some (rtV 29)
  ne : ∀ i j, i < 10 → j < 10 → i ≠ j → E i ≠ E j
  plain : ∀ i, i < 10 → Plain w (E i)
theorem Plain.lt {w : World} {a : Addr} (h : Plain w a) : a.block < w.heap.size := by
  obtain ⟨c, t, h⟩ := h
  exact (Array.getElem?_eq_some_iff.1 h).1
theorem Plain.keep {w w' : World} {a : Addr} (h : Plain w a) (hb : Below w.heap.size w w') : Plain w' a := by
  have hlt := h.lt
  obtain ⟨c, t, h⟩ := h
  exact ⟨c, t, (hb.block _ hlt).trans h⟩
theorem Laid.keep {E : Nat → Addr} {w w' : World} (h : Laid E w) (hb : Below w.heap.size w w') : Laid E w' :=
  have k := Keeps.of_below hb
  ⟨k _ _ h.c0, k _ _ h.c1, k _ _ h.c2, k _ _ h.c3, k _ _ h.c4, k _ _ h.c5, k _ _ h.c6, k _ _ h.c7, k _ _ h.c8, k _ _ h.c9, k _ _ h.et, h.ne, fun i hi => (h.plain i hi).keep hb⟩

theorem Code_nil (w : World) : Calls Tryz.prog 24 #[.nilIface] w (Quiet (.tuple #[.int .i64 0, .int .i64 (-1)]) w) := by
  go_enter Tryz.func24, Tryz.ntmps24
  go_wp2_with fail
  go_ret2
  exact Quiet.same

theorem asW_below (t : Addr) (w : World) : Below w.heap.size w (asW t w) := by
  unfold asW
  exact (((Below.refl _ _).alloc (Nat.le_refl _) _).alloc (by simp) _).alloc (by simp; omega) _
def codeW (w : World) : World := asW ⟨w.heap.size, 0, none⟩ (w.alloc (.cells #[.pointer none] 68))
theorem codeW_below (w : World) : Below w.heap.size w (codeW w) := by
  unfold codeW
  have h1 := asW_below ⟨w.heap.size, 0, none⟩ (w.alloc (.cells #[.pointer none] 68))
  exact ((Below.refl _ _).alloc (Nat.le_refl _) _).trans (h1.mono (by simp))
theorem sents_get (E : Nat → Addr) (k : Nat) (h : k < 10) : [esV (E 0), esV (E 1), esV (E 2), esV (E 3), esV (E 4), esV (E 5), esV (E 6), esV (E 7), esV (E 8), esV (E 9)][k]? = some (esV (E k)) := by
  rcases (by omega : k = 0 ∨ k = 1 ∨ k = 2 ∨ k = 3 ∨ k = 4 ∨ k = 5 ∨ k = 6 ∨ k = 7 ∨ k = 8 ∨ k = 9) with rfl | rfl | rfl | rfl | rfl | rfl | rfl | rfl | rfl | rfl <;> rfl

theorem code_miss (a : Addr) (w : World) (hg : (w.alloc (.cells #[.pointer none] 68)).cell? ⟨10, 0, none⟩ = some (rtV 29)) :
    Calls Tryz.prog 47 #[esV a, .iface 101 (.pointer (some ⟨w.heap.size, 0, none⟩))] (w.alloc (.cells #[.pointer none] 68)) fun ev w' => ev = .returned (.bool false) ∧ w' = codeW w :=
  as_miss a ⟨w.heap.size, 0, none⟩ _ hg

set_option maxHeartbeats 1000000 in
theorem Code_es (E : Nat → Addr) (i : Nat) (hi : i < 10) (w : World) (h : Laid E w) :
    Calls Tryz.prog 24 #[esV (E i)] w (Ret (.tuple #[.int .i64 (i + 1), .int .i64 (-1)]) w) := by
  have h1 : Laid E (codeW w) := h.keep (codeW_below w)
  have hne := Lib.hid h.ne
  have hpl := Lib.hid h1.plain
  obtain ⟨c0, c1, c2, c3, c4, c5, c6, c7, c8, c9, -, -, -⟩ := h1
  have het : (w.alloc (.cells #[.pointer none] 68)).cell? ⟨10, 0, none⟩ = some (rtV 29) := Keeps.alloc w _ _ _ h.et
  go_enter Tryz.func24, Tryz.ntmps24
  go_wp2_with (first
    | (go_at_call 47; refine (code_miss _ _ (by exact het)).mono ?_; rintro e w' ⟨rfl, rfl⟩))
  clear het c0 c1 c2 c3 c4 c5 c6 c7 c8 c9
  go_loop [3, 28] (fun u v => ∃ k : Nat, k ≤ i ∧ v = .int .i64 k ∧ u = .int .i64 (-1)) (fun _ v => 10 - (intOf v).toNat)
  case atStart => exact ⟨0, Nat.zero_le _, rfl, rfl⟩
  case round =>
    obtain ⟨k, hk, rfl, rfl⟩ := hrel
    have hsl := sents_get E k (by omega)
    obtain ⟨b, off, hA, hc⟩ := Row.new (codeW w) #[esV (E 0), esV (E 1), esV (E 2), esV (E 3), esV (E 4), esV (E 5), esV (E 6), esV (E 7), esV (E 8), esV (E 9)] 29 k _ hsl
    simp only [Option.some.injEq, Addr.mk.injEq, and_true] at hA
    obtain ⟨rfl, rfl⟩ := hA
    rw [Nat.zero_add] at hc
    clear hsl
    by_cases hki : k = i
    · subst hki
      go_wp2_with (first
        | (go_at_call 48; refine (is_same _ _).mono ?_; rintro e w' ⟨rfl, rfl⟩))
      go_ret2
      exact ⟨rfl, (codeW_below w).alloc (codeW_below w).size _⟩
    · have hlt : k < i := by omega
      have hd : E i ≠ E k := hne.out _ _ hi (by omega) (fun e => hki e.symm)
      have HD := Lib.hid hd
      clear hd hki
      have HP := fun j hj => (hpl.out j hj).keep ((Below.refl _ _).alloc (Nat.le_refl _) (.cells #[esV (E 0), esV (E 1), esV (E 2), esV (E 3), esV (E 4), esV (E 5), esV (E 6), esV (E 7), esV (E 8), esV (E 9)] 29))
      have P1 := Lib.hid (HP i hi)
      have P2 := Lib.hid (HP k (by omega))
      clear HP
      go_wp2_with (first
        | (go_at_call 48; refine (is_other _ _ _ HD.out (by exact P1.out) (by exact P2.out)).mono ?_; rintro e w' ⟨rfl, rfl⟩))
      go_round
      case rel => exact ⟨k + 1, by omega, by go_num, rfl⟩
      case measure => simp [intOf]; omega

set_option maxHeartbeats 1000000 in
theorem Code_other (E : Nat → Addr) (x : Addr) (hx : ∀ i, i < 10 → x ≠ E i) (w : World) (h : Laid E w) (hp : Plain w x) :
    Calls Tryz.prog 24 #[esV x] w (Ret (.tuple #[.int .i64 (-1), .int .i64 (-1)]) w) := by
  have h1 : Laid E (codeW w) := h.keep (codeW_below w)
  have hne := Lib.hid hx
  clear hx
  have hpl := Lib.hid h1.plain
  have hpx := Lib.hid (hp.keep (codeW_below w))
  obtain ⟨c0, c1, c2, c3, c4, c5, c6, c7, c8, c9, -, -, -⟩ := h1
  have het : (w.alloc (.cells #[.pointer none] 68)).cell? ⟨10, 0, none⟩ = some (rtV 29) := Keeps.alloc w _ _ _ h.et
  go_enter Tryz.func24, Tryz.ntmps24
  go_wp2_with (first
    | (go_at_call 47; refine (code_miss _ _ (by exact het)).mono ?_; rintro e w' ⟨rfl, rfl⟩))
  clear het c0 c1 c2 c3 c4 c5 c6 c7 c8 c9
  go_loop [3, 28] (fun u v => ∃ k : Nat, k ≤ 10 ∧ v = .int .i64 k ∧ u = .int .i64 (-1)) (fun _ v => 10 - (intOf v).toNat)
  case atStart => exact ⟨0, Nat.zero_le _, rfl, rfl⟩
  case round =>
    obtain ⟨k, hk, rfl, rfl⟩ := hrel
    by_cases hlt : k < 10
    · have hsl := sents_get E k (by omega)
      obtain ⟨b, off, hA, hc⟩ := Row.new (codeW w) #[esV (E 0), esV (E 1), esV (E 2), esV (E 3), esV (E 4), esV (E 5), esV (E 6), esV (E 7), esV (E 8), esV (E 9)] 29 k _ hsl
      simp only [Option.some.injEq, Addr.mk.injEq, and_true] at hA
      obtain ⟨rfl, rfl⟩ := hA
      rw [Nat.zero_add] at hc
      clear hsl
      have HD := Lib.hid (hne.out k hlt)
      have P1 := Lib.hid (hpx.out.keep ((Below.refl _ _).alloc (Nat.le_refl _) (.cells #[esV (E 0), esV (E 1), esV (E 2), esV (E 3), esV (E 4), esV (E 5), esV (E 6), esV (E 7), esV (E 8), esV (E 9)] 29)))
      have P2 := Lib.hid ((hpl.out k hlt).keep ((Below.refl _ _).alloc (Nat.le_refl _) (.cells #[esV (E 0), esV (E 1), esV (E 2), esV (E 3), esV (E 4), esV (E 5), esV (E 6), esV (E 7), esV (E 8), esV (E 9)] 29)))
      go_wp2_with (first
        | (go_at_call 48; refine (is_other _ _ _ HD.out (by exact P1.out) (by exact P2.out)).mono ?_; rintro e w' ⟨rfl, rfl⟩))
      go_round
      case rel => exact ⟨k + 1, by omega, by go_num, rfl⟩
      case measure => simp [intOf]; omega
    · have hk' : k = 10 := by omega
      subst hk'
      go_wp2_with fail
      go_ret2
      exact ⟨rfl, (codeW_below w).alloc (codeW_below w).size _⟩

/-- The world behind errors.As of a Fault at fa. -/
def codeF (fa : Addr) (w : World) : World := ((asW ⟨w.heap.size, 0, none⟩ (w.alloc (.cells #[.pointer none] 68))).alloc (.cells #[.pointer (some fa)] 68)).setCell ⟨w.heap.size, 0, none⟩ (.pointer (some fa))
theorem codeF_below (fa : Addr) (w : World) : Below w.heap.size w (codeF fa w) := by
  unfold codeF
  have h1 := codeW_below w
  exact (h1.alloc h1.size _).setCell (Nat.le_refl _) _
theorem codeF_cell (fa : Addr) (w : World) : (codeF fa w).cell? ⟨w.heap.size, 0, none⟩ = some (.pointer (some fa)) := by
  unfold codeF
  have h : ((asW ⟨w.heap.size, 0, none⟩ (w.alloc (.cells #[.pointer none] 68))).alloc (.cells #[.pointer (some fa)] 68)).cell? ⟨w.heap.size, 0, none⟩ = some (.pointer none) := by
    rw [World.cell?_alloc_lt _ _ _ (by rw [asW_size]; simp; omega), asW_old _ _ _ (by simp)]
    simp
  exact World.cell?_setCell_same _ _ _ h
theorem code_hit (fa : Addr) (w : World) (hg : (w.alloc (.cells #[.pointer none] 68)).cell? ⟨10, 0, none⟩ = some (rtV 29)) :
    Calls Tryz.prog 47 #[ftV fa, .iface 101 (.pointer (some ⟨w.heap.size, 0, none⟩))] (w.alloc (.cells #[.pointer none] 68)) fun ev w' => ev = .returned (.bool true) ∧ w' = codeF fa w :=
  as_hit fa ⟨w.heap.size, 0, none⟩ (.pointer none) _ hg (by simp) (by simp)
set_option maxHeartbeats 1000000 in
theorem Code_ft (E : Nat → Addr) (i : Nat) (hi : i < 10) (fb fo : Nat) (n : Int) (w : World) (h : Laid E w) (h0 : w.cell? ⟨fb, fo, none⟩ = some (.int .i64 n)) (h1 : w.cell? ⟨fb, fo + 1, none⟩ = some (esV (E i))) :
    Calls Tryz.prog 24 #[ftV ⟨fb, fo, none⟩] w (Ret (.tuple #[.int .i64 (i + 1), .int .i64 n]) w) := by
  have hl : Laid E (codeF ⟨fb, fo, none⟩ w) := h.keep (codeF_below _ w)
  have kp := Keeps.of_below (codeF_below ⟨fb, fo, none⟩ w)
  have hne := Lib.hid h.ne
  have hpl := Lib.hid hl.plain
  have hf := codeF_cell ⟨fb, fo, none⟩ w
  have g0 := kp _ _ h0
  have g1 := Lib.hid (kp _ _ h1)
  clear kp h0 h1
  obtain ⟨c0, c1, c2, c3, c4, c5, c6, c7, c8, c9, -, -, -⟩ := hl
  have het : (w.alloc (.cells #[.pointer none] 68)).cell? ⟨10, 0, none⟩ = some (rtV 29) := Keeps.alloc w _ _ _ h.et
  go_enter Tryz.func24, Tryz.ntmps24
  go_wp2_with (first
    | (go_at_call 47; refine (code_hit _ _ (by exact het)).mono ?_; rintro e w' ⟨rfl, rfl⟩))
  clear het c0 c1 c2 c3 c4 c5 c6 c7 c8 c9 hf g0
  go_loop [3, 28] (fun u v => ∃ k : Nat, k ≤ i ∧ v = .int .i64 k ∧ u = .int .i64 n) (fun _ v => 10 - (intOf v).toNat)
  case atStart => exact ⟨0, Nat.zero_le _, rfl, rfl⟩
  case round =>
    obtain ⟨k, hk, rfl, rfl⟩ := hrel
    have hsl := sents_get E k (by omega)
    obtain ⟨b, off, hA, hc⟩ := Row.new (codeF ⟨fb, fo, none⟩ w) #[esV (E 0), esV (E 1), esV (E 2), esV (E 3), esV (E 4), esV (E 5), esV (E 6), esV (E 7), esV (E 8), esV (E 9)] 29 k _ hsl
    simp only [Option.some.injEq, Addr.mk.injEq, and_true] at hA
    obtain ⟨rfl, rfl⟩ := hA
    rw [Nat.zero_add] at hc
    clear hsl
    have G1 := Lib.hid (Keeps.alloc (codeF ⟨fb, fo, none⟩ w) (.cells #[esV (E 0), esV (E 1), esV (E 2), esV (E 3), esV (E 4), esV (E 5), esV (E 6), esV (E 7), esV (E 8), esV (E 9)] 29) _ _ g1.out)
    by_cases hki : k = i
    · subst hki
      go_wp2_with (first
        | (go_at_call 48; refine (is_fault_same _ _ _ _ (by exact G1.out)).mono ?_; rintro e w' ⟨rfl, rfl⟩))
      go_ret2
      exact ⟨rfl, (codeF_below _ w).alloc (codeF_below _ w).size _⟩
    · have hlt : k < i := by omega
      have hd : E i ≠ E k := hne.out _ _ hi (by omega) (fun e => hki e.symm)
      have HD := Lib.hid hd
      clear hd hki
      have HP := fun j hj => (hpl.out j hj).keep ((Below.refl _ _).alloc (Nat.le_refl _) (.cells #[esV (E 0), esV (E 1), esV (E 2), esV (E 3), esV (E 4), esV (E 5), esV (E 6), esV (E 7), esV (E 8), esV (E 9)] 29))
      have P1 := Lib.hid (HP i hi)
      have P2 := Lib.hid (HP k (by omega))
      clear HP
      go_wp2_with (first
        | (go_at_call 48; refine (is_fault_other _ _ (E i) _ _ (by exact G1.out) HD.out (by exact P1.out) (by exact P2.out)).mono ?_; rintro e w' ⟨rfl, rfl⟩))
      go_round
      case rel => exact ⟨k + 1, by omega, by go_num, rfl⟩
      case measure => simp [intOf]; omega
end Go.Proofs.YteifmgcbafemeaaGreatDoor
