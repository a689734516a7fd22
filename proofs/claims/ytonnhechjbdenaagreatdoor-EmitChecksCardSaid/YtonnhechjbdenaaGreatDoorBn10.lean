import Derived.Deep.RegionWith
import Derived.Deep.RegionHeld3
import Derived.Laws.BitsAllLaws
import Derived.Test.YtonnhechjbdenaaGreatDoorBn7
set_option linter.unusedVariables false
set_option linter.unusedSimpArgs false
namespace Go.Proofs.YtonnhechjbdenaaGreatDoor
open Go.RowKit

theorem or_lit (x y P A : Int) (n : Nat) (hP : P = ((2 ^ n : Nat) : Int)) (hx : x = A * P) (h0 : 0 ≤ A) (h1 : x < 18446744073709551616) (y0 : 0 ≤ y) (y1 : y < P) (hPl : P ≤ 18446744073709551616) : bits .or .u64 x y = x + y := by
  obtain ⟨a, rfl⟩ := Int.eq_ofNat_of_zero_le h0
  obtain ⟨b, rfl⟩ := Int.eq_ofNat_of_zero_le y0
  subst hP
  subst hx
  have hb : b < 2 ^ n := by exact_mod_cast y1
  have h2 : ((a * 2 ^ n : Nat) : Int) < 18446744073709551616 := by rw [Int.natCast_mul]; exact h1
  have h3 : a * 2 ^ n < 18446744073709551616 := by
    generalize a * 2 ^ n = z at h2
    omega
  have h4 : b < 18446744073709551616 := by
    have := Int.lt_of_lt_of_le y1 hPl
    omega
  rw [show (a : Int) * ((2 ^ n : Nat) : Int) = ((a * 2 ^ n : Nat) : Int) from (Int.natCast_mul _ _).symm, u64_or_nat _ _ h3 h4, Nat.mul_comm, ← Nat.two_pow_add_eq_or_of_lt hb]
  rfl
theorem errP_cases (h : List UInt8) (i : PIns) : errP h i = 0 ∨ errP h i = 2 ∨ errP h i = 3 := by
  rw [errP_eq]
  split
  · exact .inr (.inl rfl)
  · split
    · exact .inr (.inr rfl)
    · exact .inl rfl
theorem has_cell (w : World) (k : Nat) (hk : k < 29) : (w.alloc (.cells (opsT.flatMap rowC).toArray 130)).cell? ⟨w.heap.size, k * 2, none⟩ = some (.string (mkB (nameOf k))) ∧ (w.alloc (.cells (opsT.flatMap rowC).toArray 130)).cell? ⟨w.heap.size, k * 2 + 1, none⟩ = some (.string (mkB (hasOf k))) :=
  row_cells (Row.new w _ _) hk
/-- What code.Encode hands back. -/
def encV (KB KS KK : Addr) (i : PIns) : Value := .tuple #[.int .u64 (if errI i = 0 then wordP i else 0), errV KB KS KK (errI i)]
theorem encode_none (i : PIns) (KB KS KK : Addr) (w : World) (hK : w.cell? ⟨5, 0, none⟩ = some (esV KK)) (h : findL i.op = 0) :
    Calls Tryz.prog 26 #[insV i] w (Ret (encV KB KS KK i) w) := by
  have HE : Hid (errI i = 4) := show errI i = 4 by unfold errI; rw [if_pos h]
  have HF := Lib.hid (fun w => find_any (mkB i.op) w)
  have hk : Hid (∀ w', Below w.heap.size w w' → w'.cell? ⟨5, 0, none⟩ = some (esV KK)) := fun w' hb => Keeps.of_below hb _ _ hK
  have e : (findL (mkB i.op).toList : Int) = 0 := by rw [mkB_toList, h]; rfl
  rw [e] at HF
  obtain ⟨op, d, a, b, imm⟩ := i
  clear h hK e
  unfold insV
  go_enter Tryz.func26, Tryz.ntmps26
  go_wp2_with (go_at_call 50; (with_reducible refine (HF.out _).mono ?_); rintro x w1 ⟨rfl, hb1⟩; have hk1 := hk.out _ (grow_trans (grow_alloc (grow_refl _) _) hb1))
  go_quiet (fail)
  go_wp2_with fail
  go_ret2
  exact ⟨by unfold encV; rw [HE.out]; rfl, below_drewN (grow_trans (grow_alloc (grow_refl _) _) hb1) _⟩
set_option maxHeartbeats 4000000 in
theorem encode_some (i : PIns) (KB KS KK : Addr) (w : World) (hB : w.cell? ⟨7, 0, none⟩ = some (esV KB)) (hS : w.cell? ⟨8, 0, none⟩ = some (esV KS)) (k : Nat) (h : findL i.op = k + 1) :
    Calls Tryz.prog 26 #[insV i] w (Ret (encV KB KS KK i) w) := by
  have hk29 : k < 29 := by have := (findL_spec i.op (by omega)).1; omega
  have HE : Hid (errI i = errP (hasOf k) i) := show errI i = _ by unfold errI; rw [if_neg (by omega), h]; rfl
  have HF := Lib.hid (fun w => find_any (mkB i.op) w)
  have e : (findL (mkB i.op).toList : Int) = (k : Int) + 1 := by rw [mkB_toList, h]; rfl
  rw [e] at HF
  have HC : Hid (∀ w', Below w.heap.size w w' → Calls Tryz.prog 51 #[insV i, .string (mkB (hasOf k))] w' (Ret (errV KB KS KK (errP (hasOf k) i)) w')) := fun w' hb => by
    have := check_any i (mkB (hasOf k)) KB KS KK w' (Keeps.of_below hb _ _ hB) (Keeps.of_below hb _ _ hS)
    rwa [mkB_toList] at this
  have hw : (w.alloc (.cells #[.string (mkB i.op), .int .i64 i.d, .int .i64 i.a, .int .i64 i.b, .int .i64 i.imm] 90)).heap[w.heap.size]? = some (.cells #[.string (mkB i.op), .int .i64 i.d, .int .i64 i.a, .int .i64 i.b, .int .i64 i.imm] 90) := heap_alloc_new w _
  have HW := Lib.hid hw
  obtain ⟨op, d, a, b, imm⟩ := i
  have hfk : (findL op : Int) = (k : Int) + 1 := by have : findL op = k + 1 := h; omega
  have HFK := Lib.hid hfk
  clear h hB hS e hw hfk
  unfold insV at HC ⊢
  have s1 : IntKind.i64.wrap ((k : Int) + 1 - 1) = k := by rw [show (k : Int) + 1 - 1 = k by omega]; exact IntWalk.i64_in _ (by omega)
  have s1' : IntKind.i64.wrap (k : Int) = k := IntWalk.i64_in _ (by omega)
  have s2 : (0 : Int) ≤ k := by omega
  have s3 : (k : Int) < 29 := by omega
  have s4 : ((k : Int) + 1 == 0) = false := by simp; omega
  have s5 : ((k : Int)).toNat = k := by omega
  go_enter Tryz.func26, Tryz.ntmps26
  go_upto_region 4 with (go_at_call 50; (with_reducible refine (HF.out _).mono ?_); rintro x w1 ⟨rfl, hb1⟩)
  have hw1 : w1.heap[w.heap.size]? = some (.cells #[.string (mkB op), .int .i64 d, .int .i64 a, .int .i64 b, .int .i64 imm] 90) := (hb1.block w.heap.size (by simp)).trans HW.out
  have r0 := cell_of_row w1 _ 0 _ _ _ hw1
  have r1 := cell_of_row w1 _ 1 _ _ _ hw1
  have r2 := cell_of_row w1 _ 2 _ _ _ hw1
  have r3 := cell_of_row w1 _ 3 _ _ _ hw1
  have r4 := cell_of_row w1 _ 4 _ _ _ hw1
  have p0 := fun o => Keeps.alloc w1 o _ _ r0
  have p1 := fun o => Keeps.alloc w1 o _ _ r1
  have p2 := fun o => Keeps.alloc w1 o _ _ r2
  have p3 := fun o => Keeps.alloc w1 o _ _ r3
  have p4 := fun o => Keeps.alloc w1 o _ _ r4
  have hc := (has_cell w1 k hk29).2
  have HB1 := Lib.hid (grow_trans (grow_alloc (grow_refl w) (.cells #[.string (mkB op), .int .i64 d, .int .i64 a, .int .i64 b, .int .i64 imm] 90)) hb1)
  have HCC := Lib.hid (HC.out _ ((grow_alloc HB1.out (.cells (opsT.flatMap rowC).toArray 130)).drew))
  clear hw1 hb1
  have HR0 := Lib.hid r0
  have HR1 := Lib.hid r1
  have HR2 := Lib.hid r2
  have HR3 := Lib.hid r3
  have HR4 := Lib.hid r4
  go_cut [5] (fun v wx => v = errV KB KS KK (errP (hasOf k) ⟨op, d, a, b, imm⟩) ∧ Below w1.heap.size w1 wx)
  case first =>
    go_region_with (first
      | (go_at_call 52; refine (table_any _).mono ?_; rintro x w' ⟨rfl, rfl⟩)
      | (go_at_call 51; (with_reducible refine HCC.out.mono ?_); rintro x w2 ⟨rfl, hb2⟩))
    all_goals go_wp2_with fail
    all_goals go_meet
    all_goals exact ⟨rfl, grow_trans (grow_alloc (grow_refl _) _).drew hb2⟩
  case rest =>
    obtain ⟨rfl, hbx⟩ := hcut
    have HB2 := Lib.hid (grow_trans HB1.out hbx)
    clear r0 r1 r2 r3 r4 p0 p1 p2 p3 p4 hc
    have r1 := Keeps.of_below hbx _ _ HR1.out
    have r2 := Keeps.of_below hbx _ _ HR2.out
    have r3 := Keeps.of_below hbx _ _ HR3.out
    have r4 := Keeps.of_below hbx _ _ HR4.out
    clear hbx
    by_cases h0 : errP (hasOf k) ⟨op, d, a, b, imm⟩ = 0
    · obtain ⟨⟨d1, d2⟩, ⟨a1, a2⟩, ⟨b1, b2⟩, ⟨m1, m2⟩, _⟩ := errP_zero h0
      simp only at d1 d2 a1 a2 b1 b2 m1 m2
      have HE0 := Lib.hid (HE.out.trans h0)
      rw [h0]
      have e0 : errV KB KS KK 0 = .nilIface := rfl
      rw [e0]
      clear h0 e0
      have g1 : bits .or .u64 (((k : Int) + 1) * 72057594037927936) (d * 281474976710656) = ((k : Int) + 1) * 72057594037927936 + d * 281474976710656 := or_lit _ _ 72057594037927936 ((k : Int) + 1) 56 rfl rfl (by omega) (by omega) (by omega) (by omega) (by omega)
      have g2 : bits .or .u64 (((k : Int) + 1) * 72057594037927936 + d * 281474976710656) (a * 1099511627776) = ((k : Int) + 1) * 72057594037927936 + d * 281474976710656 + a * 1099511627776 := or_lit _ _ 281474976710656 (((k : Int) + 1) * 256 + d) 48 rfl (by omega) (by omega) (by omega) (by omega) (by omega) (by omega)
      have g3 : bits .or .u64 (((k : Int) + 1) * 72057594037927936 + d * 281474976710656 + a * 1099511627776) (b * 4294967296) = ((k : Int) + 1) * 72057594037927936 + d * 281474976710656 + a * 1099511627776 + b * 4294967296 := or_lit _ _ 1099511627776 ((((k : Int) + 1) * 256 + d) * 256 + a) 40 rfl (by omega) (by omega) (by omega) (by omega) (by omega) (by omega)
      have g4 : bits .or .u64 (((k : Int) + 1) * 72057594037927936 + d * 281474976710656 + a * 1099511627776 + b * 4294967296) (imm % 4294967296) = ((k : Int) + 1) * 72057594037927936 + d * 281474976710656 + a * 1099511627776 + b * 4294967296 + imm % 4294967296 := or_lit _ _ 4294967296 (((((k : Int) + 1) * 256 + d) * 256 + a) * 256 + b) 32 rfl (by omega) (by omega) (by omega) (by omega) (by omega) (by omega)
      have HWD : Hid (wordP ⟨op, d, a, b, imm⟩ = ((k : Int) + 1) * 72057594037927936 + d * 281474976710656 + a * 1099511627776 + b * 4294967296 + imm % 4294967296) := by
        show wordP _ = _
        unfold wordP lowP
        simp only
        rw [HFK.out]
        split <;> omega
      have G1 := Lib.hid g1
      have G2 := Lib.hid g2
      have G3 := Lib.hid g3
      have G4 := Lib.hid g4
      clear g1 g2 g3 g4
      go_wp2_with fail
      go_ret2
      refine ⟨?_, HB2.out⟩
      unfold encV
      rw [HE0.out, if_pos rfl, HWD.out, ← G4.out, ← G3.out, ← G2.out, ← G1.out]
      rfl
    · rcases errP_cases (hasOf k) ⟨op, d, a, b, imm⟩ with h1 | h1 | h1
      · exact absurd h1 h0
      · have HE0 := Lib.hid (HE.out.trans h1)
        rw [h1]
        clear h0 h1
        rw [show errV KB KS KK 2 = .iface 220 (.pointer (some KB)) from rfl]
        go_wp2_with fail
        go_ret2
        exact ⟨by unfold encV; rw [HE0.out]; rfl, HB2.out⟩
      · have HE0 := Lib.hid (HE.out.trans h1)
        rw [h1]
        clear h0 h1
        rw [show errV KB KS KK 3 = .iface 220 (.pointer (some KS)) from rfl]
        go_wp2_with fail
        go_ret2
        exact ⟨by unfold encV; rw [HE0.out]; rfl, HB2.out⟩
theorem Encode_any (i : PIns) (KB KS KK : Addr) (w : World) (hB : w.cell? ⟨7, 0, none⟩ = some (esV KB)) (hS : w.cell? ⟨8, 0, none⟩ = some (esV KS)) (hK : w.cell? ⟨5, 0, none⟩ = some (esV KK)) :
    Calls Tryz.prog 26 #[insV i] w (Ret (encV KB KS KK i) w) := by
  cases h : findL i.op with
  | zero => exact encode_none i KB KS KK w hK h
  | succ k => exact encode_some i KB KS KK w hB hS k h
end Go.Proofs.YtonnhechjbdenaaGreatDoor
