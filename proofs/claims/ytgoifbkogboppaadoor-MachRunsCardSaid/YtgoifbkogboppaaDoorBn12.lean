import Derived.Deep.RegionWith
import Derived.Deep.RegionHeld3
import Derived.Laws.BitsAllLaws
import Derived.Test.YtgoifbkogboppaaDoorBn9
import Derived.Test.YtgoifbkogboppaaDoorBn7
set_option linter.unusedVariables false
set_option linter.unusedSimpArgs false
namespace Go.Proofs.YtgoifbkogboppaaDoor
open Go.RowKit

theorem or_lit (x y P A : Int) (n : Nat) (hP : P = ((2 ^ n : Nat) : Int)) (hx : x = A * P) (h0 : 0 ≤ A) (h1 : x < 18446744073709551616) (y0 : 0 ≤ y) (y1 : y < P) (hPl : P ≤ 18446744073709551616) : bits .or .u64 x y = x + y := by
  obtain ⟨a, rfl⟩ := Int.eq_ofNat_of_zero_le h0
  obtain ⟨b, rfl⟩ := Int.eq_ofNat_of_zero_le y0
  subst hP
  subst hx
  have hb : b < 2 ^ n := by exact_mod_cast y1
  have h2 : ((a * 2 ^ n : Nat) : Int) < 18446744073709551616 := by rw [Int.natCast_mul]; exact h1
  have h3 : a * 2 ^ n < 18446744073709551616 := by
    generalize a * 2 ^ n = z at h2
    omega
  have h4 : b < 18446744073709551616 := by
    have := Int.lt_of_lt_of_le y1 hPl
    omega
  rw [show (a : Int) * ((2 ^ n : Nat) : Int) = ((a * 2 ^ n : Nat) : Int) from (Int.natCast_mul _ _).symm, u64_or_nat _ _ h3 h4, Nat.mul_comm, ← Nat.two_pow_add_eq_or_of_lt hb]
  rfl
theorem errP_cases (h : List UInt8) (i : PIns) : errP h i = 0 ∨ errP h i = 2 ∨ errP h i = 3 := by
  rw [errP_eq]
  split
  · exact .inr (.inl rfl)
  · split
    · exact .inr (.inr rfl)
    · exact .inl rfl
theorem has_cell (w : World) (k : Nat) (hk : k < 29) : (w.alloc (.cells (opsT.flatMap rowC).toArray 98)).cell? ⟨w.heap.size, k * 2, none⟩ = some (.string (mkB (nameOf k))) ∧ (w.alloc (.cells (opsT.flatMap rowC).toArray 98)).cell? ⟨w.heap.size, k * 2 + 1, none⟩ = some (.string (mkB (hasOf k))) :=
  row_cells (Row.new w _ _) hk
/-- What code.Encode hands back. -/
def encV (KB KS KK : Addr) (i : PIns) : Value := .tuple #[.int .u64 (if errI i = 0 then wordP i else 0), errV KB KS KK (errI i)]
end Go.Proofs.YtgoifbkogboppaaDoor

namespace Go.Proofs.YtgoifbkogboppaaDoor
open Go.RowKit

theorem and_255 (x : Int) (h0 : 0 ≤ x) (h1 : x < 18446744073709551616) : bits .and .u64 x 255 = x % 256 := by
  obtain ⟨a, rfl⟩ := Int.eq_ofNat_of_zero_le h0
  have h3 : a < 18446744073709551616 := by omega
  have e := u64_and_nat a 255 h3 (by omega)
  rw [Nat.and_two_pow_sub_one_eq_mod a 8] at e
  rw [show ((255 : Int)) = ((255 : Nat) : Int) from rfl, e]
  omega
theorem wrap32_eq (v : Int) : wrap32 v = if v % 4294967296 ≥ 2147483648 then v % 4294967296 - 4294967296 else v % 4294967296 := by
  unfold wrap32
  split <;> omega
def noIns : Value := .agg #[.string ⟨#[]⟩, .int .i64 0, .int .i64 0, .int .i64 0, .int .i64 0]
/-- What code.Decode hands back. -/
def decV (KB KS KK : Addr) (w : Int) : Value := .tuple #[if errW w = 0 then insV (insP w) else noIns, errV KB KS KK (errW w)]
theorem decode_none (v : Int) (h0 : 0 ≤ v) (h1 : v < 18446744073709551616) (KB KS KK : Addr) (w : World) (hK : w.cell? ⟨4, 0, none⟩ = some (esV KK)) (h : v / 72057594037927936 < 1 ∨ 29 < v / 72057594037927936) :
    Calls Tryd.prog 25 #[.int .u64 v] w (Ret (decV KB KS KK v) w) := by
  have HE : Hid (errW v = 4) := show errW v = 4 by unfold errW; rw [if_pos h]
  have hk : Hid (∀ w', Below w.heap.size w w' → w'.cell? ⟨4, 0, none⟩ = some (esV KK)) := fun w' hb => Keeps.of_below hb _ _ hK
  have hk0 := hk.out _ (grow_alloc (grow_refl w) (.cells #[.string ⟨#[]⟩, .int .i64 0, .int .i64 0, .int .i64 0, .int .i64 0] 76))
  have hk1 := hk.out _ (grow_alloc (grow_alloc (grow_refl w) (.cells #[.string ⟨#[]⟩, .int .i64 0, .int .i64 0, .int .i64 0, .int .i64 0] 76)) (.cells (opsT.flatMap rowC).toArray 98))
  rcases h with h | h
  all_goals
    go_enter Tryd.func25, Tryd.ntmps25
    go_wp2_with (go_at_call 39; refine (table_any _).mono ?_; rintro x w' ⟨rfl, rfl⟩)
    go_region
    all_goals go_wp2_with fail
    all_goals (refine bodyPost_ret (by simp [results, Tryd.results25, go_sem]; try rfl) rfl ?_)
    all_goals refine ⟨by unfold decV; rw [HE.out]; rfl, ?_⟩
  · exact (grow_alloc (grow_refl _) _).drew
  · exact (grow_alloc (grow_alloc (grow_refl _) _) _).drew
set_option maxHeartbeats 4000000 in
set_option maxRecDepth 100000 in
theorem decode_some (v : Int) (h0 : 0 ≤ v) (h1 : v < 18446744073709551616) (KB KS KK : Addr) (w : World) (hB : w.cell? ⟨2, 0, none⟩ = some (esV KB)) (hS : w.cell? ⟨6, 0, none⟩ = some (esV KS)) (k : Nat) (hk29 : k < 29) (h : v / 72057594037927936 = (k : Int) + 1) :
    Calls Tryd.prog 25 #[.int .u64 v] w (Ret (decV KB KS KK v) w) := by
  have HE : Hid (errW v = errP (hasOf k) (insP v)) := show errW v = _ by unfold errW; rw [if_neg (by omega), h, show ((k : Int) + 1).toNat - 1 = k by omega]
  have HC : Hid (∀ i w', Below w.heap.size w w' → Calls Tryd.prog 40 #[insV i, .string (mkB (hasOf k))] w' (Ret (errV KB KS KK (errP (hasOf k) i)) w')) := fun i w' hb => by
    have := check_any i (mkB (hasOf k)) KB KS KK w' (Keeps.of_below hb _ _ hB) (Keeps.of_below hb _ _ hS)
    rwa [mkB_toList] at this
  clear hB hS
  have s1 : IntKind.i64.wrap ((k : Int) + 1 - 1) = k := by rw [show (k : Int) + 1 - 1 = k by omega]; exact IntWalk.i64_in _ (by omega)
  have s1' : IntKind.i64.wrap (k : Int) = k := IntWalk.i64_in _ (by omega)
  have s2 : (0 : Int) ≤ k := by omega
  have s3 : (k : Int) < 29 := by omega
  have s5 : ((k : Int)).toNat = k := by omega
  have s6 : decide ((k : Int) + 1 < 1) = false := decide_eq_false (by omega)
  have s7 : decide ((29 : Int) < (k : Int) + 1) = false := decide_eq_false (by omega)
  obtain ⟨w1, hw1⟩ : ∃ w1, w1 = (w.alloc (.cells #[.string ⟨#[]⟩, .int .i64 0, .int .i64 0, .int .i64 0, .int .i64 0] 76)).alloc (.cells (opsT.flatMap rowC).toArray 98) := ⟨_, rfl⟩
  have hsz : w1.heap.size = w.heap.size + 2 := by rw [hw1]; simp
  have hc := (has_cell w1 k hk29).1
  rw [hsz] at hc
  rw [hw1] at hc
  clear hsz hw1
  obtain ⟨D, hD⟩ : ∃ D, v / 281474976710656 % 256 = D := ⟨_, rfl⟩
  obtain ⟨A, hA⟩ : ∃ D, v / 1099511627776 % 256 = D := ⟨_, rfl⟩
  obtain ⟨B, hB⟩ : ∃ D, v / 4294967296 % 256 = D := ⟨_, rfl⟩
  obtain ⟨M, hM⟩ : ∃ D, (if v % 4294967296 ≥ 2147483648 then v % 4294967296 - 4294967296 else v % 4294967296) = D := ⟨_, rfl⟩
  have HI : Hid (insP v = ⟨nameOf k, D, A, B, M⟩) := by
    show insP v = _
    unfold insP
    rw [h, hD, hA, hB, hM, show ((k : Int) + 1).toNat = k + 1 by omega]
    rfl
  have d0 : 0 ≤ D := by omega
  have d1 : D ≤ 255 := by omega
  have a0 : 0 ≤ A := by omega
  have a1 : A ≤ 255 := by omega
  have b0 : 0 ≤ B := by omega
  have b1 : B ≤ 255 := by omega
  have m0 : -2147483648 ≤ M := by rw [← hM]; split <;> omega
  have m1 : M ≤ 2147483647 := by rw [← hM]; split <;> omega
  have gD : bits .and .u64 (v / 281474976710656) 255 = D := (and_255 _ (by omega) (by omega)).trans hD
  have gA : bits .and .u64 (v / 1099511627776) 255 = A := (and_255 _ (by omega) (by omega)).trans hA
  have gB : bits .and .u64 (v / 4294967296) 255 = B := (and_255 _ (by omega) (by omega)).trans hB
  have gM : wrap32 v = M := (wrap32_eq v).trans hM
  clear hD hA hB hM
  rw [HI.out] at HE
  have HD : Hid (decV KB KS KK v = .tuple #[if errP (hasOf k) ⟨nameOf k, D, A, B, M⟩ = 0 then insV ⟨nameOf k, D, A, B, M⟩ else noIns, errV KB KS KK (errP (hasOf k) ⟨nameOf k, D, A, B, M⟩)]) := by
    show decV _ _ _ _ = _
    unfold decV; rw [HE.out, HI.out]
  obtain ⟨w3, hw3⟩ : ∃ w3, w3 = (((w.alloc (.cells #[.string ⟨#[]⟩, .int .i64 0, .int .i64 0, .int .i64 0, .int .i64 0] 76)).alloc (.cells (opsT.flatMap rowC).toArray 98)).alloc (.cells (opsT.flatMap rowC).toArray 98)).alloc (.cells #[.string (mkB (nameOf k)), .int .i64 D, .int .i64 A, .int .i64 B, .int .i64 M] 76) := ⟨_, rfl⟩
  have hb3 : Below w.heap.size w w3 := by rw [hw3]; exact grow_alloc (grow_alloc (grow_alloc (grow_alloc (grow_refl _) _) _) _) _
  have hz3 : w3.heap[w.heap.size]? = some (.cells #[.string ⟨#[]⟩, .int .i64 0, .int .i64 0, .int .i64 0, .int .i64 0] 76) := by
    rw [hw3]
    exact ((grow_alloc (grow_alloc (grow_alloc (grow_refl (w.alloc (.cells #[.string ⟨#[]⟩, .int .i64 0, .int .i64 0, .int .i64 0, .int .i64 0] 76))) (.cells (opsT.flatMap rowC).toArray 98)) (.cells (opsT.flatMap rowC).toArray 98)) (.cells #[.string (mkB (nameOf k)), .int .i64 D, .int .i64 A, .int .i64 B, .int .i64 M] 76)).block w.heap.size (by simp)).trans (heap_alloc_new w _)
  have hi3 : w3.heap[w.heap.size + 1 + 1 + 1]? = some (.cells #[.string (mkB (nameOf k)), .int .i64 D, .int .i64 A, .int .i64 B, .int .i64 M] 76) := by
    have := heap_alloc_new (((w.alloc (.cells #[.string ⟨#[]⟩, .int .i64 0, .int .i64 0, .int .i64 0, .int .i64 0] 76)).alloc (.cells (opsT.flatMap rowC).toArray 98)).alloc (.cells (opsT.flatMap rowC).toArray 98)) (.cells #[.string (mkB (nameOf k)), .int .i64 D, .int .i64 A, .int .i64 B, .int .i64 M] 76)
    rw [hw3]
    rwa [show (((w.alloc (.cells #[.string ⟨#[]⟩, .int .i64 0, .int .i64 0, .int .i64 0, .int .i64 0] 76)).alloc (.cells (opsT.flatMap rowC).toArray 98)).alloc (.cells (opsT.flatMap rowC).toArray 98)).heap.size = w.heap.size + 1 + 1 + 1 by simp] at this
  have HW3 := Lib.hid hw3
  have HB3 := Lib.hid hb3
  have HZ3 := Lib.hid hz3
  have HI3 := Lib.hid hi3
  have q0 := cell_of_row w3 _ 0 _ _ _ hi3
  have q1 := cell_of_row w3 _ 1 _ _ _ hi3
  have q2 := cell_of_row w3 _ 2 _ _ _ hi3
  have q3 := cell_of_row w3 _ 3 _ _ _ hi3
  have q4 := cell_of_row w3 _ 4 _ _ _ hi3
  have p0 := fun o => Keeps.alloc w3 o _ _ q0
  have p1 := fun o => Keeps.alloc w3 o _ _ q1
  have p2 := fun o => Keeps.alloc w3 o _ _ q2
  have p3 := fun o => Keeps.alloc w3 o _ _ q3
  have p4 := fun o => Keeps.alloc w3 o _ _ q4
  have hc3 := (has_cell w3 k hk29).2
  have HCC := Lib.hid (HC.out ⟨nameOf k, D, A, B, M⟩ _ ((grow_alloc HB3.out (.cells (opsT.flatMap rowC).toArray 98)).drew))
  unfold insV at HCC
  clear hb3 hz3 hi3 hw3
  go_enter Tryd.func25, Tryd.ntmps25
  go_upto_region 5 with (go_at_call 39; refine (table_any _).mono ?_; rintro x w' ⟨rfl, rfl⟩)
  rw [← HW3.out]
  clear h gD gA gB gM s6 s7 HI HE hc
  go_cut [6] (fun e wx => e = errV KB KS KK (errP (hasOf k) ⟨nameOf k, D, A, B, M⟩) ∧ Below w3.heap.size w3 wx)
  case first =>
    clear d0 d1 a0 a1 b0 b1 m0 m1 h0 h1 hk29
    go_region_with (first
      | (go_at_call 39; refine (table_any _).mono ?_; rintro x w' ⟨rfl, rfl⟩)
      | (go_at_call 40; (with_reducible refine HCC.out.mono ?_); rintro x w2 ⟨rfl, hb2⟩))
    all_goals go_wp2_with fail
    all_goals go_meet
    all_goals exact ⟨rfl, grow_trans (grow_alloc (grow_refl _) _).drew hb2⟩
  case rest =>
    obtain ⟨rfl, hbx⟩ := hcut
    clear q0 q1 q2 q3 q4 p0 p1 p2 p3 p4 hc3
    have hlt3 : w.heap.size + 1 + 1 + 1 < w3.heap.size := (Array.getElem?_eq_some_iff.1 HI3.out).1
    have hzx := (hbx.block w.heap.size (by omega)).trans HZ3.out
    have hix := (hbx.block (w.heap.size + 1 + 1 + 1) hlt3).trans HI3.out
    have HBX := Lib.hid (grow_trans HB3.out hbx)
    have z0 := cell_of_row _ _ 0 _ _ _ hzx
    have z1 := cell_of_row _ _ 1 _ _ _ hzx
    have z2 := cell_of_row _ _ 2 _ _ _ hzx
    have z3 := cell_of_row _ _ 3 _ _ _ hzx
    have z4 := cell_of_row _ _ 4 _ _ _ hzx
    have zf := fun j => frozen_of_row _ _ j _ _ hzx
    have y0 := cell_of_row _ _ 0 _ _ _ hix
    have y1 := cell_of_row _ _ 1 _ _ _ hix
    have y2 := cell_of_row _ _ 2 _ _ _ hix
    have y3 := cell_of_row _ _ 3 _ _ _ hix
    have y4 := cell_of_row _ _ 4 _ _ _ hix
    clear hbx hzx hix hlt3
    rcases errP_cases (hasOf k) ⟨nameOf k, D, A, B, M⟩ with h1 | h1 | h1
    all_goals
      have HH := Lib.hid h1
      rw [h1]
      clear h1
    · rw [show errV KB KS KK 0 = .nilIface from rfl]
      go_wp2_with fail
      refine bodyPost_ret (by simp [results, Tryd.results25, go_sem, z0, z1, z2, z3, z4]; try rfl) rfl ?_
      exact ⟨by rw [HD.out, HH.out]; rfl, ((((HBX.out.setCell (Nat.le_refl _) _).setCell (Nat.le_refl _) _).setCell (Nat.le_refl _) _).setCell (Nat.le_refl _) _).setCell (Nat.le_refl _) _⟩
    · rw [show errV KB KS KK 2 = .iface 156 (.pointer (some KB)) from rfl]
      go_wp2_with fail
      refine bodyPost_ret (by simp [results, Tryd.results25, go_sem, z0, z1, z2, z3, z4]; try rfl) rfl ?_
      exact ⟨by rw [HD.out, HH.out]; rfl, ((((HBX.out.setCell (Nat.le_refl _) _).setCell (Nat.le_refl _) _).setCell (Nat.le_refl _) _).setCell (Nat.le_refl _) _).setCell (Nat.le_refl _) _⟩
    · rw [show errV KB KS KK 3 = .iface 156 (.pointer (some KS)) from rfl]
      go_wp2_with fail
      refine bodyPost_ret (by simp [results, Tryd.results25, go_sem, z0, z1, z2, z3, z4]; try rfl) rfl ?_
      exact ⟨by rw [HD.out, HH.out]; rfl, ((((HBX.out.setCell (Nat.le_refl _) _).setCell (Nat.le_refl _) _).setCell (Nat.le_refl _) _).setCell (Nat.le_refl _) _).setCell (Nat.le_refl _) _⟩
theorem Decode_any (v : Int) (h0 : 0 ≤ v) (h1 : v < 18446744073709551616) (KB KS KK : Addr) (w : World) (hB : w.cell? ⟨2, 0, none⟩ = some (esV KB)) (hS : w.cell? ⟨6, 0, none⟩ = some (esV KS)) (hK : w.cell? ⟨4, 0, none⟩ = some (esV KK)) :
    Calls Tryd.prog 25 #[.int .u64 v] w (Ret (decV KB KS KK v) w) := by
  by_cases h : v / 72057594037927936 < 1 ∨ 29 < v / 72057594037927936
  · exact decode_none v h0 h1 KB KS KK w hK h
  · exact decode_some v h0 h1 KB KS KK w hB hS (v / 72057594037927936 - 1).toNat (by omega) (by omega)
end Go.Proofs.YtgoifbkogboppaaDoor

namespace Go.Proofs.YtgoifbkogboppaaDoor
open Go.RowKit

theorem errV_is {E : Nat → Addr} {w : World} (n : Nat) (h : n = 0 ∨ n = 2 ∨ n = 3 ∨ n = 4) : ErrIs E w (errV (E 1) (E 2) (E 3) n) n (-1) := by
  rcases h with rfl | rfl | rfl | rfl
  · exact .nil_
  · exact .es (i := 1) (by omega)
  · exact .es (i := 2) (by omega)
  · exact .es (i := 3) (by omega)
theorem errI_cases (i : PIns) : errI i = 0 ∨ errI i = 2 ∨ errI i = 3 ∨ errI i = 4 := by
  unfold errI
  split
  · omega
  · rcases errP_cases (hasOf (findL i.op - 1)) i with h | h | h <;> omega
theorem errW_cases (v : Int) : errW v = 0 ∨ errW v = 2 ∨ errW v = 3 ∨ errW v = 4 := by
  unfold errW
  split
  · omega
  · rcases errP_cases (hasOf ((v / 72057594037927936).toNat - 1)) (insP v) with h | h | h <;> omega
end Go.Proofs.YtgoifbkogboppaaDoor

namespace Go.Proofs.YtgoifbkogboppaaDoor
open Go.RowKit

theorem faulted3_any (E : Nat → Addr) (w : World) (h : Laid E w) (v : Value) (c a fc fa : Int) (hv : ErrIs E w v c a) :
    Calls Tryd.prog 16 #[v, .agg #[.int .i64 fc, .int .i64 fa]] w (Ret (.bool ((c == fc) && ((c == 0) || (a == fa)))) w) := by
  have hB : Below w.heap.size w (w.alloc (.cells #[.int .i64 fc, .int .i64 fa] 32)) := (Below.refl _ _).alloc (Nat.le_refl _) _
  have HV := Lib.hid (hv.keep (Keeps.of_below hB))
  have HL := Lib.hid (h.keep hB)
  have HB := Lib.hid hB
  clear hv h hB
  have hcl : (w.alloc (.cells #[.int .i64 fc, .int .i64 fa] 32)).cell? ⟨w.heap.size, 0, none⟩ = some (.int .i64 fc) := by simp
  have hcm : (w.alloc (.cells #[.int .i64 fc, .int .i64 fa] 32)).cell? ⟨w.heap.size, 1, none⟩ = some (.int .i64 fa) := by simp
  have H0 := Lib.hid hcl
  have H1 := Lib.hid hcm
  clear hcl hcm
  go_enter Tryd.func16, Tryd.ntmps16
  cases hc : (c == fc) <;> cases h0 : (c == 0) <;> cases ha : (a == fa)
  all_goals
    go_wp2_with (go_at_call 30; refine (Code_any E _ HL.out _ _ _ HV.out).mono ?_; rintro e w' ⟨rfl, hb⟩; have k0 := Keeps.of_below hb _ _ H0.out; have k1 := Keeps.of_below hb _ _ H1.out)
    go_ret
    refine ⟨rfl, HB.out.trans (hb.mono (by simp))⟩
def faultV3 (c a : Int) : Value := .agg #[.int .i64 c, .int .i64 a]
theorem faulted3_same (E : Nat → Addr) (w : World) (h : Laid E w) (v : Value) (c a : Int) (hv : ErrIs E w v c a) :
    Calls Tryd.prog 16 #[v, faultV3 c a] w (Ret (.bool true) w) := by
  have := faulted3_any E w h v c a c a hv
  simpa [faultV3] using this
theorem bare3 (c : Int) (w : World) : Calls Tryd.prog 15 #[.int .i64 c] w (Ret (faultV3 c (-1)) w) := by
  unfold faultV3
  go_enter Tryd.func15, Tryd.ntmps15
  go_wp2_with fail
  go_returns
  exact ⟨rfl, (Below.refl _ _).alloc (Nat.le_refl _) _⟩
theorem fine3 (w : World) : Calls Tryd.prog 18 #[] w (Ret (faultV3 0 (-1)) w) := by
  unfold faultV3
  go_enter Tryd.func18, Tryd.ntmps18
  go_wp2_with fail
  go_returns
  exact ⟨rfl, (Below.refl _ _).alloc (Nat.le_refl _) _⟩
end Go.Proofs.YtgoifbkogboppaaDoor
