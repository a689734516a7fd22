import Derived.Maps.OwnOps
import Derived.Maps.OwnSet
import Derived.Test.YtonnhechjbdenaaGreatDoorShelf
import Derived.Lib.AppendIntMem
import Derived.Test.YtonnhechjbdenaaGreatDoorBn9
import Derived.Test.YtonnhechjbdenaaGreatDoorBn10
import Derived.Test.YtonnhechjbdenaaGreatDoorBn6
set_option linter.unusedVariables false
set_option linter.unusedSimpArgs false
namespace Go.Proofs.YtonnhechjbdenaaGreatDoor
open Go.RowKit

/-! a map's literal -/
theorem keyMkM (k : List UInt8) (h : k.length ≤ 1000000) : keyOf Tryz.prog 9 (.string (mkB k)) = some (.string k) := strKey k h
theorem zeroIntM (w : World) : (zeroValue 3).run Tryz.prog w = .ok (.int .i64 0) w := by kernel_rfl
/-- A map's literal: an entry. -/
theorem wpList_insert_map {w : World} {ops : Array Oper} {rest : List Oper} {o : Oper} {a : Act} {Q : Exit → Act → World → Prop} (hg : o.guard = none) (m x v : Operand) (t : TypeId) (hop : o.op = Op.insert t m x v) (e : TypeId) (ht : Tryz.prog.underlying t = some (.map 9 e))
    (b n : Nat) (f : List UInt8 → Option Value) (h : MapAt w b n f) (hn : n < 1000) (hm : a.eval m = .map (some b)) (k : List UInt8) (hk : k.length ≤ 1000000) (hx : a.eval x = .string (mkB k)) (val : Value) (hv : a.eval v = val)
    (K : ∀ w', MapAt w' b (n + 1) (putF f k val) → w.grownBy w' (some b) → wpList Tryz.prog ops Q rest (a.put o.dst undef) w') : wpList Tryz.prog ops Q (o :: rest) a w := by
  obtain ⟨D, ho, hmap, hf⟩ := h
  refine wpList_plain hg fun K' hK' => ?_
  obtain ⟨w', hrun, r1, r2⟩ := ho.update strKeyed ht (by unfold maxLen; omega) (keyMkM k hk) (val := val) (d := .held val) (ps := []) rfl
  unfold Oper.wp
  simp [execOp, hop, hm, hx, hv, hrun, Result.andThen]
  exact hK' _ _ (K w' (MapAt.of_put hmap hf r1) r2)
end Go.Proofs.YtonnhechjbdenaaGreatDoor

namespace Go.Proofs.YtonnhechjbdenaaGreatDoor
open Go.RowKit

theorem and_255 (x : Int) (h0 : 0 ≤ x) (h1 : x < 18446744073709551616) : bits .and .u64 x 255 = x % 256 := by
  obtain ⟨a, rfl⟩ := Int.eq_ofNat_of_zero_le h0
  have h3 : a < 18446744073709551616 := by omega
  have e := u64_and_nat a 255 h3 (by omega)
  rw [Nat.and_two_pow_sub_one_eq_mod a 8] at e
  rw [show ((255 : Int)) = ((255 : Nat) : Int) from rfl, e]
  omega
theorem wrap32_eq (v : Int) : wrap32 v = if v % 4294967296 ≥ 2147483648 then v % 4294967296 - 4294967296 else v % 4294967296 := by
  unfold wrap32
  split <;> omega
def noIns : Value := .agg #[.string ⟨#[]⟩, .int .i64 0, .int .i64 0, .int .i64 0, .int .i64 0]
/-- What code.Decode hands back. -/
def decV (KB KS KK : Addr) (w : Int) : Value := .tuple #[if errW w = 0 then insV (insP w) else noIns, errV KB KS KK (errW w)]
theorem decode_none (v : Int) (h0 : 0 ≤ v) (h1 : v < 18446744073709551616) (KB KS KK : Addr) (w : World) (hK : w.cell? ⟨5, 0, none⟩ = some (esV KK)) (h : v / 72057594037927936 < 1 ∨ 29 < v / 72057594037927936) :
    Calls Tryz.prog 38 #[.int .u64 v] w (Ret (decV KB KS KK v) w) := by
  have HE : Hid (errW v = 4) := show errW v = 4 by unfold errW; rw [if_pos h]
  have hk : Hid (∀ w', Below w.heap.size w w' → w'.cell? ⟨5, 0, none⟩ = some (esV KK)) := fun w' hb => Keeps.of_below hb _ _ hK
  have hk0 := hk.out _ (grow_alloc (grow_refl w) (.cells #[.string ⟨#[]⟩, .int .i64 0, .int .i64 0, .int .i64 0, .int .i64 0] 90))
  have hk1 := hk.out _ (grow_alloc (grow_alloc (grow_refl w) (.cells #[.string ⟨#[]⟩, .int .i64 0, .int .i64 0, .int .i64 0, .int .i64 0] 90)) (.cells (opsT.flatMap rowC).toArray 130))
  rcases h with h | h
  all_goals
    go_enter Tryz.func38, Tryz.ntmps38
    go_wp2_with (go_at_call 52; refine (table_any _).mono ?_; rintro x w' ⟨rfl, rfl⟩)
    go_region
    all_goals go_wp2_with fail
    all_goals (refine bodyPost_ret (by simp [results, Tryz.results38, go_sem]; try rfl) rfl ?_)
    all_goals refine ⟨by unfold decV; rw [HE.out]; rfl, ?_⟩
  · exact (grow_alloc (grow_refl _) _).drew
  · exact (grow_alloc (grow_alloc (grow_refl _) _) _).drew
set_option maxHeartbeats 4000000 in
set_option maxRecDepth 100000 in
theorem decode_some (v : Int) (h0 : 0 ≤ v) (h1 : v < 18446744073709551616) (KB KS KK : Addr) (w : World) (hB : w.cell? ⟨7, 0, none⟩ = some (esV KB)) (hS : w.cell? ⟨8, 0, none⟩ = some (esV KS)) (k : Nat) (hk29 : k < 29) (h : v / 72057594037927936 = (k : Int) + 1) :
    Calls Tryz.prog 38 #[.int .u64 v] w (Ret (decV KB KS KK v) w) := by
  have HE : Hid (errW v = errP (hasOf k) (insP v)) := show errW v = _ by unfold errW; rw [if_neg (by omega), h, show ((k : Int) + 1).toNat - 1 = k by omega]
  have HC : Hid (∀ i w', Below w.heap.size w w' → Calls Tryz.prog 51 #[insV i, .string (mkB (hasOf k))] w' (Ret (errV KB KS KK (errP (hasOf k) i)) w')) := fun i w' hb => by
    have := check_any i (mkB (hasOf k)) KB KS KK w' (Keeps.of_below hb _ _ hB) (Keeps.of_below hb _ _ hS)
    rwa [mkB_toList] at this
  clear hB hS
  have s1 : IntKind.i64.wrap ((k : Int) + 1 - 1) = k := by rw [show (k : Int) + 1 - 1 = k by omega]; exact IntWalk.i64_in _ (by omega)
  have s1' : IntKind.i64.wrap (k : Int) = k := IntWalk.i64_in _ (by omega)
  have s2 : (0 : Int) ≤ k := by omega
  have s3 : (k : Int) < 29 := by omega
  have s5 : ((k : Int)).toNat = k := by omega
  have s6 : decide ((k : Int) + 1 < 1) = false := decide_eq_false (by omega)
  have s7 : decide ((29 : Int) < (k : Int) + 1) = false := decide_eq_false (by omega)
  obtain ⟨w1, hw1⟩ : ∃ w1, w1 = (w.alloc (.cells #[.string ⟨#[]⟩, .int .i64 0, .int .i64 0, .int .i64 0, .int .i64 0] 90)).alloc (.cells (opsT.flatMap rowC).toArray 130) := ⟨_, rfl⟩
  have hsz : w1.heap.size = w.heap.size + 2 := by rw [hw1]; simp
  have hc := (has_cell w1 k hk29).1
  rw [hsz] at hc
  rw [hw1] at hc
  clear hsz hw1
  obtain ⟨D, hD⟩ : ∃ D, v / 281474976710656 % 256 = D := ⟨_, rfl⟩
  obtain ⟨A, hA⟩ : ∃ D, v / 1099511627776 % 256 = D := ⟨_, rfl⟩
  obtain ⟨B, hB⟩ : ∃ D, v / 4294967296 % 256 = D := ⟨_, rfl⟩
  obtain ⟨M, hM⟩ : ∃ D, (if v % 4294967296 ≥ 2147483648 then v % 4294967296 - 4294967296 else v % 4294967296) = D := ⟨_, rfl⟩
  have HI : Hid (insP v = ⟨nameOf k, D, A, B, M⟩) := by
    show insP v = _
    unfold insP
    rw [h, hD, hA, hB, hM, show ((k : Int) + 1).toNat = k + 1 by omega]
    rfl
  have d0 : 0 ≤ D := by omega
  have d1 : D ≤ 255 := by omega
  have a0 : 0 ≤ A := by omega
  have a1 : A ≤ 255 := by omega
  have b0 : 0 ≤ B := by omega
  have b1 : B ≤ 255 := by omega
  have m0 : -2147483648 ≤ M := by rw [← hM]; split <;> omega
  have m1 : M ≤ 2147483647 := by rw [← hM]; split <;> omega
  have gD : bits .and .u64 (v / 281474976710656) 255 = D := (and_255 _ (by omega) (by omega)).trans hD
  have gA : bits .and .u64 (v / 1099511627776) 255 = A := (and_255 _ (by omega) (by omega)).trans hA
  have gB : bits .and .u64 (v / 4294967296) 255 = B := (and_255 _ (by omega) (by omega)).trans hB
  have gM : wrap32 v = M := (wrap32_eq v).trans hM
  clear hD hA hB hM
  rw [HI.out] at HE
  have HD : Hid (decV KB KS KK v = .tuple #[if errP (hasOf k) ⟨nameOf k, D, A, B, M⟩ = 0 then insV ⟨nameOf k, D, A, B, M⟩ else noIns, errV KB KS KK (errP (hasOf k) ⟨nameOf k, D, A, B, M⟩)]) := by
    show decV _ _ _ _ = _
    unfold decV; rw [HE.out, HI.out]
  obtain ⟨w3, hw3⟩ : ∃ w3, w3 = (((w.alloc (.cells #[.string ⟨#[]⟩, .int .i64 0, .int .i64 0, .int .i64 0, .int .i64 0] 90)).alloc (.cells (opsT.flatMap rowC).toArray 130)).alloc (.cells (opsT.flatMap rowC).toArray 130)).alloc (.cells #[.string (mkB (nameOf k)), .int .i64 D, .int .i64 A, .int .i64 B, .int .i64 M] 90) := ⟨_, rfl⟩
  have hb3 : Below w.heap.size w w3 := by rw [hw3]; exact grow_alloc (grow_alloc (grow_alloc (grow_alloc (grow_refl _) _) _) _) _
  have hz3 : w3.heap[w.heap.size]? = some (.cells #[.string ⟨#[]⟩, .int .i64 0, .int .i64 0, .int .i64 0, .int .i64 0] 90) := by
    rw [hw3]
    exact ((grow_alloc (grow_alloc (grow_alloc (grow_refl (w.alloc (.cells #[.string ⟨#[]⟩, .int .i64 0, .int .i64 0, .int .i64 0, .int .i64 0] 90))) (.cells (opsT.flatMap rowC).toArray 130)) (.cells (opsT.flatMap rowC).toArray 130)) (.cells #[.string (mkB (nameOf k)), .int .i64 D, .int .i64 A, .int .i64 B, .int .i64 M] 90)).block w.heap.size (by simp)).trans (heap_alloc_new w _)
  have hi3 : w3.heap[w.heap.size + 1 + 1 + 1]? = some (.cells #[.string (mkB (nameOf k)), .int .i64 D, .int .i64 A, .int .i64 B, .int .i64 M] 90) := by
    have := heap_alloc_new (((w.alloc (.cells #[.string ⟨#[]⟩, .int .i64 0, .int .i64 0, .int .i64 0, .int .i64 0] 90)).alloc (.cells (opsT.flatMap rowC).toArray 130)).alloc (.cells (opsT.flatMap rowC).toArray 130)) (.cells #[.string (mkB (nameOf k)), .int .i64 D, .int .i64 A, .int .i64 B, .int .i64 M] 90)
    rw [hw3]
    rwa [show (((w.alloc (.cells #[.string ⟨#[]⟩, .int .i64 0, .int .i64 0, .int .i64 0, .int .i64 0] 90)).alloc (.cells (opsT.flatMap rowC).toArray 130)).alloc (.cells (opsT.flatMap rowC).toArray 130)).heap.size = w.heap.size + 1 + 1 + 1 by simp] at this
  have HW3 := Lib.hid hw3
  have HB3 := Lib.hid hb3
  have HZ3 := Lib.hid hz3
  have HI3 := Lib.hid hi3
  have q0 := cell_of_row w3 _ 0 _ _ _ hi3
  have q1 := cell_of_row w3 _ 1 _ _ _ hi3
  have q2 := cell_of_row w3 _ 2 _ _ _ hi3
  have q3 := cell_of_row w3 _ 3 _ _ _ hi3
  have q4 := cell_of_row w3 _ 4 _ _ _ hi3
  have p0 := fun o => Keeps.alloc w3 o _ _ q0
  have p1 := fun o => Keeps.alloc w3 o _ _ q1
  have p2 := fun o => Keeps.alloc w3 o _ _ q2
  have p3 := fun o => Keeps.alloc w3 o _ _ q3
  have p4 := fun o => Keeps.alloc w3 o _ _ q4
  have hc3 := (has_cell w3 k hk29).2
  have HCC := Lib.hid (HC.out ⟨nameOf k, D, A, B, M⟩ _ ((grow_alloc HB3.out (.cells (opsT.flatMap rowC).toArray 130)).drew))
  unfold insV at HCC
  clear hb3 hz3 hi3 hw3
  go_enter Tryz.func38, Tryz.ntmps38
  go_upto_region 5 with (go_at_call 52; refine (table_any _).mono ?_; rintro x w' ⟨rfl, rfl⟩)
  rw [← HW3.out]
  clear h gD gA gB gM s6 s7 HI HE hc
  go_cut [6] (fun e wx => e = errV KB KS KK (errP (hasOf k) ⟨nameOf k, D, A, B, M⟩) ∧ Below w3.heap.size w3 wx)
  case first =>
    clear d0 d1 a0 a1 b0 b1 m0 m1 h0 h1 hk29
    go_region_with (first
      | (go_at_call 52; refine (table_any _).mono ?_; rintro x w' ⟨rfl, rfl⟩)
      | (go_at_call 51; (with_reducible refine HCC.out.mono ?_); rintro x w2 ⟨rfl, hb2⟩))
    all_goals go_wp2_with fail
    all_goals go_meet
    all_goals exact ⟨rfl, grow_trans (grow_alloc (grow_refl _) _).drew hb2⟩
  case rest =>
    obtain ⟨rfl, hbx⟩ := hcut
    clear q0 q1 q2 q3 q4 p0 p1 p2 p3 p4 hc3
    have hlt3 : w.heap.size + 1 + 1 + 1 < w3.heap.size := (Array.getElem?_eq_some_iff.1 HI3.out).1
    have hzx := (hbx.block w.heap.size (by omega)).trans HZ3.out
    have hix := (hbx.block (w.heap.size + 1 + 1 + 1) hlt3).trans HI3.out
    have HBX := Lib.hid (grow_trans HB3.out hbx)
    have z0 := cell_of_row _ _ 0 _ _ _ hzx
    have z1 := cell_of_row _ _ 1 _ _ _ hzx
    have z2 := cell_of_row _ _ 2 _ _ _ hzx
    have z3 := cell_of_row _ _ 3 _ _ _ hzx
    have z4 := cell_of_row _ _ 4 _ _ _ hzx
    have zf := fun j => frozen_of_row _ _ j _ _ hzx
    have y0 := cell_of_row _ _ 0 _ _ _ hix
    have y1 := cell_of_row _ _ 1 _ _ _ hix
    have y2 := cell_of_row _ _ 2 _ _ _ hix
    have y3 := cell_of_row _ _ 3 _ _ _ hix
    have y4 := cell_of_row _ _ 4 _ _ _ hix
    clear hbx hzx hix hlt3
    rcases errP_cases (hasOf k) ⟨nameOf k, D, A, B, M⟩ with h1 | h1 | h1
    all_goals
      have HH := Lib.hid h1
      rw [h1]
      clear h1
    · rw [show errV KB KS KK 0 = .nilIface from rfl]
      go_wp2_with fail
      refine bodyPost_ret (by simp [results, Tryz.results38, go_sem, z0, z1, z2, z3, z4]; try rfl) rfl ?_
      exact ⟨by rw [HD.out, HH.out]; rfl, ((((HBX.out.setCell (Nat.le_refl _) _).setCell (Nat.le_refl _) _).setCell (Nat.le_refl _) _).setCell (Nat.le_refl _) _).setCell (Nat.le_refl _) _⟩
    · rw [show errV KB KS KK 2 = .iface 220 (.pointer (some KB)) from rfl]
      go_wp2_with fail
      refine bodyPost_ret (by simp [results, Tryz.results38, go_sem, z0, z1, z2, z3, z4]; try rfl) rfl ?_
      exact ⟨by rw [HD.out, HH.out]; rfl, ((((HBX.out.setCell (Nat.le_refl _) _).setCell (Nat.le_refl _) _).setCell (Nat.le_refl _) _).setCell (Nat.le_refl _) _).setCell (Nat.le_refl _) _⟩
    · rw [show errV KB KS KK 3 = .iface 220 (.pointer (some KS)) from rfl]
      go_wp2_with fail
      refine bodyPost_ret (by simp [results, Tryz.results38, go_sem, z0, z1, z2, z3, z4]; try rfl) rfl ?_
      exact ⟨by rw [HD.out, HH.out]; rfl, ((((HBX.out.setCell (Nat.le_refl _) _).setCell (Nat.le_refl _) _).setCell (Nat.le_refl _) _).setCell (Nat.le_refl _) _).setCell (Nat.le_refl _) _⟩
theorem Decode_any (v : Int) (h0 : 0 ≤ v) (h1 : v < 18446744073709551616) (KB KS KK : Addr) (w : World) (hB : w.cell? ⟨7, 0, none⟩ = some (esV KB)) (hS : w.cell? ⟨8, 0, none⟩ = some (esV KS)) (hK : w.cell? ⟨5, 0, none⟩ = some (esV KK)) :
    Calls Tryz.prog 38 #[.int .u64 v] w (Ret (decV KB KS KK v) w) := by
  by_cases h : v / 72057594037927936 < 1 ∨ 29 < v / 72057594037927936
  · exact decode_none v h0 h1 KB KS KK w hK h
  · exact decode_some v h0 h1 KB KS KK w hB hS (v / 72057594037927936 - 1).toNat (by omega) (by omega)
end Go.Proofs.YtonnhechjbdenaaGreatDoor

namespace Go.Proofs.YtonnhechjbdenaaGreatDoor
open Go.RowKit

theorem itoa_any' (n : Int) (h0 : -9223372036854775808 ≤ n) (h1 : n ≤ 9223372036854775807) (w0 w : World) (htab : Lib.TabBelow Tryz.prog w0.heap.size w0 "internal/strconv.uint64pow10" .u64 Lib.pow10Tab) (hb : Below w0.heap.size w0 w) :
    Calls Tryz.prog 66 #[.int .i64 n] w (Ret (.string (mkB (Lib.itoa n))) w) := by
  refine (Tryz.strconv_Itoa n h0 h1 w (htab w hb)).mono ?_
  rintro e w' ⟨rfl, k, os, rfl⟩
  exact ⟨rfl, Lib.below_grow _ _ (Nat.le_refl _) k os⟩
end Go.Proofs.YtonnhechjbdenaaGreatDoor
