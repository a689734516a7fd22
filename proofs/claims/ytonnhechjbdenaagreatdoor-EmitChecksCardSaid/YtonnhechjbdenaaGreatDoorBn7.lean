import Derived.Deep.DeepCutAuto
import Derived.Lib.IndexAny
import Derived.Test.YtonnhechjbdenaaGreatDoorBn6
import Derived.Test.YtonnhechjbdenaaGreatDoorBn1
import Derived.Test.YtonnhechjbdenaaGreatDoorBn2
set_option linter.unusedVariables false
set_option linter.unusedSimpArgs false
namespace Go.Proofs.YtonnhechjbdenaaGreatDoor
open Go.RowKit

theorem register_any (n : Int) (w : World) : Calls Tryz.prog 75 #[.int .i64 n] w fun e w' => e = .returned (.bool (regP n)) ∧ w' = w := by
  by_cases h1 : (0 : Int) ≤ n <;> by_cases h2 : n < 8
  all_goals
    have H := Lib.hid (And.intro h1 h2)
    go_enter Tryz.func75, Tryz.ntmps75
    go_wp2_with fail
    go_ret
    exact ⟨by obtain ⟨h1, h2⟩ := H.out; unfold regP; simp [h1, h2], rfl⟩
theorem toList_data (h : ByteArray) : h.toList = h.data.toList := by
  have := ByteArray.toList_mk h.data.toList
  simpa using this
def insV (i : PIns) : Value := .agg #[.string (mkB i.op), .int .i64 i.d, .int .i64 i.a, .int .i64 i.b, .int .i64 i.imm]
/-- The error of a number, as the code has it. -/
def errV (KB KS KK : Addr) (n : Nat) : Value := if n = 0 then .nilIface else if n = 2 then esV KB else if n = 3 then esV KS else esV KK
def outP (dB aB bB nB : Bool) (most d a b imm : Int) : Bool := (dB && !regP d) || (aB && !regP a) || (bB && (decide (b < 0) || decide (most < b))) || (nB && (decide (imm < -2147483648) || decide (2147483647 < imm)))
def ownP (dB aB bB nB : Bool) (d a b imm : Int) : Bool := (!dB && d != 0) || (!aB && a != 0) || (!bB && b != 0) || (!nB && imm != 0)
theorem errP_eq (h : List UInt8) (i : PIns) : errP h i = if outP (h.contains 100) (h.contains 97) (h.contains 98) (h.contains 105) (mostB i.op) i.d i.a i.b i.imm then 2 else if ownP (h.contains 100) (h.contains 97) (h.contains 98) (h.contains 105) i.d i.a i.b i.imm then 3 else 0 := by
  unfold errP outP ownP; rfl
set_option maxHeartbeats 4000000 in
set_option maxRecDepth 100000 in
theorem check_any (i : PIns) (h : ByteArray) (KB KS KK : Addr) (w : World) (hB : w.cell? ⟨7, 0, none⟩ = some (esV KB)) (hS : w.cell? ⟨8, 0, none⟩ = some (esV KS)) :
    Calls Tryz.prog 51 #[insV i, .string h] w (Ret (errV KB KS KK (errP h.toList i)) w) := by
  have qB := Keeps.alloc w (.cells #[.string (mkB i.op), .int .i64 i.d, .int .i64 i.a, .int .i64 i.b, .int .i64 i.imm] 90) _ _ hB
  have qS := Keeps.alloc w (.cells #[.string (mkB i.op), .int .i64 i.d, .int .i64 i.a, .int .i64 i.b, .int .i64 i.imm] 90) _ _ hS
  have hc : ∀ (c : UInt8) (v : Bool), h.toList.contains c = v → ∀ w, Calls Tryz.prog 65 #[.string h, .string ⟨#[c]⟩] w fun e w' => e = .returned (.bool v) ∧ w' = w := fun c v hv w => by
    have e := Tryz.strings_Contains_one h c w
    rw [← Lib.contains_iff_indexByte, ← toList_data, hv] at e
    exact e
  obtain ⟨dB, hd⟩ : ∃ v, h.toList.contains 100 = v := ⟨_, rfl⟩
  obtain ⟨aB, ha⟩ : ∃ v, h.toList.contains 97 = v := ⟨_, rfl⟩
  obtain ⟨bB, hb⟩ : ∃ v, h.toList.contains 98 = v := ⟨_, rfl⟩
  obtain ⟨nB, hn⟩ : ∃ v, h.toList.contains 105 = v := ⟨_, rfl⟩
  have hd' := Lib.hid (hc 100 dB hd)
  have ha' := Lib.hid (hc 97 aB ha)
  have hb' := Lib.hid (hc 98 bB hb)
  have hn' := Lib.hid (hc 105 nB hn)
  obtain ⟨most, hm⟩ : ∃ m, mostB i.op = m := ⟨_, rfl⟩
  have HE : Hid (errP h.toList i = if outP dB aB bB nB most i.d i.a i.b i.imm then 2 else if ownP dB aB bB nB i.d i.a i.b i.imm then 3 else 0) := by
    show errP _ _ = _
    rw [errP_eq, hd, ha, hb, hn, hm]
  clear hc hd ha hb hn hB hS
  obtain ⟨op, d, a, b, imm⟩ := i
  unfold insV
  simp only at qB qS HE hm ⊢
  have hq : (((mkB op).toList == [99, 97, 108, 108]) = true ∧ most = 4) ∨ (((mkB op).toList == [99, 97, 108, 108]) = false ∧ most = 7) := by
    rw [mkB_toList, ← hm]; unfold mostB
    show ((op == callN) = true ∧ _) ∨ ((op == callN) = false ∧ _)
    cases op == callN <;> simp
  clear hm
  obtain ⟨e1, he1⟩ : ∃ e, (d != 0) = e := ⟨_, rfl⟩
  obtain ⟨e2, he2⟩ : ∃ e, (a != 0) = e := ⟨_, rfl⟩
  obtain ⟨e3, he3⟩ : ∃ e, (b != 0) = e := ⟨_, rfl⟩
  obtain ⟨e4, he4⟩ : ∃ e, (imm != 0) = e := ⟨_, rfl⟩
  have HE2 : Hid (ownP dB aB bB nB d a b imm = ((!dB && e1) || (!aB && e2) || (!bB && e3) || (!nB && e4))) := by
    show ownP _ _ _ _ _ _ _ _ = _
    unfold ownP; rw [he1, he2, he3, he4]
  go_enter Tryz.func51, Tryz.ntmps51
  go_upto_if 20 with (first
    | (go_at_call 65; (with_reducible refine (hd'.out _).mono ?_); rintro x w' ⟨rfl, rfl⟩)
    | (go_at_call 65; (with_reducible refine (ha'.out _).mono ?_); rintro x w' ⟨rfl, rfl⟩)
    | (go_at_call 65; (with_reducible refine (hb'.out _).mono ?_); rintro x w' ⟨rfl, rfl⟩)
    | (go_at_call 65; (with_reducible refine (hn'.out _).mono ?_); rintro x w' ⟨rfl, rfl⟩))
  go_cut [9] (fun v wx => v = .int .i64 most ∧ wx = w.alloc (.cells #[.string (mkB op), .int .i64 d, .int .i64 a, .int .i64 b, .int .i64 imm] 90))
  case first =>
    rcases hq with ⟨hq, rfl⟩ | ⟨hq, rfl⟩
    all_goals go_wp2_with fail
    all_goals (go_meet; first | exact ⟨rfl, rfl⟩ | (exfalso; simp_all))
  case rest =>
    obtain ⟨rfl, rfl⟩ := hcut
    clear hq
    go_upto_region 5 with fail
    go_cut [5, 6, 7, 8, 21] (fun v5 v6 v7 v8 v wx => v5 = .bool dB ∧ v6 = .bool aB ∧ v7 = .bool bB ∧ v8 = .bool nB ∧ v = .bool (outP dB aB bB nB most d a b imm) ∧ wx = w.alloc (.cells #[.string (mkB op), .int .i64 d, .int .i64 a, .int .i64 b, .int .i64 imm] 90))
    case first =>
      go_wp2_with (go_at_call 75; refine (register_any _ _).mono ?_; rintro x w' ⟨rfl, rfl⟩)
      all_goals go_meet
      all_goals refine ⟨?_, ?_, ?_, ?_, ?_, rfl⟩
      all_goals simp [outP, *]
    case rest =>
      obtain ⟨rfl, rfl, rfl, rfl, rfl, rfl⟩ := hcut
      cases ho : outP dB aB bB nB most d a b imm
      · have HO := Lib.hid ho
        clear ho
        go_upto_region 7 with fail
        go_cut [5, 6, 7, 8, 66] (fun v5 v6 v7 v8 v wx => v5 = .bool dB ∧ v6 = .bool aB ∧ v7 = .bool bB ∧ v8 = .bool nB ∧ v = .bool (ownP dB aB bB nB d a b imm) ∧ wx = w.alloc (.cells #[.string (mkB op), .int .i64 d, .int .i64 a, .int .i64 b, .int .i64 imm] 90))
        case first =>
          go_wp2_with fail
          all_goals go_meet
          all_goals refine ⟨?_, ?_, ?_, ?_, by rw [HE2.out]; simp [*], rfl⟩
          all_goals simp [*]
        case rest =>
          obtain ⟨rfl, rfl, rfl, rfl, rfl, rfl⟩ := hcut
          cases ho : ownP dB aB bB nB d a b imm
          · have HP := Lib.hid ho
            clear ho
            go_wp2_with fail
            go_ret
            exact ⟨by rw [HE.out, HO.out, HP.out]; rfl, grow_alloc (grow_refl _) _⟩
          · have HP := Lib.hid ho
            clear ho
            go_wp2_with fail
            go_ret
            exact ⟨by rw [HE.out, HO.out, HP.out]; rfl, grow_alloc (grow_refl _) _⟩
      · have HO := Lib.hid ho
        clear ho
        go_wp2_with fail
        go_ret
        exact ⟨by rw [HE.out, HO.out]; rfl, grow_alloc (grow_refl _) _⟩
end Go.Proofs.YtonnhechjbdenaaGreatDoor

namespace Go.Proofs.YtonnhechjbdenaaGreatDoor
open Go.RowKit

/-! blocks and rows that are one's own -/
theorem old_block (w : World) (o : Obj) {k : Nat} (hk : k < w.heap.size) : (w.alloc o).heap[k]? = w.heap[k]? := by
  show (w.heap.push o)[k]? = _
  rw [Array.getElem?_push_lt hk, Array.getElem?_eq_getElem hk]
theorem new_block (w : World) (o : Obj) {k : Nat} (hk : k = w.heap.size) : (w.alloc o).heap[k]? = some o := by
  subst hk; exact heap_alloc_new w o
theorem row_set {w : World} {b j : Nat} {cs cs' : Array Value} {T : TypeId} {fz : Nat × Nat} (u : Value) (hb : w.heap[b]? = some (.cells cs T fz)) (he : cs' = cs.setIfInBounds j u) : (w.setCell ⟨b, j, none⟩ u).heap[b]? = some (.cells cs' T fz) := by
  subst he
  simp [World.setCell, Array.getElem?_modify, hb]
theorem row_frozen {w : World} {b : Nat} {cs : Array Value} {T : TypeId} (hb : w.heap[b]? = some (.cells cs T (0, 0))) (j : Nat) : w.frozen? ⟨b, j, none⟩ = false := by
  simp [World.frozen?, hb]
theorem own_else {w : World} {base : Nat} {e : TypeId} {size : Nat} {v : Value} {n : Nat} {xs : List Value} {x : Nat} {o : Obj} (h : w.ownsRow base e size v n xs) (hx : w.heap[x]? = some o) (hT : ∀ cs, o ≠ .cells cs e (0, 0)) : v.ownBlock ≠ some x := by
  rcases h.2 with ⟨q, _⟩ | ⟨g, cap, cur, q, _, q4, _⟩
  · rw [q]; simp [Value.ownBlock]
  · rw [q]
    intro e
    simp only [Value.ownBlock, Option.some.injEq] at e
    subst e
    rw [hx] at q4
    exact hT _ (Option.some.inj q4)
theorem own_same {w w' : World} {base : Nat} {e : TypeId} {size : Nat} {v : Value} {n : Nat} {xs : List Value} (h : w.ownsRow base e size v n xs) (hs : ∀ k, v.ownBlock = some k → w'.heap[k]? = w.heap[k]?) : w'.ownsRow base e size v n xs := by
  refine ⟨h.1, ?_⟩
  rcases h.2 with q | ⟨g, cap, cur, q1, q2, q3, q4⟩
  · exact .inl q
  · exact .inr ⟨g, cap, cur, q1, q2, (hs g (by rw [q1]; rfl)).trans q3, q4⟩
theorem own_lt {w : World} {base : Nat} {e : TypeId} {size : Nat} {v : Value} {n : Nat} {xs : List Value} (h : w.ownsRow base e size v n xs) {k : Nat} (hk : v.ownBlock = some k) : base ≤ k ∧ k < w.heap.size := by
  rcases h.2 with ⟨q, _⟩ | ⟨g, cap, cur, q1, q2, q3, q4⟩
  · rw [q] at hk; cases hk
  · rw [q1] at hk
    simp only [Value.ownBlock, Option.some.injEq] at hk
    subst hk
    exact ⟨q2, (Array.getElem?_eq_some_iff.1 q3).1⟩
theorem own_blk {w : World} {base : Nat} {e : TypeId} {size : Nat} {v : Value} {n : Nat} {xs : List Value} (h : w.ownsRow base e size v n xs) {k : Nat} (hk : v.ownBlock = some k) : ∃ cs, w.heap[k]? = some (.cells cs e (0, 0)) := by
  rcases h.2 with ⟨q, _⟩ | ⟨g, cap, cur, q1, q2, q3, q4⟩
  · rw [q] at hk; cases hk
  · rw [q1] at hk
    simp only [Value.ownBlock, Option.some.injEq] at hk
    subst hk
    exact ⟨_, q3⟩
theorem own_ne {w : World} {b1 b2 s1 s2 : Nat} {e1 e2 : TypeId} {v1 v2 : Value} {n1 n2 : Nat} {l1 l2 : List Value} (h1 : w.ownsRow b1 e1 s1 v1 n1 l1) (h2 : w.ownsRow b2 e2 s2 v2 n2 l2) (hT : e1 ≠ e2) {k : Nat} (hk : v1.ownBlock = some k) : v2.ownBlock ≠ some k := by
  obtain ⟨cs, hc⟩ := own_blk h1 hk
  exact own_else h2 hc fun cs' e => by injection e with _ e _; exact hT e
end Go.Proofs.YtonnhechjbdenaaGreatDoor

namespace Go.Proofs.YtonnhechjbdenaaGreatDoor
open Go.RowKit

/-! rows of numbers -/
def intVs (l : List Int) : List Value := l.map fun n => .int .i64 n
theorem intVs_get {l : List Int} {k : Nat} (h : k < l.length) : (intVs l)[k]? = some (.int .i64 l[k]) := by unfold intVs; simp [h]
theorem intVs_snoc (l : List Int) (n : Int) : intVs (l ++ [n]) = intVs l ++ [.int .i64 n] := by unfold intVs; simp
theorem intVs_set (l : List Int) (k : Nat) (n : Int) : intVs (l.set k n) = (intVs l).set k (.int .i64 n) := by unfold intVs; rw [List.map_set]
theorem intInfo : (Tryz.prog.info? 3).map (fun i => (i.zero, i.size, i.bytes)) = some (some (.int .i64 0), 1, 8) := by kernel_rfl
end Go.Proofs.YtonnhechjbdenaaGreatDoor
