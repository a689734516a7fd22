import Derived.Deep.DeepCutAuto
import Derived.Lib.AtoiErrMem
import Derived.Lib.Strings
import Derived.Test.YtpmpeihcdiohmaaDoorBn6
import Derived.Test.YtpmpeihcdiohmaaDoorBn3
set_option linter.unusedVariables false
set_option linter.unusedSimpArgs false
namespace Go.Proofs.YtpmpeihcdiohmaaDoor
open Go.RowKit

/-! has a form a letter? -/
/-- Has a text a letter? -/
def hasL (l : List UInt8) (c : UInt8) : Bool := l.contains c
/-- The first place of a letter, from k on (-1: none). -/
def letterAt (c : UInt8) : List UInt8 → Nat → Int
  | [], _ => -1
  | x :: l, k => if x == c then (k : Int) else letterAt c l (k + 1)
theorem letterAt_has (c : UInt8) : ∀ (l : List UInt8) (k : Nat), decide (0 ≤ letterAt c l k) = hasL l c := by
  unfold hasL
  intro l
  induction l with
  | nil => intro k; rfl
  | cons x l ih =>
    intro k
    unfold letterAt
    by_cases h : (x == c) = true
    · rw [if_pos h, List.contains_cons, show (c == x) = true by rw [eq_of_beq h]; exact beq_self_eq_true _]; simp
    · rw [if_neg h, ih, List.contains_cons, show (c == x) = false from beq_eq_false_iff_ne.2 (fun e => h (by rw [e]; exact beq_self_eq_true _))]; simp
theorem letterAt_drop (c : UInt8) (l : List UInt8) {k : Nat} (h : k < l.length) : letterAt c (l.drop k) k = if l[k] == c then (k : Int) else letterAt c (l.drop (k + 1)) (k + 1) := by
  rw [List.drop_eq_getElem_cons h]; rfl
/-- Bytes that lie side by side. -/
def BytesAt (w : World) (b : Nat) (l : List UInt8) : Prop := ∀ k (hk : k < l.length), w.cell? ⟨b, k, none⟩ = some (.int .u8 (l[k].toNat : Int))
set_option maxRecDepth 100000 in
theorem index_any (l : List UInt8) (h : l.length ≤ 1000) (c : UInt8) (b cap : Nat) (w : World) (hb : BytesAt w b l) :
    Calls Tryd.prog 68 #[.slice (some ⟨b, 0, none⟩) l.length cap, .int .u8 (c.toNat : Int)] w fun e w' => e = .returned (.int .i64 (letterAt c l 0)) ∧ w' = w := by
  have HB := Lib.hid hb
  clear hb
  go_enter Tryd.func68, Tryd.ntmps68
  go_wp2_with fail
  go_loop [5, 8] (fun _ i => ∃ k : Nat, k ≤ l.length ∧ i = .int .i64 k ∧ letterAt c l 0 = letterAt c (l.drop k) k) (fun _ i => l.length - (intOf i).toNat)
  case atStart => exact ⟨0, Nat.zero_le _, rfl, rfl⟩
  case round =>
    obtain ⟨k, hk, rfl, hI⟩ := hrel
    have HI := Lib.hid hI
    clear hI
    by_cases hlt : k < l.length
    · have hlt' : (k : Int) < (l.length : Int) := by omega
      have hc := HB.out k hlt
      have HS := Lib.hid (letterAt_drop c l hlt)
      have hcc : ((c.toNat : Int) == (l[k].toNat : Int)) = (l[k] == c) := by
        by_cases he : l[k] = c
        · rw [he]; simp
        · rw [beq_eq_false_iff_ne.2 he]
          exact beq_eq_false_iff_ne.2 fun e => he (UInt8.toNat_inj.1 (by omega))
      cases hq : (l[k] == c)
      · rw [hq] at hcc HS
        have HN : Hid (letterAt c l 0 = letterAt c (l.drop (k + 1)) (k + 1)) := show _ = _ from HI.out.trans HS.out
        clear hq
        go_wp2_with fail
        go_round
        case rel => exact ⟨k + 1, by omega, by go_num, HN.out⟩
        case measure => simp [intOf]; omega
      · rw [hq] at hcc HS
        have HN : Hid (letterAt c l 0 = (k : Int)) := show _ = _ from HI.out.trans HS.out
        clear hq
        go_wp2_with fail
        go_ret
        exact ⟨by rw [HN.out]; rfl, rfl⟩
    · have hk' : k = l.length := by omega
      have HN : Hid (letterAt c l 0 = -1) := show _ = _ by rw [HI.out, hk', List.drop_length]; rfl
      subst hk'
      go_wp2_with fail
      go_ret
      exact ⟨by rw [HN.out]; rfl, rfl⟩
set_option maxRecDepth 100000 in
theorem contains_any (l : List UInt8) (h : l.length ≤ 1000) (c : UInt8) (b cap : Nat) (w : World) (hb : BytesAt w b l) :
    Calls Tryd.prog 67 #[.slice (some ⟨b, 0, none⟩) l.length cap, .int .u8 (c.toNat : Int)] w fun e w' => e = .returned (.bool (hasL l c)) ∧ w' = w := by
  have HI := Lib.hid (index_any l h c b cap w hb)
  have HH := Lib.hid (letterAt_has c l 0)
  clear hb
  go_enter Tryd.func67, Tryd.ntmps67
  go_wp2_with (go_at_call 68; (with_reducible refine HI.out.mono ?_); rintro y w1 ⟨rfl, rfl⟩)
  go_ret
  exact ⟨by rw [← HH.out]; rfl, rfl⟩
set_option maxRecDepth 100000 in
theorem with_any (l : List UInt8) (h : l.length ≤ 1000) (c : UInt8) (w : World) : Calls Tryd.prog 58 #[.string (mkB l), .int .u8 (c.toNat : Int)] w (Ret (.bool (hasL l c)) w) := by
  have hcv := Lib.run_convert_string_bytes (P := Tryd.prog) w 9 140 5 (mkB l) Tryd.underlying9 Tryd.underlying140 Tryd.underlying5
  have hbw := Lib.bytesWorld_below w 5 (mkB l)
  have hbb : BytesAt (Lib.bytesWorld w 5 (mkB l)) w.heap.size l := fun k hk => by
    have := Lib.bytesWorld_cell w 5 (mkB l) k hk
    rw [this]
    have e : (mkB l).data.toList.getD k 0 = l[k] := by
      rw [List.getD_eq_getElem?_getD, show (mkB l).data.toList = l from rfl, List.getElem?_eq_getElem hk]; rfl
    rw [e]
  obtain ⟨w1, hw1⟩ : ∃ w1, Lib.bytesWorld w 5 (mkB l) = w1 := ⟨_, rfl⟩
  obtain ⟨cap, hcap⟩ : ∃ cap, grownCap w (mkB l).size 0 5 = cap := ⟨_, rfl⟩
  rw [hw1, hcap, show (mkB l).size = l.length from rfl] at hcv
  rw [hw1] at hbw hbb
  have HC := Lib.hid (contains_any l h c w.heap.size cap w1 hbb)
  have HB := Lib.hid hbw
  clear hbb hbw hw1 hcap
  go_enter Tryd.func58, Tryd.ntmps58
  go_wp2_with (go_at_call 67; (with_reducible refine HC.out.mono ?_); rintro y w2 ⟨rfl, rfl⟩)
  go_ret
  exact ⟨rfl, HB.out⟩
end Go.Proofs.YtpmpeihcdiohmaaDoor

namespace Go.Proofs.YtpmpeihcdiohmaaDoor
open Go.RowKit

/-! rows of numbers -/
def intVs (l : List Int) : List Value := l.map fun n => .int .i64 n
theorem intVs_get {l : List Int} {k : Nat} (h : k < l.length) : (intVs l)[k]? = some (.int .i64 l[k]) := by unfold intVs; simp [h]
theorem intVs_len (l : List Int) : (intVs l).length = l.length := by unfold intVs; simp
theorem intVs_snoc (l : List Int) (n : Int) : intVs (l ++ [n]) = intVs l ++ [.int .i64 n] := by unfold intVs; simp
theorem intVs_set (l : List Int) (k : Nat) (n : Int) : intVs (l.set k n) = (intVs l).set k (.int .i64 n) := by unfold intVs; rw [List.map_set]
theorem intVs_one (l : List Int) : ∀ v ∈ intVs l, v.oneCell' = true := fun v hv => by
  unfold intVs at hv
  simp only [List.mem_map] at hv
  obtain ⟨n, _, rfl⟩ := hv
  rfl
theorem intInfo : (Tryd.prog.info? 3).map (fun i => (i.zero, i.size, i.bytes)) = some (some (.int .i64 0), 1, 8) := by kernel_rfl
end Go.Proofs.YtpmpeihcdiohmaaDoor
