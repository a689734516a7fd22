import Derived.Test.YtonnhechjbdenaaGreatDoorBn28
import Derived.Test.YtonnhechjbdenaaGreatDoorBn27
import Derived.Test.YtonnhechjbdenaaGreatDoorBn30
import Derived.Test.YtonnhechjbdenaaGreatDoorBn3
set_option linter.unusedVariables false
set_option linter.unusedSimpArgs false
namespace Go.Proofs.YtonnhechjbdenaaGreatDoor
open Go.RowKit

/-! the reference's machine: its head, its outcome -/
def longT : Txt := [108, 111, 110, 103]
/-- What the reference's machine hands back. -/
def RfPost (m : PImg) (k : Nat) (args : List Int) (T most : Nat) (w : World) : Ending → World → Prop := fun en w' =>
  ∃ A c o, en = .returned (ocM o A c) ∧ (match machP m k args T most with | some s => o = endO s | none => o.1 = longT) ∧ Row w' A (intVs o.2.2.1) ∧ o.2.2.1.length ≤ c ∧ Below w.heap.size w w'
theorem args4_step {args : List Int} (hl : args.length ≤ 4) {j : Nat} (h : j < args.length) : args4 (args.take (j + 1)) = (args4 (args.take j)).set j args[j] := by
  unfold args4 zero4
  match args, hl, j, h with
  | [a], _, 0, _ => rfl
  | [a, b], _, 0, _ => rfl
  | [a, b], _, 1, _ => rfl
  | [a, b, c], _, 0, _ => rfl
  | [a, b, c], _, 1, _ => rfl
  | [a, b, c], _, 2, _ => rfl
  | [a, b, c, d], _, 0, _ => rfl
  | [a, b, c, d], _, 1, _ => rfl
  | [a, b, c, d], _, 2, _ => rfl
  | [a, b, c, d], _, 3, _ => rfl
/-- The head of a round. -/
def HeadAt (m : PImg) (mb T left : Nat) (P : Option PMs) (u e t : Value) (w : World) : Prop :=
  ∃ (s : PMs) (v : Value) (fbs : List (Nat × Nat)) (nx : List Int), RfAt mb s v u fbs w ∧ nx.length = 4 ∧ (∀ n ∈ nx, I64 n) ∧ w.heap[mb + 1]? = some (.cells (intVs nx).toArray 105 (0, 0)) ∧ s.over = false ∧
    ((∃ j : Int, e = .int .i64 (-1) ∧ t = .int .i64 j ∧ MsOk m T s ∧ P = runN m T left s) ∨
     (∃ q d : Nat, q < m.funs.length ∧ d < 8 ∧ e = .int .i64 q ∧ t = .int .i64 d ∧ s.ticks ≤ T ∧ s.calls.length ≤ 40 ∧ MsOk m T (enterM m.funs T q d nx s) ∧ P = runN m T left (enterM m.funs T q d nx s)))
/-- Behind the call that was pending. -/
def BodyAt (m : PImg) (mb T left : Nat) (P : Option PMs) (u : Value) (w : World) : Prop :=
  ∃ (s : PMs) (v : Value) (fbs : List (Nat × Nat)) (nx : List Int), RfAt mb s v u fbs w ∧ nx.length = 4 ∧ (∀ n ∈ nx, I64 n) ∧ w.heap[mb + 1]? = some (.cells (intVs nx).toArray 105 (0, 0)) ∧ s.over = false ∧ MsOk m T s ∧ P = runN m T left s
end Go.Proofs.YtonnhechjbdenaaGreatDoor

namespace Go.Proofs.YtonnhechjbdenaaGreatDoor
open Go.RowKit

theorem RfAt.pop' {mb : Nat} {s : PMs} {v u : Value} {ps : List (Nat × Nat)} {p : Nat × Nat} {cs : List PFr} {x y : PFr} {w : World} (h : RfAt mb s v u (ps ++ [p]) w) (hs : s.calls = (cs ++ [y]) ++ [x]) : ∃ ps' p', ps = ps' ++ [p'] := by
  have hl := (h.top_at hs).2
  simp only [List.length_append, List.length_singleton] at hl
  have : ps ≠ [] := fun e => by rw [e] at hl; simp at hl
  exact ⟨ps.dropLast, ps.getLast this, (List.dropLast_concat_getLast this).symm⟩
/-- The head of a round, its numbers named. -/
def HeadB (m : PImg) (mb T left : Nat) (P : Option PMs) (u : Value) (ez jt : Int) (w : World) : Prop :=
  ∃ (s : PMs) (v : Value) (fbs : List (Nat × Nat)) (nx : List Int), RfAt mb s v u fbs w ∧ nx.length = 4 ∧ (∀ n ∈ nx, I64 n) ∧ w.heap[mb + 1]? = some (.cells (intVs nx).toArray 105 (0, 0)) ∧ s.over = false ∧
    ((ez = -1 ∧ MsOk m T s ∧ P = runN m T left s) ∨ (∃ q d : Nat, q < m.funs.length ∧ d < 8 ∧ ez = q ∧ jt = d ∧ s.ticks ≤ T ∧ s.calls.length ≤ 40 ∧ MsOk m T (enterM m.funs T q d nx s) ∧ P = runN m T left (enterM m.funs T q d nx s)))
theorem HeadAt.ints {m : PImg} {mb T left : Nat} {P : Option PMs} {u e t : Value} {w : World} (h : HeadAt m mb T left P u e t w) : ∃ ez jt : Int, e = .int .i64 ez ∧ t = .int .i64 jt ∧ HeadB m mb T left P u ez jt w := by
  obtain ⟨s, v, fbs, nx, h1, h2, h3, h4, h5, ⟨jt, he, ht, hok, hP⟩ | ⟨q, d, hq, hd8, he, ht, htT, hc40, hok, hP⟩⟩ := h
  · exact ⟨-1, jt, he, ht, s, v, fbs, nx, h1, h2, h3, h4, h5, .inl ⟨rfl, hok, hP⟩⟩
  · exact ⟨q, d, he, ht, s, v, fbs, nx, h1, h2, h3, h4, h5, .inr ⟨q, d, hq, hd8, rfl, rfl, htT, hc40, hok, hP⟩⟩
theorem wp_of_then {P : Program} {c : Code} {Q : Exit → Act → World → Prop} {a : Act} {w : World} (h : Code.wp P c (Exit.then (fun a w => Q .normal a w) Q) a w) : Code.wp P c Q a w := by
  have e : Exit.then (fun a w => Q .normal a w) Q = Q := by funext e a w; cases e <;> rfl
  rwa [e] at h
end Go.Proofs.YtonnhechjbdenaaGreatDoor

namespace Go.Proofs.YtonnhechjbdenaaGreatDoor
open Go.RowKit

theorem how_nil {s : PMs} (h : s.over = false) : s.how = [] := by
  unfold PMs.over at h
  cases hh : s.how with
  | nil => rfl
  | cons a b => rw [hh] at h; cases h
end Go.Proofs.YtonnhechjbdenaaGreatDoor

namespace Go.Proofs.YtonnhechjbdenaaGreatDoor
open Go.RowKit

/-! the reference: threeOf -/
def opsR : Obj := .cells #[.string ⟨#[43]⟩, .string ⟨#[45]⟩, .string ⟨#[42]⟩, .string ⟨#[47]⟩, .string ⟨#[37]⟩, .string ⟨#[38]⟩, .string ⟨#[124]⟩, .string ⟨#[94]⟩, .string ⟨#[60, 60]⟩, .string ⟨#[62, 62]⟩, .string ⟨#[60]⟩, .string ⟨#[60, 61]⟩, .string ⟨#[61, 61]⟩, .string ⟨#[33, 61]⟩] 9
theorem ROpsM_any (w : World) : Calls Tryz.prog 62 #[] w fun e w' => e = .returned (.slice (some ⟨w.heap.size, 0, none⟩) 14 14) ∧ w' = w.alloc opsR := by
  unfold opsR
  go_enter Tryz.func62, Tryz.ntmps62
  go_wp2_with fail
  go_returns
  exact ⟨rfl, rfl⟩
theorem opsR_cell (w : World) {k : Nat} (hk : k < 14) : (w.alloc opsR).cell? ⟨w.heap.size, k, none⟩ = some (.string (mkB (opsB.getD k []))) := by
  have h := heap_alloc_new w opsR
  unfold opsR at h ⊢
  rw [cell_of_row _ _ k _ _ _ h]
  have : ∀ j, j < 14 → (#[Value.string ⟨#[43]⟩, .string ⟨#[45]⟩, .string ⟨#[42]⟩, .string ⟨#[47]⟩, .string ⟨#[37]⟩, .string ⟨#[38]⟩, .string ⟨#[124]⟩, .string ⟨#[94]⟩, .string ⟨#[60, 60]⟩, .string ⟨#[62, 62]⟩, .string ⟨#[60]⟩, .string ⟨#[60, 61]⟩, .string ⟨#[61, 61]⟩, .string ⟨#[33, 61]⟩] : Array Value)[j]? = some (.string (mkB (opsB.getD j []))) := by
    intro j hj
    match j, hj with
    | 0, _ => rfl
    | 1, _ => rfl
    | 2, _ => rfl
    | 3, _ => rfl
    | 4, _ => rfl
    | 5, _ => rfl
    | 6, _ => rfl
    | 7, _ => rfl
    | 8, _ => rfl
    | 9, _ => rfl
    | 10, _ => rfl
    | 11, _ => rfl
    | 12, _ => rfl
    | 13, _ => rfl
  exact this k hk
set_option maxHeartbeats 2000000 in
theorem threeOf_any (op : Txt) (k : Nat) (hk : k < 14) (hf : findL op = k + 16) (w : World) : Calls Tryz.prog 35 #[.string (mkB op)] w (Ret (.string (mkB (opsB.getD k []))) w) := by
  have H1 : Hid (∀ w', Calls Tryz.prog 61 #[.string (mkB op)] w' (Ret (.int .i64 ((k : Int) + 16)) w')) := fun w' => by
    have := NumberOf_any (mkB op) w'
    rw [mkB_toList, hf] at this
    exact this
  have H2 : Hid (∀ w', Calls Tryz.prog 61 #[.string ⟨#[97, 100, 100]⟩] w' (Ret (.int .i64 16) w')) := fun w' => by
    have := NumberOf_any (mkB [97, 100, 100]) w'
    rw [mkB_toList, show findL [97, 100, 100] = 16 by decide] at this
    exact this
  have HC := Lib.hid (fun w => opsR_cell w hk)
  have s1 : IntKind.i64.wrap ((k : Int) + 16 - 16) = k := by rw [show (k : Int) + 16 - 16 = k by omega]; exact IntWalk.i64_in _ (by omega)
  have s1' : IntKind.i64.wrap (k : Int) = k := IntWalk.i64_in _ (by omega)
  have s2 : ¬ ((k : Int) < 0) := by omega
  have s3 : ¬ ((14 : Int) ≤ (k : Int)) := by omega
  have s4 : (k : Int) < 14 := by omega
  have s5 : (0 : Int) ≤ k := by omega
  clear hf
  go_enter Tryz.func35, Tryz.ntmps35
  go_upto_region 3 with (first
    | (go_at_call 61; first
        | ((with_reducible refine (H1.out _).mono ?_); rintro e w1 ⟨rfl, hb1⟩)
        | ((with_reducible refine (H2.out _).mono ?_); rintro e w2 ⟨rfl, hb2⟩))
    | (go_at_call 62; (with_reducible refine (ROpsM_any _).mono ?_); rintro e w3 ⟨rfl, rfl⟩))
  have hc := HC.out w2
  go_wp2_with fail
  go_ret
  exact ⟨rfl, grow_alloc (grow_trans hb1 hb2) _⟩
end Go.Proofs.YtonnhechjbdenaaGreatDoor
