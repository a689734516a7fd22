import Derived.StillTailTactics
import Derived.Deep.AppendLies
import Derived.Deep.RegionHeld3
import Derived.Test.YtgoifbkogboppaaDoorBn31
import Derived.Test.YtgoifbkogboppaaDoorBn25
import Derived.Test.YtgoifbkogboppaaDoorBn28
import Derived.Test.YtgoifbkogboppaaDoorBn26
import Derived.Test.YtgoifbkogboppaaDoorBn30
import Derived.Test.YtgoifbkogboppaaDoorBn5
set_option linter.unusedVariables false
set_option linter.unusedSimpArgs false
namespace Go.Proofs.YtgoifbkogboppaaDoor
open Go.RowKit

/-! the reference's machine: its head, its outcome -/
def longT : Txt := [108, 111, 110, 103]
/-- What the reference's machine hands back. -/
def RfPost (m : PImg) (k : Nat) (args : List Int) (T most : Nat) (w : World) : Ending → World → Prop := fun en w' =>
  ∃ A c o, en = .returned (ocM o A c) ∧ (match machP m k args T most with | some s => o = endO s | none => o.1 = longT) ∧ Row w' A (intVs o.2.2.1) ∧ o.2.2.1.length ≤ c ∧ Below w.heap.size w w'
theorem args4_step {args : List Int} (hl : args.length ≤ 4) {j : Nat} (h : j < args.length) : args4 (args.take (j + 1)) = (args4 (args.take j)).set j args[j] := by
  unfold args4 zero4
  match args, hl, j, h with
  | [a], _, 0, _ => rfl
  | [a, b], _, 0, _ => rfl
  | [a, b], _, 1, _ => rfl
  | [a, b, c], _, 0, _ => rfl
  | [a, b, c], _, 1, _ => rfl
  | [a, b, c], _, 2, _ => rfl
  | [a, b, c, d], _, 0, _ => rfl
  | [a, b, c, d], _, 1, _ => rfl
  | [a, b, c, d], _, 2, _ => rfl
  | [a, b, c, d], _, 3, _ => rfl
/-- The head of a round. -/
def HeadAt (m : PImg) (mb T left : Nat) (P : Option PMs) (u e t : Value) (w : World) : Prop :=
  ∃ (s : PMs) (v : Value) (fbs : List (Nat × Nat)) (nx : List Int), RfAt mb s v u fbs w ∧ nx.length = 4 ∧ (∀ n ∈ nx, I64 n) ∧ w.heap[mb + 1]? = some (.cells (intVs nx).toArray 60 (0, 0)) ∧ s.over = false ∧
    ((∃ j : Int, e = .int .i64 (-1) ∧ t = .int .i64 j ∧ MsOk m T s ∧ P = runN m T left s) ∨
     (∃ q d : Nat, q < m.funs.length ∧ d < 8 ∧ e = .int .i64 q ∧ t = .int .i64 d ∧ s.ticks ≤ T ∧ s.calls.length ≤ 40 ∧ MsOk m T (enterM m.funs T q d nx s) ∧ P = runN m T left (enterM m.funs T q d nx s)))
/-- Behind the call that was pending. -/
def BodyAt (m : PImg) (mb T left : Nat) (P : Option PMs) (u : Value) (w : World) : Prop :=
  ∃ (s : PMs) (v : Value) (fbs : List (Nat × Nat)) (nx : List Int), RfAt mb s v u fbs w ∧ nx.length = 4 ∧ (∀ n ∈ nx, I64 n) ∧ w.heap[mb + 1]? = some (.cells (intVs nx).toArray 60 (0, 0)) ∧ s.over = false ∧ MsOk m T s ∧ P = runN m T left s
theorem rf_done {m : PImg} {k : Nat} {args : List Int} {T most mb : Nat} {s : PMs} {A : Option Addr} {c : Nat} {u : Value} {fbs : List (Nat × Nat)} {w0 w : World} (h : RfAt mb s (.slice A s.out.length c) u fbs w) (hP : (machP m k args T most = some s) ∨ (machP m k args T most = none ∧ s.how = longT)) (hb : Below w0.heap.size w0 w) (hm : w0.heap.size + 2 = mb) :
    RfPost m k args T most w0 (.returned (.agg #[.string (mkB s.how), .int .i64 s.val, .slice A s.out.length c, .int .i64 (s.ticks : Nat)])) ((((w.setCell ⟨w0.heap.size + 1, 0, none⟩ (.string (mkB s.how))).setCell ⟨w0.heap.size + 1, 1, none⟩ (.int .i64 s.val)).setCell ⟨w0.heap.size + 1, 2, none⟩ (.slice A s.out.length c)).setCell ⟨w0.heap.size + 1, 3, none⟩ (.int .i64 (s.ticks : Nat))) := by
  have hown := own_same h.out (w' := ((((w.setCell ⟨w0.heap.size + 1, 0, none⟩ (.string (mkB s.how))).setCell ⟨w0.heap.size + 1, 1, none⟩ (.int .i64 s.val)).setCell ⟨w0.heap.size + 1, 2, none⟩ (.slice A s.out.length c)).setCell ⟨w0.heap.size + 1, 3, none⟩ (.int .i64 (s.ticks : Nat)))) fun k hk => far4m k (by have := (own_lt h.out hk).1; omega)
  obtain ⟨A7, c7, he7, hle7, hr7⟩ := owns_rowM hown
  injection he7 with he7 _ he8
  subst he7; subst he8
  refine ⟨A, c, endO s, rfl, ?_, hr7, hle7, below4m hb (by omega)⟩
  rcases hP with e | ⟨e, e2⟩
  · rw [e]
  · rw [e]; exact e2
end Go.Proofs.YtgoifbkogboppaaDoor

namespace Go.Proofs.YtgoifbkogboppaaDoor
open Go.RowKit

/-! what the laws share -/
theorem owns_rowG {w : World} {base size : Nat} {e : TypeId} {v : Value} {n : Nat} {xs : List Value} (h : w.ownsRow base e size v n xs) : ∃ A c, v = .slice A n c ∧ n ≤ c ∧ Row w A xs := by
  rcases h.2 with ⟨q, h0⟩ | ⟨g, cap, cur, q1, q2, q3, q4, q5, q6, q7⟩
  · have hx : xs = [] := List.eq_nil_of_length_eq_zero (by rw [h.1, h0]; simp)
    subst hx; subst h0
    exact ⟨none, 0, q, Nat.le_refl _, Row.nil _ _⟩
  · refine ⟨_, cap, q1, q4, fun j z hj => ⟨g, 0, rfl, ?_⟩⟩
    rw [← q7, List.getElem?_take] at hj
    split at hj
    · rw [Nat.zero_add, cell_of_row _ _ j _ _ _ q3, ← Array.getElem?_toList]; exact hj
    · cases hj
set_option maxRecDepth 100000 in
/-- append(none, l...): numbers of one's own. -/
theorem wpList_append_ints0M {w : World} {ops : Array Oper} {rest : List Oper} {o : Oper} {a : Act} {Q : Exit → Act → World → Prop} (hgd : o.guard = none) (s x : Operand)
    (ho : o.op = .call { callee := .builtin .append, args := #[s, x], argTypes := #[26, 26] }) (ys : List Int) (hs : a.eval s = .slice none 0 0)
    (X : Option Addr) (c : Nat) (hx : a.eval x = .slice X ys.length c) (hrow : Row w X (intVs ys)) (hn : ys.length ≤ 100000)
    (h : ∀ A' c' w', Row w' A' (intVs ys) → Below w.heap.size w w' → wpList Tryd.prog ops Q rest (a.put o.dst (.slice A' ys.length c')) w') :
    wpList Tryd.prog ops Q (o :: rest) a w := by
  obtain ⟨i0, hi, hz0, hz1, hz2⟩ := info_parts intInfo
  cases ys with
  | nil =>
    refine wpList_plain hgd fun K hK => ?_
    unfold Oper.wp execOp
    simp only [ho, resolve, invoke, builtin, Sem.run_bind, Sem.run_pure, Result.andThen_ok, List.map_toArray, List.map_cons, List.map_nil, hs, hx, List.length_nil, append_noneM w _ o.type _ i0 Tryd.underlying26 hi none 0 0 (Nat.le_refl _) X c]
    exact hK _ _ (h none 0 w (Row.nil _ _) (Below.refl _ _))
  | cons y ys =>
    obtain ⟨b, off, rfl, -⟩ := hrow 0 _ rfl
    refine wpList_append_own_at _ hgd s x 26 ho w.heap.size 3 i0 _ 1 8 Tryd.underlying26 hi hz0 hz1 hz2 rfl (by decide) (.slice none 0 0) 0 [] hs (World.ownsRow_nil _ _ _ _) ⟨b, off, none⟩ (y :: ys).length c (intVs (y :: ys)) hx (by simp [intVs]) (fun j u hj => ?_) (fun u hu => ?_) (by unfold maxLen; omega) (by omega) (Nat.le_refl _) (fun v' w' g1 g2 _ g4 => ?_)
    · obtain ⟨b2, off2, e, hc⟩ := hrow j u hj
      injection e with e
      injection e with e1 e2 _
      subst e1; subst e2
      have hadd : (⟨b, off, none⟩ : Addr).add j = ⟨b, off + j, none⟩ := by unfold Addr.add; split <;> simp_all
      rw [hadd]; exact hc
    · simp only [intVs, List.mem_map] at hu
      obtain ⟨z, _, rfl⟩ := hu
      rfl
    · simp only [List.nil_append, Nat.zero_add] at g1
      obtain ⟨A', c', rfl, -, hr⟩ := owns_rowM g1
      exact h A' c' w' hr (Below.grown (Below.refl _ _) g2 (Nat.le_refl _) (fun k hk => by cases hk))
/-- mach.Run of an image of one's own, that ends. -/
theorem run_end {E : Nat → Addr} {m : PImg} (hnf : m.funs.length ≤ 100) (hnw : m.words.length ≤ 100000) (h64 : ∀ n ∈ m.words, 0 ≤ n ∧ n < 18446744073709551616) (hg : (imgC m).1 = 0) {name : Txt} {i : Nat} (hi : i < m.funs.length) (hf : firstPF name m.funs 0 = i) {args : List Int} (hn : m.funs[i].params = args.length) (ha : args.length ≤ 8) (h6 : ∀ n ∈ args, I64 n) {T : Nat} (hT : T ≤ 5000) {fin : PMs} (hfin : machP m i args T 20000 = some fin)
    {A B X : Option Addr} {cf cw xc : Nat} (hcf : m.funs.length ≤ cf) {w : World} (hE : Laid7 E w) (hA : Row w A (m.funs.flatMap fnL)) (hB : Row w B (u64Vs m.words)) (hX : Row w X (intVs args)) :
    Calls Tryd.prog 11 #[.agg #[.slice A m.funs.length cf, .slice B m.words.length cw], .string (mkB name), .slice X args.length xc, .int .i64 T] w fun en w' => ∃ A c, en = .returned (.tuple #[.agg #[.string (mkB fin.how), .int .i64 fin.val, .slice A fin.out.length c, .int .i64 (fin.ticks : Nat)], .nilIface]) ∧ RowUp w.heap.size w' A (intVs fin.out) ∧ fin.out.length ≤ c ∧ Below w.heap.size w w' := by
  refine (mrun_run E m hnf hnw A B cf cw hcf h64 name args (by omega) X xc T w hE hA hB hg i hi hf hn T rfl hT hX h6 fin hfin).mono ?_
  rintro en w' ⟨v, A3, c3, o, rfl, he, hv, ho, hr, hc, hb⟩
  have hrc : mrunC m name args.length T = (0, -1) := by
    unfold mrunC
    rw [if_neg (by rw [hg]; decide), hf, if_neg (by omega), Int.toNat_natCast, List.getD_eq_getElem?_getD, List.getElem?_eq_getElem hi, Option.getD_some, if_neg (by simp [hn]), if_neg (by omega)]
  have hmo : mrunO m name args T = endO fin := by
    unfold mrunO; rw [hf, Int.toNat_natCast, Int.toNat_natCast, hfin]; rfl
  rw [hrc, if_pos rfl, hmo] at ho
  rw [hrc] at hv
  subst ho
  obtain rfl := hv.2 rfl
  exact ⟨A3, c3, rfl, hr, hc, hb⟩
set_option maxRecDepth 100000 in
theorem field_fault (c p : Int) (w : World) : (Instr.field 32 (.agg #[.int .i64 c, .int .i64 p]) 0).run Tryd.prog w = .ok (.int .i64 c) w := by rfl
set_option maxRecDepth 100000 in
theorem field_outcome (s : ByteArray) (x y : Value) (z : Int) (w : World) : (Instr.field 35 (.agg #[.string s, x, y, .int .i64 z]) 0).run Tryd.prog w = .ok (.string s) w := by rfl
theorem large_not {m : PImg} (h : largeB m = false) : m.funs.length ≤ 12 ∧ m.words.length ≤ 8001 := by
  unfold largeB at h
  simp at h
  omega
end Go.Proofs.YtgoifbkogboppaaDoor

namespace Go.Proofs.YtgoifbkogboppaaDoor
open Go.RowKit

/-! append and store in a region that draws its order -/
theorem put4_below {n : Nat} {w0 w : World} {q : Nat} {v0 v1 v2 v3 : Value} (h : Below n w0 w) (hq : n ≤ q) : Below n w0 ((((w.setCell ⟨q, 0, none⟩ v0).setCell ⟨q, 1, none⟩ v1).setCell ⟨q, 2, none⟩ v2).setCell ⟨q, 3, none⟩ v3) :=
  (((h.setCell hq _).setCell hq _).setCell hq _).setCell hq _
theorem put4_cell {w : World} {q : Nat} {v0 v1 v2 v3 x : Value} {a : Addr} (h : a.block < q) (hx : w.cell? a = some x) : ((((w.setCell ⟨q, 0, none⟩ v0).setCell ⟨q, 1, none⟩ v1).setCell ⟨q, 2, none⟩ v2).setCell ⟨q, 3, none⟩ v3).cell? a = some x :=
  (World.cell?_of_block ((put4_below (Below.refl q w) (Nat.le_refl _)).block _ h)).trans hx
theorem below_drewM {n : Nat} {a w : World} (h : Below n a w) : Below n a w.drew := below_drewN h 1
theorem cell_drewM {w : World} {a : Addr} {x : Value} (h : w.cell? a = some x) : w.drew.cell? a = some x := h
/-- The block that an alloc made, in a world further on. -/
theorem alloc_block {w w' W : World} {o : Obj} (hW : W.heap = (w.alloc o).heap) (hb : Below W.heap.size W w') : w'.heap[w.heap.size]? = (w.alloc o).heap[w.heap.size]? := by
  rw [hb.block w.heap.size (by rw [hW]; simp), hW]
theorem cell_allocM {w : World} {o : Obj} {a : Addr} {x : Value} (h : w.cell? a = some x) : (w.alloc o).cell? a = some x := Keeps.alloc _ _ _ _ h
theorem cell_belowM {w w' : World} {a : Addr} {x : Value} (hb : Below w.heap.size w w') (h : w.cell? a = some x) : w'.cell? a = some x := Keeps.of_below hb _ _ h
set_option maxRecDepth 100000 in
theorem wp_append_ints0M {w : World} {o : Oper} {a : Act} {K : Act → World → Prop} {Q : Exit → Act → World → Prop} (s x : Operand)
    (ho : o.op = .call { callee := .builtin .append, args := #[s, x], argTypes := #[26, 26] }) (ys : List Int) (hs : a.eval s = .slice none 0 0)
    (X : Option Addr) (c : Nat) (hx : a.eval x = .slice X ys.length c) (hrow : Row w X (intVs ys)) (hn : ys.length ≤ 100000)
    (h : ∀ A' c' w', Row w' A' (intVs ys) → Below w.heap.size w w' → K (a.put o.dst (.slice A' ys.length c')) w') :
    Oper.wp Tryd.prog o a w K Q := by
  obtain ⟨i0, hi, hz0, hz1, hz2⟩ := info_parts intInfo
  cases ys with
  | nil =>
    unfold Oper.wp execOp
    simp only [ho, resolve, invoke, builtin, Sem.run_bind, Sem.run_pure, Result.andThen_ok, List.map_toArray, List.map_cons, List.map_nil, hs, hx, List.length_nil, append_noneM w _ o.type _ i0 Tryd.underlying26 hi none 0 0 (Nat.le_refl _) X c]
    exact h none 0 w (Row.nil _ _) (Below.refl _ _)
  | cons y ys =>
    obtain ⟨b, off, rfl, -⟩ := hrow 0 _ rfl
    refine wp_append_lies w s x 26 ho w.heap.size 3 i0 _ 1 8 Tryd.underlying26 hi hz0 hz1 hz2 rfl (by decide) (.slice none 0 0) 0 [] hs (World.ownsRow_nil _ _ _ _) ⟨b, off, none⟩ (y :: ys).length c (intVs (y :: ys)) hx (by simp [intVs]) (fun j u hj => ?_) (fun u hu => ?_) (by simp) (by unfold maxLen; omega) (by omega) (Nat.le_refl _) _ rfl (fun g cap w' g1 g2 _ _ => ?_)
    · obtain ⟨b2, off2, e, hc⟩ := hrow j u hj
      injection e with e
      injection e with e1 e2 _
      subst e1; subst e2
      have hadd : (⟨b, off, none⟩ : Addr).add j = ⟨b, off + j, none⟩ := by unfold Addr.add; split <;> simp_all
      rw [hadd]; exact hc
    · simp only [intVs, List.mem_map] at hu
      obtain ⟨z, _, rfl⟩ := hu
      rfl
    · simp only [List.nil_append, Nat.zero_add] at g1 ⊢
      obtain ⟨A', c', e, -, hr⟩ := owns_rowM g1
      injection e with e1 e2 e3
      subst e1; subst e3
      exact h _ _ w' hr (Below.grown (Below.refl _ _) g2 (Nat.le_refl _) (fun k hk => by cases hk))
theorem step_append_ints0M {w : World} {ops : Array Oper} {o : Oper} {a : Act} {K : Act → World → Prop} {Q : Exit → Act → World → Prop} {E : Prop} (hgd : o.guard = none) (s x : Operand)
    (ho : o.op = .call { callee := .builtin .append, args := #[s, x], argTypes := #[26, 26] }) (ys : List Int) (hs : a.eval s = .slice none 0 0)
    (X : Option Addr) (c : Nat) (hx : a.eval x = .slice X ys.length c) (hrow : Row w X (intVs ys)) (hn : ys.length ≤ 100000)
    (h : ∀ A' c' w', Row w' A' (intVs ys) → Below w.heap.size w w' → K (a.put o.dst (.slice A' ys.length c')) w') :
    if Region.wanted o (yielded ops a.tmps) = true then Oper.wp Tryd.prog o a w K Q else E := by
  rw [if_pos (by simp [Region.wanted, hgd])]
  exact wp_append_ints0M s x ho ys hs X c hx hrow hn h
theorem rowup_put4 {n q : Nat} {w : World} {A : Option Addr} {xs : List Value} {v0 v1 v2 v3 : Value} (h : RowUp n w A xs) (hq : q < n) : Row ((((w.setCell ⟨q, 0, none⟩ v0).setCell ⟨q, 1, none⟩ v1).setCell ⟨q, 2, none⟩ v2).setCell ⟨q, 3, none⟩ v3) A xs := fun j z hz => by
  obtain ⟨b, off, e, hc⟩ := h.1 j z hz
  refine ⟨b, off, e, ?_⟩
  have hb : n ≤ b := h.2 _ e
  rw [← hc]
  refine World.cell?_of_block ?_
  exact (Below.heap_setCell _ _ _ _ (by simp only; omega)).trans ((Below.heap_setCell _ _ _ _ (by simp only; omega)).trans ((Below.heap_setCell _ _ _ _ (by simp only; omega)).trans (Below.heap_setCell _ _ _ _ (by simp only; omega))))
theorem run_ok {m : PImg} {T : Nat} (hg : GoodI m) : ∀ (n : Nat) (s b : PMs), MsOk m T s → runN m T n s = some b → MsOk m T b := by
  intro n
  induction n with
  | zero =>
    intro s b h hb
    unfold runN at hb
    split at hb
    · injection hb with e; exact e ▸ h
    · cases hb
  | succ n ih =>
    intro s b h hb
    unfold runN at hb
    split at hb
    · injection hb with e; exact e ▸ h
    · rename_i ho
      exact ih _ _ (h.step hg (by simpa using ho)) hb
theorem mach_ok {m : PImg} {T : Nat} (hg : GoodI m) {k n : Nat} (hk : k < m.funs.length) {args : List Int} (h6 : ∀ n ∈ args, I64 n) {b : PMs} (hb : machP m k args T n = some b) : MsOk m T b := run_ok hg n _ _ (start_ok hg hk h6) hb
end Go.Proofs.YtgoifbkogboppaaDoor

namespace Go.Proofs.YtgoifbkogboppaaDoor
open Go.RowKit

theorem RfAt.pop' {mb : Nat} {s : PMs} {v u : Value} {ps : List (Nat × Nat)} {p : Nat × Nat} {cs : List PFr} {x y : PFr} {w : World} (h : RfAt mb s v u (ps ++ [p]) w) (hs : s.calls = (cs ++ [y]) ++ [x]) : ∃ ps' p', ps = ps' ++ [p'] := by
  have hl := (h.top_at hs).2
  simp only [List.length_append, List.length_singleton] at hl
  have : ps ≠ [] := fun e => by rw [e] at hl; simp at hl
  exact ⟨ps.dropLast, ps.getLast this, (List.dropLast_concat_getLast this).symm⟩
/-- The head of a round, its numbers named. -/
def HeadB (m : PImg) (mb T left : Nat) (P : Option PMs) (u : Value) (ez jt : Int) (w : World) : Prop :=
  ∃ (s : PMs) (v : Value) (fbs : List (Nat × Nat)) (nx : List Int), RfAt mb s v u fbs w ∧ nx.length = 4 ∧ (∀ n ∈ nx, I64 n) ∧ w.heap[mb + 1]? = some (.cells (intVs nx).toArray 60 (0, 0)) ∧ s.over = false ∧
    ((ez = -1 ∧ MsOk m T s ∧ P = runN m T left s) ∨ (∃ q d : Nat, q < m.funs.length ∧ d < 8 ∧ ez = q ∧ jt = d ∧ s.ticks ≤ T ∧ s.calls.length ≤ 40 ∧ MsOk m T (enterM m.funs T q d nx s) ∧ P = runN m T left (enterM m.funs T q d nx s)))
theorem HeadAt.ints {m : PImg} {mb T left : Nat} {P : Option PMs} {u e t : Value} {w : World} (h : HeadAt m mb T left P u e t w) : ∃ ez jt : Int, e = .int .i64 ez ∧ t = .int .i64 jt ∧ HeadB m mb T left P u ez jt w := by
  obtain ⟨s, v, fbs, nx, h1, h2, h3, h4, h5, ⟨jt, he, ht, hok, hP⟩ | ⟨q, d, hq, hd8, he, ht, htT, hc40, hok, hP⟩⟩ := h
  · exact ⟨-1, jt, he, ht, s, v, fbs, nx, h1, h2, h3, h4, h5, .inl ⟨rfl, hok, hP⟩⟩
  · exact ⟨q, d, he, ht, s, v, fbs, nx, h1, h2, h3, h4, h5, .inr ⟨q, d, hq, hd8, rfl, rfl, htT, hc40, hok, hP⟩⟩
theorem wp_of_then {P : Program} {c : Code} {Q : Exit → Act → World → Prop} {a : Act} {w : World} (h : Code.wp P c (Exit.then (fun a w => Q .normal a w) Q) a w) : Code.wp P c Q a w := by
  have e : Exit.then (fun a w => Q .normal a w) Q = Q := by funext e a w; cases e <;> rfl
  rwa [e] at h
end Go.Proofs.YtgoifbkogboppaaDoor

namespace Go.Proofs.YtgoifbkogboppaaDoor
open Go.RowKit

theorem how_nil {s : PMs} (h : s.over = false) : s.how = [] := by
  unfold PMs.over at h
  cases hh : s.how with
  | nil => rfl
  | cons a b => rw [hh] at h; cases h
end Go.Proofs.YtgoifbkogboppaaDoor

namespace Go.Proofs.YtgoifbkogboppaaDoor
open Go.RowKit

/-! the reference: threeOf -/
def opsR : Obj := .cells #[.string ⟨#[43]⟩, .string ⟨#[45]⟩, .string ⟨#[42]⟩, .string ⟨#[47]⟩, .string ⟨#[37]⟩, .string ⟨#[38]⟩, .string ⟨#[124]⟩, .string ⟨#[94]⟩, .string ⟨#[60, 60]⟩, .string ⟨#[62, 62]⟩, .string ⟨#[60]⟩, .string ⟨#[60, 61]⟩, .string ⟨#[61, 61]⟩, .string ⟨#[33, 61]⟩] 9
theorem ROpsM_any (w : World) : Calls Tryd.prog 36 #[] w fun e w' => e = .returned (.slice (some ⟨w.heap.size, 0, none⟩) 14 14) ∧ w' = w.alloc opsR := by
  unfold opsR
  go_enter Tryd.func36, Tryd.ntmps36
  go_wp2_with fail
  go_returns
  exact ⟨rfl, rfl⟩
theorem opsR_cell (w : World) {k : Nat} (hk : k < 14) : (w.alloc opsR).cell? ⟨w.heap.size, k, none⟩ = some (.string (mkB (opsB.getD k []))) := by
  have h := heap_alloc_new w opsR
  unfold opsR at h ⊢
  rw [cell_of_row _ _ k _ _ _ h]
  have : ∀ j, j < 14 → (#[Value.string ⟨#[43]⟩, .string ⟨#[45]⟩, .string ⟨#[42]⟩, .string ⟨#[47]⟩, .string ⟨#[37]⟩, .string ⟨#[38]⟩, .string ⟨#[124]⟩, .string ⟨#[94]⟩, .string ⟨#[60, 60]⟩, .string ⟨#[62, 62]⟩, .string ⟨#[60]⟩, .string ⟨#[60, 61]⟩, .string ⟨#[61, 61]⟩, .string ⟨#[33, 61]⟩] : Array Value)[j]? = some (.string (mkB (opsB.getD j []))) := by
    intro j hj
    match j, hj with
    | 0, _ => rfl
    | 1, _ => rfl
    | 2, _ => rfl
    | 3, _ => rfl
    | 4, _ => rfl
    | 5, _ => rfl
    | 6, _ => rfl
    | 7, _ => rfl
    | 8, _ => rfl
    | 9, _ => rfl
    | 10, _ => rfl
    | 11, _ => rfl
    | 12, _ => rfl
    | 13, _ => rfl
  exact this k hk
set_option maxHeartbeats 2000000 in
theorem threeOf_any (op : Txt) (k : Nat) (hk : k < 14) (hf : findL op = k + 16) (w : World) : Calls Tryd.prog 21 #[.string (mkB op)] w (Ret (.string (mkB (opsB.getD k []))) w) := by
  have H1 : Hid (∀ w', Calls Tryd.prog 29 #[.string (mkB op)] w' (Ret (.int .i64 ((k : Int) + 16)) w')) := fun w' => by
    have := NumberOf_any (mkB op) w'
    rw [mkB_toList, hf] at this
    exact this
  have H2 : Hid (∀ w', Calls Tryd.prog 29 #[.string ⟨#[97, 100, 100]⟩] w' (Ret (.int .i64 16) w')) := fun w' => by
    have := NumberOf_any (mkB [97, 100, 100]) w'
    rw [mkB_toList, show findL [97, 100, 100] = 16 by decide] at this
    exact this
  have HC := Lib.hid (fun w => opsR_cell w hk)
  have s1 : IntKind.i64.wrap ((k : Int) + 16 - 16) = k := by rw [show (k : Int) + 16 - 16 = k by omega]; exact IntWalk.i64_in _ (by omega)
  have s1' : IntKind.i64.wrap (k : Int) = k := IntWalk.i64_in _ (by omega)
  have s2 : ¬ ((k : Int) < 0) := by omega
  have s3 : ¬ ((14 : Int) ≤ (k : Int)) := by omega
  have s4 : (k : Int) < 14 := by omega
  have s5 : (0 : Int) ≤ k := by omega
  clear hf
  go_enter Tryd.func21, Tryd.ntmps21
  go_upto_region 3 with (first
    | (go_at_call 29; first
        | ((with_reducible refine (H1.out _).mono ?_); rintro e w1 ⟨rfl, hb1⟩)
        | ((with_reducible refine (H2.out _).mono ?_); rintro e w2 ⟨rfl, hb2⟩))
    | (go_at_call 36; (with_reducible refine (ROpsM_any _).mono ?_); rintro e w3 ⟨rfl, rfl⟩))
  have hc := HC.out w2
  go_wp2_with fail
  go_ret
  exact ⟨rfl, grow_alloc (grow_trans hb1 hb2) _⟩
end Go.Proofs.YtgoifbkogboppaaDoor
