import Derived.Deep.CutBlock
import Derived.Deep.CutRange
import Derived.Test.YtdilakpipbkokaaDoorBn22
import Derived.Test.YtdilakpipbkokaaDoorBn9
import Derived.Test.YtdilakpipbkokaaDoorBn15
set_option linter.unusedVariables false
set_option linter.unusedSimpArgs false
namespace Go.Proofs.YtdilakpipbkokaaDoor
open Go.RowKit

/-! a code as the package has it: what is copied -/
theorem pinInfo : (Tryd.prog.info? 52).map (fun i => (i.zero, i.size, i.bytes)) = some (some (.agg #[.string ⟨#[]⟩, .int .i64 0, .slice none 0 0, .int .i64 0, .string ⟨#[]⟩]), 5, 72) := by kernel_rfl
theorem pbkInfo : (Tryd.prog.info? 56).map (fun i => (i.zero, i.size, i.bytes)) = some (some (.agg #[.slice none 0 0, .slice none 0 0, .string ⟨#[]⟩, .int .i64 0, .slice none 0 0, .slice none 0 0]), 6, 120) := by kernel_rfl
theorem pisInfo : (Tryd.prog.info? 25).map (fun i => (i.zero, i.size, i.bytes)) = some (some (.slice none 0 0), 1, 24) := by kernel_rfl
/-- The elements of a flat list. -/
theorem flat_get {β : Type} {sz : Nat} (cells : β → List Value) (hs : ∀ t, (cells t).length = sz) : ∀ (ts : List β) (k : Nat) (h : k < ts.length) (i : Nat), i < sz → (ts.flatMap cells)[k * sz + i]? = (cells ts[k])[i]? := by
  intro ts
  induction ts with
  | nil => intro k h; simp at h
  | cons t ts ih =>
    intro k h i hi
    rw [List.flatMap_cons]
    cases k with
    | zero =>
      rw [Nat.zero_mul, Nat.zero_add, List.getElem?_append_left (by rw [hs]; exact hi)]
      rfl
    | succ k =>
      have e0 : (k + 1) * sz = k * sz + sz := Nat.succ_mul k sz
      rw [List.getElem?_append_right (by rw [hs]; omega)]
      have e : (k + 1) * sz + i - (cells t).length = k * sz + i := by rw [hs]; omega
      rw [e]
      exact ih k (by simpa using h) i hi
/-- A row of elements reads as a list. -/
theorem rd_of {α β : Type} {sz : Nat} (h0 : 0 < sz) {good : World → α → List Value → Prop} {w : World} {base : Nat} {e : TypeId} {v : Value} {n : Nat} (ts : List β) (cells : β → List Value) (val : β → α) (hs : ∀ t, (cells t).length = sz) (hg : ∀ t ∈ ts, good w (val t) (cells t)) (ho : w.ownsRow base e sz v n (ts.flatMap cells)) {l : List α} (hm : ts.map val = l) : ∃ A c, v = .slice A n c ∧ n ≤ c ∧ RdL sz good w l A := by
  obtain ⟨A, c, e, hle, hr⟩ := owns_rowG ho
  refine ⟨A, c, e, hle, fun k hk => ?_⟩
  subst hm
  have hk' : k < ts.length := by simpa using hk
  have g := flat_get cells hs ts k hk'
  have h1 : (cells ts[k])[0]? = some ((cells ts[k])[0]'(by rw [hs]; exact h0)) := List.getElem?_eq_getElem _
  obtain ⟨b, off, eA, -⟩ := hr (k * sz + 0) _ ((g 0 h0).trans h1)
  refine ⟨b, off, cells ts[k], eA, ?_, fun j u hj => ?_⟩
  · rw [List.getElem_map]; exact hg _ (List.getElem_mem hk')
  · have hj5 : j < sz := by have := (List.getElem?_eq_some_iff.1 hj).1; rwa [hs] at this
    obtain ⟨b', off', e', c1⟩ := hr (k * sz + j) u ((g j hj5).trans hj)
    rw [eA] at e'; injection e' with e'; injection e' with e1 e2 _
    subst e1; subst e2
    rw [Nat.add_assoc]; exact c1
/-- A list of numbers that was copied. -/
structure LC where
  l : List Int
  A : Option Addr
  c : Nat
def LC.cells (t : LC) : List Value := [.slice t.A t.l.length t.c]
def LC.Ok (w : World) (base : Nat) (t : LC) : Prop := w.ownsRow base 3 1 (.slice t.A t.l.length t.c) t.l.length (intVs t.l)
/-- An Ins that was copied. -/
structure IC where
  x : PIn
  A : Option Addr
  c : Nat
def IC.cells (t : IC) : List Value := inL t.x t.A t.c
def IC.Ok (w : World) (base : Nat) (t : IC) : Prop := w.ownsRow base 3 1 (.slice t.A t.x.args.length t.c) t.x.args.length (intVs t.x.args)
/-- What rows of this type, at this base, in one world are in another. -/
def Hold (w w' : World) (base base' : Nat) (P : TypeId → Prop) : Prop := ∀ (e : TypeId) (size : Nat) (v : Value) (n : Nat) (xs : List Value), P e → w.ownsRow base e size v n xs → w'.ownsRow base' e size v n xs
theorem hold_below {w w' : World} {base : Nat} {P : TypeId → Prop} (hb : Below w.heap.size w w') : Hold w w' base base P := fun _ _ _ _ _ _ h => own_same h fun j hj => hb.block _ (own_lt h hj).2
theorem hold_mono {w : World} {base base' : Nat} {P : TypeId → Prop} (hb : base' ≤ base) : Hold w w base base' P := fun _ _ _ _ _ _ h => owns_mono h hb
theorem hold_high {w w' : World} {base : Nat} {P : TypeId → Prop} (hs : ∀ j, base ≤ j → w'.heap[j]? = w.heap[j]?) : Hold w w' base base P := fun _ _ _ _ _ _ h => own_same h fun j hj => hs j (own_lt h hj).1
def lowT (e : TypeId) : Prop := e = 3 ∨ e = 25 ∨ e = 52
/-- A block that was copied. -/
structure BC where
  b : PBk
  P : Option Addr
  p : Nat
  I : Option Addr
  i : Nat
  T : Option Addr
  t : Nat
  W : Option Addr
  c : Nat
  xs : List IC
  ls : List LC
def BC.cells (t : BC) : List Value := bkL t.b t.P t.p t.I t.i t.T t.t t.W t.c
structure BC.Ok (w : World) (base : Nat) (t : BC) : Prop where
  params : w.ownsRow base 3 1 (.slice t.P t.b.params.length t.p) t.b.params.length (intVs t.b.params)
  ins : w.ownsRow base 52 5 (.slice t.I t.b.ins.length t.i) t.b.ins.length (t.xs.flatMap IC.cells)
  insM : t.xs.map (·.x) = t.b.ins
  insO : ∀ s ∈ t.xs, s.Ok w base
  nx : w.ownsRow base 3 1 (.slice t.T t.b.nx.length t.t) t.b.nx.length (intVs t.b.nx)
  wth : w.ownsRow base 25 1 (.slice t.W t.b.wth.length t.c) t.b.wth.length (t.ls.flatMap LC.cells)
  wthM : t.ls.map (·.l) = t.b.wth
  wthO : ∀ s ∈ t.ls, s.Ok w base
theorem BC.Ok.to {w w' : World} {base base' : Nat} {t : BC} (h : t.Ok w base) (k : Hold w w' base base' lowT) : t.Ok w' base' :=
  ⟨k _ _ _ _ _ (.inl rfl) h.params, k _ _ _ _ _ (.inr (.inr rfl)) h.ins, h.insM, fun s hs => k _ _ _ _ _ (.inl rfl) (h.insO s hs), k _ _ _ _ _ (.inl rfl) h.nx, k _ _ _ _ _ (.inr (.inl rfl)) h.wth, h.wthM, fun s hs => k _ _ _ _ _ (.inl rfl) (h.wthO s hs)⟩
/-- The code, as far as it is copied. -/
structure AsC (c : PCo) (base ob k : Nat) (ts : List BC) (vB : Value) (w : World) : Prop where
  blk : w.heap[ob]? = some (.cells #[.string (mkB c.name), .int .i64 c.params, .int .i64 c.values, vB] 31 (0, 0))
  own : w.ownsRow base 56 6 vB k (ts.flatMap BC.cells)
  map : ts.map (·.b) = c.blocks.take k
  ok : ∀ t ∈ ts, t.Ok w base
theorem AsC.below {c : PCo} {base ob k : Nat} {ts : List BC} {vB : Value} {w w' : World} (h : AsC c base ob k ts vB w) (hb : Below w.heap.size w w') : AsC c base ob k ts vB w' :=
  ⟨(hb.block _ (Array.getElem?_eq_some_iff.1 h.blk).1).trans h.blk, own_same h.own fun j hj => hb.block _ (own_lt h.own hj).2, h.map, fun t ht => (h.ok t ht).to (hold_below hb)⟩
theorem AsC.high {c : PCo} {base ob k : Nat} {ts : List BC} {vB : Value} {w w' : World} (h : AsC c base ob k ts vB w) (hob : base ≤ ob) (hs : ∀ j, base ≤ j → w'.heap[j]? = w.heap[j]?) : AsC c base ob k ts vB w' :=
  ⟨(hs _ hob).trans h.blk, own_same h.own fun j hj => hs j (own_lt h.own hj).1, h.map, fun t ht => (h.ok t ht).to (hold_high hs)⟩
/-- A box, an append of it to a row of type E, a store of the row into cell j of the block xb of type X: what is left of other rows, and of the block. -/
theorem grow_parts {w w4 : World} {o : Obj} {base xb size n j : Nat} {cs : Array Value} {E X : TypeId} {v v' : Value} {xs xs' : List Value} {n' : Nat} (hb : w.heap[xb]? = some (.cells cs X (0, 0))) (ho : w.ownsRow base E size v n xs) (hEX : X ≠ E) (hxl : base ≤ xb) (hbase : base ≤ w.heap.size)
    (hown : w4.ownsRow base E size v' n' xs') (hg : (w.alloc o).grownBy w4 v.ownBlock) :
    w4.heap[xb]? = w.heap[xb]? ∧ (w4.setCell ⟨xb, j, none⟩ v').heap[xb]? = some (.cells (cs.setIfInBounds j v') X (0, 0)) ∧ (w4.setCell ⟨xb, j, none⟩ v').ownsRow base E size v' n' xs' ∧ Hold w (w4.setCell ⟨xb, j, none⟩ v') base base (fun e => e ≠ E ∧ e ≠ X) ∧ Below base w (w4.setCell ⟨xb, j, none⟩ v') ∧
      (∀ (q : Nat) (cs' : Array Value) (U : TypeId), w.heap[q]? = some (.cells cs' U (0, 0)) → U ≠ E → U ≠ X → (w4.setCell ⟨xb, j, none⟩ v').heap[q]? = some (.cells cs' U (0, 0))) := by
  have hlt := (Array.getElem?_eq_some_iff.1 hb).1
  have hne : v.ownBlock ≠ some xb := own_apart ho hb hEX
  have hm : w4.heap[xb]? = w.heap[xb]? := by rw [hg.block xb (by simp; omega) (fun e => hne e.symm)]; exact old_block _ _ hlt
  have hne2 : v'.ownBlock ≠ some xb := own_apart hown (hm.trans hb) hEX
  refine ⟨hm, row_set (j := j) v' (hm.trans hb) rfl, own_same hown fun k hk => Below.heap_setCell _ _ _ _ (fun e => hne2 (by rw [hk, e])), fun e size2 v2 n2 xs2 hP h2 => ?_, (Below.grown ((Below.refl base w).alloc (by omega) o) hg (by simp; omega) (fun q hq => (own_lt ho hq).1)).trans ((Below.refl base w4).setCell (p := ⟨xb, j, none⟩) hxl _), fun q cs' T hq hT hX => ?_⟩
  · refine own_same h2 fun k hk => ?_
    have h1 := own_lt h2 hk
    have h5 := own_ne h2 ho hP.1 hk
    have h3 : k ≠ xb := fun e3 => own_apart h2 hb (Ne.symm hP.2) (by rw [hk, e3])
    refine (Below.heap_setCell _ _ _ _ h3).trans ?_
    rw [hg.block k (by simp; omega) (fun e => h5 e.symm)]
    exact old_block _ _ h1.2
  · have hql := (Array.getElem?_eq_some_iff.1 hq).1
    refine (Below.heap_setCell _ _ _ _ (ty_ne hq hb hX)).trans ?_
    rw [hg.block q (by simp; omega) (fun e => own_apart ho hq hT e.symm)]
    exact (old_block _ _ hql).trans hq
/-- One block more. -/
theorem AsC.next {c : PCo} {base ob k : Nat} {ts : List BC} {vB v' : Value} {w w4 : World} {o : Obj} {t : BC} (h : AsC c base ob k ts vB w) (hk : k < c.blocks.length) (hob : base ≤ ob) (hbase : base ≤ w.heap.size) (ht : t.b = c.blocks[k]) (hok : t.Ok w base)
    (hown : w4.ownsRow base 56 6 v' (k + 1) (ts.flatMap BC.cells ++ t.cells)) (hg : (w.alloc o).grownBy w4 vB.ownBlock) :
    w4.heap[ob]? = w.heap[ob]? ∧ AsC c base ob (k + 1) (ts ++ [t]) v' (w4.setCell ⟨ob, 3, none⟩ v') ∧ Below base w (w4.setCell ⟨ob, 3, none⟩ v') := by
  obtain ⟨h1, h2, h3, h4, h5, -⟩ := grow_parts (j := 3) h.blk h.own (by decide) hob hbase hown hg
  have h6 : Hold w (w4.setCell ⟨ob, 3, none⟩ v') base base lowT := fun e size v n xs hP => h4 e size v n xs (by rcases hP with rfl | rfl | rfl <;> decide)
  refine ⟨h1, ⟨h2, ?_, by rw [List.map_append, h.map, List.take_succ_eq_append_getElem hk]; simp [ht], fun s hs => ?_⟩, h5⟩
  · rw [List.flatMap_append]
    have e2 : ([t] : List BC).flatMap BC.cells = t.cells := by simp
    rw [e2]; exact h3
  · rcases List.mem_append.1 hs with hs | hs
    · exact (h.ok s hs).to h6
    · rw [List.mem_singleton.1 hs]; exact hok.to h6
/-- The block that is being copied. -/
structure AsX (x : PBk) (base xb ki kw : Nat) (xs : List IC) (ls : List LC) (P : Option Addr) (p : Nat) (vI : Value) (T : Option Addr) (t : Nat) (vW : Value) (w : World) : Prop where
  blk : w.heap[xb]? = some (.cells #[.slice P x.params.length p, vI, .string (mkB x.fin), .int .i64 x.v, .slice T x.nx.length t, vW] 56 (0, 0))
  params : w.ownsRow base 3 1 (.slice P x.params.length p) x.params.length (intVs x.params)
  ins : w.ownsRow base 52 5 vI ki (xs.flatMap IC.cells)
  insM : xs.map (·.x) = x.ins.take ki
  insO : ∀ s ∈ xs, s.Ok w base
  nx : w.ownsRow base 3 1 (.slice T x.nx.length t) x.nx.length (intVs x.nx)
  wth : w.ownsRow base 25 1 vW kw (ls.flatMap LC.cells)
  wthM : ls.map (·.l) = x.wth.take kw
  wthO : ∀ s ∈ ls, s.Ok w base
section
variable {x : PBk} {base xb ki kw : Nat} {xs : List IC} {ls : List LC} {P T : Option Addr} {p t : Nat} {vI vW v' : Value} {w w' w4 : World} {o : Obj}
theorem AsX.below (h : AsX x base xb ki kw xs ls P p vI T t vW w) (hb : Below w.heap.size w w') : AsX x base xb ki kw xs ls P p vI T t vW w' :=
  have k : Hold w w' base base (fun _ => True) := hold_below hb
  ⟨(hb.block _ (Array.getElem?_eq_some_iff.1 h.blk).1).trans h.blk, k _ _ _ _ _ trivial h.params, k _ _ _ _ _ trivial h.ins, h.insM, fun s hs => k _ _ _ _ _ trivial (h.insO s hs), k _ _ _ _ _ trivial h.nx, k _ _ _ _ _ trivial h.wth, h.wthM, fun s hs => k _ _ _ _ _ trivial (h.wthO s hs)⟩
/-- One Ins more. -/
theorem AsX.nextI {s : IC} (h : AsX x base xb ki kw xs ls P p vI T t vW w) (hk : ki < x.ins.length) (hxl : base ≤ xb) (hbase : base ≤ w.heap.size) (hs : s.x = x.ins[ki]) (hok : s.Ok w base)
    (hown : w4.ownsRow base 52 5 v' (ki + 1) (xs.flatMap IC.cells ++ s.cells)) (hg : (w.alloc o).grownBy w4 vI.ownBlock) :
    w4.heap[xb]? = w.heap[xb]? ∧ AsX x base xb (ki + 1) kw (xs ++ [s]) ls P p v' T t vW (w4.setCell ⟨xb, 1, none⟩ v') ∧ Below base w (w4.setCell ⟨xb, 1, none⟩ v') ∧ (∀ (q : Nat) (cs' : Array Value) (U : TypeId), w.heap[q]? = some (.cells cs' U (0, 0)) → U ≠ 52 → U ≠ 56 → (w4.setCell ⟨xb, 1, none⟩ v').heap[q]? = some (.cells cs' U (0, 0))) := by
  obtain ⟨h1, h2, h3, h4, h5, h6⟩ := grow_parts (j := 1) h.blk h.ins (by decide) hxl hbase hown hg
  have k1 : ∀ {v n l}, w.ownsRow base 3 1 v n l → (w4.setCell ⟨xb, 1, none⟩ v').ownsRow base 3 1 v n l := fun h => h4 _ _ _ _ _ ⟨by decide, by decide⟩ h
  refine ⟨h1, ⟨h2, k1 h.params, ?_, by rw [List.map_append, h.insM, List.take_succ_eq_append_getElem hk]; simp [hs], fun r hr => ?_, k1 h.nx, h4 _ _ _ _ _ ⟨by decide, by decide⟩ h.wth, h.wthM, fun r hr => k1 (h.wthO r hr)⟩, h5, h6⟩
  · rw [List.flatMap_append]
    have e2 : ([s] : List IC).flatMap IC.cells = s.cells := by simp
    rw [e2]; exact h3
  · rcases List.mem_append.1 hr with hr | hr
    · exact k1 (h.insO r hr)
    · rw [List.mem_singleton.1 hr]; exact k1 hok
/-- One With more. -/
theorem AsX.nextW {s : LC} (h : AsX x base xb ki kw xs ls P p vI T t vW w) (hk : kw < x.wth.length) (hxl : base ≤ xb) (hbase : base ≤ w.heap.size) (hs : s.l = x.wth[kw]) (hok : s.Ok w base)
    (hown : w4.ownsRow base 25 1 v' (kw + 1) (ls.flatMap LC.cells ++ s.cells)) (hg : (w.alloc o).grownBy w4 vW.ownBlock) :
    w4.heap[xb]? = w.heap[xb]? ∧ AsX x base xb ki (kw + 1) xs (ls ++ [s]) P p vI T t v' (w4.setCell ⟨xb, 5, none⟩ v') ∧ Below base w (w4.setCell ⟨xb, 5, none⟩ v') ∧ (∀ (q : Nat) (cs' : Array Value) (U : TypeId), w.heap[q]? = some (.cells cs' U (0, 0)) → U ≠ 25 → U ≠ 56 → (w4.setCell ⟨xb, 5, none⟩ v').heap[q]? = some (.cells cs' U (0, 0))) := by
  obtain ⟨h1, h2, h3, h4, h5, h6⟩ := grow_parts (j := 5) h.blk h.wth (by decide) hxl hbase hown hg
  have k1 : ∀ {v n l}, w.ownsRow base 3 1 v n l → (w4.setCell ⟨xb, 5, none⟩ v').ownsRow base 3 1 v n l := fun h => h4 _ _ _ _ _ ⟨by decide, by decide⟩ h
  refine ⟨h1, ⟨h2, k1 h.params, h4 _ _ _ _ _ ⟨by decide, by decide⟩ h.ins, h.insM, fun r hr => k1 (h.insO r hr), k1 h.nx, ?_, by rw [List.map_append, h.wthM, List.take_succ_eq_append_getElem hk]; simp [hs], fun r hr => ?_⟩, h5, h6⟩
  · rw [List.flatMap_append]
    have e2 : ([s] : List LC).flatMap LC.cells = s.cells := by simp
    rw [e2]; exact h3
  · rcases List.mem_append.1 hr with hr | hr
    · exact k1 (h.wthO r hr)
    · rw [List.mem_singleton.1 hr]; exact k1 hok
end
/-- What was copied reads as the code. -/
theorem BC.Ok.good {w : World} {base : Nat} {t : BC} (h : t.Ok w base) : GoodB w t.b t.cells := by
  obtain ⟨A1, c1, e1, -, r1⟩ := owns_rowG h.params
  obtain ⟨A2, c2, e2, -, r2⟩ := owns_rowG h.nx
  obtain ⟨A3, c3, e3, -, r3⟩ := rd_of (good := GoodI) (by decide) t.xs IC.cells (·.x) (fun s => by simp [IC.cells, inL]) (fun s hs => by
    obtain ⟨B, d, e, -, r⟩ := owns_rowG (h.insO s hs)
    injection e with e _ _
    exact ⟨s.A, s.c, rfl, e ▸ r⟩) h.ins h.insM
  obtain ⟨A4, c4, e4, -, r4⟩ := rd_of (good := GoodL) (by decide) t.ls LC.cells (·.l) (fun s => by simp [LC.cells]) (fun s hs => by
    obtain ⟨B, d, e, -, r⟩ := owns_rowG (h.wthO s hs)
    injection e with e _ _
    exact ⟨s.A, s.c, rfl, e ▸ r⟩) h.wth h.wthM
  injection e1 with e1 _ _
  injection e2 with e2 _ _
  injection e3 with e3 _ _
  injection e4 with e4 _ _
  subst e1; subst e2; subst e3; subst e4
  exact ⟨_, _, _, _, _, _, _, _, rfl, r1, r3, r2, r4⟩
theorem AsC.read {c : PCo} {base ob : Nat} {ts : List BC} {vB : Value} {w : World} (h : AsC c base ob c.blocks.length ts vB w) : ∃ A ca, vB = .slice A c.blocks.length ca ∧ c.blocks.length ≤ ca ∧ RdP w c.blocks A :=
  rd_of (good := GoodB) (by decide) ts BC.cells (·.b) (fun s => by simp [BC.cells, bkL]) (fun s hs => (h.ok s hs).good) h.own (by rw [h.map, List.take_length])
/-- What the copy comes to. -/
def AsCPost (c : PCo) (w : World) : Ending → World → Prop := fun e w' => ∃ A ca, e = .returned (coV c A ca) ∧ c.blocks.length ≤ ca ∧ RdP w' c.blocks A ∧ Below w.heap.size w w'
theorem set4A {w : World} {q : Nat} {a0 a1 a2 a3 v0 v1 v2 v3 : Value} {T : TypeId} {fz : Nat × Nat} (h : w.heap[q]? = some (.cells #[a0, a1, a2, a3] T fz)) :
    ((((w.setCell ⟨q, 0, none⟩ v0).setCell ⟨q, 1, none⟩ v1).setCell ⟨q, 2, none⟩ v2).setCell ⟨q, 3, none⟩ v3).heap[q]? = some (.cells #[v0, v1, v2, v3] T fz) :=
  row_set (j := 3) v3 (row_set (j := 2) v2 (row_set (j := 1) v1 (row_set (j := 0) v0 h rfl) rfl) rfl) (by simp)
theorem far4A {w : World} {q : Nat} {v0 v1 v2 v3 : Value} (k : Nat) (hk : k ≠ q) : ((((w.setCell ⟨q, 0, none⟩ v0).setCell ⟨q, 1, none⟩ v1).setCell ⟨q, 2, none⟩ v2).setCell ⟨q, 3, none⟩ v3).heap[k]? = w.heap[k]? :=
  (Below.heap_setCell _ _ _ _ hk).trans ((Below.heap_setCell _ _ _ _ hk).trans ((Below.heap_setCell _ _ _ _ hk).trans (Below.heap_setCell _ _ _ _ hk)))
theorem put4A {n : Nat} {w0 w : World} {q : Nat} {v0 v1 v2 v3 : Value} (h : Below n w0 w) (hq : n ≤ q) : Below n w0 ((((w.setCell ⟨q, 0, none⟩ v0).setCell ⟨q, 1, none⟩ v1).setCell ⟨q, 2, none⟩ v2).setCell ⟨q, 3, none⟩ v3) :=
  (((h.setCell hq _).setCell hq _).setCell hq _).setCell hq _
end Go.Proofs.YtdilakpipbkokaaDoor
