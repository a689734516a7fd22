import Derived.StillTailTactics
import Derived.Deep.RegionLaw
import Derived.BigRegion
import Derived.BigQuiet
import Derived.Deep.QuietTactic
import Derived.Maps.OwnOps
import Derived.Maps.OwnSet
import Derived.StringKeys
import Derived.Test.YtgoifbkogboppaaDoorBn5
import Derived.Test.YtgoifbkogboppaaDoorBn10
import Derived.Test.YtgoifbkogboppaaDoorBn3
import Derived.Test.YtgoifbkogboppaaDoorBn7
set_option linter.unusedVariables false
set_option linter.unusedSimpArgs false
namespace Go.Proofs.YtgoifbkogboppaaDoor
open Go.RowKit

/-! the machine in memory -/
def insL (i : PIns) : List Value := [.string (mkB i.op), .int .i64 i.d, .int .i64 i.a, .int .i64 i.b, .int .i64 i.imm]
def codeVs (l : List Int) : List Value := l.flatMap fun v => insL (insP v)
def ptrVs (fbs : List (Nat × Nat)) : List Value := fbs.map fun p => .pointer (some ⟨p.1, 0, none⟩)
def frL (x : PFr) (sb : Nat) : List Value := fnL x.f ++ (intVs x.r ++ (.slice (some ⟨sb, 0, none⟩) x.slots.length x.slots.length :: (intVs x.args ++ (intVs x.next ++ [.int .i64 (x.pc : Nat), .int .i64 (x.d : Nat)]))))
structure FrAt (mb : Nat) (p : Nat × Nat) (x : PFr) (w : World) : Prop where
  low : mb < p.1 ∧ mb < p.2
  blk : w.heap[p.1]? = some (.cells (frL x p.2).toArray 102 (0, 0))
  slots : w.heap[p.2]? = some (.cells (intVs x.slots).toArray 3 (0, 0))
def maL (A : Option Addr) (nf cf : Nat) (B : Option Addr) (nw cw : Nat) (C : Value) (T : Nat) (s : PMs) (v u : Value) : Array Value :=
  #[.slice A nf cf, .slice B nw cw, C, .string (mkB s.how), .int .i64 s.val, v, .int .i64 (s.ticks : Nat), .int .i64 ((T - s.ticks : Nat) : Int), u]
section
variable (m : PImg) (A : Option Addr) (cf : Nat) (B : Option Addr) (cw : Nat) (C : Value) (mb T : Nat)
structure MaAt (s : PMs) (v u : Value) (fbs : List (Nat × Nat)) (w : World) : Prop where
  blk : w.heap[mb]? = some (.cells (maL A m.funs.length cf B m.words.length cw C T s v u) 75 (0, 0))
  funs : Row w A (m.funs.flatMap fnL)
  far : ∀ a, A = some a → a.block < mb
  code : w.ownsRow mb 76 5 C m.words.length (codeVs m.words)
  out : w.ownsRow mb 3 1 v s.out.length (intVs s.out)
  calls : w.ownsRow mb 100 1 u s.calls.length (ptrVs fbs)
  len : fbs.length = s.calls.length
  fr : ∀ k (h : k < fbs.length) (h' : k < s.calls.length), FrAt mb fbs[k] s.calls[k] w
  nd1 : (fbs.map (·.1)).Nodup
  nd2 : (fbs.map (·.2)).Nodup
  ne : ∀ p ∈ fbs, v.ownBlock ≠ some p.2
  ticks : s.ticks ≤ T
end
theorem old_block (w : World) (o : Obj) {k : Nat} (hk : k < w.heap.size) : (w.alloc o).heap[k]? = w.heap[k]? := by
  show (w.heap.push o)[k]? = _
  rw [Array.getElem?_push_lt hk, Array.getElem?_eq_getElem hk]
theorem new_block (w : World) (o : Obj) {k : Nat} (hk : k = w.heap.size) : (w.alloc o).heap[k]? = some o := by
  subst hk; exact heap_alloc_new w o
theorem row_set {w : World} {b j : Nat} {cs cs' : Array Value} {T : TypeId} {fz : Nat × Nat} (u : Value) (hb : w.heap[b]? = some (.cells cs T fz)) (he : cs' = cs.setIfInBounds j u) : (w.setCell ⟨b, j, none⟩ u).heap[b]? = some (.cells cs' T fz) := by
  subst he
  simp [World.setCell, Array.getElem?_modify, hb]
theorem row_frozen {w : World} {b : Nat} {cs : Array Value} {T : TypeId} (hb : w.heap[b]? = some (.cells cs T (0, 0))) (j : Nat) : w.frozen? ⟨b, j, none⟩ = false := by
  simp [World.frozen?, hb]
theorem own_else {w : World} {base : Nat} {e : TypeId} {size : Nat} {v : Value} {n : Nat} {xs : List Value} {x : Nat} {o : Obj} (h : w.ownsRow base e size v n xs) (hx : w.heap[x]? = some o) (hT : ∀ cs, o ≠ .cells cs e (0, 0)) : v.ownBlock ≠ some x := by
  rcases h.2 with ⟨q, _⟩ | ⟨g, cap, cur, q, _, q4, _⟩
  · rw [q]; simp [Value.ownBlock]
  · rw [q]
    intro e
    simp only [Value.ownBlock, Option.some.injEq] at e
    subst e
    rw [hx] at q4
    exact hT _ (Option.some.inj q4)
theorem own_same {w w' : World} {base : Nat} {e : TypeId} {size : Nat} {v : Value} {n : Nat} {xs : List Value} (h : w.ownsRow base e size v n xs) (hs : ∀ k, v.ownBlock = some k → w'.heap[k]? = w.heap[k]?) : w'.ownsRow base e size v n xs := by
  refine ⟨h.1, ?_⟩
  rcases h.2 with q | ⟨g, cap, cur, q1, q2, q3, q4⟩
  · exact .inl q
  · exact .inr ⟨g, cap, cur, q1, q2, (hs g (by rw [q1]; rfl)).trans q3, q4⟩
theorem own_lt {w : World} {base : Nat} {e : TypeId} {size : Nat} {v : Value} {n : Nat} {xs : List Value} (h : w.ownsRow base e size v n xs) {k : Nat} (hk : v.ownBlock = some k) : base ≤ k ∧ k < w.heap.size := by
  rcases h.2 with ⟨q, _⟩ | ⟨g, cap, cur, q1, q2, q3, q4⟩
  · rw [q] at hk; cases hk
  · rw [q1] at hk
    simp only [Value.ownBlock, Option.some.injEq] at hk
    subst hk
    exact ⟨q2, (Array.getElem?_eq_some_iff.1 q3).1⟩
theorem own_blk {w : World} {base : Nat} {e : TypeId} {size : Nat} {v : Value} {n : Nat} {xs : List Value} (h : w.ownsRow base e size v n xs) {k : Nat} (hk : v.ownBlock = some k) : ∃ cs, w.heap[k]? = some (.cells cs e (0, 0)) := by
  rcases h.2 with ⟨q, _⟩ | ⟨g, cap, cur, q1, q2, q3, q4⟩
  · rw [q] at hk; cases hk
  · rw [q1] at hk
    simp only [Value.ownBlock, Option.some.injEq] at hk
    subst hk
    exact ⟨_, q3⟩
theorem own_ne {w : World} {b1 b2 s1 s2 : Nat} {e1 e2 : TypeId} {v1 v2 : Value} {n1 n2 : Nat} {l1 l2 : List Value} (h1 : w.ownsRow b1 e1 s1 v1 n1 l1) (h2 : w.ownsRow b2 e2 s2 v2 n2 l2) (hT : e1 ≠ e2) {k : Nat} (hk : v1.ownBlock = some k) : v2.ownBlock ≠ some k := by
  obtain ⟨cs, hc⟩ := own_blk h1 hk
  exact own_else h2 hc fun cs' e => by injection e with _ e _; exact hT e
section
variable {m : PImg} {A : Option Addr} {cf : Nat} {B : Option Addr} {cw : Nat} {C : Value} {mb T : Nat} {s : PMs} {v u : Value} {fbs : List (Nat × Nat)} {w w' : World}
theorem MaAt.lt (h : MaAt m A cf B cw C mb T s v u fbs w) : mb < w.heap.size := (Array.getElem?_eq_some_iff.1 h.blk).1
theorem MaAt.frk (h : MaAt m A cf B cw C mb T s v u fbs w) {p : Nat × Nat} (hp : p ∈ fbs) : ∃ x, x ∈ s.calls ∧ FrAt mb p x w := by
  obtain ⟨k, hk, rfl⟩ := List.mem_iff_getElem.1 hp
  exact ⟨_, List.getElem_mem (by rw [← h.len]; exact hk), h.fr k hk (by rw [← h.len]; exact hk)⟩
theorem MaAt.same (h : MaAt m A cf B cw C mb T s v u fbs w) (hb : Below mb w w') (hs : ∀ k, k = mb ∨ C.ownBlock = some k ∨ v.ownBlock = some k ∨ u.ownBlock = some k ∨ (∃ p ∈ fbs, k = p.1 ∨ k = p.2) → w'.heap[k]? = w.heap[k]?) : MaAt m A cf B cw C mb T s v u fbs w' :=
  ⟨(hs mb (.inl rfl)).trans h.blk, fun j y hj => by
    obtain ⟨b, off, e, hc⟩ := h.funs j y hj
    exact ⟨b, off, e, (World.cell?_of_block (hb.block b (h.far _ e))).trans hc⟩, h.far, own_same h.code fun k hk => hs k (.inr (.inl hk)), own_same h.out fun k hk => hs k (.inr (.inr (.inl hk))), own_same h.calls fun k hk => hs k (.inr (.inr (.inr (.inl hk)))), h.len,
    fun k h1 h2 => ⟨(h.fr k h1 h2).low, (hs _ (.inr (.inr (.inr (.inr ⟨_, List.getElem_mem h1, .inl rfl⟩))))).trans (h.fr k h1 h2).blk, (hs _ (.inr (.inr (.inr (.inr ⟨_, List.getElem_mem h1, .inr rfl⟩))))).trans (h.fr k h1 h2).slots⟩, h.nd1, h.nd2, h.ne, h.ticks⟩
theorem MaAt.below (h : MaAt m A cf B cw C mb T s v u fbs w) (hb : Below w.heap.size w w') : MaAt m A cf B cw C mb T s v u fbs w' :=
  h.same (hb.mono (Nat.le_of_lt h.lt)) fun k hk => hb.block k (by
    rcases hk with rfl | hk | hk | hk | ⟨p, hp, hk⟩
    · exact h.lt
    · exact (own_lt h.code hk).2
    · exact (own_lt h.out hk).2
    · exact (own_lt h.calls hk).2
    · obtain ⟨x, -, hx⟩ := h.frk hp
      rcases hk with rfl | rfl
      · exact (Array.getElem?_eq_some_iff.1 hx.blk).1
      · exact (Array.getElem?_eq_some_iff.1 hx.slots).1)
/-- No other block is the machine's. -/
theorem MaAt.mbne (h : MaAt m A cf B cw C mb T s v u fbs w) : C.ownBlock ≠ some mb ∧ v.ownBlock ≠ some mb ∧ u.ownBlock ≠ some mb ∧ ∀ p ∈ fbs, p.1 ≠ mb ∧ p.2 ≠ mb :=
  ⟨own_else h.code h.blk fun cs e => by injection e with _ e _; exact absurd e (by decide), own_else h.out h.blk fun cs e => by injection e with _ e _; exact absurd e (by decide), own_else h.calls h.blk fun cs e => by injection e with _ e _; exact absurd e (by decide), fun p hp => by
    obtain ⟨x, -, hx⟩ := h.frk hp
    have := hx.low
    omega⟩
/-- A cell of the machine is stored. -/
theorem MaAt.store {s' : PMs} {j : Nat} (y : Value) (h : MaAt m A cf B cw C mb T s v u fbs w) (hc : maL A m.funs.length cf B m.words.length cw C T s' v u = (maL A m.funs.length cf B m.words.length cw C T s v u).setIfInBounds j y) (ho : s'.out = s.out) (hcl : s'.calls = s.calls) (ht : s'.ticks ≤ T) :
    MaAt m A cf B cw C mb T s' v u fbs (w.setCell ⟨mb, j, none⟩ y) := by
  obtain ⟨n1, n2, n3, n4⟩ := h.mbne
  have hk : ∀ k, k ≠ mb → (w.setCell ⟨mb, j, none⟩ y).heap[k]? = w.heap[k]? := fun k hk => Below.heap_setCell _ _ _ _ hk
  refine ⟨row_set (j := j) y h.blk hc, fun i z hi => ?_, h.far, own_same h.code fun k q => hk k (fun e => n1 (by rw [q, e])), ?_, ?_, by rw [hcl]; exact h.len, fun k h1 h2 => ?_, h.nd1, h.nd2, h.ne, ht⟩
  · obtain ⟨b, off, e, hc⟩ := h.funs i z hi
    exact ⟨b, off, e, (World.cell?_of_block (hk b (Nat.ne_of_lt (h.far _ e)))).trans hc⟩
  · rw [ho]; exact own_same h.out fun k q => hk k (fun e => n2 (by rw [q, e]))
  · rw [hcl]; exact own_same h.calls fun k q => hk k (fun e => n3 (by rw [q, e]))
  · have h2' : k < s.calls.length := by rw [← hcl]; exact h2
    have e : s'.calls[k] = s.calls[k] := by simp only [hcl]
    rw [e]
    have hf := h.fr k h1 h2'
    have := n4 _ (List.getElem_mem h1)
    exact ⟨hf.low, (hk _ this.1).trans hf.blk, (hk _ this.2).trans hf.slots⟩
theorem row9m {T : TypeId} {fz : Nat × Nat} {v0 v1 v2 v3 v4 v5 v6 v7 v8 : Value} {q : Nat} (hrow : w.heap[q]? = some (.cells #[v0, v1, v2, v3, v4, v5, v6, v7, v8] T fz)) :
    w.cell? ⟨q, 0, none⟩ = some v0 ∧ w.cell? ⟨q, 1, none⟩ = some v1 ∧ w.cell? ⟨q, 2, none⟩ = some v2 ∧ w.cell? ⟨q, 3, none⟩ = some v3 ∧ w.cell? ⟨q, 4, none⟩ = some v4 ∧ w.cell? ⟨q, 5, none⟩ = some v5 ∧ w.cell? ⟨q, 6, none⟩ = some v6 ∧ w.cell? ⟨q, 7, none⟩ = some v7 ∧ w.cell? ⟨q, 8, none⟩ = some v8 :=
  ⟨cell_of_row _ _ 0 _ _ _ hrow, cell_of_row _ _ 1 _ _ _ hrow, cell_of_row _ _ 2 _ _ _ hrow, cell_of_row _ _ 3 _ _ _ hrow, cell_of_row _ _ 4 _ _ _ hrow, cell_of_row _ _ 5 _ _ _ hrow, cell_of_row _ _ 6 _ _ _ hrow, cell_of_row _ _ 7 _ _ _ hrow, cell_of_row _ _ 8 _ _ _ hrow⟩
end
end Go.Proofs.YtgoifbkogboppaaDoor

namespace Go.Proofs.YtgoifbkogboppaaDoor
open Go.RowKit

/-! maps from texts -/
def hR (v : Value) : Option (DataW Value × List MemPlace) := some (.held v, [])
theorem strKeyed : Maps.Keyed Tryd.prog 9 := Maps.string_keyed Tryd.underlying9
theorem strKey (k : List UInt8) (h : k.length ≤ 1000000) : keyOf Tryd.prog 9 (.string ⟨k.toArray⟩) = some (.string k) := by
  simpa using Go.WideMaps.keyOf_string_mk (P := Tryd.prog) Tryd.underlying9 (s := ⟨k.toArray⟩) (by simp [ByteArray.size, maxLen]; omega)
/-- Block b is a map of at most n texts; f tells what each has. -/
def MapAt (w : World) (b n : Nat) (f : List UInt8 → Option Value) : Prop :=
  ∃ D : DataW Value, w.ownsMap Tryd.prog 9 hR b n D ∧ Maps.IsMap D ∧ ∀ k : List UInt8, Maps.has D (.string k) = (f k).isSome ∧ ∀ v, f k = some v → ∀ z, D.atKey (.string k) z = .held v
theorem MapAt.lt {w : World} {b n : Nat} {f : List UInt8 → Option Value} (h : MapAt w b n f) : b < w.heap.size := by
  obtain ⟨D, ho, _⟩ := h; exact ho.lt
theorem MapAt.made (w : World) : MapAt (w.alloc (.map #[] 0)) w.heap.size 0 fun _ => none :=
  ⟨.map [], World.ownsMap_made _ _ _ _, Maps.isMap_empty, fun k => ⟨rfl, fun v h => by cases h⟩⟩
theorem MapAt.keep {w w' : World} {b n : Nat} {f : List UInt8 → Option Value} (h : MapAt w b n f) (hb : w'.heap[b]? = w.heap[b]?) : MapAt w' b n f := by
  obtain ⟨D, ⟨es, clock, h1, h2, h3, h4⟩, hm, hf⟩ := h
  exact ⟨D, ⟨es, clock, hb.trans h1, h2, h3, h4⟩, hm, hf⟩
theorem MapAt.below {w w' : World} {b n : Nat} {f : List UInt8 → Option Value} (h : MapAt w b n f) (hb : Below w.heap.size w w') : MapAt w' b n f := h.keep (hb.block b h.lt)
theorem MapAt.mono {w : World} {b n n' : Nat} {f : List UInt8 → Option Value} (h : MapAt w b n f) (hn : n ≤ n') : MapAt w b n' f := by
  obtain ⟨D, ho, hm, hf⟩ := h; exact ⟨D, ho.mono hn, hm, hf⟩
theorem MapAt.look {w : World} {b n : Nat} {f : List UInt8 → Option Value} (h : MapAt w b n f) {t e : TypeId} (ht : Tryd.prog.underlying t = some (.map 9 e)) {z : Value} (hz : (zeroValue e).run Tryd.prog w = .ok z w) (k : List UInt8) (hk : k.length ≤ 1000000) :
    (Instr.lookup t (.map (some b)) (.string (⟨k.toArray⟩ : ByteArray)) true).run Tryd.prog w = .ok (.tuple #[(f k).getD z, .bool (f k).isSome]) w := by
  obtain ⟨D, ho, _, hf⟩ := h
  obtain ⟨h1, h2⟩ := hf k
  obtain ⟨v, ps, hr, hv⟩ := ho.look_ok strKeyed ht hz (zd := .held z) (zp := []) rfl (key := .string ⟨k.toArray⟩) (kl := .string k) (strKey k hk)
  rw [hr, h1]
  have hv' : DataW.held v = D.atKey (.string k) (.held z) := congrArg Prod.fst (Option.some.inj hv)
  clear hr ho hz ht hv
  cases hfk : f k with
  | none =>
    rw [Maps.atKey_of_not_has (by rw [h1, hfk]; rfl)] at hv'
    injection hv' with e
    subst e; rfl
  | some u =>
    rw [h2 u hfk] at hv'
    injection hv' with e
    subst e; rfl
theorem MapAt.get {w : World} {b n : Nat} {f : List UInt8 → Option Value} (h : MapAt w b n f) {t e : TypeId} (ht : Tryd.prog.underlying t = some (.map 9 e)) {z : Value} (hz : (zeroValue e).run Tryd.prog w = .ok z w) (k : List UInt8) (hk : k.length ≤ 1000000) :
    (Instr.lookup t (.map (some b)) (.string (⟨k.toArray⟩ : ByteArray)) false).run Tryd.prog w = .ok ((f k).getD z) w := by
  obtain ⟨D, ho, _, hf⟩ := h
  obtain ⟨h1, h2⟩ := hf k
  obtain ⟨v, ps, hr, hv⟩ := ho.lookup strKeyed ht hz (zd := .held z) (zp := []) rfl (key := .string ⟨k.toArray⟩) (kl := .string k) (strKey k hk)
  rw [hr]
  have hv' : DataW.held v = D.atKey (.string k) (.held z) := congrArg Prod.fst (Option.some.inj hv)
  clear hr ho hz ht hv
  cases hfk : f k with
  | none =>
    rw [Maps.atKey_of_not_has (by rw [h1, hfk]; rfl)] at hv'
    injection hv' with e
    subst e; rfl
  | some u =>
    rw [h2 u hfk] at hv'
    injection hv' with e
    subst e; rfl
/-- What a map has behind a store. -/
def putF (f : List UInt8 → Option Value) (k : List UInt8) (v : Value) : List UInt8 → Option Value := fun x => if x = k then some v else f x
theorem MapAt.of_put {w' : World} {b n : Nat} {f : List UInt8 → Option Value} {D : DataW Value} (hm : Maps.IsMap D) (hf : ∀ k : List UInt8, Maps.has D (.string k) = (f k).isSome ∧ ∀ v, f k = some v → ∀ z, D.atKey (.string k) z = .held v) {k : List UInt8} {v : Value}
    (ho : w'.ownsMap Tryd.prog 9 hR b n (D.put (.string k) (.held v))) : MapAt w' b n (putF f k v) := by
  refine ⟨_, ho, hm.put _ _, fun x => ?_⟩
  by_cases hx : x = k
  · subst hx
    refine ⟨by rw [Maps.has_put_same hm (by trivial)]; simp [putF], fun u hu z => ?_⟩
    rw [Maps.atKey_put_same hm (by trivial)]
    simp only [putF, if_true, Option.some.injEq] at hu
    rw [hu]
  · have hne : Lit.string x ≠ Lit.string k := fun e => hx (by injection e)
    refine ⟨by rw [Maps.has_put_other hne, (hf x).1]; simp [putF, hx], fun u hu z => ?_⟩
    rw [Maps.atKey_put_other hne]
    simp only [putF, if_neg hx] at hu
    exact (hf x).2 u hu z
end Go.Proofs.YtgoifbkogboppaaDoor

namespace Go.Proofs.YtgoifbkogboppaaDoor
open Go.RowKit

/-- What a world holds of the errors that the machine tells of. -/
structure Laid7 (E : Nat → Addr) (w : World) : Prop where
  c1 : w.cell? ⟨2, 0, none⟩ = some (esV (E 1))
  c2 : w.cell? ⟨6, 0, none⟩ = some (esV (E 2))
  c3 : w.cell? ⟨4, 0, none⟩ = some (esV (E 3))
  c4 : w.cell? ⟨7, 0, none⟩ = some (esV (E 4))
  c5 : w.cell? ⟨0, 0, none⟩ = some (esV (E 5))
  c7 : w.cell? ⟨3, 0, none⟩ = some (esV (E 7))
  c8 : w.cell? ⟨1, 0, none⟩ = some (esV (E 8))
theorem Laid7.keep {E : Nat → Addr} {w w' : World} (h : Laid7 E w) (hb : Below w.heap.size w w') : Laid7 E w' :=
  have k := Keeps.of_below hb
  ⟨k _ _ h.c1, k _ _ h.c2, k _ _ h.c3, k _ _ h.c4, k _ _ h.c5, k _ _ h.c7, k _ _ h.c8⟩
theorem Laid.seven {E : Nat → Addr} {w : World} (h : Laid E w) : Laid7 E w := ⟨h.c1, h.c2, h.c3, h.c4, h.c5, h.c7, h.c8⟩
end Go.Proofs.YtgoifbkogboppaaDoor
