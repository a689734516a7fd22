import Derived.Maps.OwnOps
import Derived.Maps.OwnSet
import Derived.StringKeys
import Derived.Test.YtdilakpipbkokaaDoorBn3
set_option linter.unusedVariables false
set_option linter.unusedSimpArgs false
namespace Go.Proofs.YtdilakpipbkokaaDoor
open Go.RowKit

/-! maps from texts -/
def hR (v : Value) : Option (DataW Value × List MemPlace) := some (.held v, [])
theorem strKeyed : Maps.Keyed Tryd.prog 9 := Maps.string_keyed Tryd.underlying9
theorem strKey (k : List UInt8) (h : k.length ≤ 1000000) : keyOf Tryd.prog 9 (.string ⟨k.toArray⟩) = some (.string k) := by
  simpa using Go.WideMaps.keyOf_string_mk (P := Tryd.prog) Tryd.underlying9 (s := ⟨k.toArray⟩) (by simp [ByteArray.size, maxLen]; omega)
/-- Block b is a map of at most n texts; f tells what each has. -/
def MapAt (w : World) (b n : Nat) (f : List UInt8 → Option Value) : Prop :=
  ∃ D : DataW Value, w.ownsMap Tryd.prog 9 hR b n D ∧ Maps.IsMap D ∧ ∀ k : List UInt8, Maps.has D (.string k) = (f k).isSome ∧ ∀ v, f k = some v → ∀ z, D.atKey (.string k) z = .held v
theorem MapAt.lt {w : World} {b n : Nat} {f : List UInt8 → Option Value} (h : MapAt w b n f) : b < w.heap.size := by
  obtain ⟨D, ho, _⟩ := h; exact ho.lt
theorem MapAt.made (w : World) : MapAt (w.alloc (.map #[] 0)) w.heap.size 0 fun _ => none :=
  ⟨.map [], World.ownsMap_made _ _ _ _, Maps.isMap_empty, fun k => ⟨rfl, fun v h => by cases h⟩⟩
theorem MapAt.keep {w w' : World} {b n : Nat} {f : List UInt8 → Option Value} (h : MapAt w b n f) (hb : w'.heap[b]? = w.heap[b]?) : MapAt w' b n f := by
  obtain ⟨D, ⟨es, clock, h1, h2, h3, h4⟩, hm, hf⟩ := h
  exact ⟨D, ⟨es, clock, hb.trans h1, h2, h3, h4⟩, hm, hf⟩
theorem MapAt.below {w w' : World} {b n : Nat} {f : List UInt8 → Option Value} (h : MapAt w b n f) (hb : Below w.heap.size w w') : MapAt w' b n f := h.keep (hb.block b h.lt)
theorem MapAt.mono {w : World} {b n n' : Nat} {f : List UInt8 → Option Value} (h : MapAt w b n f) (hn : n ≤ n') : MapAt w b n' f := by
  obtain ⟨D, ho, hm, hf⟩ := h; exact ⟨D, ho.mono hn, hm, hf⟩
theorem MapAt.look {w : World} {b n : Nat} {f : List UInt8 → Option Value} (h : MapAt w b n f) {t e : TypeId} (ht : Tryd.prog.underlying t = some (.map 9 e)) {z : Value} (hz : (zeroValue e).run Tryd.prog w = .ok z w) (k : List UInt8) (hk : k.length ≤ 1000000) :
    (Instr.lookup t (.map (some b)) (.string (⟨k.toArray⟩ : ByteArray)) true).run Tryd.prog w = .ok (.tuple #[(f k).getD z, .bool (f k).isSome]) w := by
  obtain ⟨D, ho, _, hf⟩ := h
  obtain ⟨h1, h2⟩ := hf k
  obtain ⟨v, ps, hr, hv⟩ := ho.look_ok strKeyed ht hz (zd := .held z) (zp := []) rfl (key := .string ⟨k.toArray⟩) (kl := .string k) (strKey k hk)
  rw [hr, h1]
  have hv' : DataW.held v = D.atKey (.string k) (.held z) := congrArg Prod.fst (Option.some.inj hv)
  clear hr ho hz ht hv
  cases hfk : f k with
  | none =>
    rw [Maps.atKey_of_not_has (by rw [h1, hfk]; rfl)] at hv'
    injection hv' with e
    subst e; rfl
  | some u =>
    rw [h2 u hfk] at hv'
    injection hv' with e
    subst e; rfl
theorem MapAt.get {w : World} {b n : Nat} {f : List UInt8 → Option Value} (h : MapAt w b n f) {t e : TypeId} (ht : Tryd.prog.underlying t = some (.map 9 e)) {z : Value} (hz : (zeroValue e).run Tryd.prog w = .ok z w) (k : List UInt8) (hk : k.length ≤ 1000000) :
    (Instr.lookup t (.map (some b)) (.string (⟨k.toArray⟩ : ByteArray)) false).run Tryd.prog w = .ok ((f k).getD z) w := by
  obtain ⟨D, ho, _, hf⟩ := h
  obtain ⟨h1, h2⟩ := hf k
  obtain ⟨v, ps, hr, hv⟩ := ho.lookup strKeyed ht hz (zd := .held z) (zp := []) rfl (key := .string ⟨k.toArray⟩) (kl := .string k) (strKey k hk)
  rw [hr]
  have hv' : DataW.held v = D.atKey (.string k) (.held z) := congrArg Prod.fst (Option.some.inj hv)
  clear hr ho hz ht hv
  cases hfk : f k with
  | none =>
    rw [Maps.atKey_of_not_has (by rw [h1, hfk]; rfl)] at hv'
    injection hv' with e
    subst e; rfl
  | some u =>
    rw [h2 u hfk] at hv'
    injection hv' with e
    subst e; rfl
/-- What a map has behind a store. -/
def putF (f : List UInt8 → Option Value) (k : List UInt8) (v : Value) : List UInt8 → Option Value := fun x => if x = k then some v else f x
theorem MapAt.of_put {w' : World} {b n : Nat} {f : List UInt8 → Option Value} {D : DataW Value} (hm : Maps.IsMap D) (hf : ∀ k : List UInt8, Maps.has D (.string k) = (f k).isSome ∧ ∀ v, f k = some v → ∀ z, D.atKey (.string k) z = .held v) {k : List UInt8} {v : Value}
    (ho : w'.ownsMap Tryd.prog 9 hR b n (D.put (.string k) (.held v))) : MapAt w' b n (putF f k v) := by
  refine ⟨_, ho, hm.put _ _, fun x => ?_⟩
  by_cases hx : x = k
  · subst hx
    refine ⟨by rw [Maps.has_put_same hm (by trivial)]; simp [putF], fun u hu z => ?_⟩
    rw [Maps.atKey_put_same hm (by trivial)]
    simp only [putF, if_true, Option.some.injEq] at hu
    rw [hu]
  · have hne : Lit.string x ≠ Lit.string k := fun e => hx (by injection e)
    refine ⟨by rw [Maps.has_put_other hne, (hf x).1]; simp [putF, hx], fun u hu z => ?_⟩
    rw [Maps.atKey_put_other hne]
    simp only [putF, if_neg hx] at hu
    exact (hf x).2 u hu z
end Go.Proofs.YtdilakpipbkokaaDoor

namespace Go.Proofs.YtdilakpipbkokaaDoor
open Go.RowKit

/-! a map's literal -/
theorem keyMkM (k : List UInt8) (h : k.length ≤ 1000000) : keyOf Tryd.prog 9 (.string (mkB k)) = some (.string k) := strKey k h
theorem zeroIntM (w : World) : (zeroValue 3).run Tryd.prog w = .ok (.int .i64 0) w := by kernel_rfl
/-- A map's literal: an entry. -/
theorem wpList_insert_map {w : World} {ops : Array Oper} {rest : List Oper} {o : Oper} {a : Act} {Q : Exit → Act → World → Prop} (hg : o.guard = none) (m x v : Operand) (t : TypeId) (hop : o.op = Op.insert t m x v) (e : TypeId) (ht : Tryd.prog.underlying t = some (.map 9 e))
    (b n : Nat) (f : List UInt8 → Option Value) (h : MapAt w b n f) (hn : n < 1000) (hm : a.eval m = .map (some b)) (k : List UInt8) (hk : k.length ≤ 1000000) (hx : a.eval x = .string (mkB k)) (val : Value) (hv : a.eval v = val)
    (K : ∀ w', MapAt w' b (n + 1) (putF f k val) → w.grownBy w' (some b) → wpList Tryd.prog ops Q rest (a.put o.dst undef) w') : wpList Tryd.prog ops Q (o :: rest) a w := by
  obtain ⟨D, ho, hmap, hf⟩ := h
  refine wpList_plain hg fun K' hK' => ?_
  obtain ⟨w', hrun, r1, r2⟩ := ho.update strKeyed ht (by unfold maxLen; omega) (keyMkM k hk) (val := val) (d := .held val) (ps := []) rfl
  unfold Oper.wp
  simp [execOp, hop, hm, hx, hv, hrun, Result.andThen]
  exact hK' _ _ (K w' (MapAt.of_put hmap hf r1) r2)
end Go.Proofs.YtdilakpipbkokaaDoor
