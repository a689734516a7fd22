import Derived.Lib.SmallJoins
import Derived.Lib.Strings
import Derived.Deep.Slices
import Derived.Deep.DeepCutAuto
import Derived.Maps.OwnOps
import Derived.Maps.OwnSet
import Derived.StringKeys
import Derived.Test.YtonnhechjbdenaaGreatDoorBn4
import Derived.Test.YtonnhechjbdenaaGreatDoorBn1
import Derived.Test.YtonnhechjbdenaaGreatDoorBn7
import Derived.Test.YtonnhechjbdenaaGreatDoorBn2
import Derived.Test.YtonnhechjbdenaaGreatDoorBn8
set_option linter.unusedVariables false
set_option linter.unusedSimpArgs false
namespace Go.Proofs.YtonnhechjbdenaaGreatDoor
open Go.ChangeShapes Go.WideShapes Go.ChangeAt Go.RowKit Go.Joins Go.Deep

/-! a code that came in (printed by gen_alopen.py) -/
def lowL (x : PLow) : List Value := [.string (mkB x.kind), .int .i64 x.d, .int .i64 x.a, .int .i64 x.b, .int .i64 x.num, .string (mkB x.name)]
/-- The numbers of an instruction are within 64 bits. -/
structure LowN (x : PLow) : Prop where
  d : I64 x.d
  a : I64 x.a
  b : I64 x.b
  num : I64 x.num
structure BlkN (b : PBlk) : Prop where
  a : I64 b.a
  nx : ∀ k ∈ b.nx, I64 k
  ins : ∀ x ∈ b.ins, LowN x
/-- Block k of a row of blocks. -/
structure BlkAt (w : World) (b off : Nat) (x : PBlk) (I : Option Addr) (ic : Nat) (N : Option Addr) (nc : Nat) : Prop where
  c0 : w.cell? ⟨b, off, none⟩ = some (.slice I x.ins.length ic)
  c1 : w.cell? ⟨b, off + 1, none⟩ = some (.string (mkB x.fin))
  c2 : w.cell? ⟨b, off + 2, none⟩ = some (.int .i64 x.a)
  c3 : w.cell? ⟨b, off + 3, none⟩ = some (.slice N x.nx.length nc)
  ins : Row w I (x.ins.flatMap lowL)
  nx : Row w N (intVs x.nx)
theorem BlkAt.keep {w w' : World} {b off : Nat} {x : PBlk} {I N : Option Addr} {ic nc : Nat} (h : BlkAt w b off x I ic N nc) (k : Keeps w w') : BlkAt w' b off x I ic N nc :=
  ⟨k _ _ h.c0, k _ _ h.c1, k _ _ h.c2, k _ _ h.c3, h.ins.keep k, h.nx.keep k⟩
def RdC (w : World) (A : Option Addr) (bs : List PBlk) : Prop := ∀ k (hk : k < bs.length), ∃ b off I ic N nc, A = some ⟨b, off, none⟩ ∧ BlkAt w b (off + k * 4) bs[k] I ic N nc
theorem RdC.keep {w w' : World} {A : Option Addr} {bs : List PBlk} (h : RdC w A bs) (k : Keeps w w') : RdC w' A bs := fun j hj => by
  obtain ⟨b, off, I, ic, N, nc, e, hb⟩ := h j hj
  exact ⟨b, off, I, ic, N, nc, e, hb.keep k⟩
theorem low_get : ∀ (l : List PLow) (k : Nat) (h : k < l.length) (i : Nat), i < 6 → (l.flatMap lowL)[k * 6 + i]? = (lowL l[k])[i]? := by
  intro l
  induction l with
  | nil => intro k h; simp at h
  | cons f l ih =>
    intro k h i hi
    rw [List.flatMap_cons]
    cases k with
    | zero =>
      rw [Nat.zero_mul, Nat.zero_add, List.getElem?_append_left (by simpa [lowL] using hi)]
      rfl
    | succ k =>
      rw [List.getElem?_append_right (by simp [lowL]; omega)]
      have e : (k + 1) * 6 + i - (lowL f).length = k * 6 + i := by simp [lowL]; omega
      rw [e]
      exact ih k (by simpa using h) i hi
/-- The cells of instruction k. -/
structure LowAt' (w : World) (b off : Nat) (x : PLow) : Prop where
  c0 : w.cell? ⟨b, off, none⟩ = some (.string (mkB x.kind))
  c1 : w.cell? ⟨b, off + 1, none⟩ = some (.int .i64 x.d)
  c2 : w.cell? ⟨b, off + 2, none⟩ = some (.int .i64 x.a)
  c3 : w.cell? ⟨b, off + 3, none⟩ = some (.int .i64 x.b)
  c4 : w.cell? ⟨b, off + 4, none⟩ = some (.int .i64 x.num)
  c5 : w.cell? ⟨b, off + 5, none⟩ = some (.string (mkB x.name))
theorem low_cells {w : World} {A : Option Addr} {l : List PLow} (h : Row w A (l.flatMap lowL)) {k : Nat} (hk : k < l.length) : ∃ b off, A = some ⟨b, off, none⟩ ∧ LowAt' w b (off + k * 6) l[k] := by
  have g := low_get l k hk
  obtain ⟨b, off, e, c0⟩ := h (k * 6 + 0) _ (g 0 (by omega))
  refine ⟨b, off, e, c0, ?_, ?_, ?_, ?_, ?_⟩
  · obtain ⟨b', off', e', c1⟩ := h (k * 6 + 1) _ (g 1 (by omega))
    rw [e] at e'; injection e' with e'; injection e' with e1 e2 _
    subst e1; subst e2
    rw [Nat.add_assoc]; exact c1
  · obtain ⟨b', off', e', c1⟩ := h (k * 6 + 2) _ (g 2 (by omega))
    rw [e] at e'; injection e' with e'; injection e' with e1 e2 _
    subst e1; subst e2
    rw [Nat.add_assoc]; exact c1
  · obtain ⟨b', off', e', c1⟩ := h (k * 6 + 3) _ (g 3 (by omega))
    rw [e] at e'; injection e' with e'; injection e' with e1 e2 _
    subst e1; subst e2
    rw [Nat.add_assoc]; exact c1
  · obtain ⟨b', off', e', c1⟩ := h (k * 6 + 4) _ (g 4 (by omega))
    rw [e] at e'; injection e' with e'; injection e' with e1 e2 _
    subst e1; subst e2
    rw [Nat.add_assoc]; exact c1
  · obtain ⟨b', off', e', c1⟩ := h (k * 6 + 5) _ (g 5 (by omega))
    rw [e] at e'; injection e' with e'; injection e' with e1 e2 _
    subst e1; subst e2
    rw [Nat.add_assoc]; exact c1
section
variable {H : Type} {enc : TypeId × Value → H} {W : World} {base : Nat} {sp : Nat → Bool} {hd : Bool}
end
end Go.Proofs.YtonnhechjbdenaaGreatDoor

namespace Go.Proofs.YtonnhechjbdenaaGreatDoor
open Go.RowKit

/-! codes that are too large for a statement; numbers that are too many -/
def cdV (c : PCd) (A : Option Addr) (ca : Nat) : Value := .agg #[.string (mkB c.name), .int .i64 c.params, .int .i64 c.slots, .slice A c.blocks.length ca]
theorem row4A {w : World} {q : Nat} {v0 v1 v2 v3 : Value} {T : TypeId} {fz : Nat × Nat} (hrow : w.heap[q]? = some (.cells #[v0, v1, v2, v3] T fz)) :
    w.cell? ⟨q, 0, none⟩ = some v0 ∧ w.cell? ⟨q, 1, none⟩ = some v1 ∧ w.cell? ⟨q, 2, none⟩ = some v2 ∧ w.cell? ⟨q, 3, none⟩ = some v3 :=
  ⟨cell_of_row _ _ 0 _ _ _ hrow, cell_of_row _ _ 1 _ _ _ hrow, cell_of_row _ _ 2 _ _ _ hrow, cell_of_row _ _ 3 _ _ _ hrow⟩
end Go.Proofs.YtonnhechjbdenaaGreatDoor

namespace Go.Proofs.YtonnhechjbdenaaGreatDoor
open Go.RowKit

/-! maps from texts -/
def hR (v : Value) : Option (DataW Value × List MemPlace) := some (.held v, [])
theorem strKeyed : Maps.Keyed Tryz.prog 9 := Maps.string_keyed Tryz.underlying9
theorem strKey (k : List UInt8) (h : k.length ≤ 1000000) : keyOf Tryz.prog 9 (.string ⟨k.toArray⟩) = some (.string k) := by
  simpa using Go.WideMaps.keyOf_string_mk (P := Tryz.prog) Tryz.underlying9 (s := ⟨k.toArray⟩) (by simp [ByteArray.size, maxLen]; omega)
/-- Block b is a map of at most n texts; f tells what each has. -/
def MapAt (w : World) (b n : Nat) (f : List UInt8 → Option Value) : Prop :=
  ∃ D : DataW Value, w.ownsMap Tryz.prog 9 hR b n D ∧ Maps.IsMap D ∧ ∀ k : List UInt8, Maps.has D (.string k) = (f k).isSome ∧ ∀ v, f k = some v → ∀ z, D.atKey (.string k) z = .held v
theorem MapAt.lt {w : World} {b n : Nat} {f : List UInt8 → Option Value} (h : MapAt w b n f) : b < w.heap.size := by
  obtain ⟨D, ho, _⟩ := h; exact ho.lt
theorem MapAt.made (w : World) : MapAt (w.alloc (.map #[] 0)) w.heap.size 0 fun _ => none :=
  ⟨.map [], World.ownsMap_made _ _ _ _, Maps.isMap_empty, fun k => ⟨rfl, fun v h => by cases h⟩⟩
theorem MapAt.keep {w w' : World} {b n : Nat} {f : List UInt8 → Option Value} (h : MapAt w b n f) (hb : w'.heap[b]? = w.heap[b]?) : MapAt w' b n f := by
  obtain ⟨D, ⟨es, clock, h1, h2, h3, h4⟩, hm, hf⟩ := h
  exact ⟨D, ⟨es, clock, hb.trans h1, h2, h3, h4⟩, hm, hf⟩
theorem MapAt.below {w w' : World} {b n : Nat} {f : List UInt8 → Option Value} (h : MapAt w b n f) (hb : Below w.heap.size w w') : MapAt w' b n f := h.keep (hb.block b h.lt)
theorem MapAt.mono {w : World} {b n n' : Nat} {f : List UInt8 → Option Value} (h : MapAt w b n f) (hn : n ≤ n') : MapAt w b n' f := by
  obtain ⟨D, ho, hm, hf⟩ := h; exact ⟨D, ho.mono hn, hm, hf⟩
theorem MapAt.look {w : World} {b n : Nat} {f : List UInt8 → Option Value} (h : MapAt w b n f) {t e : TypeId} (ht : Tryz.prog.underlying t = some (.map 9 e)) {z : Value} (hz : (zeroValue e).run Tryz.prog w = .ok z w) (k : List UInt8) (hk : k.length ≤ 1000000) :
    (Instr.lookup t (.map (some b)) (.string (⟨k.toArray⟩ : ByteArray)) true).run Tryz.prog w = .ok (.tuple #[(f k).getD z, .bool (f k).isSome]) w := by
  obtain ⟨D, ho, _, hf⟩ := h
  obtain ⟨h1, h2⟩ := hf k
  obtain ⟨v, ps, hr, hv⟩ := ho.look_ok strKeyed ht hz (zd := .held z) (zp := []) rfl (key := .string ⟨k.toArray⟩) (kl := .string k) (strKey k hk)
  rw [hr, h1]
  have hv' : DataW.held v = D.atKey (.string k) (.held z) := congrArg Prod.fst (Option.some.inj hv)
  clear hr ho hz ht hv
  cases hfk : f k with
  | none =>
    rw [Maps.atKey_of_not_has (by rw [h1, hfk]; rfl)] at hv'
    injection hv' with e
    subst e; rfl
  | some u =>
    rw [h2 u hfk] at hv'
    injection hv' with e
    subst e; rfl
/-- What a map has behind a store. -/
def putF (f : List UInt8 → Option Value) (k : List UInt8) (v : Value) : List UInt8 → Option Value := fun x => if x = k then some v else f x
theorem MapAt.of_put {w' : World} {b n : Nat} {f : List UInt8 → Option Value} {D : DataW Value} (hm : Maps.IsMap D) (hf : ∀ k : List UInt8, Maps.has D (.string k) = (f k).isSome ∧ ∀ v, f k = some v → ∀ z, D.atKey (.string k) z = .held v) {k : List UInt8} {v : Value}
    (ho : w'.ownsMap Tryz.prog 9 hR b n (D.put (.string k) (.held v))) : MapAt w' b n (putF f k v) := by
  refine ⟨_, ho, hm.put _ _, fun x => ?_⟩
  by_cases hx : x = k
  · subst hx
    refine ⟨by rw [Maps.has_put_same hm (by trivial)]; simp [putF], fun u hu z => ?_⟩
    rw [Maps.atKey_put_same hm (by trivial)]
    simp only [putF, if_true, Option.some.injEq] at hu
    rw [hu]
  · have hne : Lit.string x ≠ Lit.string k := fun e => hx (by injection e)
    refine ⟨by rw [Maps.has_put_other hne, (hf x).1]; simp [putF, hx], fun u hu z => ?_⟩
    rw [Maps.atKey_put_other hne]
    simp only [putF, if_neg hx] at hu
    exact (hf x).2 u hu z
end Go.Proofs.YtonnhechjbdenaaGreatDoor

namespace Go.Proofs.YtonnhechjbdenaaGreatDoor
open Go.RowKit

/-! a row of codes; the place of a name -/
structure CdAt (w : World) (b off : Nat) (c : PCd) (Ai : Option Addr) (ci : Nat) : Prop where
  c0 : w.cell? ⟨b, off, none⟩ = some (.string (mkB c.name))
  c1 : w.cell? ⟨b, off + 1, none⟩ = some (.int .i64 c.params)
  c2 : w.cell? ⟨b, off + 2, none⟩ = some (.int .i64 c.slots)
  c3 : w.cell? ⟨b, off + 3, none⟩ = some (.slice Ai c.blocks.length ci)
  blocks : RdC w Ai c.blocks
theorem CdAt.keep {w w' : World} {b off : Nat} {c : PCd} {Ai : Option Addr} {ci : Nat} (h : CdAt w b off c Ai ci) (k : Keeps w w') : CdAt w' b off c Ai ci := ⟨k _ _ h.c0, k _ _ h.c1, k _ _ h.c2, k _ _ h.c3, h.blocks.keep k⟩
def RdL (w : World) (A : Option Addr) (l : List PCd) : Prop := ∀ k (hk : k < l.length), ∃ b off Ai ci, A = some ⟨b, off, none⟩ ∧ CdAt w b (off + k * 4) l[k] Ai ci
theorem RdL.keep {w w' : World} {A : Option Addr} {l : List PCd} (h : RdL w A l) (k : Keeps w w') : RdL w' A l := fun j hj => by
  obtain ⟨b, off, Ai, ci, e, hc⟩ := h j hj
  exact ⟨b, off, Ai, ci, e, hc.keep k⟩
theorem RdL.take {w : World} {A : Option Addr} {l : List PCd} (h : RdL w A l) (n : Nat) : RdL w A (l.take n) := fun j hj => by
  have hj2 : j < l.length := by rw [List.length_take] at hj; omega
  obtain ⟨b, off, Ai, ci, e, hc⟩ := h j hj2
  exact ⟨b, off, Ai, ci, e, by rw [List.getElem_take]; exact hc⟩
theorem idx1_any (c : PCd) (Ai : Option Addr) (ci q : Nat) (n : List UInt8) (w : World) (h : w.cell? ⟨q, 0, none⟩ = some (.string (mkB n))) :
    Calls Tryz.prog 70 #[.agg #[.string (mkB c.name), .int .i64 c.params, .int .i64 c.slots, .slice Ai c.blocks.length ci], .pointer (some ⟨q, 0, none⟩)] w (Ret (.bool (c.name == n)) w) := by
  have h1 : (w.alloc (.cells #[.string (mkB c.name), .int .i64 c.params, .int .i64 c.slots, .slice Ai c.blocks.length ci] 32)).cell? ⟨q, 0, none⟩ = some (.string (mkB n)) := Keeps.alloc _ _ _ _ h
  have HE : Hid (((mkB c.name).toList == (mkB n).toList) = (c.name == n)) := show _ = _ by rw [mkB_toList, mkB_toList]
  clear h
  go_enter Tryz.func70, Tryz.ntmps70
  go_wp2_with fail
  go_ret
  exact ⟨by rw [← HE.out]; rfl, grow_alloc (grow_refl _) _⟩
set_option maxRecDepth 100000 in
theorem idxCd_any (n : List UInt8) (l : List PCd) (hl : l.length ≤ 1000) (q : Nat) (A : Option Addr) (c : Nat) (w : World) (hr : RdL w A l) (h : w.cell? ⟨q, 0, none⟩ = some (.string (mkB n))) :
    Calls Tryz.prog 69 #[.slice A l.length c, .func (.func 70) #[] #[.pointer (some ⟨q, 0, none⟩)]] w (Ret (.int .i64 (firstCd n l 0)) w) := by
  have HR := Lib.hid hr
  have HQ := Lib.hid h
  clear hr h
  go_enter Tryz.func69, Tryz.ntmps69
  go_wp2_with fail
  go_loopw [5, 8] (fun _ i wr => ∃ k : Nat, k ≤ l.length ∧ i = .int .i64 k ∧ firstCd n l 0 = firstCd n (l.drop k) k ∧ Below w.heap.size w wr) (fun _ i _ => l.length - (intOf i).toNat)
  case atStart => exact ⟨0, Nat.zero_le _, rfl, by simp, grow_refl _⟩
  case round =>
    obtain ⟨k, hk, rfl, hI, hbel⟩ := hrel
    have HI := Lib.hid hI
    clear hI
    by_cases hlt : k < l.length
    · obtain ⟨b, off, Ai, ci, rfl, hc⟩ := (HR.out.keep (Keeps.of_below hbel)) k hlt
      obtain ⟨c0, c1, c2, c3, -⟩ := hc
      have hlt' : (k : Int) < (l.length : Int) := by omega
      have HS := Lib.hid (firstCd_drop (n := n) hlt)
      have HN := Lib.hid (idx1_any l[k] Ai ci q n wr (Keeps.of_below hbel _ _ HQ.out))
      cases hn : (l[k].name == n)
      · rw [hn] at HN HS
        have HF : Hid (firstCd n l 0 = firstCd n (l.drop (k + 1)) (k + 1)) := show _ = _ from HI.out.trans HS.out
        clear hn
        go_wp2_with (go_at_call 70; (with_reducible refine HN.out.mono ?_); rintro y w1 ⟨rfl, hb1⟩)
        go_roundw
        case rel => exact ⟨k + 1, by omega, by go_num, HF.out, grow_trans hbel hb1⟩
        case measure => simp [intOf]; omega
      · rw [hn] at HN HS
        have HF : Hid (firstCd n l 0 = (k : Int)) := show _ = _ from HI.out.trans HS.out
        clear hn
        go_wp2_with (go_at_call 70; (with_reducible refine HN.out.mono ?_); rintro y w1 ⟨rfl, hb1⟩)
        go_ret
        exact ⟨by rw [HF.out]; rfl, grow_trans hbel hb1⟩
    · have hk' : k = l.length := by omega
      subst hk'
      go_wp2_with fail
      go_ret
      exact ⟨by rw [HI.out, List.drop_length]; rfl, hbel⟩
theorem eindex_any (n : List UInt8) (l : List PCd) (hl : l.length ≤ 1000) (A : Option Addr) (c : Nat) (w : World) (hr : RdL w A l) :
    Calls Tryz.prog 47 #[.slice A l.length c, .string (mkB n)] w (Ret (.int .i64 (firstCd n l 0)) w) := by
  obtain ⟨bx, hbx⟩ : ∃ bx, w.alloc (.cells #[.string (mkB n)] 9) = bx := ⟨_, rfl⟩
  have hb : Below w.heap.size w bx := by rw [← hbx]; exact grow_alloc (grow_refl _) _
  have hn0 : bx.heap[w.heap.size]? = some (.cells #[.string (mkB n)] 9 (0, 0)) := by rw [← hbx]; exact heap_alloc_new w _
  have HC : Hid (Calls Tryz.prog 69 #[.slice A l.length c, .func (.func 70) #[] #[.pointer (some ⟨w.heap.size, 0, none⟩)]] bx (Ret (.int .i64 (firstCd n l 0)) bx)) :=
    idxCd_any n l hl w.heap.size A c bx (hr.keep (Keeps.of_below hb)) (cell_of_row _ _ 0 _ _ _ hn0)
  have HB := Lib.hid hb
  have HBX := Lib.hid hbx
  clear hr hb hbx hn0
  go_enter Tryz.func47, Tryz.ntmps47
  go_upto_region 1 with fail
  change Code.wp _ _ _ _ (w.alloc (.cells #[.string (mkB n)] 9))
  rw [HBX.out]
  go_wp2_with (go_at_call 69; (with_reducible refine HC.out.mono ?_); rintro y w1 ⟨rfl, hb1⟩)
  go_ret
  exact ⟨rfl, grow_trans HB.out hb1⟩
end Go.Proofs.YtonnhechjbdenaaGreatDoor
