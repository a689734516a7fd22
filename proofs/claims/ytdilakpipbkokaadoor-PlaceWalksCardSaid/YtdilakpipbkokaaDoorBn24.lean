import Derived.Maps.Own
import Derived.Maps.OwnOps
import Derived.Maps.Views
import Derived.Test.YtdilakpipbkokaaDoorBn15
import Derived.Test.YtdilakpipbkokaaDoorBn10
import Derived.Test.YtdilakpipbkokaaDoorBn7
set_option linter.unusedVariables false
set_option linter.unusedSimpArgs false
namespace Go.Proofs.YtdilakpipbkokaaDoor
open Go.RowKit

/-! what a block makes -/
def mksW (b : PBk) (n : Nat) : List Int := b.params ++ ((b.ins.take n).filter fun x => madeW x.kind).map (·.d)
theorem mksW_step {b : PBk} {n : Nat} (h : n < b.ins.length) : mksW b (n + 1) = if madeW b.ins[n].kind = true then mksW b n ++ [b.ins[n].d] else mksW b n := by
  unfold mksW
  rw [List.take_succ_eq_append_getElem h, List.filter_append, List.map_append]
  cases hm : madeW b.ins[n].kind <;> simp [hm]
theorem mksW_le (b : PBk) (n : Nat) : (mksW b n).length ≤ b.params.length + b.ins.length := by
  unfold mksW
  rw [List.length_append, List.length_map]
  have h1 := List.length_filter_le (fun x : PIn => madeW x.kind) (b.ins.take n)
  have h2 := List.length_take_le n b.ins
  have h3 : (b.ins.take n).length ≤ b.ins.length := by rw [List.length_take]; omega
  omega
def MakesP (b : PBk) (w : World) : Ending → World → Prop := fun e w' => ∃ A c, e = .returned (.slice A (makesW b).length c) ∧ Row w' A (intVs (makesW b)) ∧ Below w.heap.size w w'
set_option maxRecDepth 100000 in
set_option maxHeartbeats 8000000 in
theorem makes_any (b : PBk) (hs : PSm b) (P : Option Addr) (p : Nat) (I : Option Addr) (i : Nat) (T : Option Addr) (t : Nat) (W : Option Addr) (wc : Nat) (w : World) (hr : BkRows w b P I T W) :
    Calls Tryd.prog 35 #[bkV b P p I i T t W wc] w (MakesP b w) := by
  obtain ⟨bb, hbb⟩ : ∃ bb, w.heap.size = bb := ⟨_, rfl⟩
  obtain ⟨wB, hwB⟩ : ∃ wB, w.alloc (.cells #[.slice P b.params.length p, .slice I b.ins.length i, .string (mkB b.fin), .int .i64 b.v, .slice T b.nx.length t, .slice W b.wth.length wc] 56) = wB := ⟨_, rfl⟩
  have hbB : Below w.heap.size w wB := by rw [← hwB]; exact grow_alloc (grow_refl _) _
  have m1 : wB.heap[bb]? = some (.cells #[.slice P b.params.length p, .slice I b.ins.length i, .string (mkB b.fin), .int .i64 b.v, .slice T b.nx.length t, .slice W b.wth.length wc] 56 (0, 0)) := by
    rw [← hwB, ← hbb]
    exact heap_alloc_new w _
  have HX : Hid (∀ w', Below wB.heap.size wB w' →
      (w'.cell? ⟨bb, 0, none⟩ = some (.slice P b.params.length p) ∧ w'.cell? ⟨bb, 1, none⟩ = some (.slice I b.ins.length i) ∧ w'.cell? ⟨bb, 2, none⟩ = some (.string (mkB b.fin)) ∧ w'.cell? ⟨bb, 3, none⟩ = some (.int .i64 b.v) ∧ w'.cell? ⟨bb, 4, none⟩ = some (.slice T b.nx.length t) ∧ w'.cell? ⟨bb, 5, none⟩ = some (.slice W b.wth.length wc)) ∧
      RdL 5 GoodI w' b.ins I ∧ Below w.heap.size w w') := fun w' hb =>
    have f := fun {k : Nat} {o : Obj} (h : wB.heap[k]? = some o) => (hb.block k (Array.getElem?_eq_some_iff.1 h).1).trans h
    ⟨row6B (f m1), hr.ins.keep (Keeps.of_below (grow_trans hbB hb)) fun _ _ => GoodI.keep (Keeps.of_below (grow_trans hbB hb)), grow_trans hbB hb⟩
  have hl20 := hs.ins
  have hp10 := hs.params
  obtain ⟨⟨b0, b1, b2, b3, b4, b5⟩, -, -⟩ := HX.out wB (grow_refl _)
  have HC := Lib.hid (cloneI_any b.params (by omega) P p wB (hr.params.keep (Keeps.of_below hbB)))
  have HM : Hid (∀ k w', Calls Tryd.prog 57 #[.string (mkB k)] w' fun e w'' => e = .returned (.bool (madeW k)) ∧ w'' = w') := made_any
  have HWB := Lib.hid hwB
  have HBB := Lib.hid hbb
  have HMK : Hid (mksW b 0 = b.params) := show _ = _ by simp [mksW]
  have HLE := Lib.hid (mksW_le b)
  obtain ⟨Q, hQ⟩ : ∃ Q, MakesP b w = Q := ⟨_, rfl⟩
  have HQ := Lib.hid hQ
  rw [hQ]
  unfold bkV
  clear hr hs hwB hbB m1 hbb hQ
  go_enter Tryd.func35, Tryd.ntmps35
  go_upto_region 1 with fail
  change Code.wp _ _ _ _ (w.alloc (.cells #[.slice P b.params.length p, .slice I b.ins.length i, .string (mkB b.fin), .int .i64 b.v, .slice T b.nx.length t, .slice W b.wth.length wc] 56))
  rw [HWB.out, HBB.out]
  go_wp2_with (go_at_call 61; (with_reducible refine HC.out.mono ?_); rintro y w1 ⟨A1, c1, rfl, ho1, hb1⟩; obtain ⟨⟨b0, b1, b2, b3, b4, b5⟩, -, -⟩ := HX.out _ hb1; have HO1 := Lib.hid ho1; clear ho1)
  go_loopw [3, 5, 12] (fun out _ k wr => ∃ (n : Nat) (l : List Int) (A' : Option Addr) (c' : Nat), n ≤ b.ins.length ∧ k = .int .i64 n ∧ out = .slice A' l.length c' ∧ wr.ownsRow wB.heap.size 3 1 (.slice A' l.length c') l.length (intVs l) ∧ l = mksW b n ∧ Below wB.heap.size wB wr) (fun _ _ k _ => b.ins.length - (intOf k).toNat)
  case atStart => exact ⟨0, b.params, A1, c1, Nat.zero_le _, rfl, rfl, HO1.out, HMK.out.symm, hb1⟩
  case round =>
    obtain ⟨n, l, A', c', hn, rfl, rfl, hown, hl, hbel⟩ := hrel
    have HL := Lib.hid hl
    have HO := Lib.hid hown
    have hll : l.length < 100000 := by have := HLE.out n; rw [← hl] at this; omega
    clear hl hown b0 b1 b2 b3 b4 b5
    obtain ⟨⟨b0, b1, b2, b3, b4, b5⟩, hI, -⟩ := HX.out wr hbel
    by_cases hlt : n < b.ins.length
    · have hlt' : (n : Int) < (b.ins.length : Int) := by omega
      obtain ⟨b9, off, A5, c5, rfl, hx⟩ := ins_at hI hlt
      have HD := Lib.hid (mksW_step hlt)
      obtain ⟨x, hxe⟩ : ∃ x, b.ins[n] = x := ⟨_, rfl⟩
      rw [hxe] at hx HD
      obtain ⟨c0, c1, c2, c3, c4, -⟩ := hx
      obtain ⟨q, hq⟩ : ∃ q, wr.heap.size = q := ⟨_, rfl⟩
      obtain ⟨wL, hwL⟩ : ∃ wL, wr.alloc (.cells #[.string (mkB x.kind), .int .i64 x.d, .slice A5 x.args.length c5, .int .i64 x.num, .string (mkB x.name)] 52) = wL := ⟨_, rfl⟩
      have hbL : Below wr.heap.size wr wL := by rw [← hwL]; exact grow_alloc (grow_refl _) _
      have mL : wL.heap[q]? = some (.cells #[.string (mkB x.kind), .int .i64 x.d, .slice A5 x.args.length c5, .int .i64 x.num, .string (mkB x.name)] 52 (0, 0)) := by rw [← hwL, ← hq]; exact heap_alloc_new wr _
      have HOL : Hid (wL.ownsRow wB.heap.size 3 1 (.slice A' l.length c') l.length (intVs l)) := by rw [← hwL]; exact World.ownsRow.alloc HO.out _
      have HBL := Lib.hid (grow_trans hbel hbL)
      have HZL : Hid (wB.heap.size ≤ wL.heap.size) := HBL.out.size
      have hm0 := HM.out x.kind wL
      obtain ⟨vm, hvm⟩ : ∃ z, madeW x.kind = z := ⟨_, rfl⟩
      rw [hvm] at hm0 HD
      have HMM := Lib.hid hm0
      have HWL := Lib.hid hwL
      have HQL := Lib.hid hq
      have HML := Lib.hid mL
      clear hm0 hvm hxe hq hwL hbL mL hI
      go_upto_region 5 with fail
      try change Code.wp _ _ _ _ (wr.alloc (.cells #[.string (mkB x.kind), .int .i64 x.d, .slice A5 x.args.length c5, .int .i64 x.num, .string (mkB x.name)] 52))
      rw [HQL.out, HWL.out]
      clear c0 c1 c2 c3 c4 b0 b1 b2 b3 b4 b5
      obtain ⟨c0, c1, c2, c3, c4⟩ := row5B HML.out
      cases vm
      · have HF : Hid (l = mksW b (n + 1)) := show _ = _ by rw [HD.out, HL.out]; simp
        go_wp2_with (go_at_call 57; (with_reducible refine HMM.out.mono ?_); rintro y w2 ⟨rfl, rfl⟩)
        go_roundw
        case rel => exact ⟨n + 1, l, A', c', by omega, by go_num, rfl, HOL.out, HF.out, HBL.out⟩
        case measure => simp [intOf]; omega
      · have HF : Hid (l ++ [x.d] = mksW b (n + 1)) := show _ = _ by rw [HD.out, HL.out]; simp
        go_wp2_with (first
          | (go_at_call 57; (with_reducible refine HMM.out.mono ?_); rintro y w2 ⟨rfl, rfl⟩)
          | (at_builtin; (refine wpList_push_int rfl _ _ rfl wB.heap.size _ l rfl HOL.out x.d rfl hll HZL.out ?_; intro A2 c2 w9 hown9 hbel9; have H9 := Lib.hid hown9; have HB9 := Lib.hid (hbel9 _ _ (Nat.le_refl _) HBL.out); clear hown9 hbel9)))
        go_roundw
        case rel => exact ⟨n + 1, l ++ [x.d], A2, c2, by omega, by go_num, by simp, by simpa using H9.out, HF.out, HB9.out⟩
        case measure => simp [intOf]; omega
    · have hn' : n = b.ins.length := by omega
      have HF : Hid (l = makesW b) := show _ = _ by rw [HL.out, hn']; simp [mksW, makesW]
      subst hn'
      clear hI
      go_wp2_with fail
      rw [← HQ.out]
      obtain ⟨A3, c3, e3, -, hr3⟩ := owns_rowG HO.out
      injection e3 with e3 _ e4
      subst e3
      subst e4
      refine ⟨A', c', by rw [← HF.out]; rfl, by rw [← HF.out]; exact hr3, (HX.out _ hbel).2.2⟩
end Go.Proofs.YtdilakpipbkokaaDoor

namespace Go.Proofs.YtdilakpipbkokaaDoor
open Go.RowKit Go.Maps

/-! a map that is a set of numbers -/
theorem keyI : Keyed Tryd.prog 3 := int_keyed Tryd.underlying3
theorem zeroBool (w : World) : (zeroValue 4).run Tryd.prog w = .ok (.bool false) w := by kernel_rfl
theorem plainElem_bool_inv {H : Type} {P : Program} {e : TypeId} (he : P.underlying e = some .bool) {v : Value} {z : DataW H × List MemPlace} (h : plainElem P e v = some z) : ∃ x, v = .bool x ∧ z = (.lit (.bool x), []) := by
  unfold plainElem at h
  rw [he] at h
  cases v <;> simp at h
  subst h
  exact ⟨_, rfl, rfl⟩
def OwnSet (w : World) (B n : Nat) (m : List Int) : Prop := ∃ D : DataW Unit, w.ownsMap Tryd.prog 3 (plainElem Tryd.prog 4) B n D ∧ IsMap D ∧ ∀ v, D.atKey (.int .i64 v) (.lit (.bool false)) = .lit (.bool (m.contains v))
theorem OwnSet.made (w : World) : OwnSet (w.alloc (.map #[] 0)) w.heap.size 0 [] :=
  ⟨_, World.ownsMap_made w _ _ _, ⟨[], rfl⟩, fun v => rfl⟩
theorem OwnSet.kept {w w' : World} {B n : Nat} {m : List Int} (h : OwnSet w B n m) {row : Option Nat} (hg : w.grownBy w' row) (hne : some B ≠ row) : OwnSet w' B n m := by
  obtain ⟨D, h1, h2, h3⟩ := h
  exact ⟨D, h1.kept hg hne, h2, h3⟩
theorem OwnSet.below {w w' : World} {B n : Nat} {m : List Int} (h : OwnSet w B n m) (hb : Below w.heap.size w w') : OwnSet w' B n m :=
  h.kept (row := none) ⟨hb.os, hb.tape, hb.output, hb.size, fun k hk _ => hb.block k hk⟩ (by simp)
theorem OwnSet.lt {w : World} {B n : Nat} {m : List Int} (h : OwnSet w B n m) : B < w.heap.size := by
  obtain ⟨D, h1, -⟩ := h
  exact h1.lt
theorem OwnSet.mono {w : World} {B n n' : Nat} {m : List Int} (h : OwnSet w B n m) (hn : n ≤ n') : OwnSet w B n' m := by
  obtain ⟨D, h1, h2⟩ := h
  exact ⟨D, h1.mono hn, h2⟩
/-- 'm[k]' at the operation. -/
theorem wpList_lookup_set (w : World) {ops : Array Oper} {rest : List Oper} {o : Oper} {a : Act} {Q : Exit → Act → World → Prop}
    (hg : o.guard = none) (m x : Operand) (hop : o.op = Op.lookup 69 m x false) (B n : Nat) (s : List Int)
    (hm : a.eval m = .map (some B)) (hown : OwnSet w B n s) (v : Int) (hx : a.eval x = .int .i64 v) (hv : (Lit.int .i64 v).wf = true)
    (hK : wpList Tryd.prog ops Q rest (a.put o.dst (.bool (s.contains v))) w) :
    wpList Tryd.prog ops Q (o :: rest) a w := by
  obtain ⟨D, h1, -, h3⟩ := hown
  refine wpList_plain hg fun K' hK' => ?_
  obtain ⟨c, ps, hrun, hc⟩ := h1.lookup keyI Tryd.underlying69 (zeroBool w) (plainElem_bool Tryd.underlying4 false) (keyOf_int_mk Tryd.underlying3 hv)
  obtain ⟨y, rfl, hy⟩ := plainElem_bool_inv Tryd.underlying4 hc
  rw [h3 v] at hy
  generalize s.contains v = cc at hy hK
  have hyy : cc = y := by
    have h5 := congrArg Prod.fst hy
    simpa using h5
  subst hyy
  unfold Oper.wp
  simp [execOp, hop, hm, hx, hrun, Result.andThen]
  exact hK' _ _ hK
/-- 'm[k] = true' at the operation. -/
theorem wpList_update_set (w : World) {ops : Array Oper} {rest : List Oper} {o : Oper} {a : Act} {Q : Exit → Act → World → Prop}
    (hg : o.guard = none) (m x y : Operand) (hop : o.op = Op.mapUpdate 69 m x y) (B n : Nat) (s : List Int)
    (hm : a.eval m = .map (some B)) (hown : OwnSet w B n s) (hn : n < maxLen) (v : Int) (hx : a.eval x = .int .i64 v) (hy : a.eval y = .bool true) (hv : (Lit.int .i64 v).wf = true)
    (hK : ∀ w', OwnSet w' B (n + 1) (v :: s) → w.grownBy w' (some B) → wpList Tryd.prog ops Q rest (a.put o.dst undef) w') :
    wpList Tryd.prog ops Q (o :: rest) a w := by
  obtain ⟨D, h1, h2, h3⟩ := hown
  have hk : keyOf Tryd.prog 3 (.int .i64 v) = some (.int .i64 v) := keyOf_int_mk Tryd.underlying3 hv
  refine wpList_mapUpdate_own w hg m x y 69 hop 3 4 keyI Tryd.underlying69 (plainElem Tryd.prog 4) B n D hm h1 hn _ _ _ hx hy hk _ _ (plainElem_bool Tryd.underlying4 true) fun w' g1 g2 => hK w' ⟨_, g1, h2.put _ _, fun u => ?_⟩ g2
  by_cases hu : u = v
  · subst hu
    rw [atKey_put_same h2 (keyI.key hk)]
    simp
  · rw [atKey_put_other (by intro e; injection e with _ e; exact hu e), h3 u]
    have : (u == v) = false := by simpa using hu
    rw [List.contains_cons, this, Bool.false_or]
end Go.Proofs.YtdilakpipbkokaaDoor
