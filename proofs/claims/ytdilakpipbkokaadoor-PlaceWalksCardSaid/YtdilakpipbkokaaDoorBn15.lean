import Derived.BigRegion
import Derived.Deep.QuietTactic
import Derived.Test.YtdilakpipbkokaaDoorBn14
import Derived.Test.YtdilakpipbkokaaDoorBn6
set_option linter.unusedVariables false
set_option linter.unusedSimpArgs false
namespace Go.Proofs.YtdilakpipbkokaaDoor
open Go.RowKit

/-! bounds of a block (printed by gen_plf.py) -/
def coV (c : PCo) (A : Option Addr) (ca : Nat) : Value := .agg #[.string (mkB c.name), .int .i64 c.params, .int .i64 c.values, .slice A c.blocks.length ca]
def coO (c : PCo) (A : Option Addr) (ca : Nat) : Obj := .cells #[.string (mkB c.name), .int .i64 c.params, .int .i64 c.values, .slice A c.blocks.length ca] 31
/-- A block is not too great for a statement. -/
structure PSm (b : PBk) : Prop where
  ins : b.ins.length ≤ 20
  params : b.params.length ≤ 10
  nx : b.nx.length ≤ 4
  wth : b.wth.length ≤ 4
  fin : b.fin.length ≤ 20
  each : ∀ x ∈ b.ins, x.args.length ≤ 8 ∧ x.kind.length ≤ 20 ∧ x.name.length ≤ 20
  wths : ∀ l ∈ b.wth, l.length ≤ 12
/-- What a block's slices show. -/
structure BkRows (w : World) (b : PBk) (P I T W : Option Addr) : Prop where
  params : Row w P (intVs b.params)
  ins : RdL 5 GoodI w b.ins I
  nx : Row w T (intVs b.nx)
  wth : RdL 1 GoodL w b.wth W
theorem BkRows.keep {w w' : World} {b : PBk} {P I T W : Option Addr} (h : BkRows w b P I T W) (k : Keeps w w') : BkRows w' b P I T W :=
  ⟨h.params.keep k, h.ins.keep k fun _ _ => GoodI.keep k, h.nx.keep k, h.wth.keep k fun _ _ => GoodL.keep k⟩
theorem row6B {w : World} {q : Nat} {v0 v1 v2 v3 v4 v5 : Value} {T : TypeId} {fz : Nat × Nat} (hrow : w.heap[q]? = some (.cells #[v0, v1, v2, v3, v4, v5] T fz)) :
    w.cell? ⟨q, 0, none⟩ = some v0 ∧ w.cell? ⟨q, 1, none⟩ = some v1 ∧ w.cell? ⟨q, 2, none⟩ = some v2 ∧ w.cell? ⟨q, 3, none⟩ = some v3 ∧ w.cell? ⟨q, 4, none⟩ = some v4 ∧ w.cell? ⟨q, 5, none⟩ = some v5 :=
  ⟨cell_of_row _ _ 0 _ _ _ hrow, cell_of_row _ _ 1 _ _ _ hrow, cell_of_row _ _ 2 _ _ _ hrow, cell_of_row _ _ 3 _ _ _ hrow, cell_of_row _ _ 4 _ _ _ hrow, cell_of_row _ _ 5 _ _ _ hrow⟩
theorem row5B {w : World} {q : Nat} {v0 v1 v2 v3 v4 : Value} {T : TypeId} {fz : Nat × Nat} (hrow : w.heap[q]? = some (.cells #[v0, v1, v2, v3, v4] T fz)) :
    w.cell? ⟨q, 0, none⟩ = some v0 ∧ w.cell? ⟨q, 1, none⟩ = some v1 ∧ w.cell? ⟨q, 2, none⟩ = some v2 ∧ w.cell? ⟨q, 3, none⟩ = some v3 ∧ w.cell? ⟨q, 4, none⟩ = some v4 :=
  ⟨cell_of_row _ _ 0 _ _ _ hrow, cell_of_row _ _ 1 _ _ _ hrow, cell_of_row _ _ 2 _ _ _ hrow, cell_of_row _ _ 3 _ _ _ hrow, cell_of_row _ _ 4 _ _ _ hrow⟩
theorem row4B {w : World} {q : Nat} {v0 v1 v2 v3 : Value} {T : TypeId} {fz : Nat × Nat} (hrow : w.heap[q]? = some (.cells #[v0, v1, v2, v3] T fz)) :
    w.cell? ⟨q, 0, none⟩ = some v0 ∧ w.cell? ⟨q, 1, none⟩ = some v1 ∧ w.cell? ⟨q, 2, none⟩ = some v2 ∧ w.cell? ⟨q, 3, none⟩ = some v3 :=
  ⟨cell_of_row _ _ 0 _ _ _ hrow, cell_of_row _ _ 1 _ _ _ hrow, cell_of_row _ _ 2 _ _ _ hrow, cell_of_row _ _ 3 _ _ _ hrow⟩
def bkLast (c : PCo) (b : PBk) : Bool := okVs c b.params && (((b.fin == eJump) || okV c b.v) && !farTo c.blocks.length b.nx)
theorem bkBounds_eq (c : PCo) (b : PBk) : bkBounds c b = (b.ins.all (inBound c) && (b.wth.all (okVs c) && bkLast c b)) := by
  unfold bkBounds bkLast
  simp only [Bool.and_assoc]
theorem all_dropP {α : Type} {P : α → Bool} {l : List α} {k : Nat} (h : k < l.length) : (l.drop k).all P = (P l[k] && (l.drop (k + 1)).all P) := by
  rw [List.drop_eq_getElem_cons h, List.all_cons]
theorem inBound_eq (c : PCo) (x : PIn) : inBound c x = (okVs c x.args && ((!madeW x.kind || okV c x.d) && (!(x.kind == kParam) || (decide (0 ≤ x.num) && decide (x.num < c.params))))) := by
  unfold inBound
  simp only [Bool.and_assoc]
set_option maxRecDepth 100000 in
set_option maxHeartbeats 8000000 in
theorem bounds_any (c : PCo) (A : Option Addr) (ca : Nat) (b : PBk) (hs : PSm b) (P : Option Addr) (p : Nat) (I : Option Addr) (i : Nat) (T : Option Addr) (t : Nat) (W : Option Addr) (wc : Nat) (w : World) (hr : BkRows w b P I T W) :
    Calls Tryd.prog 33 #[coV c A ca, bkV b P p I i T t W wc] w (Ret (.bool (bkBounds c b)) w) := by
  obtain ⟨cb, hcb⟩ : ∃ cb, w.heap.size = cb := ⟨_, rfl⟩
  obtain ⟨bb, hbb⟩ : ∃ bb, cb + 1 = bb := ⟨_, rfl⟩
  obtain ⟨vb, hvb⟩ : ∃ vb, bb + 1 = vb := ⟨_, rfl⟩
  obtain ⟨wB, hwB⟩ : ∃ wB, (w.alloc (.cells #[.string (mkB c.name), .int .i64 c.params, .int .i64 c.values, .slice A c.blocks.length ca] 31)).alloc (.cells #[.slice P b.params.length p, .slice I b.ins.length i, .string (mkB b.fin), .int .i64 b.v, .slice T b.nx.length t, .slice W b.wth.length wc] 56) = wB := ⟨_, rfl⟩
  obtain ⟨wC, hwC⟩ : ∃ wC, wB.alloc (.cells #[.func (.func 53) #[] #[.pointer (some ⟨cb, 0, none⟩)]] 116) = wC := ⟨_, rfl⟩
  have hsB : wB.heap.size = vb := by rw [← hwB, ← hvb, ← hbb, ← hcb]; simp
  have hbB : Below w.heap.size w wB := by rw [← hwB]; exact grow_alloc (grow_alloc (grow_refl _) _) _
  have hbC : Below w.heap.size w wC := by rw [← hwC]; exact grow_alloc hbB _
  have m0 : wC.heap[cb]? = some (.cells #[.string (mkB c.name), .int .i64 c.params, .int .i64 c.values, .slice A c.blocks.length ca] 31 (0, 0)) := by
    rw [← hwC, ← hcb]
    refine (old_block _ _ (by rw [hsB, ← hvb, ← hbb]; omega)).trans ?_
    rw [← hwB]
    exact (old_block _ _ (by simp)).trans (heap_alloc_new w _)
  have m1 : wC.heap[bb]? = some (.cells #[.slice P b.params.length p, .slice I b.ins.length i, .string (mkB b.fin), .int .i64 b.v, .slice T b.nx.length t, .slice W b.wth.length wc] 56 (0, 0)) := by
    rw [← hwC, ← hbb, ← hcb]
    refine (old_block _ _ (by rw [hsB, ← hvb, ← hbb]; omega)).trans ?_
    rw [← hwB]
    exact new_block _ _ (by simp)
  have m2 : wC.heap[vb]? = some (.cells #[.func (.func 53) #[] #[.pointer (some ⟨cb, 0, none⟩)]] 116 (0, 0)) := by
    rw [← hwC]
    exact new_block _ _ (by rw [hsB])
  have HX : Hid (∀ w', Below wC.heap.size wC w' → (w'.cell? ⟨cb, 0, none⟩ = some (.string (mkB c.name)) ∧ w'.cell? ⟨cb, 1, none⟩ = some (.int .i64 c.params) ∧ w'.cell? ⟨cb, 2, none⟩ = some (.int .i64 c.values) ∧ w'.cell? ⟨cb, 3, none⟩ = some (.slice A c.blocks.length ca)) ∧ (w'.cell? ⟨bb, 0, none⟩ = some (.slice P b.params.length p) ∧ w'.cell? ⟨bb, 1, none⟩ = some (.slice I b.ins.length i) ∧ w'.cell? ⟨bb, 2, none⟩ = some (.string (mkB b.fin)) ∧ w'.cell? ⟨bb, 3, none⟩ = some (.int .i64 b.v) ∧ w'.cell? ⟨bb, 4, none⟩ = some (.slice T b.nx.length t) ∧ w'.cell? ⟨bb, 5, none⟩ = some (.slice W b.wth.length wc)) ∧ w'.cell? ⟨vb, 0, none⟩ = some (.func (.func 53) #[] #[.pointer (some ⟨cb, 0, none⟩)]) ∧ BkRows w' b P I T W ∧ Below w.heap.size w w') := fun w' hb =>
    have f := fun {k : Nat} {o : Obj} (h : wC.heap[k]? = some o) => (hb.block k (Array.getElem?_eq_some_iff.1 h).1).trans h
    ⟨row4B (f m0), row6B (f m1), cell_of_row _ _ 0 _ _ _ (f m2), hr.keep (Keeps.of_below (grow_trans hbC hb)), grow_trans hbC hb⟩
  have HWB := Lib.hid hwB
  have HWC := Lib.hid hwC
  have HSB := Lib.hid hsB
  have HS := Lib.hid hs
  have hl20 := hs.ins
  have hw4 := hs.wth
  obtain ⟨⟨i0, i1, i2, i3⟩, ⟨b0, b1, b2, b3, b4, b5⟩, v0, -, -⟩ := HX.out wC (grow_refl _)
  have HEQ : Hid (bkBounds c b = (b.ins.all (inBound c) && (b.wth.all (okVs c) && bkLast c b))) := show _ = _ from bkBounds_eq c b
  -- contracts at any world behind
  have HVS : Hid (∀ (l : List Int) (Z : Option Addr) (z : Nat) (w' : World), l.length ≤ 100000 → Row w' Z (intVs l) → Below wC.heap.size wC w' → Calls Tryd.prog 54 #[.slice Z l.length z, .pointer (some ⟨vb, 0, none⟩)] w' (Sm (.bool (okVs c l)) w')) := fun l Z z w' hl hz hb =>
    vals_any c l hl Z z cb vb w' hz (HX.out w' hb).1.2.2.1 (HX.out w' hb).2.2.1
  have HV1 : Hid (∀ (n : Int) (w' : World), Below wC.heap.size wC w' → Calls Tryd.prog 53 #[.int .i64 n, .pointer (some ⟨cb, 0, none⟩)] w' (Sm (.bool (okV c n)) w')) := fun n w' hb =>
    val1_any c n cb w' (HX.out w' hb).1.2.2.1
  have HFA : Hid (∀ (l : List Int) (Z : Option Addr) (z : Nat) (w' : World), l.length ≤ 100000 → Row w' Z (intVs l) → Below wC.heap.size wC w' → Calls Tryd.prog 55 #[.slice Z l.length z, .func (.func 58) #[] #[.pointer (some ⟨cb, 0, none⟩)]] w' (Sm (.bool (farTo c.blocks.length l)) w')) := fun l Z z w' hl hz hb =>
    far_any c l hl Z z cb A ca w' hz (HX.out w' hb).1.2.2.2
  have HCB := Lib.hid hcb
  have HBB := Lib.hid hbb
  have HVB := Lib.hid hvb
  unfold coV bkV
  clear hr hs hwB hwC hsB hbB hbC m0 m1 m2 hcb hbb hvb
  go_enter Tryd.func33, Tryd.ntmps33
  go_upto_region 1 with fail
  change Code.wp _ _ _ _ ((w.alloc (.cells #[.string (mkB c.name), .int .i64 c.params, .int .i64 c.values, .slice A c.blocks.length ca] 31)).alloc (.cells #[.slice P b.params.length p, .slice I b.ins.length i, .string (mkB b.fin), .int .i64 b.v, .slice T b.nx.length t, .slice W b.wth.length wc] 56))
  rw [HWB.out, HCB.out, HBB.out]
  go_upto_region 2 with fail
  rw [HSB.out]
  change Code.wp _ _ _ _ (wB.alloc (.cells #[.func (.func 53) #[] #[.pointer (some ⟨cb, 0, none⟩)]] 116))
  rw [HWC.out]
  go_wp2_with fail
  go_loopw [8, 17] (fun _ k wr => ∃ n : Nat, n ≤ b.ins.length ∧ k = .int .i64 n ∧ bkBounds c b = ((b.ins.drop n).all (inBound c) && (b.wth.all (okVs c) && bkLast c b)) ∧ Below wC.heap.size wC wr) (fun _ k _ => b.ins.length - (intOf k).toNat)
  case atStart => exact ⟨0, Nat.zero_le _, rfl, by rw [HEQ.out]; rfl, grow_refl _⟩
  case round =>
    obtain ⟨n, hn, rfl, hI, hbel⟩ := hrel
    have HI := Lib.hid hI
    clear hI i0 i1 i2 i3 b0 b1 b2 b3 b4 b5 v0
    obtain ⟨⟨i0, i1, i2, i3⟩, ⟨b0, b1, b2, b3, b4, b5⟩, v0, hR, hBW⟩ := HX.out wr hbel
    by_cases hlt : n < b.ins.length
    · have hlt' : (n : Int) < (b.ins.length : Int) := by omega
      obtain ⟨b9, off, A5, c5, rfl, hx⟩ := ins_at hR.ins hlt
      have hargs : (b.ins[n]).args.length ≤ 100000 := by have := (HS.out.each _ (List.getElem_mem hlt)).1; omega
      have HD := Lib.hid (all_dropP (P := inBound c) hlt)
      obtain ⟨x, hxe⟩ : ∃ x, b.ins[n] = x := ⟨_, rfl⟩
      rw [hxe] at hx hargs HD
      obtain ⟨c0, c1, c2, c3, c4, hrow⟩ := hx
      obtain ⟨q, hq⟩ : ∃ q, wr.heap.size = q := ⟨_, rfl⟩
      obtain ⟨wL, hwL⟩ : ∃ wL, wr.alloc (.cells #[.string (mkB x.kind), .int .i64 x.d, .slice A5 x.args.length c5, .int .i64 x.num, .string (mkB x.name)] 52) = wL := ⟨_, rfl⟩
      have hbL : Below wr.heap.size wr wL := by rw [← hwL]; exact grow_alloc (grow_refl _) _
      have mL : wL.heap[q]? = some (.cells #[.string (mkB x.kind), .int .i64 x.d, .slice A5 x.args.length c5, .int .i64 x.num, .string (mkB x.name)] 52 (0, 0)) := by rw [← hwL, ← hq]; exact heap_alloc_new wr _
      have hbel2 := grow_trans hbel hbL
      have hA0 := HVS.out x.args A5 c5 wL hargs (hrow.keep (Keeps.of_below hbL)) hbel2
      obtain ⟨va, hva⟩ : ∃ z, okVs c x.args = z := ⟨_, rfl⟩
      obtain ⟨vm, hvm⟩ : ∃ z, madeW x.kind = z := ⟨_, rfl⟩
      obtain ⟨vd, hvd⟩ : ∃ z, okV c x.d = z := ⟨_, rfl⟩
      obtain ⟨vk, hvk⟩ : ∃ z, (x.kind == kParam) = z := ⟨_, rfl⟩
      have e1 : ((mkB x.kind).toList == [112, 97, 114, 97, 109]) = vk := by rw [mkB_eq, ← hvk]; rfl
      rw [hva] at hA0
      have HA := Lib.hid hA0
      have hm0 := made_any x.kind wL
      rw [hvm] at hm0
      have HM := Lib.hid hm0
      have hd0 := HV1.out x.d wL hbel2
      rw [hvd] at hd0
      have HDD := Lib.hid hd0
      have HIB : Hid (inBound c x = (va && ((!vm || vd) && (!vk || (decide (0 ≤ x.num) && decide (x.num < c.params)))))) := show _ = _ by rw [inBound_eq, hva, hvm, hvd, hvk]
      have HBEL := Lib.hid hbel2
      have HWL := Lib.hid hwL
      have HQ := Lib.hid hq
      have HML := Lib.hid mL
      clear hA0 hm0 hd0 hva hvm hvd hvk hR hBW hxe hargs hrow hq hwL hbL mL hbel2
      go_upto_region 6 with fail
      try change Code.wp _ _ _ _ (wr.alloc (.cells #[.string (mkB x.kind), .int .i64 x.d, .slice A5 x.args.length c5, .int .i64 x.num, .string (mkB x.name)] 52))
      rw [HQ.out, HWL.out]
      clear c0 c1 c2 c3 c4 i0 i1 i2 i3 b0 b1 b2 b3 b4 b5 v0
      obtain ⟨c0, c1, c2, c3, c4⟩ := row5B HML.out
      obtain ⟨⟨i0, i1, i2, i3⟩, ⟨b0, b1, b2, b3, b4, b5⟩, v0, -, -⟩ := HX.out wL HBEL.out
      cases va
      · have HF : Hid (bkBounds c b = false) := show _ = _ by rw [HI.out, HD.out, HIB.out]; simp [*]
        clear HIB
        go_wp2_with (first   | (go_at_call 54; (with_reducible refine HA.out.mono ?_); rintro y w1 ⟨rfl, rfl⟩)   | (go_at_call 57; (with_reducible refine HM.out.mono ?_); rintro y w1 ⟨rfl, rfl⟩)   | (go_at_call 53; (with_reducible refine HDD.out.mono ?_); rintro y w1 ⟨rfl, rfl⟩))
        go_ret
        exact ⟨by rw [HF.out]; rfl, (HX.out _ HBEL.out).2.2.2.2⟩
      · cases vm
        · cases vk
          · have HF : Hid (bkBounds c b = ((b.ins.drop (n + 1)).all (inBound c) && (b.wth.all (okVs c) && bkLast c b))) := show _ = _ by rw [HI.out, HD.out, HIB.out]; simp [*]
            clear HIB
            go_wp2_with (first   | (go_at_call 54; (with_reducible refine HA.out.mono ?_); rintro y w1 ⟨rfl, rfl⟩)   | (go_at_call 57; (with_reducible refine HM.out.mono ?_); rintro y w1 ⟨rfl, rfl⟩)   | (go_at_call 53; (with_reducible refine HDD.out.mono ?_); rintro y w1 ⟨rfl, rfl⟩))
            go_roundw
            case rel => exact ⟨n + 1, by omega, by go_num, HF.out, HBEL.out⟩
            case measure => simp [intOf]; omega
          · rcases Classical.em (x.num < 0) with f1 | f1
            · have f1' : ¬ 0 ≤ x.num := by omega
              have HF : Hid (bkBounds c b = false) := show _ = _ by rw [HI.out, HD.out, HIB.out]; simp [*]
              clear HIB
              go_wp2_with (first   | (go_at_call 54; (with_reducible refine HA.out.mono ?_); rintro y w1 ⟨rfl, rfl⟩)   | (go_at_call 57; (with_reducible refine HM.out.mono ?_); rintro y w1 ⟨rfl, rfl⟩)   | (go_at_call 53; (with_reducible refine HDD.out.mono ?_); rintro y w1 ⟨rfl, rfl⟩))
              go_ret
              exact ⟨by rw [HF.out]; rfl, (HX.out _ HBEL.out).2.2.2.2⟩
            · have f1' : 0 ≤ x.num := by omega
              rcases Classical.em (c.params ≤ x.num) with f2 | f2
              · have f2' : ¬ x.num < c.params := by omega
                have HF : Hid (bkBounds c b = false) := show _ = _ by rw [HI.out, HD.out, HIB.out]; simp [*]
                clear HIB
                go_wp2_with (first   | (go_at_call 54; (with_reducible refine HA.out.mono ?_); rintro y w1 ⟨rfl, rfl⟩)   | (go_at_call 57; (with_reducible refine HM.out.mono ?_); rintro y w1 ⟨rfl, rfl⟩)   | (go_at_call 53; (with_reducible refine HDD.out.mono ?_); rintro y w1 ⟨rfl, rfl⟩))
                go_ret
                exact ⟨by rw [HF.out]; rfl, (HX.out _ HBEL.out).2.2.2.2⟩
              · have f2' : x.num < c.params := by omega
                have HF : Hid (bkBounds c b = ((b.ins.drop (n + 1)).all (inBound c) && (b.wth.all (okVs c) && bkLast c b))) := show _ = _ by rw [HI.out, HD.out, HIB.out]; simp [*]
                clear HIB
                go_wp2_with (first   | (go_at_call 54; (with_reducible refine HA.out.mono ?_); rintro y w1 ⟨rfl, rfl⟩)   | (go_at_call 57; (with_reducible refine HM.out.mono ?_); rintro y w1 ⟨rfl, rfl⟩)   | (go_at_call 53; (with_reducible refine HDD.out.mono ?_); rintro y w1 ⟨rfl, rfl⟩))
                go_roundw
                case rel => exact ⟨n + 1, by omega, by go_num, HF.out, HBEL.out⟩
                case measure => simp [intOf]; omega
        · cases vd
          · have HF : Hid (bkBounds c b = false) := show _ = _ by rw [HI.out, HD.out, HIB.out]; simp [*]
            clear HIB
            go_wp2_with (first   | (go_at_call 54; (with_reducible refine HA.out.mono ?_); rintro y w1 ⟨rfl, rfl⟩)   | (go_at_call 57; (with_reducible refine HM.out.mono ?_); rintro y w1 ⟨rfl, rfl⟩)   | (go_at_call 53; (with_reducible refine HDD.out.mono ?_); rintro y w1 ⟨rfl, rfl⟩))
            go_ret
            exact ⟨by rw [HF.out]; rfl, (HX.out _ HBEL.out).2.2.2.2⟩
          · cases vk
            · have HF : Hid (bkBounds c b = ((b.ins.drop (n + 1)).all (inBound c) && (b.wth.all (okVs c) && bkLast c b))) := show _ = _ by rw [HI.out, HD.out, HIB.out]; simp [*]
              clear HIB
              go_wp2_with (first   | (go_at_call 54; (with_reducible refine HA.out.mono ?_); rintro y w1 ⟨rfl, rfl⟩)   | (go_at_call 57; (with_reducible refine HM.out.mono ?_); rintro y w1 ⟨rfl, rfl⟩)   | (go_at_call 53; (with_reducible refine HDD.out.mono ?_); rintro y w1 ⟨rfl, rfl⟩))
              go_roundw
              case rel => exact ⟨n + 1, by omega, by go_num, HF.out, HBEL.out⟩
              case measure => simp [intOf]; omega
            · rcases Classical.em (x.num < 0) with f1 | f1
              · have f1' : ¬ 0 ≤ x.num := by omega
                have HF : Hid (bkBounds c b = false) := show _ = _ by rw [HI.out, HD.out, HIB.out]; simp [*]
                clear HIB
                go_wp2_with (first   | (go_at_call 54; (with_reducible refine HA.out.mono ?_); rintro y w1 ⟨rfl, rfl⟩)   | (go_at_call 57; (with_reducible refine HM.out.mono ?_); rintro y w1 ⟨rfl, rfl⟩)   | (go_at_call 53; (with_reducible refine HDD.out.mono ?_); rintro y w1 ⟨rfl, rfl⟩))
                go_ret
                exact ⟨by rw [HF.out]; rfl, (HX.out _ HBEL.out).2.2.2.2⟩
              · have f1' : 0 ≤ x.num := by omega
                rcases Classical.em (c.params ≤ x.num) with f2 | f2
                · have f2' : ¬ x.num < c.params := by omega
                  have HF : Hid (bkBounds c b = false) := show _ = _ by rw [HI.out, HD.out, HIB.out]; simp [*]
                  clear HIB
                  go_wp2_with (first   | (go_at_call 54; (with_reducible refine HA.out.mono ?_); rintro y w1 ⟨rfl, rfl⟩)   | (go_at_call 57; (with_reducible refine HM.out.mono ?_); rintro y w1 ⟨rfl, rfl⟩)   | (go_at_call 53; (with_reducible refine HDD.out.mono ?_); rintro y w1 ⟨rfl, rfl⟩))
                  go_ret
                  exact ⟨by rw [HF.out]; rfl, (HX.out _ HBEL.out).2.2.2.2⟩
                · have f2' : x.num < c.params := by omega
                  have HF : Hid (bkBounds c b = ((b.ins.drop (n + 1)).all (inBound c) && (b.wth.all (okVs c) && bkLast c b))) := show _ = _ by rw [HI.out, HD.out, HIB.out]; simp [*]
                  clear HIB
                  go_wp2_with (first   | (go_at_call 54; (with_reducible refine HA.out.mono ?_); rintro y w1 ⟨rfl, rfl⟩)   | (go_at_call 57; (with_reducible refine HM.out.mono ?_); rintro y w1 ⟨rfl, rfl⟩)   | (go_at_call 53; (with_reducible refine HDD.out.mono ?_); rintro y w1 ⟨rfl, rfl⟩))
                  go_roundw
                  case rel => exact ⟨n + 1, by omega, by go_num, HF.out, HBEL.out⟩
                  case measure => simp [intOf]; omega
    · have hn' : n = b.ins.length := by omega
      have HI2 : Hid (bkBounds c b = (b.wth.all (okVs c) && bkLast c b)) := show _ = _ by rw [HI.out, hn', List.drop_length]; rfl
      subst hn'
      clear HI hR hBW hlt
      go_wp2_with fail
      go_loopw [10, 59] (fun _ k wy => ∃ n : Nat, n ≤ b.wth.length ∧ k = .int .i64 n ∧ bkBounds c b = ((b.wth.drop n).all (okVs c) && bkLast c b) ∧ Below wC.heap.size wC wy) (fun _ k _ => b.wth.length - (intOf k).toNat)
      case atStart => exact ⟨0, Nat.zero_le _, rfl, by rw [HI2.out]; rfl, hbel⟩
      case round =>
        obtain ⟨n, hn, rfl, hI, hbel⟩ := hrel
        have HI := Lib.hid hI
        clear hI i0 i1 i2 i3 b0 b1 b2 b3 b4 b5 v0
        obtain ⟨⟨i0, i1, i2, i3⟩, ⟨b0, b1, b2, b3, b4, b5⟩, v0, hR, -⟩ := HX.out wr hbel
        by_cases hlt : n < b.wth.length
        · have hlt' : (n : Int) < (b.wth.length : Int) := by omega
          obtain ⟨b9, off, A5, c5, rfl, hx, hrow⟩ := wth_at hR.wth hlt
          have hargs : (b.wth[n]).length ≤ 100000 := by have := HS.out.wths _ (List.getElem_mem hlt); omega
          have HD := Lib.hid (all_dropP (P := okVs c) hlt)
          obtain ⟨x, hxe⟩ : ∃ x, b.wth[n] = x := ⟨_, rfl⟩
          rw [hxe] at hx hrow hargs HD
          have hA0 := HVS.out x A5 c5 wr hargs hrow hbel
          obtain ⟨va, hva⟩ : ∃ z, okVs c x = z := ⟨_, rfl⟩
          rw [hva] at hA0 HD
          have HA := Lib.hid hA0
          clear hA0 hva hR hxe hargs hrow
          cases va
          · have HF : Hid (bkBounds c b = false) := show _ = _ by rw [HI.out, HD.out]; rfl
            go_wp2_with (go_at_call 54; (with_reducible refine HA.out.mono ?_); rintro y w1 ⟨rfl, rfl⟩)
            go_ret
            exact ⟨by rw [HF.out]; rfl, (HX.out _ hbel).2.2.2.2⟩
          · have HF : Hid (bkBounds c b = ((b.wth.drop (n + 1)).all (okVs c) && bkLast c b)) := show _ = _ by rw [HI.out, HD.out]; rfl
            go_wp2_with (go_at_call 54; (with_reducible refine HA.out.mono ?_); rintro y w1 ⟨rfl, rfl⟩)
            go_roundw
            case rel => exact ⟨n + 1, by omega, by go_num, HF.out, hbel⟩
            case measure => simp [intOf]; omega
        · have hn' : n = b.wth.length := by omega
          have HI2 : Hid (bkBounds c b = bkLast c b) := show _ = _ by rw [HI.out, hn', List.drop_length]; rfl
          subst hn'
          have hp0 := HVS.out b.params P p wr (by have := HS.out.params; omega) hR.params hbel
          have hf0 := HFA.out b.nx T t wr (by have := HS.out.nx; omega) hR.nx hbel
          have hv0 := HV1.out b.v wr hbel
          obtain ⟨vp, hvp⟩ : ∃ z, okVs c b.params = z := ⟨_, rfl⟩
          obtain ⟨vf, hvf⟩ : ∃ z, farTo c.blocks.length b.nx = z := ⟨_, rfl⟩
          obtain ⟨vv, hvv⟩ : ∃ z, okV c b.v = z := ⟨_, rfl⟩
          obtain ⟨vj, hvj⟩ : ∃ z, (b.fin == eJump) = z := ⟨_, rfl⟩
          have e1 : ((mkB b.fin).toList == [106, 117, 109, 112]) = vj := by rw [mkB_eq, ← hvj]; rfl
          have HL : Hid (bkLast c b = (vp && ((vj || vv) && !vf))) := show _ = _ by unfold bkLast; rw [hvp, hvf, hvv, hvj]
          rw [hvp] at hp0
          rw [hvf] at hf0
          rw [hvv] at hv0
          have HP := Lib.hid hp0
          have HF := Lib.hid hf0
          have HV := Lib.hid hv0
          have HBEL := Lib.hid hbel
          clear hp0 hf0 hv0 hvp hvf hvv hvj hR hbel hlt
          cases vp <;> cases vj <;> cases vv <;> cases vf
          all_goals (go_wp2_with (first   | (go_at_call 55; (with_reducible refine HF.out.mono ?_); rintro y w1 ⟨rfl, rfl⟩)   | (go_at_call 54; (with_reducible refine HP.out.mono ?_); rintro y w1 ⟨rfl, rfl⟩)   | (go_at_call 53; (with_reducible refine HV.out.mono ?_); rintro y w1 ⟨rfl, rfl⟩)); go_ret; exact ⟨by rw [HI2.out, HL.out]; rfl, (HX.out _ HBEL.out).2.2.2.2⟩)
end Go.Proofs.YtdilakpipbkokaaDoor
