import Derived.Maps.AppendAt
import Derived.Maps.RangeWalk
import Derived.Deep.DeepCutAuto
import Derived.Test.YtdilakpipbkokaaDoorBn20
import Derived.Test.YtdilakpipbkokaaDoorBn24
import Derived.Test.YtdilakpipbkokaaDoorBn22
import Derived.Test.YtdilakpipbkokaaDoorBn4
set_option linter.unusedVariables false
set_option linter.unusedSimpArgs false
namespace Go.Proofs.YtdilakpipbkokaaDoor
open Go.RowKit Go.Maps

/-! a block alone -/
def pErr (E : Nat → Addr) (n : Nat) : Value := if n = 0 then .nilIface else esV (E (n - 1))
theorem OwnSet.cellB {w : World} {B n : Nat} {m : List Int} (h : OwnSet w B n m) {a : Addr} {u : Value} (hc : w.cell? a = some u) : a.block ≠ B := fun e => by
  obtain ⟨D, ⟨es, clock, h1, -⟩, -⟩ := h
  subst e
  unfold World.cell? at hc
  rw [h1] at hc
  simp at hc
theorem OwnSet.cell {w w' : World} {B n : Nat} {m : List Int} (h : OwnSet w B n m) (hg : w.grownBy w' (some B)) {a : Addr} {u : Value} (hc : w.cell? a = some u) : w'.cell? a = some u :=
  hg.cell hc fun e => h.cellB hc (by injection e)
theorem OwnSet.keeps {w w' : World} {B n : Nat} {m : List Int} (h : OwnSet w B n m) (hg : w.grownBy w' (some B)) : Keeps w w' := fun _ _ hc => h.cell hg hc
theorem grown_of_below {w w' : World} (hb : Below w.heap.size w w') (r : Option Nat) : w.grownBy w' r := ⟨hb.os, hb.tape, hb.output, hb.size, fun k hk _ => hb.block k hk⟩
theorem onceW_step {m l : List Int} {k : Nat} (h : k < l.length) : onceW m (l.drop k) = if m.contains l[k] then (false, m) else onceW (l[k] :: m) (l.drop (k + 1)) := by
  rw [List.drop_eq_getElem_cons h]; rfl
def BlockP (E : Nat → Addr) (c : PCo) (m : List Int) (b : PBk) (B n : Nat) (w : World) : Ending → World → Prop := fun e w' =>
  e = .returned (pErr E (bkC c m b)) ∧ w.grownBy w' (some B) ∧ (bkC c m b = 0 → OwnSet w' B (n + 30) (onceW m (makesW b)).2)
theorem block_done {E : Nat → Addr} {c : PCo} {m : List Int} {b : PBk} {B n : Nat} {w w' : World} {z : Nat} (h : bkC c m b = z) (hg : w.grownBy w' (some B)) (h0 : z = 0 → OwnSet w' B (n + 30) (onceW m (makesW b)).2) : BlockP E c m b B n w (.returned (pErr E z)) w' := by
  subst h; exact ⟨rfl, hg, h0⟩
set_option maxRecDepth 100000 in
set_option maxHeartbeats 8000000 in
theorem pblock_any (E : Nat → Addr) (c : PCo) (A : Option Addr) (ca : Nat) (m : List Int) (b : PBk) (hs : PSm b) (h6 : ∀ v ∈ makesW b, I64 v) (P : Option Addr) (p : Nat) (I : Option Addr) (i : Nat) (T : Option Addr) (t : Nat) (W : Option Addr) (wc : Nat) (B n : Nat) (hn : n ≤ 50000) (w : World) (hE : Laid E w) (hr : BkRows w b P I T W) (hA : RdP w c.blocks A) (hB : OwnSet w B n m) :
    Calls Tryd.prog 21 #[coV c A ca, bkV b P p I i T t W wc, .map (some B)] w (BlockP E c m b B n w) := by
  obtain ⟨cb, hcb⟩ : ∃ cb, w.heap.size = cb := ⟨_, rfl⟩
  obtain ⟨bb, hbb⟩ : ∃ bb, cb + 1 = bb := ⟨_, rfl⟩
  obtain ⟨wB, hwB⟩ : ∃ wB, (w.alloc (.cells #[.string (mkB c.name), .int .i64 c.params, .int .i64 c.values, .slice A c.blocks.length ca] 31)).alloc (.cells #[.slice P b.params.length p, .slice I b.ins.length i, .string (mkB b.fin), .int .i64 b.v, .slice T b.nx.length t, .slice W b.wth.length wc] 56) = wB := ⟨_, rfl⟩
  have hbB : Below w.heap.size w wB := by rw [← hwB]; exact grow_alloc (grow_alloc (grow_refl _) _) _
  have m0 : wB.heap[cb]? = some (.cells #[.string (mkB c.name), .int .i64 c.params, .int .i64 c.values, .slice A c.blocks.length ca] 31 (0, 0)) := by
    rw [← hwB, ← hcb]
    exact (old_block _ _ (by simp)).trans (heap_alloc_new w _)
  have m1 : wB.heap[bb]? = some (.cells #[.slice P b.params.length p, .slice I b.ins.length i, .string (mkB b.fin), .int .i64 b.v, .slice T b.nx.length t, .slice W b.wth.length wc] 56 (0, 0)) := by
    rw [← hwB, ← hbb, ← hcb]
    exact new_block _ _ (by simp)
  have HX : Hid (∀ w', Below wB.heap.size wB w' → (w'.cell? ⟨cb, 0, none⟩ = some (.string (mkB c.name)) ∧ w'.cell? ⟨cb, 1, none⟩ = some (.int .i64 c.params) ∧ w'.cell? ⟨cb, 2, none⟩ = some (.int .i64 c.values) ∧ w'.cell? ⟨cb, 3, none⟩ = some (.slice A c.blocks.length ca)) ∧
      (w'.cell? ⟨bb, 0, none⟩ = some (.slice P b.params.length p) ∧ w'.cell? ⟨bb, 1, none⟩ = some (.slice I b.ins.length i) ∧ w'.cell? ⟨bb, 2, none⟩ = some (.string (mkB b.fin)) ∧ w'.cell? ⟨bb, 3, none⟩ = some (.int .i64 b.v) ∧ w'.cell? ⟨bb, 4, none⟩ = some (.slice T b.nx.length t) ∧ w'.cell? ⟨bb, 5, none⟩ = some (.slice W b.wth.length wc)) ∧
      (w'.cell? ⟨4, 0, none⟩ = some (esV (E 1)) ∧ w'.cell? ⟨1, 0, none⟩ = some (esV (E 2)) ∧ w'.cell? ⟨5, 0, none⟩ = some (esV (E 3)) ∧ w'.cell? ⟨8, 0, none⟩ = some (esV (E 6))) ∧ BkRows w' b P I T W ∧ RdP w' c.blocks A ∧ Laid E w' ∧ Below w.heap.size w w') := fun w' hb =>
    have f := fun {k : Nat} {o : Obj} (h : wB.heap[k]? = some o) => (hb.block k (Array.getElem?_eq_some_iff.1 h).1).trans h
    have hbw := grow_trans hbB hb
    have hL := hE.keep hbw
    ⟨row4B (f m0), row6B (f m1), ⟨hL.c1, hL.c2, hL.c3, hL.c6⟩, hr.keep (Keeps.of_below hbw), hA.keep (Keeps.of_below hbw), hL, hbw⟩
  have HK1 : Hid (∀ w', Below wB.heap.size wB w' → Calls Tryd.prog 32 #[bkV b P p I i T t W wc] w' (Ret (.bool (bkKinds b)) w')) := fun w' hb =>
    kinds_any E b (by have := hs.ins; omega) P p I i T t W wc w' (HX.out w' hb).2.2.2.2.2.1 (HX.out w' hb).2.2.2.1.ins
  have HK2 : Hid (∀ w', Below wB.heap.size wB w' → Calls Tryd.prog 33 #[coV c A ca, bkV b P p I i T t W wc] w' (Ret (.bool (bkBounds c b)) w')) := fun w' hb =>
    bounds_any c A ca b hs P p I i T t W wc w' (HX.out w' hb).2.2.2.1
  have HK3 : Hid (bkKinds b = true → bkBounds c b = true → ∀ w', Below wB.heap.size wB w' → Calls Tryd.prog 34 #[coV c A ca, bkV b P p I i T t W wc] w' (Ret (.bool (bkShapes c b)) w')) := fun h1 h2 w' hb =>
    shapes_any c A ca b hs P p I i T t W wc w' (HX.out w' hb).2.2.2.1 (HX.out w' hb).2.2.2.2.1 (by unfold bkKinds at h1; simp only [Bool.and_eq_true, decide_eq_true_eq] at h1; exact h1.2) (by unfold bkBounds at h2; simp only [Bool.and_eq_true, Bool.not_eq_true'] at h2; exact h2.2)
  have HK4 : Hid (∀ w', Below wB.heap.size wB w' → Calls Tryd.prog 35 #[bkV b P p I i T t W wc] w' (MakesP b w')) := fun w' hb =>
    makes_any b hs P p I i T t W wc w' (HX.out w' hb).2.2.2.1
  have HLE : Hid ((makesW b).length ≤ 30) := show _ ≤ _ by
    have h1 := mksW_le b b.ins.length
    have h2 := hs.ins
    have h3 := hs.params
    unfold mksW at h1
    rw [List.take_length] at h1
    unfold makesW
    omega
  have HSB : Hid (∀ w', Below wB.heap.size wB w' → OwnSet w' B n m) := fun w' hb => hB.below (grow_trans hbB hb)
  have HG : Hid (∀ w', Below wB.heap.size wB w' → w.grownBy w' (some B)) := fun w' hb => grown_of_below (grow_trans hbB hb) _
  have H6 := Lib.hid h6
  have HWB := Lib.hid hwB
  have HCB := Lib.hid hcb
  have HBB := Lib.hid hbb
  obtain ⟨⟨i0, i1, i2, i3⟩, ⟨b0, b1, b2, b3, b4, b5⟩, ⟨x1, x2, x3, x6⟩, -, -, -⟩ := HX.out wB (grow_refl _)
  have HEQ : Hid (bkC c m b = if !bkKinds b then 4 else if !bkBounds c b then 2 else if !bkShapes c b then 3 else if (onceW m (makesW b)).1 then 0 else 7) := show _ = _ from rfl
  obtain ⟨k1, hk1⟩ : ∃ z, bkKinds b = z := ⟨_, rfl⟩
  obtain ⟨k2, hk2⟩ : ∃ z, bkBounds c b = z := ⟨_, rfl⟩
  obtain ⟨k3, hk3⟩ : ∃ z, bkShapes c b = z := ⟨_, rfl⟩
  rw [hk1] at HK1 HEQ
  rw [hk2] at HK2 HEQ
  rw [hk1, hk2, hk3] at HK3
  rw [hk3] at HEQ
  obtain ⟨Q, hQ⟩ : ∃ Q, BlockP E c m b B n w = Q := ⟨_, rfl⟩
  have HQ := Lib.hid hQ
  rw [hQ]
  unfold coV bkV at HK2 HK3 ⊢
  unfold bkV at HK1 HK4
  clear hr hs hwB hbB m0 m1 hcb hbb hE hA hk1 hk2 hk3 hQ hB h6
  cases k1
  · have HF : Hid (bkC c m b = 4) := show _ = _ by rw [HEQ.out]; rfl
    go_enter Tryd.func21, Tryd.ntmps21
    go_upto_region 1 with fail
    change Code.wp _ _ _ _ ((w.alloc (.cells #[.string (mkB c.name), .int .i64 c.params, .int .i64 c.values, .slice A c.blocks.length ca] 31)).alloc (.cells #[.slice P b.params.length p, .slice I b.ins.length i, .string (mkB b.fin), .int .i64 b.v, .slice T b.nx.length t, .slice W b.wth.length wc] 56))
    rw [HWB.out, HCB.out, HBB.out]
    go_wp2_with (go_at_call 32; (with_reducible refine (HK1.out _ (grow_refl _)).mono ?_); rintro y w1 ⟨rfl, hb1⟩; obtain ⟨⟨i0, i1, i2, i3⟩, ⟨b0, b1, b2, b3, b4, b5⟩, ⟨x1, x2, x3, x6⟩, -, -, -⟩ := HX.out w1 hb1)
    rw [← HQ.out]
    exact block_done HF.out (HG.out _ hb1) (fun h => absurd h (by decide))
  cases k2
  · have HF : Hid (bkC c m b = 2) := show _ = _ by rw [HEQ.out]; rfl
    go_enter Tryd.func21, Tryd.ntmps21
    go_upto_region 1 with fail
    change Code.wp _ _ _ _ ((w.alloc (.cells #[.string (mkB c.name), .int .i64 c.params, .int .i64 c.values, .slice A c.blocks.length ca] 31)).alloc (.cells #[.slice P b.params.length p, .slice I b.ins.length i, .string (mkB b.fin), .int .i64 b.v, .slice T b.nx.length t, .slice W b.wth.length wc] 56))
    rw [HWB.out, HCB.out, HBB.out]
    go_upto_region 3 with (go_at_call 32; (with_reducible refine (HK1.out _ (grow_refl _)).mono ?_); rintro y w1 ⟨rfl, hb1⟩; obtain ⟨⟨i0, i1, i2, i3⟩, ⟨b0, b1, b2, b3, b4, b5⟩, ⟨x1, x2, x3, x6⟩, -, -, -⟩ := HX.out w1 hb1)
    go_wp2_with (go_at_call 33; (with_reducible refine (HK2.out _ hb1).mono ?_); rintro y w2 ⟨rfl, hb2⟩; have hbz2 := grow_trans hb1 hb2; obtain ⟨⟨i0, i1, i2, i3⟩, ⟨b0, b1, b2, b3, b4, b5⟩, ⟨x1, x2, x3, x6⟩, -, -, -⟩ := HX.out w2 hbz2)
    rw [← HQ.out]
    exact block_done HF.out (HG.out _ hbz2) (fun h => absurd h (by decide))
  have HK3' := Lib.hid (HK3.out rfl rfl)
  clear HK3
  cases k3
  · have HF : Hid (bkC c m b = 3) := show _ = _ by rw [HEQ.out]; rfl
    go_enter Tryd.func21, Tryd.ntmps21
    go_upto_region 1 with fail
    change Code.wp _ _ _ _ ((w.alloc (.cells #[.string (mkB c.name), .int .i64 c.params, .int .i64 c.values, .slice A c.blocks.length ca] 31)).alloc (.cells #[.slice P b.params.length p, .slice I b.ins.length i, .string (mkB b.fin), .int .i64 b.v, .slice T b.nx.length t, .slice W b.wth.length wc] 56))
    rw [HWB.out, HCB.out, HBB.out]
    go_upto_region 3 with (go_at_call 32; (with_reducible refine (HK1.out _ (grow_refl _)).mono ?_); rintro y w1 ⟨rfl, hb1⟩; obtain ⟨⟨i0, i1, i2, i3⟩, ⟨b0, b1, b2, b3, b4, b5⟩, ⟨x1, x2, x3, x6⟩, -, -, -⟩ := HX.out w1 hb1)
    go_upto_region 5 with (go_at_call 33; (with_reducible refine (HK2.out _ hb1).mono ?_); rintro y w2 ⟨rfl, hb2⟩; have hbz2 := grow_trans hb1 hb2; obtain ⟨⟨i0, i1, i2, i3⟩, ⟨b0, b1, b2, b3, b4, b5⟩, ⟨x1, x2, x3, x6⟩, -, -, -⟩ := HX.out w2 hbz2)
    go_wp2_with (go_at_call 34; (with_reducible refine (HK3'.out _ hbz2).mono ?_); rintro y w3 ⟨rfl, hb3⟩; have hbz3 := grow_trans hbz2 hb3; obtain ⟨⟨i0, i1, i2, i3⟩, ⟨b0, b1, b2, b3, b4, b5⟩, ⟨x1, x2, x3, x6⟩, -, -, -⟩ := HX.out w3 hbz3)
    rw [← HQ.out]
    exact block_done HF.out (HG.out _ hbz3) (fun h => absurd h (by decide))
  · go_enter Tryd.func21, Tryd.ntmps21
    go_upto_region 1 with fail
    change Code.wp _ _ _ _ ((w.alloc (.cells #[.string (mkB c.name), .int .i64 c.params, .int .i64 c.values, .slice A c.blocks.length ca] 31)).alloc (.cells #[.slice P b.params.length p, .slice I b.ins.length i, .string (mkB b.fin), .int .i64 b.v, .slice T b.nx.length t, .slice W b.wth.length wc] 56))
    rw [HWB.out, HCB.out, HBB.out]
    go_upto_region 3 with (go_at_call 32; (with_reducible refine (HK1.out _ (grow_refl _)).mono ?_); rintro y w1 ⟨rfl, hb1⟩; obtain ⟨⟨i0, i1, i2, i3⟩, ⟨b0, b1, b2, b3, b4, b5⟩, ⟨x1, x2, x3, x6⟩, -, -, -⟩ := HX.out w1 hb1)
    go_upto_region 5 with (go_at_call 33; (with_reducible refine (HK2.out _ hb1).mono ?_); rintro y w2 ⟨rfl, hb2⟩; have hbz2 := grow_trans hb1 hb2; obtain ⟨⟨i0, i1, i2, i3⟩, ⟨b0, b1, b2, b3, b4, b5⟩, ⟨x1, x2, x3, x6⟩, -, -, -⟩ := HX.out w2 hbz2)
    go_upto_region 7 with (go_at_call 34; (with_reducible refine (HK3'.out _ hbz2).mono ?_); rintro y w3 ⟨rfl, hb3⟩; have hbz3 := grow_trans hbz2 hb3; obtain ⟨⟨i0, i1, i2, i3⟩, ⟨b0, b1, b2, b3, b4, b5⟩, ⟨x1, x2, x3, x6⟩, -, -, -⟩ := HX.out w3 hbz3)
    go_wp2_with (go_at_call 35; (with_reducible refine (HK4.out _ hbz3).mono ?_); rintro y w4 ⟨A4, c4, rfl, hr4, hb4⟩; have hbz4 := grow_trans hbz3 hb4; obtain ⟨⟨i0, i1, i2, i3⟩, ⟨b0, b1, b2, b3, b4, b5⟩, ⟨x1, x2, x3, x6⟩, -, -, -⟩ := HX.out w4 hbz4; have HR4 := Lib.hid hr4; clear hr4)
    obtain ⟨l, hl⟩ : ∃ l, makesW b = l := ⟨_, rfl⟩
    rw [hl] at HR4 HEQ HLE H6
    rw [hl]
    have HL := Lib.hid hl
    have HS4 := Lib.hid (HSB.out _ hbz4)
    have HG4 := Lib.hid (HG.out _ hbz4)
    have hle := HLE.out
    have HX6 := Lib.hid x6
    clear hl i0 i1 i2 i3 b0 b1 b2 b3 b4 b5 x1 x2 x3 x6 hb1 hb2 hb3 hb4 hbz2 hbz3 hbz4
    go_loopw [8, 29] (fun _ k wr => ∃ (j : Nat) (mk : List Int), j ≤ l.length ∧ k = .int .i64 j ∧ onceW m l = onceW mk (l.drop j) ∧ OwnSet wr B (n + j) mk ∧ w4.grownBy wr (some B)) (fun _ k _ => l.length - (intOf k).toNat)
    case atStart => exact ⟨0, m, Nat.zero_le _, rfl, rfl, HS4.out, World.grownBy.refl _ _⟩
    case round =>
      obtain ⟨j, mk, hj, rfl, hI, hset, hgr⟩ := hrel
      have HI := Lib.hid hI
      have HSR := Lib.hid hset
      have HGR := Lib.hid hgr
      clear hI hset hgr
      have x6 := HS4.out.cell HGR.out HX6.out
      by_cases hlt : j < l.length
      · have hlt' : (j : Int) < (l.length : Int) := by omega
        obtain ⟨b9, o9, rfl, hc⟩ := (HR4.out.keep (HS4.out.keeps HGR.out)) j _ (intVs_get hlt)
        have HST := Lib.hid (onceW_step (m := mk) hlt)
        have hw6 := H6.out _ (List.getElem_mem hlt)
        obtain ⟨v, hv⟩ : ∃ v, l[j] = v := ⟨_, rfl⟩
        rw [hv] at hc HST hw6
        have HWF : Hid ((Lit.int .i64 v).wf = true) := show _ = _ by obtain ⟨a1, a2⟩ := hw6; simp [Lit.wf]; exact ⟨a1, a2⟩
        obtain ⟨z, hz⟩ : ∃ z, mk.contains v = z := ⟨_, rfl⟩
        rw [hz] at HST
        have HZ := Lib.hid hz
        clear hv hw6 hz
        cases z
        · have HF : Hid (onceW m l = onceW (v :: mk) (l.drop (j + 1))) := show _ = _ by rw [HI.out, HST.out]; rfl
          go_wp2_with (first
            | (refine wpList_lookup_set _ rfl _ _ rfl B (n + j) mk rfl HSR.out v rfl HWF.out ?_; rw [HZ.out])
            | (refine wpList_update_set _ rfl _ _ _ rfl B (n + j) mk rfl HSR.out (by unfold maxLen; omega) v rfl rfl HWF.out ?_; intro w9 hs9 hg9; have HS9 := Lib.hid hs9; have HG9 := Lib.hid (HGR.out.trans hg9); clear hs9 hg9))
          go_roundw
          case rel => exact ⟨j + 1, v :: mk, by omega, by go_num, HF.out, HS9.out, HG9.out⟩
          case measure => simp [intOf]; omega
        · have HF : Hid (bkC c m b = 7) := show _ = _ by rw [HEQ.out, HI.out, HST.out]; rfl
          go_wp2_with (refine wpList_lookup_set _ rfl _ _ rfl B (n + j) mk rfl HSR.out v rfl HWF.out ?_; rw [HZ.out])
          rw [← HQ.out]
          exact block_done HF.out (HG4.out.trans HGR.out) (fun h => absurd h (by decide))
      · have hj' : j = l.length := by omega
        have HO : Hid (onceW m l = (true, mk)) := show _ = _ by rw [HI.out, hj', List.drop_length]; rfl
        have HF : Hid (bkC c m b = 0) := show _ = _ by rw [HEQ.out, HO.out]; rfl
        have HS9 : Hid (OwnSet wr B (n + 30) (onceW m (makesW b)).2) := by
          have h9 := HSR.out.mono (n' := n + 30) (by omega)
          rw [← HL.out] at HO
          rw [HO.out]
          exact h9
        subst hj'
        go_wp2_with fail
        rw [← HQ.out]
        exact block_done HF.out (HG4.out.trans HGR.out) (fun _ => HS9.out)
end Go.Proofs.YtdilakpipbkokaaDoor

namespace Go.Proofs.YtdilakpipbkokaaDoor
open Go.RowKit Go.Maps

/-! place.Check -/
theorem bksC_drop {c : PCo} {m : List Int} {k : Nat} (h : k < c.blocks.length) : bksC c m (c.blocks.drop k) k = if bkC c m c.blocks[k] ≠ 0 then (bkC c m c.blocks[k], (k : Int)) else bksC c (onceW m (makesW c.blocks[k])).2 (c.blocks.drop (k + 1)) (k + 1) := by
  rw [List.drop_eq_getElem_cons h]; rfl
theorem bkC_le (c : PCo) (m : List Int) (b : PBk) : bkC c m b ≤ 10 := by unfold bkC; repeat (first | omega | split)
theorem pFault_is (E : Nat → Addr) (W : World) {z : Nat} (k : Int) (hz : z ≠ 0) (h10 : z ≤ 10) : ErrIs E (W.alloc (.cells #[.int .i64 k, esV (E (z - 1))] 73)) (ftV ⟨W.heap.size, 0, none⟩) z k :=
  .inr (.inr ⟨z - 1, W.heap.size, 0, by omega, rfl, cell_of_row _ _ 0 _ _ _ (heap_alloc_new W _), cell_of_row _ _ 1 _ _ _ (heap_alloc_new W _), by omega⟩)
theorem makes_I64 {b : PBk} (h : BkN b) : ∀ v ∈ makesW b, I64 v := fun v hv => by
  unfold makesW at hv
  rcases List.mem_append.1 hv with hv | hv
  · exact h.params v hv
  · obtain ⟨x, hx, rfl⟩ := List.mem_map.1 hv
    exact (h.ins x (List.mem_filter.1 hx).1).d
def PChk (E : Nat → Addr) (c : PCo) (w : World) : Ending → World → Prop := fun e w' => ∃ v, e = .returned v ∧ ErrIs E w' v ((coC c).1 : Nat) (coC c).2 ∧ Below w.heap.size w w' ∧ (v = .nilIface ↔ (coC c).1 = 0)
theorem pchk_done {E : Nat → Addr} {c : PCo} {w w' : World} {z : Nat} {at' : Int} {v : Value} {e : Ending} (h : coC c = (z, at')) (he : e = .returned v) (h1 : ErrIs E w' v z at') (hb : Below w.heap.size w w') (hv : v = .nilIface ↔ z = 0) : PChk E c w e w' := by
  unfold PChk; rw [h]; exact ⟨v, he, h1, hb, hv⟩
set_option maxHeartbeats 8000000 in
set_option maxRecDepth 100000 in
theorem pcheck_any (E : Nat → Addr) (c : PCo) (A : Option Addr) (ca : Nat) (hs : ∀ b ∈ c.blocks, PSm b) (hN : ∀ b ∈ c.blocks, BkN b) (w : World) (hE : Laid E w) (hr : RdP w c.blocks A) :
    Calls Tryd.prog 10 #[coV c A ca] w (PChk E c w) := by
  obtain ⟨cb, hcb⟩ : ∃ cb, w.heap.size = cb := ⟨_, rfl⟩
  obtain ⟨wA, hwA⟩ : ∃ wA, w.alloc (.cells #[.string (mkB c.name), .int .i64 c.params, .int .i64 c.values, .slice A c.blocks.length ca] 31) = wA := ⟨_, rfl⟩
  have hbA : Below w.heap.size w wA := by rw [← hwA]; exact grow_alloc (grow_refl _) _
  have hmA : wA.heap[cb]? = some (.cells #[.string (mkB c.name), .int .i64 c.params, .int .i64 c.values, .slice A c.blocks.length ca] 31 (0, 0)) := by rw [← hwA, ← hcb]; exact heap_alloc_new w _
  obtain ⟨B, hB⟩ : ∃ B, wA.heap.size = B := ⟨_, rfl⟩
  obtain ⟨wM, hwM⟩ : ∃ wM, wA.alloc (.map #[] 0) = wM := ⟨_, rfl⟩
  have hbM : Below wA.heap.size wA wM := by rw [← hwM]; exact grow_alloc (grow_refl _) _
  have hset : OwnSet wM B 0 [] := by rw [← hwM, ← hB]; exact OwnSet.made wA
  have HX : Hid (∀ w', wM.grownBy w' (some B) → (w'.cell? ⟨cb, 0, none⟩ = some (.string (mkB c.name)) ∧ w'.cell? ⟨cb, 1, none⟩ = some (.int .i64 c.params) ∧ w'.cell? ⟨cb, 2, none⟩ = some (.int .i64 c.values) ∧ w'.cell? ⟨cb, 3, none⟩ = some (.slice A c.blocks.length ca)) ∧ Laid E w' ∧ RdP w' c.blocks A ∧ Below w.heap.size w w') := fun w' hg => by
    have hk : Keeps wA w' := fun a u hc => hset.cell hg (Keeps.of_below hbM a u hc)
    have hbw : Below w.heap.size w w' := Below.grown (grow_trans hbA hbM) hg (grow_trans hbA hbM).size (fun k hk => by injection hk with hk; rw [← hk, ← hB]; exact hbA.size)
    obtain ⟨a0, a1, a2, a3⟩ := row4B hmA
    exact ⟨⟨hk _ _ a0, hk _ _ a1, hk _ _ a2, hk _ _ a3⟩, hE.keep hbw, (hr.keep (Keeps.of_below hbA)).keep hk, hbw⟩
  have HWA := Lib.hid hwA
  have HWM := Lib.hid hwM
  have HBB := Lib.hid hB
  have HCB := Lib.hid hcb
  have HBA := Lib.hid hbA
  have HSET := Lib.hid hset
  have HS := Lib.hid hs
  have HN := Lib.hid hN
  obtain ⟨i0, i1, i2, i3⟩ := row4B hmA
  have hLA := hE.keep hbA
  have g1 := hLA.c1
  have g2 := hLA.c2
  have g7 := hLA.c7
  have g8 := hLA.c8
  have HRA : Hid (RdP wA c.blocks A) := hr.keep (Keeps.of_below hbA)
  obtain ⟨Q, hQ⟩ : ∃ Q, PChk E c w = Q := ⟨_, rfl⟩
  have HQ := Lib.hid hQ
  rw [hQ]
  have HP : Hid (coC c = if 1000 < c.blocks.length ∨ 1000 < c.values then (8, -1) else if c.blocks.length = 0 ∨ 0 < ((c.blocks[0]?).map fun q => q.params.length).getD 0 ∨ c.values < 0 then (3, -1) else if c.params < 0 ∨ 4 < c.params then (9, -1) else bksC c [] c.blocks 0) := show _ = _ from rfl
  unfold coV
  clear hr hE hbA hmA hwA hLA hs hN hQ hwM hB hcb hbM hset
  have hmm := @run_makeMap Tryd.prog
  by_cases h1 : 1000 < c.blocks.length
  · have HF : Hid (coC c = (8, -1)) := show _ = _ by rw [HP.out, if_pos (.inl h1)]
    have q1 : (1000 : Int) < (c.blocks.length : Int) := by omega
    clear h1
    go_enter Tryd.func10, Tryd.ntmps10
    go_upto_region 1 with fail
    change Code.wp _ _ _ _ (w.alloc (.cells #[.string (mkB c.name), .int .i64 c.params, .int .i64 c.values, .slice A c.blocks.length ca] 31))
    rw [HWA.out, HCB.out]
    go_wp2_with fail
    rw [← HQ.out]
    exact pchk_done HF.out rfl (.es (i := 7) (by omega)) HBA.out (by simp)
  have q1 : ¬ (1000 : Int) < (c.blocks.length : Int) := by omega
  rcases Classical.em (1000 < c.values) with q1b | q1b
  · have HF : Hid (coC c = (8, -1)) := show _ = _ by rw [HP.out, if_pos (.inr q1b)]
    clear h1
    go_enter Tryd.func10, Tryd.ntmps10
    go_upto_region 1 with fail
    change Code.wp _ _ _ _ (w.alloc (.cells #[.string (mkB c.name), .int .i64 c.params, .int .i64 c.values, .slice A c.blocks.length ca] 31))
    rw [HWA.out, HCB.out]
    go_wp2_with fail
    rw [← HQ.out]
    exact pchk_done HF.out rfl (.es (i := 7) (by omega)) HBA.out (by simp)
  have hn1 : ¬ (1000 < c.blocks.length ∨ 1000 < c.values) := by omega
  by_cases h2 : c.blocks.length = 0
  · have HF : Hid (coC c = (3, -1)) := show _ = _ by rw [HP.out, if_neg hn1, if_pos (.inl h2)]
    have q2 : ((c.blocks.length : Int) == 0) = true := by rw [h2]; rfl
    have q2' : (c.blocks.length : Int) = 0 := by omega
    clear h1 h2 hn1
    go_enter Tryd.func10, Tryd.ntmps10
    go_upto_region 1 with fail
    change Code.wp _ _ _ _ (w.alloc (.cells #[.string (mkB c.name), .int .i64 c.params, .int .i64 c.values, .slice A c.blocks.length ca] 31))
    rw [HWA.out, HCB.out]
    go_wp2_with fail
    rw [← HQ.out]
    exact pchk_done HF.out rfl (.es (i := 2) (by omega)) HBA.out (by simp)
  have q2 : ((c.blocks.length : Int) == 0) = false := beq_eq_false_iff_ne.2 (by omega)
  have q2' : ¬ (c.blocks.length : Int) = 0 := by omega
  have q2c : (0 : Int) < (c.blocks.length : Int) := by omega
  obtain ⟨b9, off9, P9, p9, I9, i9, T9, t9, W9, c9, hA9, hB9⟩ := bks_at HRA.out (k := 0) (by omega)
  subst hA9
  have j0 := hB9.c0
  rw [Nat.zero_mul, Nat.add_zero] at j0
  obtain ⟨L0, hL0⟩ : ∃ L, (c.blocks[0]'(by omega)).params.length = L := ⟨_, rfl⟩
  have HL0 : Hid (((c.blocks[0]?).map fun q => q.params.length).getD 0 = L0) := show _ = _ by rw [List.getElem?_eq_getElem (by omega : 0 < c.blocks.length)]; exact hL0
  rw [hL0] at j0
  clear hL0 hB9
  by_cases h3 : 0 < L0
  · have HF : Hid (coC c = (3, -1)) := show _ = _ by rw [HP.out, if_neg hn1, if_pos (.inr (.inl (by rw [HL0.out]; exact h3)))]
    have q3 : (0 : Int) < (L0 : Int) := by omega
    clear h1 h2 hn1 h3
    go_enter Tryd.func10, Tryd.ntmps10
    go_upto_region 1 with fail
    change Code.wp _ _ _ _ (w.alloc (.cells #[.string (mkB c.name), .int .i64 c.params, .int .i64 c.values, .slice (some ⟨b9, off9, none⟩) c.blocks.length ca] 31))
    rw [HWA.out, HCB.out]
    go_wp2_with fail
    rw [← HQ.out]
    exact pchk_done HF.out rfl (.es (i := 2) (by omega)) HBA.out (by simp)
  have q3 : ¬ (0 : Int) < (L0 : Int) := by omega
  rcases Classical.em (c.values < 0) with q4 | q4
  · have HF : Hid (coC c = (3, -1)) := show _ = _ by rw [HP.out, if_neg hn1, if_pos (.inr (.inr q4))]
    clear h1 h2 hn1 h3
    go_enter Tryd.func10, Tryd.ntmps10
    go_upto_region 1 with fail
    change Code.wp _ _ _ _ (w.alloc (.cells #[.string (mkB c.name), .int .i64 c.params, .int .i64 c.values, .slice (some ⟨b9, off9, none⟩) c.blocks.length ca] 31))
    rw [HWA.out, HCB.out]
    go_wp2_with fail
    rw [← HQ.out]
    exact pchk_done HF.out rfl (.es (i := 2) (by omega)) HBA.out (by simp)
  have hn2 : ¬ (c.blocks.length = 0 ∨ 0 < ((c.blocks[0]?).map fun q => q.params.length).getD 0 ∨ c.values < 0) := by rw [HL0.out]; omega
  rcases Classical.em (c.params < 0) with q5 | q5
  · have HF : Hid (coC c = (9, -1)) := show _ = _ by rw [HP.out, if_neg hn1, if_neg hn2, if_pos (Or.inl q5)]
    clear h1 h2 hn1 hn2 h3
    go_enter Tryd.func10, Tryd.ntmps10
    go_upto_region 1 with fail
    change Code.wp _ _ _ _ (w.alloc (.cells #[.string (mkB c.name), .int .i64 c.params, .int .i64 c.values, .slice (some ⟨b9, off9, none⟩) c.blocks.length ca] 31))
    rw [HWA.out, HCB.out]
    go_wp2_with fail
    rw [← HQ.out]
    exact pchk_done HF.out rfl (.es (i := 8) (by omega)) HBA.out (by simp)
  rcases Classical.em (4 < c.params) with q6 | q6
  · have HF : Hid (coC c = (9, -1)) := show _ = _ by rw [HP.out, if_neg hn1, if_neg hn2, if_pos (Or.inr q6)]
    clear h1 h2 hn1 hn2 h3
    go_enter Tryd.func10, Tryd.ntmps10
    go_upto_region 1 with fail
    change Code.wp _ _ _ _ (w.alloc (.cells #[.string (mkB c.name), .int .i64 c.params, .int .i64 c.values, .slice (some ⟨b9, off9, none⟩) c.blocks.length ca] 31))
    rw [HWA.out, HCB.out]
    go_wp2_with fail
    rw [← HQ.out]
    exact pchk_done HF.out rfl (.es (i := 8) (by omega)) HBA.out (by simp)
  have HP2 : Hid (coC c = bksC c [] c.blocks 0) := show _ = _ by rw [HP.out, if_neg hn1, if_neg hn2, if_neg (by omega)]
  have hlen : c.blocks.length ≤ 1000 := by omega
  clear h1 h2 hn1 hn2 h3
  go_enter Tryd.func10, Tryd.ntmps10
  go_upto_region 1 with fail
  change Code.wp _ _ _ _ (w.alloc (.cells #[.string (mkB c.name), .int .i64 c.params, .int .i64 c.values, .slice (some ⟨b9, off9, none⟩) c.blocks.length ca] 31))
  rw [HWA.out, HCB.out]
  go_upto_region 8 with fail
  rw [HBB.out, HWM.out]
  clear i0 i1 i2 i3 g1 g2 g7 g8 j0 hmm
  obtain ⟨⟨i0, i1, i2, i3⟩, -, -, -⟩ := HX.out wM (World.grownBy.refl _ _)
  go_wp2_with fail
  go_loopw [4, 5, 6, 52] (fun _ _ _ i wr => ∃ (k : Nat) (mk : List Int), k ≤ c.blocks.length ∧ i = .int .i64 k ∧ bksC c [] c.blocks 0 = bksC c mk (c.blocks.drop k) k ∧ OwnSet wr B (30 * k) mk ∧ wM.grownBy wr (some B)) (fun _ _ _ i _ => c.blocks.length - (intOf i).toNat)
  case atStart => exact ⟨0, [], Nat.zero_le _, rfl, rfl, HSET.out, World.grownBy.refl _ _⟩
  case round =>
    obtain ⟨k, mk, hk, rfl, hI, hset, hgr⟩ := hrel
    have HI := Lib.hid hI
    have HST := Lib.hid hset
    have HGR := Lib.hid hgr
    clear hI hset hgr i0 i1 i2 i3
    obtain ⟨⟨i0, i1, i2, i3⟩, hLr, hrr, hbw⟩ := HX.out wr HGR.out
    by_cases hlt : k < c.blocks.length
    · have hlt' : (k : Int) < (c.blocks.length : Int) := by omega
      obtain ⟨b8, off8, P, p, I, i, T, t, W, wc, e8, hB⟩ := bks_at hrr hlt
      injection e8 with e8
      injection e8 with e8 e9 _
      subst e8; subst e9
      have HSS := Lib.hid (bksC_drop (m := mk) hlt)
      have hsm := HS.out _ (List.getElem_mem hlt)
      have hbn := HN.out _ (List.getElem_mem hlt)
      obtain ⟨x, hx⟩ : ∃ x, c.blocks[k] = x := ⟨_, rfl⟩
      rw [hx] at HSS hB hsm hbn
      obtain ⟨b0, b1, b2, b3, b4, b5, r1, r2, r3, r4⟩ := hB
      obtain ⟨q, hq⟩ : ∃ q, wr.heap.size = q := ⟨_, rfl⟩
      obtain ⟨wB, hwB⟩ : ∃ wB, wr.alloc (.cells #[.slice P x.params.length p, .slice I x.ins.length i, .string (mkB x.fin), .int .i64 x.v, .slice T x.nx.length t, .slice W x.wth.length wc] 56) = wB := ⟨_, rfl⟩
      have hbB : Below wr.heap.size wr wB := by rw [← hwB]; exact grow_alloc (grow_refl _) _
      have hmB : wB.heap[q]? = some (.cells #[.slice P x.params.length p, .slice I x.ins.length i, .string (mkB x.fin), .int .i64 x.v, .slice T x.nx.length t, .slice W x.wth.length wc] 56 (0, 0)) := by rw [← hwB, ← hq]; exact heap_alloc_new wr _
      have HGB : Hid (wM.grownBy wB (some B)) := HGR.out.trans (grown_of_below hbB _)
      have hrows : BkRows wB x P I T W := BkRows.keep ⟨r1, r2, r3, r4⟩ (Keeps.of_below hbB)
      have hc := pblock_any E c (some ⟨b9, off9, none⟩) ca mk x hsm (makes_I64 hbn) P p I i T t W wc B (30 * k) (by omega) wB (HX.out wB HGB.out).2.1 hrows (HX.out wB HGB.out).2.2.1 (HST.out.below hbB)
      unfold coV bkV at hc
      have hle := bkC_le c mk x
      have HC := Lib.hid hc
      have HLE := Lib.hid hle
      have HMB := Lib.hid hmB
      have HWB := Lib.hid hwB
      have HQ2 := Lib.hid hq
      clear hwB hmB hbB hrr hx hq hLr hsm hbn r1 r2 r3 r4 hrows hc hle hbw
      go_upto_region 11 with fail
      try change Code.wp _ _ _ _ (wr.alloc (.cells #[.slice P x.params.length p, .slice I x.ins.length i, .string (mkB x.fin), .int .i64 x.v, .slice T x.nx.length t, .slice W x.wth.length wc] 56))
      rw [HQ2.out, HWB.out]
      clear b0 b1 b2 b3 b4 b5 i0 i1 i2 i3
      obtain ⟨b0, b1, b2, b3, b4, b5⟩ := row6B HMB.out
      obtain ⟨⟨i0, i1, i2, i3⟩, -, -, -⟩ := HX.out wB HGB.out
      by_cases hz : bkC c mk x = 0
      · have HZ := Lib.hid hz
        have HF : Hid (bksC c [] c.blocks 0 = bksC c (onceW mk (makesW x)).2 (c.blocks.drop (k + 1)) (k + 1)) := show _ = _ by rw [HI.out, HSS.out, if_neg (by omega)]
        clear hz
        go_wp2_with (go_at_call 21; (with_reducible refine HC.out.mono ?_); rintro y w1 ⟨rfl, hg1, hs1⟩; rw [HZ.out] ; rw [show pErr E 0 = .nilIface from rfl]; have HS1 := Lib.hid (hs1 HZ.out); have HG1 := Lib.hid (HGB.out.trans hg1); clear hs1 hg1)
        go_roundw
        case rel => exact ⟨k + 1, _, by omega, by go_num, HF.out, by have := HS1.out; rwa [show 30 * (k + 1) = 30 * k + 30 by omega], HG1.out⟩
        case measure => simp [intOf]; omega
      · have HF : Hid (coC c = (bkC c mk x, (k : Int))) := show _ = _ by rw [HP2.out, HI.out, HSS.out, if_pos hz]
        obtain ⟨z, hzz⟩ : ∃ z, bkC c mk x = z := ⟨_, rfl⟩
        rw [hzz] at HF hz HLE
        have HZZ := Lib.hid hzz
        have HZ0 := Lib.hid hz
        clear hz hzz
        go_wp2_with (go_at_call 21; (with_reducible refine HC.out.mono ?_); rintro y w1 ⟨rfl, hg1, hs1⟩; rw [HZZ.out]; rw [show pErr E z = esV (E (z - 1)) from if_neg HZ0.out]; unfold esV; have HG1 := Lib.hid (HGB.out.trans hg1); clear hs1 hg1)
        rw [← HQ.out]
        exact pchk_done HF.out rfl (pFault_is E w1 k HZ0.out HLE.out) (grow_alloc (HX.out w1 HG1.out).2.2.2 _) ⟨fun h => (by cases h), fun h => absurd h HZ0.out⟩
    · have hk' : k = c.blocks.length := by omega
      have HF : Hid (coC c = (0, -1)) := show _ = _ by rw [HP2.out, HI.out, hk', List.drop_length]; rfl
      subst hk'
      have HBW := Lib.hid hbw
      clear hLr hrr hbw
      go_wp2_with fail
      rw [← HQ.out]
      exact pchk_done HF.out rfl ErrIs.nil_ HBW.out (by simp)
end Go.Proofs.YtdilakpipbkokaaDoor
