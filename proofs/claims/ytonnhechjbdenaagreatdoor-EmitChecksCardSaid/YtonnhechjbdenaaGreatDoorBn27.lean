import Derived.Laws.IdiomCopy
import Derived.Laws.CopyRow
import Derived.Laws.CopyOwn
import Derived.Deep.AppendLies
import Derived.Deep.RegionHeld3
import Derived.Test.YtonnhechjbdenaaGreatDoorBn26
import Derived.Test.YtonnhechjbdenaaGreatDoorBn8
import Derived.Test.YtonnhechjbdenaaGreatDoorBn1
set_option linter.unusedVariables false
set_option linter.unusedSimpArgs false
namespace Go.Proofs.YtonnhechjbdenaaGreatDoor
open Go.RowKit

/-! mach.Run -/
section
variable {m : PImg} {A : Option Addr} {cf : Nat} {B : Option Addr} {cw : Nat} {C : Value} {mb T : Nat} {s : PMs} {v u : Value} {fbs : List (Nat × Nat)} {w w' : World}
end
theorem owns_rowM {w : World} {base : Nat} {e : TypeId} {v : Value} {n : Nat} {xs : List Value} (h : w.ownsRow base e 1 v n xs) : ∃ A c, v = .slice A n c ∧ n ≤ c ∧ Row w A xs := by
  rcases h.2 with ⟨q, h0⟩ | ⟨g, cap, cur, q1, q2, q3, q4, q5, q6, q7⟩
  · have hx : xs = [] := List.eq_nil_of_length_eq_zero (by rw [h.1, h0])
    subst hx; subst h0
    exact ⟨none, 0, q, Nat.le_refl _, Row.nil _ _⟩
  · refine ⟨_, cap, q1, q4, fun j z hj => ⟨g, 0, rfl, ?_⟩⟩
    rw [← q7, List.getElem?_take] at hj
    split at hj
    · rw [Nat.zero_add, cell_of_row _ _ j _ _ _ q3, ← Array.getElem?_toList]; exact hj
    · cases hj
def ldCode : Op := Op.load 86 (Operand.tmp 78)
@[go_sem] theorem ldCode_eq : ldCode = Op.load 86 (Operand.tmp 78) := rfl
def endO (s : PMs) : Oc4 := (s.how, s.val, s.out, s.ticks)
end Go.Proofs.YtonnhechjbdenaaGreatDoor

namespace Go.Proofs.YtonnhechjbdenaaGreatDoor
open Go.RowKit

/-! an image as the package has it -/
theorem u64Info : (Tryz.prog.info? 68).map (fun i => (i.zero, i.size, i.bytes)) = some (some (.int .u64 0), 1, 8) := by kernel_rfl
theorem efunInfo : (Tryz.prog.info? 52).map (fun i => (i.zero, i.size, i.bytes)) = some (some (.agg #[.string ⟨#[]⟩, .int .i64 0, .int .i64 0, .int .i64 0]), 4, 40) := by kernel_rfl
theorem append_noneM {P : Program} (w : World) (t ty e : TypeId) (i : TypeInfo) (ht : P.underlying t = some (.slice e)) (hi : P.info? e = some i) (A : Option Addr) (n c : Nat) (hle : n ≤ c) (X : Option Addr) (d : Nat) :
    (Builtin.append_ #[t, t] ty #[.slice A n c, .slice X 0 d]).run P w = .ok (.slice A n c) w := by
  cases A <;> cases X <;> simp [Builtin.append_, run_underlying ht, sizeOf, typeInfo, hi, Builtin.lenOf, Builtin.firstCells, loadCells, loadCellsFrom, hle, storeCells]
set_option maxRecDepth 100000 in
/-- append(none, l...): words of one's own. -/
theorem wpList_append_u64s0 {w : World} {ops : Array Oper} {rest : List Oper} {o : Oper} {a : Act} {Q : Exit → Act → World → Prop} (hgd : o.guard = none) (s x : Operand)
    (ho : o.op = .call { callee := .builtin .append, args := #[s, x], argTypes := #[35, 35] }) (ys : List Int) (hs : a.eval s = .slice none 0 0)
    (X : Option Addr) (c : Nat) (hx : a.eval x = .slice X ys.length c) (hrow : Row w X (u64Vs ys)) (hn : ys.length ≤ 100000) (base : Nat) (hbase : base ≤ w.heap.size)
    (h : ∀ v' w', w'.ownsRow base 68 1 v' ys.length (u64Vs ys) → Below w.heap.size w w' → wpList Tryz.prog ops Q rest (a.put o.dst v') w') :
    wpList Tryz.prog ops Q (o :: rest) a w := by
  obtain ⟨i0, hi, hz0, hz1, hz2⟩ := info_parts u64Info
  cases ys with
  | nil =>
    refine wpList_plain hgd fun K hK => ?_
    unfold Oper.wp execOp
    simp only [ho, resolve, invoke, builtin, Sem.run_bind, Sem.run_pure, Result.andThen_ok, List.map_toArray, List.map_cons, List.map_nil, hs, hx, List.length_nil, append_noneM w _ o.type _ i0 Tryz.underlying35 hi none 0 0 (Nat.le_refl _) X c]
    exact hK _ _ (h _ w (World.ownsRow_nil _ _ _ _) (Below.refl _ _))
  | cons y ys =>
    obtain ⟨b, off, rfl, -⟩ := hrow 0 _ rfl
    refine wpList_append_own_at _ hgd s x 35 ho base 68 i0 _ 1 8 Tryz.underlying35 hi hz0 hz1 hz2 rfl (by decide) (.slice none 0 0) 0 [] hs (World.ownsRow_nil _ _ _ _) ⟨b, off, none⟩ (y :: ys).length c (u64Vs (y :: ys)) hx (by simp [u64Vs]) (fun j u hj => ?_) (fun u hu => ?_) (by unfold maxLen; omega) (by omega) hbase (fun v' w' g1 g2 _ g4 => ?_)
    · obtain ⟨b2, off2, e, hc⟩ := hrow j u hj
      injection e with e
      injection e with e1 e2 _
      subst e1; subst e2
      have hadd : (⟨b, off, none⟩ : Addr).add j = ⟨b, off + j, none⟩ := by unfold Addr.add; split <;> simp_all
      rw [hadd]; exact hc
    · simp only [u64Vs, List.mem_map] at hu
      obtain ⟨z, _, rfl⟩ := hu
      rfl
    · simp only [List.nil_append, Nat.zero_add] at g1
      exact h v' w' g1 (Below.grown (Below.refl _ _) g2 (Nat.le_refl _) (fun k hk => by cases hk))
theorem setImg {w : World} {q : Nat} {a0 a1 v0 v1 : Value} {T : TypeId} {fz : Nat × Nat} (h : w.heap[q]? = some (.cells #[a0, a1] T fz)) :
    ((w.setCell ⟨q, 0, none⟩ v0).setCell ⟨q, 1, none⟩ v1).heap[q]? = some (.cells #[v0, v1] T fz) :=
  row_set (j := 1) v1 (row_set (j := 0) v0 h rfl) (by simp)
/-- The image, as far as it is copied. -/
structure AsAt (m : PImg) (base ob k : Nat) (vF vW : Value) (w : World) : Prop where
  blk : w.heap[ob]? = some (.cells #[vF, vW] 37 (0, 0))
  funs : w.ownsRow base 52 4 vF k ((m.funs.take k).flatMap fnL)
  words : w.ownsRow base 68 1 vW m.words.length (u64Vs m.words)
theorem AsAt.below {m : PImg} {base ob k : Nat} {vF vW : Value} {w w' : World} (h : AsAt m base ob k vF vW w) (hb : Below w.heap.size w w') : AsAt m base ob k vF vW w' :=
  ⟨(hb.block _ (Array.getElem?_eq_some_iff.1 h.blk).1).trans h.blk, own_same h.funs fun j hj => hb.block _ (own_lt h.funs hj).2, own_same h.words fun j hj => hb.block _ (own_lt h.words hj).2⟩
theorem AsAt.next {m : PImg} {base ob k : Nat} {vF vW v' : Value} {w w4 : World} {o : Obj} (h : AsAt m base ob k vF vW w) (hk : k < m.funs.length) (hob : base ≤ ob) (hown : w4.ownsRow base 52 4 v' (k + 1) ((m.funs.take k).flatMap fnL ++ fnL m.funs[k])) (hg : (w.alloc o).grownBy w4 vF.ownBlock) :
    w4.heap[ob]? = w.heap[ob]? ∧ AsAt m base ob (k + 1) v' vW (w4.setCell ⟨ob, 0, none⟩ v') ∧ Below base w (w4.setCell ⟨ob, 0, none⟩ v') := by
  have hlt := (Array.getElem?_eq_some_iff.1 h.blk).1
  have hne : vF.ownBlock ≠ some ob := own_else h.funs h.blk fun cs e => by injection e with _ e _; exact absurd e (by decide)
  have hnw : vW.ownBlock ≠ some ob := own_else h.words h.blk fun cs e => by injection e with _ e _; exact absurd e (by decide)
  have hm : w4.heap[ob]? = w.heap[ob]? := by rw [hg.block ob (by simp; omega) (fun e => hne e.symm)]; exact old_block _ _ hlt
  have hne2 : v'.ownBlock ≠ some ob := own_else hown (hm.trans h.blk) fun cs e => by injection e with _ e _; exact absurd e (by decide)
  refine ⟨hm, ⟨row_set (j := 0) v' (hm.trans h.blk) (by simp), ?_, own_same h.words fun j hj => (Below.heap_setCell _ _ _ _ (fun e => hnw (by rw [hj, e]))).trans ?_⟩, ?_⟩
  · rw [List.take_succ_eq_append_getElem hk, List.flatMap_append]
    have e2 : ([m.funs[k]] : List PFn).flatMap fnL = fnL m.funs[k] := by simp
    rw [e2]
    exact own_same hown fun j hj => Below.heap_setCell _ _ _ _ (fun e => hne2 (by rw [hj, e]))
  · have h1 := own_lt h.words hj
    have h2 := own_ne h.words h.funs (by decide) hj
    rw [hg.block j (by simp; omega) (fun e => h2 e.symm)]
    exact old_block _ _ h1.2
  · exact (Below.grown ((Below.refl base w).alloc (by omega) o) hg (by simp; omega) (fun q hq => (own_lt h.funs hq).1)).trans ((Below.refl base w4).setCell (p := ⟨ob, 0, none⟩) hob _)
def AsPost (m : PImg) (w : World) : Ending → World → Prop := fun e w' => ∃ vF vW, e = .returned (.agg #[vF, vW]) ∧ w'.ownsRow w.heap.size 52 4 vF m.funs.length (m.funs.flatMap fnL) ∧ w'.ownsRow w.heap.size 68 1 vW m.words.length (u64Vs m.words) ∧ Below w.heap.size w w'
set_option maxHeartbeats 8000000 in
set_option maxRecDepth 100000 in
theorem AsImage_any (m : PImg) (hnf : m.funs.length ≤ 100) (hnw : m.words.length ≤ 100000) (A B : Option Addr) (cf cw : Nat) (w : World) (hA : Row w A (m.funs.flatMap fnL)) (hB : Row w B (u64Vs m.words)) :
    Calls Tryz.prog 17 #[.agg #[.slice A m.funs.length cf, .slice B m.words.length cw]] w (AsPost m w) := by
  obtain ⟨wA, hwA⟩ : ∃ wA, (w.alloc (.cells #[.slice A m.funs.length cf, .slice B m.words.length cw] 48)).alloc (.cells #[.slice none 0 0, .slice none 0 0] 37) = wA := ⟨_, rfl⟩
  have hbA : Below w.heap.size w wA := by rw [← hwA]; exact grow_alloc (grow_alloc (grow_refl _) _) _
  have hmA : wA.heap[w.heap.size]? = some (.cells #[.slice A m.funs.length cf, .slice B m.words.length cw] 48 (0, 0)) := by rw [← hwA]; exact (old_block _ _ (by simp)).trans (heap_alloc_new w _)
  have hrA : wA.heap[w.heap.size + 1]? = some (.cells #[.slice none 0 0, .slice none 0 0] 37 (0, 0)) := by rw [← hwA]; exact new_block _ _ (by simp)
  have hlA : w.heap.size + 1 < wA.heap.size := (Array.getElem?_eq_some_iff.1 hrA).1
  have HX : Hid (∀ w', Below wA.heap.size wA w' → (w'.cell? ⟨w.heap.size, 0, none⟩ = some (.slice A m.funs.length cf) ∧ w'.cell? ⟨w.heap.size, 1, none⟩ = some (.slice B m.words.length cw)) ∧ w'.heap[w.heap.size + 1]? = some (.cells #[.slice none 0 0, .slice none 0 0] 37 (0, 0)) ∧ Row w' A (m.funs.flatMap fnL) ∧ Row w' B (u64Vs m.words) ∧ Below w.heap.size w w') := fun w' hb =>
    ⟨row2m ((hb.block _ (by omega)).trans hmA), (hb.block _ hlA).trans hrA, (hA.keep (Keeps.of_below hbA)).keep (Keeps.of_below hb), (hB.keep (Keeps.of_below hbA)).keep (Keeps.of_below hb), grow_trans hbA hb⟩
  have HWA := Lib.hid hwA
  obtain ⟨⟨i0, i1⟩, -, -, hBA, -⟩ := HX.out wA (grow_refl _)
  have HBA := Lib.hid hBA
  obtain ⟨fi, hfi, hz0, hz1, hz2⟩ := info_parts efunInfo
  clear hA hB hbA hmA hrA hwA hBA
  go_enter Tryz.func17, Tryz.ntmps17
  go_upto_region 2 with fail
  change Code.wp _ _ _ _ ((w.alloc (.cells #[.slice A m.funs.length cf, .slice B m.words.length cw] 48)).alloc (.cells #[.slice none 0 0, .slice none 0 0] 37))
  rw [HWA.out]
  go_upto_region 3 with (at_builtin; (refine wpList_append_u64s0 rfl (.tmp 7) (.tmp 9) rfl m.words rfl B cw rfl HBA.out hnw wA.heap.size (Nat.le_refl _) ?_; intro vW w2 hvW hb2; obtain ⟨Aw, caw, rfl⟩ := own_slice hvW; have HVW := Lib.hid hvW; have HB2 := Lib.hid hb2; clear hvW hb2))
  obtain ⟨ob, hob⟩ : ∃ ob, w2.heap.size = ob := ⟨_, rfl⟩
  obtain ⟨w3, hw3⟩ : ∃ w3, w2.alloc (.cells #[.slice none 0 0, .slice Aw m.words.length caw] 37) = w3 := ⟨_, rfl⟩
  have hlo : w.heap.size + 1 < ob := by have := HB2.out.size; omega
  have hlo2 : wA.heap.size ≤ ob := by have := HB2.out.size; omega
  have has : AsAt m wA.heap.size ob 0 (.slice none 0 0) (.slice Aw m.words.length caw) w3 := ⟨by rw [← hw3, ← hob]; exact heap_alloc_new w2 _, World.ownsRow_nil _ _ _ _, by rw [← hw3]; exact HVW.out.alloc _⟩
  have hb3 : Below wA.heap.size wA w3 := by rw [← hw3]; exact grow_alloc HB2.out _
  have HAS := Lib.hid has
  have HB3 := Lib.hid hb3
  have hoz : ob < w3.heap.size := (Array.getElem?_eq_some_iff.1 has.blk).1
  rw [hob]
  rw [hw3]
  clear has hb3 hw3
  go_wp2_with fail
  go_loopw [5, 6] (fun i _ wr => ∃ (k : Nat) (vF : Value), k ≤ m.funs.length ∧ i = .int .i64 k ∧ AsAt m wA.heap.size ob k vF (.slice Aw m.words.length caw) wr ∧ Below wA.heap.size wA wr) (fun i _ _ => m.funs.length - (intOf i).toNat)
  case atStart => exact ⟨0, _, Nat.zero_le _, rfl, HAS.out, HB3.out⟩
  case round =>
    obtain ⟨k, vF, hk, rfl, has, hbel⟩ := hrel
    obtain ⟨⟨i0, i1⟩, hrr, hAr, -, -⟩ := HX.out wr hbel
    by_cases hlt : k < m.funs.length
    · have hlt' : (k : Int) < (m.funs.length : Int) := by omega
      obtain ⟨b, off, rfl, f0, f1, f2, f3⟩ := fn_cells hAr hlt
      obtain ⟨f, hf⟩ : ∃ f, m.funs[k] = f := ⟨_, rfl⟩
      have HF := Lib.hid hf
      rw [hf] at f0 f1 f2 f3
      obtain ⟨wF, hwF⟩ : ∃ wF, wr.alloc (.cells #[.string (mkB f.name), .int .i64 f.params, .int .i64 f.slots, .int .i64 f.entry] 98) = wF := ⟨_, rfl⟩
      have hbF : Below wr.heap.size wr wF := by rw [← hwF]; exact grow_alloc (grow_refl _) _
      have hnF : wF.heap[wr.heap.size]? = some (.cells #[.string (mkB f.name), .int .i64 f.params, .int .i64 f.slots, .int .i64 f.entry] 98 (0, 0)) := by rw [← hwF]; exact heap_alloc_new wr _
      have haF := has.below hbF
      obtain ⟨q, hq⟩ : ∃ q, wr.heap.size = q := ⟨_, rfl⟩
      have hlw : ob < wr.heap.size := (Array.getElem?_eq_some_iff.1 has.blk).1
      have hqo : q ≠ ob := by omega
      rw [hq] at hnF
      have HWF := Lib.hid hwF
      have HNF := Lib.hid hnF
      have HAF := Lib.hid haF
      have HBF := Lib.hid (grow_trans hbel hbF)
      obtain ⟨g0, g1, g2, g3⟩ := row4e hnF
      obtain ⟨Af, caf, rfl⟩ := own_slice haF.funs
      obtain ⟨o0, o1⟩ := row2m haF.blk
      have z0 := row_frozen haF.blk 0
      have hbo : wA.heap.size ≤ ob := hlo2
      have hsF : wA.heap.size ≤ wF.heap.size := by have := hbF.size; omega
      have hown : wF.ownsRow wA.heap.size 52 4 (.slice Af k caf) k ((m.funs.take k).flatMap fnL) := haF.funs
      have HOWN := Lib.hid hown
      have hql : q < wF.heap.size := (Array.getElem?_eq_some_iff.1 hnF).1
      clear hwF hnF haF hbF has hown hrr hAr hf
      go_upto_region 7 with fail
      rw [HWF.out]
      clear f0 f1 f2 f3
      go_wp2_with (at_builtin; (refine wpList_append_own_at _ rfl (.tmp 25) (.tmp 35) 34 rfl wA.heap.size 52 fi _ 4 40 Tryz.underlying34 hfi hz0 hz1 hz2 rfl (by decide) _ k ((m.funs.take k).flatMap fnL) rfl (HOWN.out.alloc _) ⟨wF.heap.size, 0, none⟩ 1 1 (fnL f) rfl rfl (World.news_of_block (heap_alloc_new wF _)) (fun u hu => by unfold fnL at hu; simp only [List.mem_cons, List.not_mem_nil, or_false] at hu; rcases hu with rfl | rfl | rfl | rfl <;> rfl) (by unfold maxLen; omega) (by omega) (by simp; omega) ?_; intro v' w4 hown' hgrow _ hat; obtain ⟨A6, a6, rfl⟩ := own_slice hown'; obtain ⟨j1, j2, j3⟩ := HAF.out.next hlt hbo (by rw [HF.out]; exact hown') hgrow; obtain ⟨o0, o1⟩ := row2m (j1.trans HAF.out.blk); have z0 := row_frozen (j1.trans HAF.out.blk) 0; have H2 := Lib.hid j2; have H3 := Lib.hid j3; have HG := Lib.hid hgrow; clear j1 j2 j3 hown' hgrow hat))
      go_roundw
      case rel => exact ⟨k + 1, _, by omega, by go_num, H2.out, HBF.out.trans H3.out⟩
      case measure => simp [intOf]; omega
    · have hk' : k = m.funs.length := by omega
      subst hk'
      have hf2 := has.funs
      rw [List.take_length] at hf2
      obtain ⟨o0, o1⟩ := row2m has.blk
      obtain ⟨s0, s1⟩ := row2m hrr
      have y0 := row_frozen hrr 0
      have y1 := row_frozen hrr 1
      obtain ⟨Af, caf, rfl⟩ := own_slice hf2
      have HF2 := Lib.hid hf2
      have HW2 := Lib.hid has.words
      have HRR := Lib.hid hrr
      have HBW := Lib.hid (HX.out wr hbel).2.2.2.2
      clear hf2 has hrr hAr hbel
      go_wp2_with fail
      obtain ⟨u0, u1⟩ := row2m (setImg (v0 := .slice Af m.funs.length caf) (v1 := .slice Aw m.words.length caw) HRR.out)
      refine bodyPost_ret (v := .agg #[.slice Af m.funs.length caf, .slice Aw m.words.length caw]) (by simp [results, Tryz.results17, go_sem, u0, u1]; try rfl) rfl ?_
      have hk2 : ∀ k, wA.heap.size ≤ k → ((wr.setCell ⟨w.heap.size + 1, 0, none⟩ (.slice Af m.funs.length caf)).setCell ⟨w.heap.size + 1, 1, none⟩ (.slice Aw m.words.length caw)).heap[k]? = wr.heap[k]? := fun k hk => (Below.heap_setCell _ _ _ _ (by simp only; omega)).trans (Below.heap_setCell _ _ _ _ (by simp only; omega))
      exact ⟨_, _, rfl, owns_mono (own_same HF2.out fun k hk => hk2 k (own_lt HF2.out hk).1) (by omega), owns_mono (own_same HW2.out fun k hk => hk2 k (own_lt HW2.out hk).1) (by omega), (HBW.out.setCell (p := ⟨w.heap.size + 1, 0, none⟩) (by simp) _).setCell (p := ⟨w.heap.size + 1, 1, none⟩) (by simp) _⟩
end Go.Proofs.YtonnhechjbdenaaGreatDoor

namespace Go.Proofs.YtonnhechjbdenaaGreatDoor
open Go.RowKit

/-! OfImage: an image as the reference has it -/
theorem rfunInfo : (Tryz.prog.info? 98).map (fun i => (i.zero, i.size, i.bytes)) = some (some (.agg #[.string ⟨#[]⟩, .int .i64 0, .int .i64 0, .int .i64 0]), 4, 40) := by kernel_rfl
/-- The image, as far as it is copied. -/
structure OsAt (m : PImg) (base ob k : Nat) (vF vW : Value) (w : World) : Prop where
  blk : w.heap[ob]? = some (.cells #[vF, vW] 48 (0, 0))
  funs : w.ownsRow base 98 4 vF k ((m.funs.take k).flatMap fnL)
  words : w.ownsRow base 68 1 vW m.words.length (u64Vs m.words)
theorem OsAt.below {m : PImg} {base ob k : Nat} {vF vW : Value} {w w' : World} (h : OsAt m base ob k vF vW w) (hb : Below w.heap.size w w') : OsAt m base ob k vF vW w' :=
  ⟨(hb.block _ (Array.getElem?_eq_some_iff.1 h.blk).1).trans h.blk, own_same h.funs fun j hj => hb.block _ (own_lt h.funs hj).2, own_same h.words fun j hj => hb.block _ (own_lt h.words hj).2⟩
theorem OsAt.next {m : PImg} {base ob k : Nat} {vF vW v' : Value} {w w4 : World} {o : Obj} (h : OsAt m base ob k vF vW w) (hk : k < m.funs.length) (hob : base ≤ ob) (hown : w4.ownsRow base 98 4 v' (k + 1) ((m.funs.take k).flatMap fnL ++ fnL m.funs[k])) (hg : (w.alloc o).grownBy w4 vF.ownBlock) :
    w4.heap[ob]? = w.heap[ob]? ∧ OsAt m base ob (k + 1) v' vW (w4.setCell ⟨ob, 0, none⟩ v') ∧ Below base w (w4.setCell ⟨ob, 0, none⟩ v') := by
  have hlt := (Array.getElem?_eq_some_iff.1 h.blk).1
  have hne : vF.ownBlock ≠ some ob := own_else h.funs h.blk fun cs e => by injection e with _ e _; exact absurd e (by decide)
  have hnw : vW.ownBlock ≠ some ob := own_else h.words h.blk fun cs e => by injection e with _ e _; exact absurd e (by decide)
  have hm : w4.heap[ob]? = w.heap[ob]? := by rw [hg.block ob (by simp; omega) (fun e => hne e.symm)]; exact old_block _ _ hlt
  have hne2 : v'.ownBlock ≠ some ob := own_else hown (hm.trans h.blk) fun cs e => by injection e with _ e _; exact absurd e (by decide)
  refine ⟨hm, ⟨row_set (j := 0) v' (hm.trans h.blk) (by simp), ?_, own_same h.words fun j hj => (Below.heap_setCell _ _ _ _ (fun e => hnw (by rw [hj, e]))).trans ?_⟩, ?_⟩
  · rw [List.take_succ_eq_append_getElem hk, List.flatMap_append]
    have e2 : ([m.funs[k]] : List PFn).flatMap fnL = fnL m.funs[k] := by simp
    rw [e2]
    exact own_same hown fun j hj => Below.heap_setCell _ _ _ _ (fun e => hne2 (by rw [hj, e]))
  · have h1 := own_lt h.words hj
    have h2 := own_ne h.words h.funs (by decide) hj
    rw [hg.block j (by simp; omega) (fun e => h2 e.symm)]
    exact old_block _ _ h1.2
  · exact (Below.grown ((Below.refl base w).alloc (by omega) o) hg (by simp; omega) (fun q hq => (own_lt h.funs hq).1)).trans ((Below.refl base w4).setCell (p := ⟨ob, 0, none⟩) hob _)
def OsPost (m : PImg) (w : World) : Ending → World → Prop := fun e w' => ∃ vF vW, e = .returned (.agg #[vF, vW]) ∧ w'.ownsRow w.heap.size 98 4 vF m.funs.length (m.funs.flatMap fnL) ∧ w'.ownsRow w.heap.size 68 1 vW m.words.length (u64Vs m.words) ∧ Below w.heap.size w w'
set_option maxHeartbeats 8000000 in
set_option maxRecDepth 100000 in
theorem OfImage_any (m : PImg) (hnf : m.funs.length ≤ 100) (hnw : m.words.length ≤ 100000) (A B : Option Addr) (cf cw : Nat) (w : World) (hA : Row w A (m.funs.flatMap fnL)) (hB : Row w B (u64Vs m.words)) :
    Calls Tryz.prog 11 #[.agg #[.slice A m.funs.length cf, .slice B m.words.length cw]] w (OsPost m w) := by
  obtain ⟨wA, hwA⟩ : ∃ wA, (w.alloc (.cells #[.slice A m.funs.length cf, .slice B m.words.length cw] 37)).alloc (.cells #[.slice none 0 0, .slice none 0 0] 48) = wA := ⟨_, rfl⟩
  have hbA : Below w.heap.size w wA := by rw [← hwA]; exact grow_alloc (grow_alloc (grow_refl _) _) _
  have hmA : wA.heap[w.heap.size]? = some (.cells #[.slice A m.funs.length cf, .slice B m.words.length cw] 37 (0, 0)) := by rw [← hwA]; exact (old_block _ _ (by simp)).trans (heap_alloc_new w _)
  have hrA : wA.heap[w.heap.size + 1]? = some (.cells #[.slice none 0 0, .slice none 0 0] 48 (0, 0)) := by rw [← hwA]; exact new_block _ _ (by simp)
  have hlA : w.heap.size + 1 < wA.heap.size := (Array.getElem?_eq_some_iff.1 hrA).1
  have HX : Hid (∀ w', Below wA.heap.size wA w' → (w'.cell? ⟨w.heap.size, 0, none⟩ = some (.slice A m.funs.length cf) ∧ w'.cell? ⟨w.heap.size, 1, none⟩ = some (.slice B m.words.length cw)) ∧ w'.heap[w.heap.size + 1]? = some (.cells #[.slice none 0 0, .slice none 0 0] 48 (0, 0)) ∧ Row w' A (m.funs.flatMap fnL) ∧ Row w' B (u64Vs m.words) ∧ Below w.heap.size w w') := fun w' hb =>
    ⟨row2m ((hb.block _ (by omega)).trans hmA), (hb.block _ hlA).trans hrA, (hA.keep (Keeps.of_below hbA)).keep (Keeps.of_below hb), (hB.keep (Keeps.of_below hbA)).keep (Keeps.of_below hb), grow_trans hbA hb⟩
  have HWA := Lib.hid hwA
  obtain ⟨⟨i0, i1⟩, -, -, hBA, -⟩ := HX.out wA (grow_refl _)
  have HBA := Lib.hid hBA
  obtain ⟨fi, hfi, hz0, hz1, hz2⟩ := info_parts rfunInfo
  clear hA hB hbA hmA hrA hwA hBA
  go_enter Tryz.func11, Tryz.ntmps11
  go_upto_region 2 with fail
  change Code.wp _ _ _ _ ((w.alloc (.cells #[.slice A m.funs.length cf, .slice B m.words.length cw] 37)).alloc (.cells #[.slice none 0 0, .slice none 0 0] 48))
  rw [HWA.out]
  go_upto_region 3 with (at_builtin; (refine wpList_append_u64s0 rfl (.tmp 7) (.tmp 9) rfl m.words rfl B cw rfl HBA.out hnw wA.heap.size (Nat.le_refl _) ?_; intro vW w2 hvW hb2; obtain ⟨Aw, caw, rfl⟩ := own_slice hvW; have HVW := Lib.hid hvW; have HB2 := Lib.hid hb2; clear hvW hb2))
  obtain ⟨ob, hob⟩ : ∃ ob, w2.heap.size = ob := ⟨_, rfl⟩
  obtain ⟨w3, hw3⟩ : ∃ w3, w2.alloc (.cells #[.slice none 0 0, .slice Aw m.words.length caw] 48) = w3 := ⟨_, rfl⟩
  have hlo : w.heap.size + 1 < ob := by have := HB2.out.size; omega
  have hlo2 : wA.heap.size ≤ ob := by have := HB2.out.size; omega
  have has : OsAt m wA.heap.size ob 0 (.slice none 0 0) (.slice Aw m.words.length caw) w3 := ⟨by rw [← hw3, ← hob]; exact heap_alloc_new w2 _, World.ownsRow_nil _ _ _ _, by rw [← hw3]; exact HVW.out.alloc _⟩
  have hb3 : Below wA.heap.size wA w3 := by rw [← hw3]; exact grow_alloc HB2.out _
  have HAS := Lib.hid has
  have HB3 := Lib.hid hb3
  have hoz : ob < w3.heap.size := (Array.getElem?_eq_some_iff.1 has.blk).1
  rw [hob]
  rw [hw3]
  clear has hb3 hw3
  go_wp2_with fail
  go_loopw [5, 6] (fun i _ wr => ∃ (k : Nat) (vF : Value), k ≤ m.funs.length ∧ i = .int .i64 k ∧ OsAt m wA.heap.size ob k vF (.slice Aw m.words.length caw) wr ∧ Below wA.heap.size wA wr) (fun i _ _ => m.funs.length - (intOf i).toNat)
  case atStart => exact ⟨0, _, Nat.zero_le _, rfl, HAS.out, HB3.out⟩
  case round =>
    obtain ⟨k, vF, hk, rfl, has, hbel⟩ := hrel
    obtain ⟨⟨i0, i1⟩, hrr, hAr, -, -⟩ := HX.out wr hbel
    by_cases hlt : k < m.funs.length
    · have hlt' : (k : Int) < (m.funs.length : Int) := by omega
      obtain ⟨b, off, rfl, f0, f1, f2, f3⟩ := fn_cells hAr hlt
      obtain ⟨f, hf⟩ : ∃ f, m.funs[k] = f := ⟨_, rfl⟩
      have HF := Lib.hid hf
      rw [hf] at f0 f1 f2 f3
      obtain ⟨wF, hwF⟩ : ∃ wF, wr.alloc (.cells #[.string (mkB f.name), .int .i64 f.params, .int .i64 f.slots, .int .i64 f.entry] 52) = wF := ⟨_, rfl⟩
      have hbF : Below wr.heap.size wr wF := by rw [← hwF]; exact grow_alloc (grow_refl _) _
      have hnF : wF.heap[wr.heap.size]? = some (.cells #[.string (mkB f.name), .int .i64 f.params, .int .i64 f.slots, .int .i64 f.entry] 52 (0, 0)) := by rw [← hwF]; exact heap_alloc_new wr _
      have haF := has.below hbF
      obtain ⟨q, hq⟩ : ∃ q, wr.heap.size = q := ⟨_, rfl⟩
      have hlw : ob < wr.heap.size := (Array.getElem?_eq_some_iff.1 has.blk).1
      have hqo : q ≠ ob := by omega
      rw [hq] at hnF
      have HWF := Lib.hid hwF
      have HNF := Lib.hid hnF
      have HAF := Lib.hid haF
      have HBF := Lib.hid (grow_trans hbel hbF)
      obtain ⟨g0, g1, g2, g3⟩ := row4e hnF
      obtain ⟨Af, caf, rfl⟩ := own_slice haF.funs
      obtain ⟨o0, o1⟩ := row2m haF.blk
      have z0 := row_frozen haF.blk 0
      have hbo : wA.heap.size ≤ ob := hlo2
      have hsF : wA.heap.size ≤ wF.heap.size := by have := hbF.size; omega
      have hown : wF.ownsRow wA.heap.size 98 4 (.slice Af k caf) k ((m.funs.take k).flatMap fnL) := haF.funs
      have HOWN := Lib.hid hown
      have hql : q < wF.heap.size := (Array.getElem?_eq_some_iff.1 hnF).1
      clear hwF hnF haF hbF has hown hrr hAr hf
      go_upto_region 7 with fail
      rw [HWF.out]
      clear f0 f1 f2 f3
      go_wp2_with (at_builtin; (refine wpList_append_own_at _ rfl (.tmp 25) (.tmp 35) 46 rfl wA.heap.size 98 fi _ 4 40 Tryz.underlying46 hfi hz0 hz1 hz2 rfl (by decide) _ k ((m.funs.take k).flatMap fnL) rfl (HOWN.out.alloc _) ⟨wF.heap.size, 0, none⟩ 1 1 (fnL f) rfl rfl (World.news_of_block (heap_alloc_new wF _)) (fun u hu => by unfold fnL at hu; simp only [List.mem_cons, List.not_mem_nil, or_false] at hu; rcases hu with rfl | rfl | rfl | rfl <;> rfl) (by unfold maxLen; omega) (by omega) (by simp; omega) ?_; intro v' w4 hown' hgrow _ hat; obtain ⟨A6, a6, rfl⟩ := own_slice hown'; obtain ⟨j1, j2, j3⟩ := HAF.out.next hlt hbo (by rw [HF.out]; exact hown') hgrow; obtain ⟨o0, o1⟩ := row2m (j1.trans HAF.out.blk); have z0 := row_frozen (j1.trans HAF.out.blk) 0; have H2 := Lib.hid j2; have H3 := Lib.hid j3; have HG := Lib.hid hgrow; clear j1 j2 j3 hown' hgrow hat))
      go_roundw
      case rel => exact ⟨k + 1, _, by omega, by go_num, H2.out, HBF.out.trans H3.out⟩
      case measure => simp [intOf]; omega
    · have hk' : k = m.funs.length := by omega
      subst hk'
      have hf2 := has.funs
      rw [List.take_length] at hf2
      obtain ⟨o0, o1⟩ := row2m has.blk
      obtain ⟨s0, s1⟩ := row2m hrr
      have y0 := row_frozen hrr 0
      have y1 := row_frozen hrr 1
      obtain ⟨Af, caf, rfl⟩ := own_slice hf2
      have HF2 := Lib.hid hf2
      have HW2 := Lib.hid has.words
      have HRR := Lib.hid hrr
      have HBW := Lib.hid (HX.out wr hbel).2.2.2.2
      clear hf2 has hrr hAr hbel
      go_wp2_with fail
      obtain ⟨u0, u1⟩ := row2m (setImg (v0 := .slice Af m.funs.length caf) (v1 := .slice Aw m.words.length caw) HRR.out)
      refine bodyPost_ret (v := .agg #[.slice Af m.funs.length caf, .slice Aw m.words.length caw]) (by simp [results, Tryz.results11, go_sem, u0, u1]; try rfl) rfl ?_
      have hk2 : ∀ k, wA.heap.size ≤ k → ((wr.setCell ⟨w.heap.size + 1, 0, none⟩ (.slice Af m.funs.length caf)).setCell ⟨w.heap.size + 1, 1, none⟩ (.slice Aw m.words.length caw)).heap[k]? = wr.heap[k]? := fun k hk => (Below.heap_setCell _ _ _ _ (by simp only; omega)).trans (Below.heap_setCell _ _ _ _ (by simp only; omega))
      exact ⟨_, _, rfl, owns_mono (own_same HF2.out fun k hk => hk2 k (own_lt HF2.out hk).1) (by omega), owns_mono (own_same HW2.out fun k hk => hk2 k (own_lt HW2.out hk).1) (by omega), (HBW.out.setCell (p := ⟨w.heap.size + 1, 0, none⟩) (by simp) _).setCell (p := ⟨w.heap.size + 1, 1, none⟩) (by simp) _⟩
end Go.Proofs.YtonnhechjbdenaaGreatDoor

namespace Go.Proofs.YtonnhechjbdenaaGreatDoor
open Go.RowKit

theorem ints_get {xs : List Int} {k : Nat} (h : k < xs.length) : (xs.map (Value.int .i64))[k]? = some (.int .i64 xs[k]) := by simp [h]
def sameI (xs ys : List Int) : Bool := xs == ys
theorem sameI_len {xs ys : List Int} (h : xs.length ≠ ys.length) : sameI xs ys = false := by
  unfold sameI; rw [beq_eq_false_iff_ne]; intro e; exact h (by rw [e])
theorem sameI_step {xs ys : List Int} {k : Nat} (h : k < xs.length) (h' : k < ys.length) : sameI (xs.drop k) (ys.drop k) = (xs[k] == ys[k] && sameI (xs.drop (k + 1)) (ys.drop (k + 1))) := by
  unfold sameI; rw [List.drop_eq_getElem_cons h, List.drop_eq_getElem_cons h']; rfl
theorem SameInts_any (A B : Option Addr) (xs ys : List Int) (c d : Nat) (w : World) (hr : Row w A (xs.map (.int .i64))) (hs : Row w B (ys.map (.int .i64))) (hn : xs.length ≤ 1000000) :
    Calls Tryz.prog 32 #[.slice A xs.length c, .slice B ys.length d] w (Quiet (.bool (sameI xs ys)) w) := by
  by_cases hl : xs.length = ys.length
  · have hl' : ((xs.length : Int) != (ys.length : Int)) = false := by simp [hl]
    have HL := Lib.hid hl
    clear hl
    go_enter Tryz.func32, Tryz.ntmps32
    go_wp2_with fail
    go_loopw [5] (fun i wr => ∃ k m : Nat, k ≤ xs.length ∧ i = .int .i64 k ∧ wr = w.drewN m ∧ sameI xs ys = sameI (xs.drop k) (ys.drop k)) (fun i _ => xs.length - (intOf i).toNat)
    case atStart => exact ⟨0, 0, Nat.zero_le _, rfl, rfl, by simp⟩
    case round =>
      obtain ⟨k, m, hk, rfl, rfl, hI⟩ := hrel
      have HI := Lib.hid hI
      clear hI
      by_cases hlt : k < xs.length
      · have hlt' : k < ys.length := by have := HL.out; omega
        obtain ⟨b, off, rfl, hc⟩ := hr k _ (ints_get hlt)
        obtain ⟨b', off', rfl, hc'⟩ := hs k _ (ints_get hlt')
        have HD := Lib.hid (sameI_step hlt hlt')
        cases he : (xs[k] == ys[k])
        · have he' : (xs[k] != ys[k]) = true := by rw [bne, he]; rfl
          have HE := Lib.hid he
          go_wp2_with fail
          go_quiet (fail)
          go_wp2_with fail
          go_ret
          rw [World.drewN_drewN]
          exact Quiet.drew_of _ (by rw [HI.out, HD.out, HE.out]; rfl)
        · have he' : (xs[k] != ys[k]) = false := by rw [bne, he]; rfl
          have HE := Lib.hid he
          go_wp2_with fail
          go_quiet (fail)
          go_wp2_with fail
          go_roundw
          case rel => exact ⟨k + 1, _, by omega, by go_num, rfl, by rw [HI.out, HD.out, HE.out]; rfl⟩
          case measure => simp [intOf]; omega
      · have hk' : k = xs.length := by omega
        subst hk'
        go_wp2_with fail
        go_ret
        exact Quiet.drew_of _ (by rw [HI.out]; have := HL.out; simp [sameI, this])
  · have hl' : ((xs.length : Int) != (ys.length : Int)) = true := by simp; omega
    have HS := Lib.hid (sameI_len hl)
    clear hl
    go_enter Tryz.func32, Tryz.ntmps32
    go_wp2_with fail
    go_ret
    exact Quiet.same_of (by rw [HS.out]; rfl)
end Go.Proofs.YtonnhechjbdenaaGreatDoor

namespace Go.Proofs.YtonnhechjbdenaaGreatDoor
open Go.RowKit

/-! outcomes beside outcomes; large images; an image as the package has it -/
set_option maxRecDepth 100000 in
theorem SameOutcome_eqM (o : Oc4) (A B : Option Addr) (c d : Nat) (w : World) (hr : Row w A (intVs o.2.2.1)) (hs : Row w B (intVs o.2.2.1)) (hn : o.2.2.1.length ≤ 1000000) :
    Calls Tryz.prog 14 #[ocM o A c, ocM o B d] w (Ret (.bool true) w) := by
  have HI : Hid (∀ w', Below w.heap.size w w' → Calls Tryz.prog 32 #[.slice A o.2.2.1.length c, .slice B o.2.2.1.length d] w' (Quiet (.bool true) w')) := fun w' hb => by
    have := SameInts_any A B o.2.2.1 o.2.2.1 c d w' (hr.keep (Keeps.of_below hb)) (hs.keep (Keeps.of_below hb)) hn
    rwa [show sameI o.2.2.1 o.2.2.1 = true from beq_self_eq_true _] at this
  have h0 : ((mkB o.1).toList == (mkB o.1).toList) = true := by simp
  unfold ocM
  clear hr hs
  go_enter Tryz.func14, Tryz.ntmps14
  go_wp2_with (go_at_call 32; (with_reducible refine (HI.out _ (grow_alloc (grow_alloc (grow_refl _) _) _)).mono ?_); rintro y w1 ⟨rfl, n, rfl⟩)
  go_ret
  exact ⟨rfl, grow_drew (grow_alloc (grow_alloc (grow_refl _) _) _) _⟩
def longName (f : PFn) : Bool := decide (20 < f.name.length)
def largeB (m : PImg) : Bool := decide (12 < m.funs.length) || (decide (200 < m.words.length) && (m.words.length != 8001)) || m.funs.any longName
theorem mkB_lenM (l : List UInt8) : (mkB l).size = l.length := rfl
theorem anyLong_step {fs : List PFn} {k : Nat} (h : k < fs.length) : (fs.drop k).any longName = (longName fs[k] || (fs.drop (k + 1)).any longName) := by
  rw [List.drop_eq_getElem_cons h, List.any_cons]
set_option maxHeartbeats 4000000 in
set_option maxRecDepth 100000 in
theorem largeImage_any (m : PImg) (hnf : m.funs.length ≤ maxLen) (hnw : m.words.length ≤ maxLen) (A B : Option Addr) (cf cw : Nat) (w : World) (hA : Row w A (m.funs.flatMap fnL)) :
    Calls Tryz.prog 16 #[.agg #[.slice A m.funs.length cf, .slice B m.words.length cw]] w (Ret (.bool (largeB m)) w) := by
  have hbA := grow_alloc (grow_refl w) (.cells #[.slice A m.funs.length cf, .slice B m.words.length cw] 48)
  have hmA := heap_alloc_new w (.cells #[.slice A m.funs.length cf, .slice B m.words.length cw] 48)
  obtain ⟨wA, hwA⟩ : ∃ wA, w.alloc (.cells #[.slice A m.funs.length cf, .slice B m.words.length cw] 48) = wA := ⟨_, rfl⟩
  rw [hwA] at hbA hmA
  obtain ⟨i0, i1⟩ := row2m hmA
  have HWA := Lib.hid hwA
  have HB := Lib.hid hbA
  have hA' := hA.keep (Keeps.of_below hbA)
  clear hwA hbA hmA hA
  by_cases h1 : 12 < m.funs.length
  · have HL : Hid (largeB m = true) := show _ = _ by unfold largeB; simp [h1]
    have q1 : (12 : Int) < (m.funs.length : Int) := by omega
    clear h1
    all_goals
      go_enter Tryz.func16, Tryz.ntmps16
      go_upto_region 1 with fail
      change Code.wp _ _ _ _ (w.alloc (.cells #[.slice A m.funs.length cf, .slice B m.words.length cw] 48))
      rw [HWA.out]
      go_wp2_with fail
      go_ret
      exact ⟨by rw [HL.out]; rfl, HB.out⟩
  · have q1 : ¬ (12 : Int) < (m.funs.length : Int) := by omega
    by_cases h2 : 200 < m.words.length
    · have q2 : (200 : Int) < (m.words.length : Int) := by omega
      by_cases h3 : m.words.length = 8001
      · have q3 : ((m.words.length : Int) != 8001) = false := by rw [h3]; rfl
        have HL : Hid (largeB m = (m.funs.drop 0).any longName) := show _ = _ by unfold largeB; simp [h1, h3]
        clear h1 h2 h3
        go_enter Tryz.func16, Tryz.ntmps16
        go_upto_region 1 with fail
        change Code.wp _ _ _ _ (w.alloc (.cells #[.slice A m.funs.length cf, .slice B m.words.length cw] 48))
        rw [HWA.out]
        go_wp2_with fail
        go_loop [3] (fun i => ∃ k : Nat, k ≤ m.funs.length ∧ i = .int .i64 k ∧ largeB m = (m.funs.drop k).any longName) (fun i => m.funs.length - (intOf i).toNat)
        case atStart => exact ⟨0, Nat.zero_le _, rfl, HL.out⟩
        case round =>
          obtain ⟨k, hk, rfl, hI⟩ := hrel
          have HI := Lib.hid hI
          clear hI
          by_cases hlt : k < m.funs.length
          · have hlt' : (k : Int) < (m.funs.length : Int) := by omega
            obtain ⟨b, off, rfl, f0, -, -, -⟩ := fn_cells hA' hlt
            have HS := Lib.hid (anyLong_step hlt)
            have hsz := mkB_lenM m.funs[k].name
            by_cases hl : 20 < m.funs[k].name.length
            · have HF : Hid (largeB m = true) := show _ = _ by rw [HI.out, HS.out]; unfold longName; simp [hl]
              have q9 : (20 : Int) < (m.funs[k].name.length : Int) := by omega
              clear hl
              go_wp2_with fail
              go_ret
              exact ⟨by rw [HF.out]; rfl, HB.out⟩
            · have HF : Hid (largeB m = (m.funs.drop (k + 1)).any longName) := show _ = _ by
                rw [HI.out, HS.out, show longName m.funs[k] = false from decide_eq_false hl]; rfl
              have q9 : ¬ (20 : Int) < (m.funs[k].name.length : Int) := by omega
              clear hl
              go_wp2_with fail
              go_round
              case rel => exact ⟨k + 1, by omega, by go_num, HF.out⟩
              case measure => simp [intOf]; omega
          · have hk' : k = m.funs.length := by omega
            subst hk'
            have HF : Hid (largeB m = false) := show _ = _ by rw [HI.out, List.drop_length]; rfl
            go_wp2_with fail
            go_ret
            exact ⟨by rw [HF.out]; rfl, HB.out⟩
      · have q3 : ((m.words.length : Int) != 8001) = true := by simp; omega
        have HL : Hid (largeB m = true) := show _ = _ by unfold largeB; simp [h2, h3]
        clear h1 h2 h3
        go_enter Tryz.func16, Tryz.ntmps16
        go_upto_region 1 with fail
        change Code.wp _ _ _ _ (w.alloc (.cells #[.slice A m.funs.length cf, .slice B m.words.length cw] 48))
        rw [HWA.out]
        go_wp2_with fail
        go_ret
        exact ⟨by rw [HL.out]; rfl, HB.out⟩
    · have q2 : ¬ (200 : Int) < (m.words.length : Int) := by omega
      have HL : Hid (largeB m = (m.funs.drop 0).any longName) := show _ = _ by unfold largeB; simp [h1, h2]
      clear h1 h2
      go_enter Tryz.func16, Tryz.ntmps16
      go_upto_region 1 with fail
      change Code.wp _ _ _ _ (w.alloc (.cells #[.slice A m.funs.length cf, .slice B m.words.length cw] 48))
      rw [HWA.out]
      go_wp2_with fail
      go_loop [3] (fun i => ∃ k : Nat, k ≤ m.funs.length ∧ i = .int .i64 k ∧ largeB m = (m.funs.drop k).any longName) (fun i => m.funs.length - (intOf i).toNat)
      case atStart => exact ⟨0, Nat.zero_le _, rfl, HL.out⟩
      case round =>
        obtain ⟨k, hk, rfl, hI⟩ := hrel
        have HI := Lib.hid hI
        clear hI
        by_cases hlt : k < m.funs.length
        · have hlt' : (k : Int) < (m.funs.length : Int) := by omega
          obtain ⟨b, off, rfl, f0, -, -, -⟩ := fn_cells hA' hlt
          have HS := Lib.hid (anyLong_step hlt)
          have hsz := mkB_lenM m.funs[k].name
          by_cases hl : 20 < m.funs[k].name.length
          · have HF : Hid (largeB m = true) := show _ = _ by rw [HI.out, HS.out]; unfold longName; simp [hl]
            have q9 : (20 : Int) < (m.funs[k].name.length : Int) := by omega
            clear hl
            go_wp2_with fail
            go_ret
            exact ⟨by rw [HF.out]; rfl, HB.out⟩
          · have HF : Hid (largeB m = (m.funs.drop (k + 1)).any longName) := show _ = _ by
              rw [HI.out, HS.out, show longName m.funs[k] = false from decide_eq_false hl]; rfl
            have q9 : ¬ (20 : Int) < (m.funs[k].name.length : Int) := by omega
            clear hl
            go_wp2_with fail
            go_round
            case rel => exact ⟨k + 1, by omega, by go_num, HF.out⟩
            case measure => simp [intOf]; omega
        · have hk' : k = m.funs.length := by omega
          subst hk'
          have HF : Hid (largeB m = false) := show _ = _ by rw [HI.out, List.drop_length]; rfl
          go_wp2_with fail
          go_ret
          exact ⟨by rw [HF.out]; rfl, HB.out⟩
end Go.Proofs.YtonnhechjbdenaaGreatDoor
