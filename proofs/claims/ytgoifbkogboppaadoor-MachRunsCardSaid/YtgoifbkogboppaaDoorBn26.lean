import Derived.Test.YtgoifbkogboppaaDoorBn25
set_option linter.unusedVariables false
set_option linter.unusedSimpArgs false
namespace Go.Proofs.YtgoifbkogboppaaDoor
open Go.RowKit

/-! an image as the package has it -/
theorem u64Info : (Tryd.prog.info? 49).map (fun i => (i.zero, i.size, i.bytes)) = some (some (.int .u64 0), 1, 8) := by kernel_rfl
theorem efunInfo : (Tryd.prog.info? 48).map (fun i => (i.zero, i.size, i.bytes)) = some (some (.agg #[.string ⟨#[]⟩, .int .i64 0, .int .i64 0, .int .i64 0]), 4, 40) := by kernel_rfl
theorem append_noneM {P : Program} (w : World) (t ty e : TypeId) (i : TypeInfo) (ht : P.underlying t = some (.slice e)) (hi : P.info? e = some i) (A : Option Addr) (n c : Nat) (hle : n ≤ c) (X : Option Addr) (d : Nat) :
    (Builtin.append_ #[t, t] ty #[.slice A n c, .slice X 0 d]).run P w = .ok (.slice A n c) w := by
  cases A <;> cases X <;> simp [Builtin.append_, run_underlying ht, sizeOf, typeInfo, hi, Builtin.lenOf, Builtin.firstCells, loadCells, loadCellsFrom, hle, storeCells]
set_option maxRecDepth 100000 in
/-- append(none, l...): words of one's own. -/
theorem wpList_append_u64s0 {w : World} {ops : Array Oper} {rest : List Oper} {o : Oper} {a : Act} {Q : Exit → Act → World → Prop} (hgd : o.guard = none) (s x : Operand)
    (ho : o.op = .call { callee := .builtin .append, args := #[s, x], argTypes := #[23, 23] }) (ys : List Int) (hs : a.eval s = .slice none 0 0)
    (X : Option Addr) (c : Nat) (hx : a.eval x = .slice X ys.length c) (hrow : Row w X (u64Vs ys)) (hn : ys.length ≤ 100000) (base : Nat) (hbase : base ≤ w.heap.size)
    (h : ∀ v' w', w'.ownsRow base 49 1 v' ys.length (u64Vs ys) → Below w.heap.size w w' → wpList Tryd.prog ops Q rest (a.put o.dst v') w') :
    wpList Tryd.prog ops Q (o :: rest) a w := by
  obtain ⟨i0, hi, hz0, hz1, hz2⟩ := info_parts u64Info
  cases ys with
  | nil =>
    refine wpList_plain hgd fun K hK => ?_
    unfold Oper.wp execOp
    simp only [ho, resolve, invoke, builtin, Sem.run_bind, Sem.run_pure, Result.andThen_ok, List.map_toArray, List.map_cons, List.map_nil, hs, hx, List.length_nil, append_noneM w _ o.type _ i0 Tryd.underlying23 hi none 0 0 (Nat.le_refl _) X c]
    exact hK _ _ (h _ w (World.ownsRow_nil _ _ _ _) (Below.refl _ _))
  | cons y ys =>
    obtain ⟨b, off, rfl, -⟩ := hrow 0 _ rfl
    refine wpList_append_own_at _ hgd s x 23 ho base 49 i0 _ 1 8 Tryd.underlying23 hi hz0 hz1 hz2 rfl (by decide) (.slice none 0 0) 0 [] hs (World.ownsRow_nil _ _ _ _) ⟨b, off, none⟩ (y :: ys).length c (u64Vs (y :: ys)) hx (by simp [u64Vs]) (fun j u hj => ?_) (fun u hu => ?_) (by unfold maxLen; omega) (by omega) hbase (fun v' w' g1 g2 _ g4 => ?_)
    · obtain ⟨b2, off2, e, hc⟩ := hrow j u hj
      injection e with e
      injection e with e1 e2 _
      subst e1; subst e2
      have hadd : (⟨b, off, none⟩ : Addr).add j = ⟨b, off + j, none⟩ := by unfold Addr.add; split <;> simp_all
      rw [hadd]; exact hc
    · simp only [u64Vs, List.mem_map] at hu
      obtain ⟨z, _, rfl⟩ := hu
      rfl
    · simp only [List.nil_append, Nat.zero_add] at g1
      exact h v' w' g1 (Below.grown (Below.refl _ _) g2 (Nat.le_refl _) (fun k hk => by cases hk))
theorem setImg {w : World} {q : Nat} {a0 a1 v0 v1 : Value} {T : TypeId} {fz : Nat × Nat} (h : w.heap[q]? = some (.cells #[a0, a1] T fz)) :
    ((w.setCell ⟨q, 0, none⟩ v0).setCell ⟨q, 1, none⟩ v1).heap[q]? = some (.cells #[v0, v1] T fz) :=
  row_set (j := 1) v1 (row_set (j := 0) v0 h rfl) (by simp)
theorem owns_mono {w : World} {base base' : Nat} {e : TypeId} {size : Nat} {v : Value} {n : Nat} {xs : List Value} (h : w.ownsRow base e size v n xs) (hb : base' ≤ base) : w.ownsRow base' e size v n xs := by
  refine ⟨h.1, ?_⟩
  rcases h.2 with q | ⟨g, cap, cur, h1, h2, h3⟩
  · exact .inl q
  · exact .inr ⟨g, cap, cur, h1, by omega, h3⟩
/-- The image, as far as it is copied. -/
structure AsAt (m : PImg) (base ob k : Nat) (vF vW : Value) (w : World) : Prop where
  blk : w.heap[ob]? = some (.cells #[vF, vW] 39 (0, 0))
  funs : w.ownsRow base 48 4 vF k ((m.funs.take k).flatMap fnL)
  words : w.ownsRow base 49 1 vW m.words.length (u64Vs m.words)
theorem AsAt.below {m : PImg} {base ob k : Nat} {vF vW : Value} {w w' : World} (h : AsAt m base ob k vF vW w) (hb : Below w.heap.size w w') : AsAt m base ob k vF vW w' :=
  ⟨(hb.block _ (Array.getElem?_eq_some_iff.1 h.blk).1).trans h.blk, own_same h.funs fun j hj => hb.block _ (own_lt h.funs hj).2, own_same h.words fun j hj => hb.block _ (own_lt h.words hj).2⟩
theorem AsAt.next {m : PImg} {base ob k : Nat} {vF vW v' : Value} {w w4 : World} {o : Obj} (h : AsAt m base ob k vF vW w) (hk : k < m.funs.length) (hob : base ≤ ob) (hown : w4.ownsRow base 48 4 v' (k + 1) ((m.funs.take k).flatMap fnL ++ fnL m.funs[k])) (hg : (w.alloc o).grownBy w4 vF.ownBlock) :
    w4.heap[ob]? = w.heap[ob]? ∧ AsAt m base ob (k + 1) v' vW (w4.setCell ⟨ob, 0, none⟩ v') ∧ Below base w (w4.setCell ⟨ob, 0, none⟩ v') := by
  have hlt := (Array.getElem?_eq_some_iff.1 h.blk).1
  have hne : vF.ownBlock ≠ some ob := own_else h.funs h.blk fun cs e => by injection e with _ e _; exact absurd e (by decide)
  have hnw : vW.ownBlock ≠ some ob := own_else h.words h.blk fun cs e => by injection e with _ e _; exact absurd e (by decide)
  have hm : w4.heap[ob]? = w.heap[ob]? := by rw [hg.block ob (by simp; omega) (fun e => hne e.symm)]; exact old_block _ _ hlt
  have hne2 : v'.ownBlock ≠ some ob := own_else hown (hm.trans h.blk) fun cs e => by injection e with _ e _; exact absurd e (by decide)
  refine ⟨hm, ⟨row_set (j := 0) v' (hm.trans h.blk) (by simp), ?_, own_same h.words fun j hj => (Below.heap_setCell _ _ _ _ (fun e => hnw (by rw [hj, e]))).trans ?_⟩, ?_⟩
  · rw [List.take_succ_eq_append_getElem hk, List.flatMap_append]
    have e2 : ([m.funs[k]] : List PFn).flatMap fnL = fnL m.funs[k] := by simp
    rw [e2]
    exact own_same hown fun j hj => Below.heap_setCell _ _ _ _ (fun e => hne2 (by rw [hj, e]))
  · have h1 := own_lt h.words hj
    have h2 := own_ne h.words h.funs (by decide) hj
    rw [hg.block j (by simp; omega) (fun e => h2 e.symm)]
    exact old_block _ _ h1.2
  · exact (Below.grown ((Below.refl base w).alloc (by omega) o) hg (by simp; omega) (fun q hq => (own_lt h.funs hq).1)).trans ((Below.refl base w4).setCell (p := ⟨ob, 0, none⟩) hob _)
def AsPost (m : PImg) (w : World) : Ending → World → Prop := fun e w' => ∃ vF vW, e = .returned (.agg #[vF, vW]) ∧ w'.ownsRow w.heap.size 48 4 vF m.funs.length (m.funs.flatMap fnL) ∧ w'.ownsRow w.heap.size 49 1 vW m.words.length (u64Vs m.words) ∧ Below w.heap.size w w'
set_option maxHeartbeats 8000000 in
set_option maxRecDepth 100000 in
theorem AsImage_any (m : PImg) (hnf : m.funs.length ≤ 100) (hnw : m.words.length ≤ 100000) (A B : Option Addr) (cf cw : Nat) (w : World) (hA : Row w A (m.funs.flatMap fnL)) (hB : Row w B (u64Vs m.words)) :
    Calls Tryd.prog 10 #[.agg #[.slice A m.funs.length cf, .slice B m.words.length cw]] w (AsPost m w) := by
  obtain ⟨wA, hwA⟩ : ∃ wA, (w.alloc (.cells #[.slice A m.funs.length cf, .slice B m.words.length cw] 25)).alloc (.cells #[.slice none 0 0, .slice none 0 0] 39) = wA := ⟨_, rfl⟩
  have hbA : Below w.heap.size w wA := by rw [← hwA]; exact grow_alloc (grow_alloc (grow_refl _) _) _
  have hmA : wA.heap[w.heap.size]? = some (.cells #[.slice A m.funs.length cf, .slice B m.words.length cw] 25 (0, 0)) := by rw [← hwA]; exact (old_block _ _ (by simp)).trans (heap_alloc_new w _)
  have hrA : wA.heap[w.heap.size + 1]? = some (.cells #[.slice none 0 0, .slice none 0 0] 39 (0, 0)) := by rw [← hwA]; exact new_block _ _ (by simp)
  have hlA : w.heap.size + 1 < wA.heap.size := (Array.getElem?_eq_some_iff.1 hrA).1
  have HX : Hid (∀ w', Below wA.heap.size wA w' → (w'.cell? ⟨w.heap.size, 0, none⟩ = some (.slice A m.funs.length cf) ∧ w'.cell? ⟨w.heap.size, 1, none⟩ = some (.slice B m.words.length cw)) ∧ w'.heap[w.heap.size + 1]? = some (.cells #[.slice none 0 0, .slice none 0 0] 39 (0, 0)) ∧ Row w' A (m.funs.flatMap fnL) ∧ Row w' B (u64Vs m.words) ∧ Below w.heap.size w w') := fun w' hb =>
    ⟨row2m ((hb.block _ (by omega)).trans hmA), (hb.block _ hlA).trans hrA, (hA.keep (Keeps.of_below hbA)).keep (Keeps.of_below hb), (hB.keep (Keeps.of_below hbA)).keep (Keeps.of_below hb), grow_trans hbA hb⟩
  have HWA := Lib.hid hwA
  obtain ⟨⟨i0, i1⟩, -, -, hBA, -⟩ := HX.out wA (grow_refl _)
  have HBA := Lib.hid hBA
  obtain ⟨fi, hfi, hz0, hz1, hz2⟩ := info_parts efunInfo
  clear hA hB hbA hmA hrA hwA hBA
  go_enter Tryd.func10, Tryd.ntmps10
  go_upto_region 2 with fail
  change Code.wp _ _ _ _ ((w.alloc (.cells #[.slice A m.funs.length cf, .slice B m.words.length cw] 25)).alloc (.cells #[.slice none 0 0, .slice none 0 0] 39))
  rw [HWA.out]
  go_upto_region 3 with (at_builtin; (refine wpList_append_u64s0 rfl (.tmp 7) (.tmp 9) rfl m.words rfl B cw rfl HBA.out hnw wA.heap.size (Nat.le_refl _) ?_; intro vW w2 hvW hb2; obtain ⟨Aw, caw, rfl⟩ := own_slice hvW; have HVW := Lib.hid hvW; have HB2 := Lib.hid hb2; clear hvW hb2))
  obtain ⟨ob, hob⟩ : ∃ ob, w2.heap.size = ob := ⟨_, rfl⟩
  obtain ⟨w3, hw3⟩ : ∃ w3, w2.alloc (.cells #[.slice none 0 0, .slice Aw m.words.length caw] 39) = w3 := ⟨_, rfl⟩
  have hlo : w.heap.size + 1 < ob := by have := HB2.out.size; omega
  have hlo2 : wA.heap.size ≤ ob := by have := HB2.out.size; omega
  have has : AsAt m wA.heap.size ob 0 (.slice none 0 0) (.slice Aw m.words.length caw) w3 := ⟨by rw [← hw3, ← hob]; exact heap_alloc_new w2 _, World.ownsRow_nil _ _ _ _, by rw [← hw3]; exact HVW.out.alloc _⟩
  have hb3 : Below wA.heap.size wA w3 := by rw [← hw3]; exact grow_alloc HB2.out _
  have HAS := Lib.hid has
  have HB3 := Lib.hid hb3
  have hoz : ob < w3.heap.size := (Array.getElem?_eq_some_iff.1 has.blk).1
  rw [hob]
  rw [hw3]
  clear has hb3 hw3
  go_wp2_with fail
  go_loopw [5, 6] (fun i _ wr => ∃ (k : Nat) (vF : Value), k ≤ m.funs.length ∧ i = .int .i64 k ∧ AsAt m wA.heap.size ob k vF (.slice Aw m.words.length caw) wr ∧ Below wA.heap.size wA wr) (fun i _ _ => m.funs.length - (intOf i).toNat)
  case atStart => exact ⟨0, _, Nat.zero_le _, rfl, HAS.out, HB3.out⟩
  case round =>
    obtain ⟨k, vF, hk, rfl, has, hbel⟩ := hrel
    obtain ⟨⟨i0, i1⟩, hrr, hAr, -, -⟩ := HX.out wr hbel
    by_cases hlt : k < m.funs.length
    · have hlt' : (k : Int) < (m.funs.length : Int) := by omega
      obtain ⟨b, off, rfl, f0, f1, f2, f3⟩ := fn_cells hAr hlt
      obtain ⟨f, hf⟩ : ∃ f, m.funs[k] = f := ⟨_, rfl⟩
      have HF := Lib.hid hf
      rw [hf] at f0 f1 f2 f3
      obtain ⟨wF, hwF⟩ : ∃ wF, wr.alloc (.cells #[.string (mkB f.name), .int .i64 f.params, .int .i64 f.slots, .int .i64 f.entry] 30) = wF := ⟨_, rfl⟩
      have hbF : Below wr.heap.size wr wF := by rw [← hwF]; exact grow_alloc (grow_refl _) _
      have hnF : wF.heap[wr.heap.size]? = some (.cells #[.string (mkB f.name), .int .i64 f.params, .int .i64 f.slots, .int .i64 f.entry] 30 (0, 0)) := by rw [← hwF]; exact heap_alloc_new wr _
      have haF := has.below hbF
      obtain ⟨q, hq⟩ : ∃ q, wr.heap.size = q := ⟨_, rfl⟩
      have hlw : ob < wr.heap.size := (Array.getElem?_eq_some_iff.1 has.blk).1
      have hqo : q ≠ ob := by omega
      rw [hq] at hnF
      have HWF := Lib.hid hwF
      have HNF := Lib.hid hnF
      have HAF := Lib.hid haF
      have HBF := Lib.hid (grow_trans hbel hbF)
      obtain ⟨g0, g1, g2, g3⟩ := row4e hnF
      obtain ⟨Af, caf, rfl⟩ := own_slice haF.funs
      obtain ⟨o0, o1⟩ := row2m haF.blk
      have z0 := row_frozen haF.blk 0
      have hbo : wA.heap.size ≤ ob := hlo2
      have hsF : wA.heap.size ≤ wF.heap.size := by have := hbF.size; omega
      have hown : wF.ownsRow wA.heap.size 48 4 (.slice Af k caf) k ((m.funs.take k).flatMap fnL) := haF.funs
      have HOWN := Lib.hid hown
      have hql : q < wF.heap.size := (Array.getElem?_eq_some_iff.1 hnF).1
      clear hwF hnF haF hbF has hown hrr hAr hf
      go_upto_region 7 with fail
      rw [HWF.out]
      clear f0 f1 f2 f3
      go_wp2_with (at_builtin; (refine wpList_append_own_at _ rfl (.tmp 25) (.tmp 35) 37 rfl wA.heap.size 48 fi _ 4 40 Tryd.underlying37 hfi hz0 hz1 hz2 rfl (by decide) _ k ((m.funs.take k).flatMap fnL) rfl (HOWN.out.alloc _) ⟨wF.heap.size, 0, none⟩ 1 1 (fnL f) rfl rfl (World.news_of_block (heap_alloc_new wF _)) (fun u hu => by unfold fnL at hu; simp only [List.mem_cons, List.not_mem_nil, or_false] at hu; rcases hu with rfl | rfl | rfl | rfl <;> rfl) (by unfold maxLen; omega) (by omega) (by simp; omega) ?_; intro v' w4 hown' hgrow _ hat; obtain ⟨A6, a6, rfl⟩ := own_slice hown'; obtain ⟨j1, j2, j3⟩ := HAF.out.next hlt hbo (by rw [HF.out]; exact hown') hgrow; obtain ⟨o0, o1⟩ := row2m (j1.trans HAF.out.blk); have z0 := row_frozen (j1.trans HAF.out.blk) 0; have H2 := Lib.hid j2; have H3 := Lib.hid j3; have HG := Lib.hid hgrow; clear j1 j2 j3 hown' hgrow hat))
      go_roundw
      case rel => exact ⟨k + 1, _, by omega, by go_num, H2.out, HBF.out.trans H3.out⟩
      case measure => simp [intOf]; omega
    · have hk' : k = m.funs.length := by omega
      subst hk'
      have hf2 := has.funs
      rw [List.take_length] at hf2
      obtain ⟨o0, o1⟩ := row2m has.blk
      obtain ⟨s0, s1⟩ := row2m hrr
      have y0 := row_frozen hrr 0
      have y1 := row_frozen hrr 1
      obtain ⟨Af, caf, rfl⟩ := own_slice hf2
      have HF2 := Lib.hid hf2
      have HW2 := Lib.hid has.words
      have HRR := Lib.hid hrr
      have HBW := Lib.hid (HX.out wr hbel).2.2.2.2
      clear hf2 has hrr hAr hbel
      go_wp2_with fail
      obtain ⟨u0, u1⟩ := row2m (setImg (v0 := .slice Af m.funs.length caf) (v1 := .slice Aw m.words.length caw) HRR.out)
      refine bodyPost_ret (v := .agg #[.slice Af m.funs.length caf, .slice Aw m.words.length caw]) (by simp [results, Tryd.results10, go_sem, u0, u1]; try rfl) rfl ?_
      have hk2 : ∀ k, wA.heap.size ≤ k → ((wr.setCell ⟨w.heap.size + 1, 0, none⟩ (.slice Af m.funs.length caf)).setCell ⟨w.heap.size + 1, 1, none⟩ (.slice Aw m.words.length caw)).heap[k]? = wr.heap[k]? := fun k hk => (Below.heap_setCell _ _ _ _ (by simp only; omega)).trans (Below.heap_setCell _ _ _ _ (by simp only; omega))
      exact ⟨_, _, rfl, owns_mono (own_same HF2.out fun k hk => hk2 k (own_lt HF2.out hk).1) (by omega), owns_mono (own_same HW2.out fun k hk => hk2 k (own_lt HW2.out hk).1) (by omega), (HBW.out.setCell (p := ⟨w.heap.size + 1, 0, none⟩) (by simp) _).setCell (p := ⟨w.heap.size + 1, 1, none⟩) (by simp) _⟩
end Go.Proofs.YtgoifbkogboppaaDoor
