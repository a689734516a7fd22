import Derived.Test.YtdilakpipbkokaaDoorBn23
import Derived.Test.YtdilakpipbkokaaDoorBn25
import Derived.Test.YtdilakpipbkokaaDoorBn8
import Derived.Test.YtdilakpipbkokaaDoorBn12
set_option linter.unusedVariables false
set_option linter.unusedSimpArgs false
namespace Go.Proofs.YtdilakpipbkokaaDoor
open Go.RowKit

/-! place.Walk (printed by gen_plwl.py) -/
theorem boolInfo : (Tryd.prog.info? 4).map (fun i => (i.zero, i.size, i.bytes)) = some (some (.bool false), 1, 1) := by kernel_rfl
def flO (n : Nat) : Obj := .cells (boolVs (List.replicate n false)).toArray 4
theorem fl_made (n : Nat) : madeCells #[Value.bool false] n = (boolVs (List.replicate n false)).toArray := by
  apply Array.ext
  · simp [boolVs, size_madeCells]
  · intro i h1 h2
    simp [boolVs, madeCells, Nat.mod_one]
theorem make_fl (n : Nat) (hn : n ≤ 100000) (w : World) : (Instr.makeSlice 63 (.int .i64 n) (.int .i64 n)).run Tryd.prog w = .ok (.slice (some ⟨w.heap.size, 0, none⟩) n n) (w.alloc (flO n)) := by
  obtain ⟨i0, hi, hz0, hz1, hz2⟩ := info_parts boolInfo
  have h := run_makeSlice (P := Tryd.prog) (w := w) 63 4 i0 (.bool false) Tryd.underlying63 hi hz0 .i64 .i64 n n (by omega) (by omega) (by rw [hz1]; simp; omega) (by rw [hz2]; omega) (by omega)
  rw [h, hz1]
  simp only [Int.toNat_natCast, Nat.mul_one]
  unfold flO
  rw [← fl_made]
  rfl
theorem perrIs_if {E : Nat → Addr} {w : World} {v : Value} {c a : Int} (h : ErrIs E w v c a) (hc : c ≠ 0) : ∃ t x, v = .iface t x := by
  rcases h with ⟨_, h, _⟩ | ⟨i, _, h, _, _⟩ | ⟨i, fb, fo, _, h, _, _, _⟩
  · exact absurd h hc
  · exact ⟨_, _, h⟩
  · exact ⟨_, _, h⟩
def tupW (z : List UInt8 × Int × WSt) : DTup := (z.1, z.2.1, z.2.2.ticks, z.2.2.out, z.2.2.calls)
def doneW (c : PCo) (T : Int) (args ans : List Int) (fuel : Nat) : Option DTup := if (args.length : Int) = c.params ∧ (coC c).1 = 0 then (runW c T args ans fuel 0 (WSt0 c)).map tupW else some stuckD
def PWlP (c : PCo) (T : Int) (args ans : List Int) (w : World) : Ending → World → Prop := fun e w' =>
  ∃ (D : DTup) (AO : Option Addr) (cO : Nat) (AC : Option Addr) (cC : Nat) (ts : List CC), e = .returned (adV D AO cO AC cC) ∧ DnAt w' D AO AC ts ∧ Below w.heap.size w w' ∧ DSm D ∧ ∀ z, doneW c T args ans 100000 = some z → z = D
/-- What was told of stands as a walk's end. -/
theorem WG.done {M : List UInt8 → Int → Int → Value → Value → List Value} {TM TC TB : TypeId} {w0 : World} {mb gb hb : Nat} {F : Nat → Array Value → Prop} {s : WSt} {h : List UInt8} {v : Int} {vO vC : Value} {ts : List CC} {w w' : World}
    (H : WG M TM TC TB w0 mb gb hb F s h v vO vC ts w) (hs : ∀ k, w0.heap.size ≤ k → w'.heap[k]? = w.heap[k]?) : ∃ AO cO AC cC, vO = .slice AO s.out.length cO ∧ vC = .slice AC s.calls.length cC ∧ DnAt w' (tupW (h, v, s)) AO AC ts ∧ DnUp w0.heap.size (tupW (h, v, s)) AO AC ts := by
  have hO9 := H.out
  have hC9 := H.calls
  obtain ⟨AO, cO, rfl, -, hO⟩ := owns_rowG (own_same (w' := w') H.out fun k hk => hs k (own_lt H.out hk).1)
  obtain ⟨AC, cC, rfl, -, hC⟩ := owns_rowG (own_same (w' := w') H.calls fun k hk => hs k (own_lt H.calls hk).1)
  exact ⟨AO, cO, AC, cC, rfl, rfl, ⟨hO, hC, H.map, fun t ht => row_by (H.rows t ht) fun hl a ha => hs _ (H.far t ht hl a ha).2.2.2.2.2⟩, ⟨fun _ a ha => (own_lt hO9 (k := a.block) (by rw [ha]; rfl)).1, fun _ a ha => (own_lt hC9 (k := a.block) (by rw [ha]; rfl)).1, fun t ht hl a ha => (H.far t ht hl a ha).2.2.2.2.2⟩⟩
theorem pw_start {c : PCo} {A : Option Addr} {ca : Nat} {X : Option Addr} {args : List Int} {xc : Nat} {Y : Option Addr} {ans : List Int} {yc : Nat} {T : Int} {w1 W : World} {mb gb hb sn : Nat} (hs : c.values.toNat = sn) (hb1 : Below w1.heap.size w1 W) (h1 : w1.heap.size ≤ mb) (h2 : w1.heap.size ≤ gb) (h3 : w1.heap.size ≤ hb)
    (hm : W.heap[mb]? = some (.cells #[.string (mkB c.name), .int .i64 c.params, .int .i64 c.values, .slice A c.blocks.length ca, .slice X args.length xc, .slice Y ans.length yc, .int .i64 T, .string ⟨#[]⟩, .int .i64 0, .int .i64 0, .slice none 0 0, .slice none 0 0, .slice (some ⟨gb, 0, none⟩) sn sn, .slice (some ⟨hb, 0, none⟩) sn sn] 84)) (hg : W.heap[gb]? = some (zrO sn)) (hh : W.heap[hb]? = some (flO sn)) : PwAt c A ca X args xc Y ans yc T w1 mb gb hb sn (fun _ _ => False) (WSt0 c) [] 0 (.slice none 0 0) (.slice none 0 0) [] W :=
  { ty := tyW_pw, bel := hb1, lowM := h1, lowG := h2, lowH := h3, blk := by rw [hm]; simp [pwM, WSt0, mkB], got := by rw [hg]; simp [zrO, WSt0, hs], has := by rw [hh]; simp [flO, WSt0, hs], out := World.ownsRow_nil _ _ _ _, one := by simp [Value.ownBlock], calls := World.ownsRow_nil _ _ _ _, map := rfl, rows := fun t h => (by cases h), far := fun t h => (by cases h), fr := fun _ _ h => h.elim }
theorem blk3 {w1 : World} {o1 o2 o3 : Obj} : ((((w1.alloc o1).alloc o2).alloc o3).drew).heap[w1.heap.size]? = some o1 ∧ ((((w1.alloc o1).alloc o2).alloc o3).drew).heap[w1.heap.size + 1]? = some o2 ∧ ((((w1.alloc o1).alloc o2).alloc o3).drew).heap[w1.heap.size + 1 + 1]? = some o3 ∧ Below w1.heap.size w1 ((((w1.alloc o1).alloc o2).alloc o3).drew) :=
  ⟨(old_block _ _ (by simp; omega)).trans ((old_block _ _ (by simp)).trans (heap_alloc_new w1 _)), (old_block _ _ (by simp)).trans (new_block _ _ (by simp)), new_block _ _ (by simp), grow_drew (grow_alloc (grow_alloc (grow_alloc (grow_refl _) _) _) _) _⟩
set_option maxHeartbeats 8000000 in
set_option maxRecDepth 100000 in
theorem PWalk_any (E : Nat → Addr) (c : PCo) (A : Option Addr) (ca : Nat) (hsm : ∀ b ∈ c.blocks, PSm b) (hbn : ∀ b ∈ c.blocks, BkN b) (args ans : List Int) (X : Option Addr) (xc : Nat) (Y : Option Addr) (yc : Nat) (T : Int) (hT : 0 ≤ T) (hT6 : T ≤ 60) (hargs : args.length ≤ 1000) (han : ans.length ≤ 1000) (ha6 : ∀ n ∈ args, I64 n) (hn6 : ∀ n ∈ ans, I64 n)
    (w : World) (hE : Laid E w) (hr : RdP w c.blocks A) (hX : Row w X (intVs args)) (hY : Row w Y (intVs ans)) :
    Calls Tryd.prog 14 #[coV c A ca, .slice X args.length xc, .slice Y ans.length yc, .int .i64 T] w (PWlP c T args ans w) := by
  obtain ⟨wA, hwA⟩ : ∃ wA, ((w.alloc (.cells #[.string (mkB c.name), .int .i64 c.params, .int .i64 c.values, .slice A c.blocks.length ca] 31)).alloc (.cells #[.string ⟨#[]⟩, .int .i64 0, .int .i64 0, .slice none 0 0, .slice none 0 0] 48)) = wA := ⟨_, rfl⟩
  have hbA : Below w.heap.size w wA := by rw [← hwA]; exact grow_alloc (grow_alloc (grow_refl _) _) _
  have hmA : wA.heap[w.heap.size]? = some (.cells #[.string (mkB c.name), .int .i64 c.params, .int .i64 c.values, .slice A c.blocks.length ca] 31 (0, 0)) := by rw [← hwA]; exact (old_block _ _ (by simp)).trans (heap_alloc_new w _)
  have hrA : wA.heap[w.heap.size + 1]? = some (.cells #[.string ⟨#[]⟩, .int .i64 0, .int .i64 0, .slice none 0 0, .slice none 0 0] 48 (0, 0)) := by rw [← hwA]; exact new_block _ _ (by simp)
  have hlA : w.heap.size + 1 < wA.heap.size := (Array.getElem?_eq_some_iff.1 hrA).1
  have HX : Hid (∀ w', Below wA.heap.size wA w' → (w'.cell? ⟨w.heap.size, 0, none⟩ = some (.string (mkB c.name)) ∧ w'.cell? ⟨w.heap.size, 1, none⟩ = some (.int .i64 c.params) ∧ w'.cell? ⟨w.heap.size, 2, none⟩ = some (.int .i64 c.values) ∧ w'.cell? ⟨w.heap.size, 3, none⟩ = some (.slice A c.blocks.length ca)) ∧ w'.heap[w.heap.size + 1]? = some (.cells #[.string ⟨#[]⟩, .int .i64 0, .int .i64 0, .slice none 0 0, .slice none 0 0] 48 (0, 0)) ∧ Below w.heap.size w w') := fun w' hb =>
    ⟨row4B ((hb.block _ (by omega)).trans hmA), (hb.block _ hlA).trans hrA, grow_trans hbA hb⟩
  have HIN : Hid (∀ w', Below wA.heap.size wA w' → RdP w' c.blocks A ∧ Row w' X (intVs args) ∧ Row w' Y (intVs ans) ∧ Laid E w') := fun w' hb => have k := Keeps.of_below (grow_trans hbA hb); ⟨hr.keep k, hX.keep k, hY.keep k, hE.keep (grow_trans hbA hb)⟩
  have HCK : Hid (Calls Tryd.prog 10 #[coV c A ca] wA (PChk E c wA)) := pcheck_any E c A ca hsm hbn wA (hE.keep hbA) (hr.keep (Keeps.of_below hbA))
  have HWA := Lib.hid hwA
  have HLA := Lib.hid hlA
  obtain ⟨⟨i0, i1, i2, i3⟩, hr0, -⟩ := HX.out wA (grow_refl _)
  obtain ⟨s0, s1, s2, s3, s4⟩ := row5A hr0
  have y0 := row_frozen hr0 0
  have y1 := row_frozen hr0 1
  have y2 := row_frozen hr0 2
  have y3 := row_frozen hr0 3
  have y4 := row_frozen hr0 4
  have HSTK : Hid (∀ w1, Below wA.heap.size wA w1 → doneW c T args ans 100000 = some stuckD → PWlP c T args ans w (.returned (.agg #[.string ⟨#[115, 116, 117, 99, 107]⟩, .int .i64 0, .int .i64 0, .slice none 0 0, .slice none 0 0])) (((((w1.setCell ⟨w.heap.size + 1, 0, none⟩ (.string ⟨#[115, 116, 117, 99, 107]⟩)).setCell ⟨w.heap.size + 1, 1, none⟩ (.int .i64 0)).setCell ⟨w.heap.size + 1, 2, none⟩ (.int .i64 0)).setCell ⟨w.heap.size + 1, 3, none⟩ (.slice none 0 0)).setCell ⟨w.heap.size + 1, 4, none⟩ (.slice none 0 0))) := fun w1 hb hd =>
    ⟨stuckD, none, 0, none, 0, [], rfl, ⟨Row.nil _ _, Row.nil _ _, rfl, fun t ht => (by cases ht)⟩, below5A (HX.out w1 hb).2.2 (by omega), ⟨by decide, by decide, fun p hp => (by cases hp)⟩, fun z hz => by rw [hd] at hz; exact (Option.some.inj hz).symm⟩
  have HSM := Lib.hid hsm
  have HBN := Lib.hid hbn
  have HA6 := Lib.hid ha6
  have HN6 := Lib.hid hn6
  unfold coV at HCK ⊢
  clear hr hX hY hE hbA hmA hrA hwA hlA hsm hbn ha6 hn6
  by_cases hp : (args.length : Int) = c.params
  · by_cases hc : (coC c).1 = 0
    · have hg := (coC_good hc).1
      have HD : Hid (doneW c T args ans 100000 = (runW c T args ans 100000 0 (WSt0 c)).map tupW) := show _ = _ by unfold doneW; rw [if_pos ⟨hp, hc⟩]
      have HC := Lib.hid hc
      have HP := Lib.hid hp
      obtain ⟨sn, hsn⟩ : ∃ sn : Nat, c.values = (sn : Int) := ⟨c.values.toNat, (Int.toNat_of_nonneg hg.values.1).symm⟩
      have hs1000 : sn ≤ 1000 := by have := hg.values.2; omega
      have hmk := make_zr sn (by omega)
      have hmk2 := make_fl sn (by omega)
      rw [← hsn] at hmk hmk2
      have HG := Lib.hid hg
      have HSN := Lib.hid hsn
      clear hc hg hsn hr0
      have hpb : ((args.length : Int) != c.params) = false := by rw [HP.out]; simp
      clear hp
      go_enter Tryd.func14, Tryd.ntmps14
      go_upto_region 1 with fail
      change Code.wp _ _ _ _ ((w.alloc (.cells #[.string (mkB c.name), .int .i64 c.params, .int .i64 c.values, .slice A c.blocks.length ca] 31)).alloc (.cells #[.string ⟨#[]⟩, .int .i64 0, .int .i64 0, .slice none 0 0, .slice none 0 0] 48))
      rw [HWA.out]
      go_upto_region 3 with (go_at_call 10; go_loud ((with_reducible refine HCK.out.mono ?_); rintro y w1 ⟨v, rfl, -, hb1, hv0⟩; obtain rfl := hv0.2 HC.out; obtain ⟨⟨i0, i1, i2, i3⟩, hr1, -⟩ := HX.out w1 hb1; have HR1 := Lib.hid hr1; have HB1 := Lib.hid hb1; clear hr1 hv0 hb1))
      have HS3 := Lib.hid (HX.out w1 HB1.out).1
      clear hmk hmk2
      have hmk : ∀ W, (Instr.makeSlice 25 (.int .i64 c.values) (.int .i64 c.values)).run Tryd.prog W = .ok (.slice (some ⟨W.heap.size, 0, none⟩) sn sn) (W.alloc (zrO sn)) := fun W => by rw [HSN.out]; exact make_zr sn (by omega) W
      have hmk2 : ∀ W, (Instr.makeSlice 63 (.int .i64 c.values) (.int .i64 c.values)).run Tryd.prog W = .ok (.slice (some ⟨W.heap.size, 0, none⟩) sn sn) (W.alloc (flO sn)) := fun W => by rw [HSN.out]; exact make_fl sn (by omega) W
      have hsn2 : Hid (c.values.toNat = sn) := show _ = _ by rw [HSN.out]; rfl
      go_cut [9] from 21 to 32 (fun v wx => ∃ mb gb hb, v = .pointer (some ⟨mb, 0, none⟩) ∧ PwAt c A ca X args xc Y ans yc T w1 mb gb hb sn (fun _ _ => False) (WSt0 c) [] 0 (.slice none 0 0) (.slice none 0 0) [] wx)
      case first =>
        go_region_held3 (fun w' => w'.cell? ⟨w.heap.size, 0, none⟩ = some (.string (mkB c.name)) ∧ w'.cell? ⟨w.heap.size, 1, none⟩ = some (.int .i64 c.params) ∧ w'.cell? ⟨w.heap.size, 2, none⟩ = some (.int .i64 c.values) ∧ w'.cell? ⟨w.heap.size, 3, none⟩ = some (.slice A c.blocks.length ca))
          (first
            | exact HS3.out
            | (go_split_ands
               refine ⟨?_, ?_, ?_, ?_⟩
               all_goals (first | assumption | exact Keeps.alloc _ _ _ _ (by assumption))))
          (fail)
        all_goals go_wp2_with fail
        all_goals go_meet
        all_goals first
          | exact ⟨_, _, _, rfl, pw_start hsn2.out blk3.2.2.2 (by omega) (Nat.le_refl _) (Nat.le_succ _) blk3.2.2.1 blk3.1 blk3.2.1⟩
          | exact ⟨_, _, _, rfl, pw_start hsn2.out blk3.2.2.2 (by omega) (Nat.le_succ _) (Nat.le_refl _) blk3.2.2.1 blk3.2.1 blk3.1⟩
      case rest =>
        obtain ⟨mb, gb, hb, rfl, HW⟩ := hcut
        have HWK : Hid (Calls Tryd.prog 26 #[.pointer (some ⟨mb, 0, none⟩)] wc (PWalkP c A ca X args xc Y ans yc T w1 mb gb hb sn)) := by
          have hin := fun w' hb => HIN.out w' (grow_trans HB1.out hb)
          exact pwalk_any HW hsn2.out.symm HG.out HSM.out HBN.out (hin w1 (grow_refl _)).1 hT hT6 han HP.out HA6.out HN6.out (esV (E 3)) (fun w' hb => (hin w' hb).2.2.2.c3) (hin w1 (grow_refl _)).2.1 (hin w1 (grow_refl _)).2.2.1
        have hl1 : w.heap.size + 1 < w1.heap.size := by have := HLA.out; have := HB1.out.size; omega
        have hmb1 := HW.lowM
        have hne1 : ¬ mb = w.heap.size + 1 := by omega
        have hne2 : ¬ w.heap.size + 1 = mb := by omega
        clear HW hmk hmk2 i0 i1 i2 i3 hmb1
        go_wp2_with (go_at_call 26; (with_reducible refine HWK.out.mono ?_); rintro y w2 ⟨hw, v2, s2, vO, vC, ts, rfl, h2, hok2, hz2⟩; obtain ⟨AO, cO, rfl⟩ := own_slice h2.out; obtain ⟨AC, cC, rfl⟩ := own_slice h2.calls; have H2 := Lib.hid (h2.set (t' := s2.ticks) (h' := hw) (v' := v2) (j := 7) (.string (mkB hw)) rfl); have HOK := Lib.hid hok2; have HZ := Lib.hid hz2; have t7 : w2.cell? ⟨mb, 7, none⟩ = some (.string (mkB [])) := h2.cellM rfl; have u7 := h2.frozM 7; have t8 : w2.cell? ⟨mb, 8, none⟩ = some (.int .i64 v2) := h2.cellM rfl; have t9 : w2.cell? ⟨mb, 9, none⟩ = some (.int .i64 s2.ticks) := h2.cellM rfl; have t10 : w2.cell? ⟨mb, 10, none⟩ = some (.slice AO s2.out.length cO) := h2.cellM rfl; have t11 : w2.cell? ⟨mb, 11, none⟩ = some (.slice AC s2.calls.length cC) := h2.cellM rfl; have hr2 := (h2.bel.block (w.heap.size + 1) hl1).trans HR1.out; obtain ⟨s0, s1, s2', s3, s4⟩ := row5A hr2; have y0 := row_frozen hr2 0; have y1 := row_frozen hr2 1; have y2 := row_frozen hr2 2; have y3 := row_frozen hr2 3; have y4 := row_frozen hr2 4; have HR2 := Lib.hid hr2; clear h2 hok2 hz2 hr2)
        obtain ⟨wF, hwF⟩ : ∃ wF, w2.setCell ⟨mb, 7, none⟩ (.string (mkB hw)) = wF := ⟨_, rfl⟩
        have H3 := H2.out
        rw [hwF] at H3 ⊢
        have hrF : wF.heap[w.heap.size + 1]? = some (.cells #[.string ⟨#[]⟩, .int .i64 0, .int .i64 0, .slice none 0 0, .slice none 0 0] 48 (0, 0)) := by rw [← hwF]; exact (Below.heap_setCell _ _ _ _ hne2).trans HR2.out
        have hbF : Below w.heap.size w wF := grow_trans (HX.out w1 HB1.out).2.2 H3.bel
        obtain ⟨z0, z1, z2, z3, z4⟩ := row5A (set5A (v0 := .string (mkB hw)) (v1 := .int .i64 v2) (v2 := .int .i64 s2.ticks) (v3 := .slice AO s2.out.length cO) (v4 := .slice AC s2.calls.length cC) hrF)
        refine bodyPost_ret (v := .agg #[.string (mkB hw), .int .i64 v2, .int .i64 s2.ticks, .slice AO s2.out.length cO, .slice AC s2.calls.length cC]) (by simp [results, Tryd.results14, go_sem, z0, z1, z2, z3, z4]; try rfl) rfl ?_
        obtain ⟨AO', cO', AC', cC', e1, e2, hdn, -⟩ := H3.done (w' := (((((wF.setCell ⟨w.heap.size + 1, 0, none⟩ (.string (mkB hw))).setCell ⟨w.heap.size + 1, 1, none⟩ (.int .i64 v2)).setCell ⟨w.heap.size + 1, 2, none⟩ (.int .i64 s2.ticks)).setCell ⟨w.heap.size + 1, 3, none⟩ (.slice AO s2.out.length cO)).setCell ⟨w.heap.size + 1, 4, none⟩ (.slice AC s2.calls.length cC))) (fun k hk => far5A k (by omega))
        injection e1 with e1 _ e3
        injection e2 with e2 _ e4
        subst e1; subst e2; subst e3; subst e4
        have hok2 := HOK.out
        refine ⟨(hw, v2, s2.ticks, s2.out, s2.calls), AO, cO, AC, cC, ts, rfl, hdn, below5A hbF (by omega), ⟨hok2.out, by have := hok2.calls; show s2.calls.length ≤ 1000; omega, hok2.c8⟩, fun z hz => ?_⟩
        rw [HD.out] at hz
        cases hr : runW c T args ans 100000 0 (WSt0 c) with
        | none => rw [hr] at hz; cases hz
        | some q =>
          rw [hr] at hz
          have := HZ.out q hr
          subst this
          exact (Option.some.inj hz).symm
    · have HD : Hid (doneW c T args ans 100000 = some stuckD) := show _ = _ by unfold doneW; rw [if_neg (fun h => hc h.2)]
      have HC := Lib.hid hc
      have hpb : ((args.length : Int) != c.params) = false := by rw [hp]; simp
      clear hc
      go_enter Tryd.func14, Tryd.ntmps14
      go_upto_region 1 with fail
      change Code.wp _ _ _ _ ((w.alloc (.cells #[.string (mkB c.name), .int .i64 c.params, .int .i64 c.values, .slice A c.blocks.length ca] 31)).alloc (.cells #[.string ⟨#[]⟩, .int .i64 0, .int .i64 0, .slice none 0 0, .slice none 0 0] 48))
      rw [HWA.out]
      go_wp2_with (go_at_call 10; (with_reducible refine HCK.out.mono ?_); rintro y w1 ⟨v, rfl, hv, hb1, -⟩; obtain ⟨t9, x9, rfl⟩ := perrIs_if hv (by have := HC.out; omega); obtain ⟨s0, s1, s2, s3, s4⟩ := row5A (HX.out w1 hb1).2.1; have hr1 := (HX.out w1 hb1).2.1; have y0 := row_frozen hr1 0; have y1 := row_frozen hr1 1; have y2 := row_frozen hr1 2; have y3 := row_frozen hr1 3; have y4 := row_frozen hr1 4; clear hr1 hv)
      obtain ⟨z0, z1, z2, z3, z4⟩ := row5A (set5A (v0 := (.string ⟨#[115, 116, 117, 99, 107]⟩)) (v1 := (.int .i64 0)) (v2 := (.int .i64 0)) (v3 := (.slice none 0 0)) (v4 := (.slice none 0 0)) (HX.out w1 hb1).2.1)
      refine bodyPost_ret (v := .agg #[.string ⟨#[115, 116, 117, 99, 107]⟩, .int .i64 0, .int .i64 0, .slice none 0 0, .slice none 0 0]) (by simp [results, Tryd.results14, go_sem, z0, z1, z2, z3, z4]; try rfl) rfl ?_
      exact HSTK.out w1 hb1 HD.out
  · have HD : Hid (doneW c T args ans 100000 = some stuckD) := show _ = _ by unfold doneW; rw [if_neg (fun h => hp h.1)]
    have hpb : ((args.length : Int) != c.params) = true := by simpa using hp
    clear hp
    go_enter Tryd.func14, Tryd.ntmps14
    go_upto_region 1 with fail
    change Code.wp _ _ _ _ ((w.alloc (.cells #[.string (mkB c.name), .int .i64 c.params, .int .i64 c.values, .slice A c.blocks.length ca] 31)).alloc (.cells #[.string ⟨#[]⟩, .int .i64 0, .int .i64 0, .slice none 0 0, .slice none 0 0] 48))
    rw [HWA.out]
    go_wp2_with fail
    obtain ⟨z0, z1, z2, z3, z4⟩ := row5A (set5A (v0 := (.string ⟨#[115, 116, 117, 99, 107]⟩)) (v1 := (.int .i64 0)) (v2 := (.int .i64 0)) (v3 := (.slice none 0 0)) (v4 := (.slice none 0 0)) hr0)
    refine bodyPost_ret (v := .agg #[.string ⟨#[115, 116, 117, 99, 107]⟩, .int .i64 0, .int .i64 0, .slice none 0 0, .slice none 0 0]) (by simp [results, Tryd.results14, go_sem, z0, z1, z2, z3, z4]; try rfl) rfl ?_
    exact HSTK.out wA (grow_refl _) HD.out
end Go.Proofs.YtdilakpipbkokaaDoor

namespace Go.Proofs.YtdilakpipbkokaaDoor
open Go.RowKit

/-! the document's pick, and its walk's memory -/
set_option maxRecDepth 100000 in
set_option maxHeartbeats 4000000 in
theorem pick_any {s : WSt} {gb hb n : Nat} {w : World} (hgot : w.heap[gb]? = some (.cells (intVs s.got).toArray 3 (0, 0))) (hhas : w.heap[hb]? = some (.cells (boolVs s.has).toArray 4 (0, 0))) (hg : s.got.length = n) (hh : s.has.length = n) (l : List Int) (hl : l.length ≤ 1000) (hin : ∀ v ∈ l, 0 ≤ v ∧ v < (n : Int)) (L : Option Addr) (lc : Nat) (hrow : Row w L (intVs l)) :
    Calls Tryd.prog 22 #[.slice L l.length lc, .slice (some ⟨gb, 0, none⟩) n n, .slice (some ⟨hb, 0, none⟩) n n] w (ValsP s l w) := by
  have HR := Lib.hid hrow
  have HIN := Lib.hid hin
  have HG := Lib.hid hg
  have HHS := Lib.hid hh
  have HGT := Lib.hid hgot
  have HHT := Lib.hid hhas
  obtain ⟨Q, hQ⟩ : ∃ Q, ValsP s l w = Q := ⟨_, rfl⟩
  have HQ := Lib.hid hQ
  rw [hQ]
  clear hrow hin hg hh hQ hgot hhas
  go_enter Tryd.func22, Tryd.ntmps22
  go_wp2_with fail
  go_loopw [8, 9] (fun out k wr => ∃ (j : Nat) (r : List Int) (A' : Option Addr) (c' : Nat), j ≤ l.length ∧ k = .int .i64 j ∧ out = .slice A' r.length c' ∧ wr.ownsRow w.heap.size 3 1 (.slice A' r.length c') r.length (intVs r) ∧ r.length = j ∧ pickW s l = (pickW s (l.drop j)).map (r ++ ·) ∧ Below w.heap.size w wr) (fun _ k _ => l.length - (intOf k).toNat)
  case atStart =>
    exact ⟨0, [], none, 0, Nat.zero_le _, rfl, rfl, World.ownsRow_nil _ _ _ _, rfl, by rw [List.drop_zero]; cases pickW s l <;> simp, grow_refl _⟩
  case round =>
    obtain ⟨j, r, A', c', hj, rfl, rfl, hown, hrl, hI, hbel⟩ := hrel
    have HO := Lib.hid hown
    have HI := Lib.hid hI
    have HRL := Lib.hid hrl
    have hrl2 : r.length < 100000 := by omega
    clear hown hI hrl
    by_cases hlt : j < l.length
    · have hlt' : (j : Int) < (l.length : Int) := by omega
      have hj0 : (0 : Int) ≤ (j : Int) := by omega
      obtain ⟨b9, o9, rfl, hc⟩ := (HR.out.keep (Keeps.of_below hbel)) j _ (intVs_get hlt)
      have hv9 := HIN.out _ (List.getElem_mem hlt)
      have HGO := Lib.hid (fun hb => pick_go (s := s) hlt HI.out hb)
      have HNO := Lib.hid (fun hb => pick_no (s := s) hlt HI.out hb)
      obtain ⟨k, hk⟩ : ∃ k : Nat, l[j] = (k : Int) := ⟨l[j].toNat, (Int.toNat_of_nonneg hv9.1).symm⟩
      rw [hk] at hc hv9 HGO HNO
      have hkn : k < n := by omega
      have hk0 : (0 : Int) ≤ (k : Int) := by omega
      have hk1 : (k : Int) < (n : Int) := by omega
      have hgl : k < s.got.length := by rw [HG.out]; exact hkn
      have hhl : k < s.has.length := by rw [HHS.out]; exact hkn
      have cg : wr.cell? ⟨gb, k, none⟩ = some (.int .i64 (s.got.getD k 0)) := by
        rw [cell_of_row wr gb k _ _ _ ((hbel.block _ (Array.getElem?_eq_some_iff.1 HGT.out).1).trans HGT.out), List.getElem?_toArray, intVs_get hgl, List.getD_eq_getElem?_getD, List.getElem?_eq_getElem hgl]; rfl
      have ch : wr.cell? ⟨hb, k, none⟩ = some (.bool (s.has.getD k false)) := by
        rw [cell_of_row wr hb k _ _ _ ((hbel.block _ (Array.getElem?_eq_some_iff.1 HHT.out).1).trans HHT.out), List.getElem?_toArray, boolVs_get hhl, List.getD_eq_getElem?_getD, List.getElem?_eq_getElem hhl]; rfl
      obtain ⟨gv, hgv⟩ : ∃ z, s.got.getD k 0 = z := ⟨_, rfl⟩
      obtain ⟨hv, hhv⟩ : ∃ z, s.has.getD k false = z := ⟨_, rfl⟩
      rw [hgv] at cg
      rw [hhv] at ch
      rw [show hasW s (k : Int) = hv from hhv] at HGO HNO
      rw [show gotW s (k : Int) = gv from hgv] at HGO
      have HZ : Hid (w.heap.size ≤ wr.heap.size) := hbel.size
      clear hv9 hk hgv hhv hgl hhl
      cases hv
      · have HF := Lib.hid (HNO.out rfl)
        go_wp2_with fail
        rw [← HQ.out]
        exact ⟨hbel, .inl ⟨HF.out, rfl⟩⟩
      · have HF := Lib.hid (HGO.out rfl)
        go_wp2_with (at_builtin; (refine wpList_push_int rfl _ _ rfl w.heap.size _ r rfl HO.out gv rfl hrl2 HZ.out ?_; intro A2 c2 w9 hown9 hbel9; have H9 := Lib.hid hown9; have HB9 := Lib.hid (hbel9 _ _ (Nat.le_refl _) hbel); clear hown9 hbel9))
        go_roundw
        case rel => exact ⟨j + 1, r ++ [gv], A2, c2, by omega, by go_num, by simp, by simpa using H9.out, by have := HRL.out; simp; omega, HF.out, HB9.out⟩
        case measure => simp [intOf]; omega
    · have hj' : j = l.length := by omega
      have HF : Hid (pickW s l = some r) := show _ = _ by rw [HI.out, hj', List.drop_length]; simp [pickW]
      subst hj'
      go_wp2_with fail
      rw [← HQ.out]
      exact ⟨hbel, .inr ⟨r, A', c', HF.out, rfl, HO.out⟩⟩
def roM (h : List UInt8) (v tk : Int) (vO vC : Value) : List Value := [.string (mkB h), .int .i64 v, vO, .int .i64 tk, vC]
abbrev RoW (w0 : World) (mb gb hb : Nat) (F : Nat → Array Value → Prop) (s : WSt) (h : List UInt8) (v : Int) (vO vC : Value) (ts : List CC) (w : World) : Prop :=
  WG roM 42 79 60 w0 mb gb hb F s h v vO vC ts w
theorem tyW_ro : TyW 42 79 60 := ⟨⟨by decide, by decide, by decide⟩, ⟨by decide, by decide⟩, ⟨by decide, by decide, by decide, by decide⟩, by decide⟩
def RoP (c : PCo) (T : Int) (args ans : List Int) (most : Nat) (w : World) : Ending → World → Prop := fun e w' =>
  ∃ (D : DTup) (AO : Option Addr) (cO : Nat) (AC : Option Addr) (cC : Nat) (ts : List CC), e = .returned (doneV D AO cO AC cC) ∧ DnAt w' D AO AC ts ∧ Below w.heap.size w w' ∧ DSm D ∧ DnUp w.heap.size D AO AC ts ∧ (match runW c T args ans most 0 (WSt0 c) with | some z => D = tupW z | none => D.1 = hLong)
/-- The end is stored as the result. -/
theorem ro_end {c : PCo} {T : Int} {args ans : List Int} {most : Nat} {wv w0 : World} {mb gb hb rb : Nat} {F : Nat → Array Value → Prop} {s : WSt} {h : List UInt8} {v : Int} {AO AC : Option Addr} {cO cC : Nat} {ts : List CC} {w : World}
    (H : RoW w0 mb gb hb F s h v (.slice AO s.out.length cO) (.slice AC s.calls.length cC) ts w) (hok : WOk c T ans s) (han : ans.length ≤ 1000) (h0 : Below wv.heap.size wv w0) (hrb : wv.heap.size ≤ rb ∧ rb < w0.heap.size) (hP : (match runW c T args ans most 0 (WSt0 c) with | some z => tupW (h, v, s) = tupW z | none => h = hLong)) :
    RoP c T args ans most wv (.returned (.agg #[.string (mkB h), .int .i64 v, .slice AO s.out.length cO, .int .i64 s.ticks, .slice AC s.calls.length cC])) (((((w.setCell ⟨rb, 0, none⟩ (.string (mkB h))).setCell ⟨rb, 1, none⟩ (.int .i64 v)).setCell ⟨rb, 2, none⟩ (.slice AO s.out.length cO)).setCell ⟨rb, 3, none⟩ (.int .i64 s.ticks)).setCell ⟨rb, 4, none⟩ (.slice AC s.calls.length cC)) := by
  obtain ⟨AO', cO', AC', cC', e1, e2, hd, hu⟩ := H.done (w' := ((((w.setCell ⟨rb, 0, none⟩ (.string (mkB h))).setCell ⟨rb, 1, none⟩ (.int .i64 v)).setCell ⟨rb, 2, none⟩ (.slice AO s.out.length cO)).setCell ⟨rb, 3, none⟩ (.int .i64 s.ticks)).setCell ⟨rb, 4, none⟩ (.slice AC s.calls.length cC)) fun k hk => far5A k (by omega)
  injection e1 with e1 _ e3
  injection e2 with e2 _ e4
  subst e1; subst e2; subst e3; subst e4
  refine ⟨tupW (h, v, s), AO, cO, AC, cC, ts, rfl, hd, below5A (grow_trans h0 H.bel) hrb.1, ⟨hok.out, by have := hok.calls; show s.calls.length ≤ 1000; omega, hok.c8⟩, ⟨fun hn a ha => Nat.le_trans h0.size (hu.out hn a ha), fun hn a ha => Nat.le_trans h0.size (hu.calls hn a ha), fun t ht hn a ha => Nat.le_trans h0.size (hu.rows t ht hn a ha)⟩, hP⟩
end Go.Proofs.YtdilakpipbkokaaDoor
