import Derived.Test.YtdilakpipbkokaaDoorBn26
import Derived.Test.YtdilakpipbkokaaDoorBn21
import Derived.Test.YtdilakpipbkokaaDoorBn23
import Derived.Test.YtdilakpipbkokaaDoorBn6
set_option linter.unusedVariables false
set_option linter.unusedSimpArgs false
namespace Go.Proofs.YtdilakpipbkokaaDoor
open Go.RowKit

/-! the document's walk of a code (printed by gen_plx.py) -/
section
variable {c : PCo} {args ans : List Int} {T : Int} {most : Nat}
theorem mrun_in {j k : Nat} {x : PBk} {s : WSt} (hj : j < most) (hk : c.blocks[k]? = some x) : runW c T args ans (most - j) k s = match inssW T args ans x.ins s with
      | (0, s') => (match endW c x s' with
        | .go k' s2 => runW c T args ans (most - (j + 1)) k' s2
        | .done v => some (hDone, v, s')
        | .stuck => some (hStuck, 0, s'))
      | (1, s') => some (hOver, 0, s')
      | (_, s') => some (hStuck, 0, s') := by
  obtain ⟨n, hn⟩ : ∃ n, most - j = n + 1 := ⟨most - j - 1, by omega⟩
  rw [hn, show most - (j + 1) = n by omega]
  conv => lhs; unfold runW
  rw [hk]
  dsimp only
  rcases inssW T args ans x.ins s with ⟨o, s'⟩
  match o with
  | 0 => cases endW c x s' <;> rfl
  | 1 => rfl
  | o + 2 => rfl
theorem mrun_bad {j k : Nat} {x : PBk} {s s' : WSt} {o : Nat} (hj : j < most) (hk : c.blocks[k]? = some x) (ho : o ≠ 0) (hi : inssW T args ans x.ins s = (o, s')) : runW c T args ans (most - j) k s = some (howO o, 0, s') := by
  rw [mrun_in hj hk, hi]
  match o, ho with
  | 1, _ => rfl
  | o + 2, _ => rfl
theorem mrun_end {j k : Nat} {x : PBk} {s s' : WSt} (hj : j < most) (hk : c.blocks[k]? = some x) (hi : inssW T args ans x.ins s = (0, s')) : runW c T args ans (most - j) k s = match endW c x s' with
        | .go k' s2 => runW c T args ans (most - (j + 1)) k' s2
        | .done v => some (hDone, v, s')
        | .stuck => some (hStuck, 0, s') := by
  rw [mrun_in hj hk, hi]
  cases he : endW c x s' <;> simp only [he]
end
theorem insW_bad2 {T : Int} {args ans : List Int} {l : List PIn} {k : Nat} {y : PIn} {s s3 : WSt} {o : Nat} (h : k < l.length) (hy : l[k] = y) (hi : insW T args ans y s = (o, s3)) (ho : o ≠ 0) : inssW T args ans (l.drop k) s = (o, s3) := by
  rw [inssW_step h, hy, hi]
  match o, ho with
  | 1, _ => rfl
  | o + 2, _ => rfl
set_option maxHeartbeats 32000000 in
set_option maxRecDepth 100000 in
theorem RunOf_any (c : PCo) (A : Option Addr) (ca : Nat) (hg : GoodC c) (hsm : ∀ b ∈ c.blocks, PSm b) (hbn : ∀ b ∈ c.blocks, BkN b) (args ans : List Int) (X : Option Addr) (xc : Nat) (Y : Option Addr) (yc : Nat) (T : Int) (hT : 0 ≤ T) (hT6 : T ≤ 60) (hpa : (args.length : Int) = c.params) (han : ans.length ≤ 1000) (ha6 : ∀ n ∈ args, I64 n) (hn6 : ∀ n ∈ ans, I64 n) (most : Nat) (hmo : most ≤ 100000)
    (w : World) (hr : RdP w c.blocks A) (hXr : Row w X (intVs args)) (hYr : Row w Y (intVs ans)) :
    Calls Tryd.prog 11 #[coV c A ca, .slice X args.length xc, .slice Y ans.length yc, .int .i64 T, .int .i64 (most : Nat)] w (RoP c T args ans most w) := by
  obtain ⟨cb, hcb⟩ : ∃ cb, w.heap.size = cb := ⟨_, rfl⟩
  obtain ⟨rb, hrbe⟩ : ∃ rb, cb + 1 = rb := ⟨_, rfl⟩
  obtain ⟨wA, hwA⟩ : ∃ wA, ((w.alloc (.cells #[.string (mkB c.name), .int .i64 c.params, .int .i64 c.values, .slice A c.blocks.length ca] 24)).alloc (.cells #[.string ⟨#[]⟩, .int .i64 0, .slice none 0 0, .int .i64 0, .slice none 0 0] 42)) = wA := ⟨_, rfl⟩
  have hbA : Below w.heap.size w wA := by rw [← hwA]; exact grow_alloc (grow_alloc (grow_refl _) _) _
  have hmA : wA.heap[cb]? = some (.cells #[.string (mkB c.name), .int .i64 c.params, .int .i64 c.values, .slice A c.blocks.length ca] 24 (0, 0)) := by rw [← hwA, ← hcb]; exact (old_block _ _ (by simp)).trans (heap_alloc_new w _)
  have hrA : wA.heap[rb]? = some (.cells #[.string ⟨#[]⟩, .int .i64 0, .slice none 0 0, .int .i64 0, .slice none 0 0] 42 (0, 0)) := by rw [← hwA, ← hrbe, ← hcb]; exact new_block _ _ (by simp)
  have hrb : w.heap.size ≤ rb ∧ rb < wA.heap.size := ⟨by omega, (Array.getElem?_eq_some_iff.1 hrA).1⟩
  have HX : Hid (∀ w', Below wA.heap.size wA w' → (w'.cell? ⟨cb, 0, none⟩ = some (.string (mkB c.name)) ∧ w'.cell? ⟨cb, 1, none⟩ = some (.int .i64 c.params) ∧ w'.cell? ⟨cb, 2, none⟩ = some (.int .i64 c.values) ∧ w'.cell? ⟨cb, 3, none⟩ = some (.slice A c.blocks.length ca)) ∧ w'.heap[rb]? = some (.cells #[.string ⟨#[]⟩, .int .i64 0, .slice none 0 0, .int .i64 0, .slice none 0 0] 42 (0, 0)) ∧ RdP w' c.blocks A ∧ Row w' X (intVs args) ∧ Row w' Y (intVs ans)) := fun w' hb =>
    have k := Keeps.of_below (grow_trans hbA hb)
    ⟨row4B ((hb.block _ (Array.getElem?_eq_some_iff.1 hmA).1).trans hmA), (hb.block _ hrb.2).trans hrA, hr.keep k, hXr.keep k, hYr.keep k⟩
  have HWA := Lib.hid hwA
  have HCB := Lib.hid hcb
  have HRBE := Lib.hid hrbe
  have HBA := Lib.hid hbA
  have HAN := Lib.hid han
  have HRDA : Hid (RdP wA c.blocks A) := hr.keep (Keeps.of_below hbA)
  have HYA : Hid (Row wA Y (intVs ans)) := hYr.keep (Keeps.of_below hbA)
  have HXA : Hid (Row wA X (intVs args)) := hXr.keep (Keeps.of_below hbA)
  obtain ⟨sn, hsn⟩ : ∃ sn : Nat, c.values = (sn : Int) := ⟨c.values.toNat, (Int.toNat_of_nonneg hg.values.1).symm⟩
  have hs1000 : sn ≤ 1000 := by have := hg.values.2; omega
  have HSN := Lib.hid hsn
  have hmk : ∀ W, (Instr.makeSlice 25 (.int .i64 c.values) (.int .i64 c.values)).run Tryd.prog W = .ok (.slice (some ⟨W.heap.size, 0, none⟩) sn sn) (W.alloc (zrO sn)) := fun W => by rw [HSN.out]; exact make_zr sn (by omega) W
  have hmk2 : ∀ W, (Instr.makeSlice 63 (.int .i64 c.values) (.int .i64 c.values)).run Tryd.prog W = .ok (.slice (some ⟨W.heap.size, 0, none⟩) sn sn) (W.alloc (flO sn)) := fun W => by rw [HSN.out]; exact make_fl sn (by omega) W
  obtain ⟨gb, hgb⟩ : ∃ gb, wA.heap.size = gb := ⟨_, rfl⟩
  obtain ⟨w1, hw1⟩ : ∃ w1, wA.alloc (zrO sn) = w1 := ⟨_, rfl⟩
  obtain ⟨hb, hhb⟩ : ∃ hb, w1.heap.size = hb := ⟨_, rfl⟩
  obtain ⟨w2, hw2⟩ : ∃ w2, w1.alloc (flO sn) = w2 := ⟨_, rfl⟩
  obtain ⟨mb, hmb⟩ : ∃ mb, w2.heap.size = mb := ⟨_, rfl⟩
  obtain ⟨wS, hwS⟩ : ∃ wS, w2.alloc (.cells #[.string ⟨#[]⟩, .int .i64 0, .slice none 0 0, .int .i64 0, .slice none 0 0] 42) = wS := ⟨_, rfl⟩
  have hz1 : w1.heap.size = wA.heap.size + 1 := by rw [← hw1]; simp
  have hz2 : w2.heap.size = wA.heap.size + 2 := by rw [← hw2]; simp [hz1]
  have hbS : Below wA.heap.size wA wS := by rw [← hwS, ← hw2, ← hw1]; exact grow_alloc (grow_alloc (grow_alloc (grow_refl _) _) _) _
  have hb1 : Below wA.heap.size wA w1 := by rw [← hw1]; exact grow_alloc (grow_refl _) _
  have hb2 : Below wA.heap.size wA w2 := by rw [← hw2, ← hw1]; exact grow_alloc (grow_alloc (grow_refl _) _) _
  have hgS : wS.heap[gb]? = some (zrO sn) := by rw [← hwS, ← hgb]; exact (old_block _ _ (by omega)).trans (by rw [← hw2]; exact (old_block _ _ (by omega)).trans (by rw [← hw1]; exact heap_alloc_new wA _))
  have hhS : wS.heap[hb]? = some (flO sn) := by rw [← hwS, ← hhb]; exact (old_block _ _ (by omega)).trans (by rw [← hw2]; exact heap_alloc_new w1 _)
  have hmS : wS.heap[mb]? = some (.cells #[.string ⟨#[]⟩, .int .i64 0, .slice none 0 0, .int .i64 0, .slice none 0 0] 42 (0, 0)) := by rw [← hwS, ← hmb]; exact heap_alloc_new w2 _
  have hsn2 : c.values.toNat = sn := by rw [hsn]; rfl
  have HSTART : Hid (RoW wA mb gb hb (fun _ _ => False) (WSt0 c) [] 0 (.slice none 0 0) (.slice none 0 0) [] wS) :=
    { ty := tyW_ro, bel := hbS, lowM := by omega, lowG := by omega, lowH := by omega, blk := by rw [hmS]; rfl, got := by rw [hgS]; simp [zrO, WSt0, hsn2], has := by rw [hhS]; simp [flO, WSt0, hsn2], out := World.ownsRow_nil _ _ _ _, one := by simp [Value.ownBlock], calls := World.ownsRow_nil _ _ _ _, map := rfl, rows := fun t h => (by cases h), far := fun t h => (by cases h), fr := fun _ _ h => h.elim }
  have hne1 : ¬ mb = rb := by omega
  have hne2 : ¬ rb = mb := by omega
  have HW1 := Lib.hid hw1
  have HW2 := Lib.hid hw2
  have HWS := Lib.hid hwS
  have HGB := Lib.hid hgb
  have HHB := Lib.hid hhb
  have HMB := Lib.hid hmb
  have HS2 := Lib.hid hsn2
  have HBF : Hid (∀ q ∈ c.blocks, BkF c q) := fun q hq => bk_facts (hg.blocks q hq)
  have HSM := Lib.hid hsm
  have HBN := Lib.hid hbn
  have HOK0 : Hid (WOk c T ans (WSt0 c)) := wok_start hT
  have HOKI : Hid (∀ {x : PIn}, I64 x.num → x.args.length ≤ 8 → ∀ {s s' : WSt} {o : Nat}, WOk c T ans s → insW T args ans x s = (o, s') → WOk c T ans s') := fun hx h8 _ _ _ h hs => wok_ins ha6 hn6 hx h8 h hs
  have HPICK6 : Hid (∀ {s : WSt}, WOk c T ans s → ∀ {l r : List Int}, pickW s l = some r → ∀ n ∈ r, I64 n) := fun hk _ _ h => pickW_I64 hk h
  have HPA := Lib.hid hpa
  have hlen0 : 0 < c.blocks.length := hg.some
  have hmost := hg.most
  obtain ⟨⟨i0, i1, i2, i3⟩, -, -, -, -⟩ := HX.out wA (grow_refl _)
  have HB1 := Lib.hid hb1
  have HB2 := Lib.hid hb2
  have HBS := Lib.hid hbS
  unfold coV
  clear hr hXr hYr hwA hbA hmA hrA hcb hrbe hg hsm hbn ha6 hn6 hpa hsn hsn2 hgb hw1 hhb hw2 hmb hwS hz1 hz2 hbS hb1 hb2 hgS hhS hmS han
  go_enter Tryd.func11, Tryd.ntmps11
  go_upto_region 1 with fail
  change Code.wp _ _ _ _ ((w.alloc (.cells #[.string (mkB c.name), .int .i64 c.params, .int .i64 c.values, .slice A c.blocks.length ca] 24)).alloc (.cells #[.string ⟨#[]⟩, .int .i64 0, .slice none 0 0, .int .i64 0, .slice none 0 0] 42))
  rw [HWA.out, HCB.out, HRBE.out]
  go_upto_region 2 with fail
  rw [HGB.out, HW1.out]
  obtain ⟨⟨i0, i1, i2, i3⟩, -, -, -, -⟩ := HX.out w1 HB1.out
  go_upto_region 3 with fail
  rw [HHB.out, HW2.out]
  go_upto_region 4 with fail
  change Code.wp _ _ _ _ (w2.alloc (.cells #[.string ⟨#[]⟩, .int .i64 0, .slice none 0 0, .int .i64 0, .slice none 0 0] 42))
  rw [HMB.out, HWS.out]
  clear i0 i1 i2 i3 hmk hmk2
  go_wp2_with fail
  go_loopw [14, 15, 16, 17, 18, 19, 20, 21, 22, 23, 24, 25, 26, 27] (fun kk jj _ _ _ _ _ _ _ _ _ _ _ _ wr => ∃ (jn kn : Nat) (s : WSt) (vO vC : Value) (ts : List CC), jn ≤ most ∧ jj = .int .i64 jn ∧ kk = .int .i64 kn ∧ kn < c.blocks.length ∧ WOk c T ans s ∧ RoW wA mb gb hb (fun _ _ => False) s [] 0 vO vC ts wr ∧ runW c T args ans most 0 (WSt0 c) = runW c T args ans (most - jn) kn s) (fun _ jj _ _ _ _ _ _ _ _ _ _ _ _ _ => most - (intOf jj).toNat)
  case atStart => exact ⟨0, 0, WSt0 c, _, _, _, Nat.zero_le _, rfl, rfl, hlen0, HOK0.out, HSTART.out, rfl⟩
  case round =>
    obtain ⟨j, k, s, vO1, vC1, ts1, hj, rfl, rfl, hk, hok, H1, hrun⟩ := hrel
    have HRUN := Lib.hid hrun
    clear hrun
    by_cases hlt : j < most
    · have hlt' : (j : Int) < (most : Int) := by omega
      have hk0 : (0 : Int) ≤ (k : Int) := by omega
      have hk1 : (k : Int) < (c.blocks.length : Int) := by omega
      obtain ⟨⟨i0, i1, i2, i3⟩, -, -, -, -⟩ := HX.out wr H1.bel
      obtain ⟨b8, off8, P, p, I, i, Tt, t, W, wcap, e8, hB0⟩ := bks_at HRDA.out hk
      subst e8
      obtain ⟨x, hx⟩ : ∃ x, c.blocks[k] = x := ⟨_, rfl⟩
      rw [hx] at hB0
      have hbm : x ∈ c.blocks := hx ▸ List.getElem_mem hk
      have HKX : Hid (c.blocks[k]? = some x) := show _ = _ by rw [List.getElem?_eq_getElem hk, hx]
      have HBO : Hid (BkF c x) := HBF.out x hbm
      have HXS : Hid (PSm x) := HSM.out x hbm
      have HXN : Hid (BkN x) := HBN.out x hbm
      have hl25 := (HSM.out x hbm).ins
      have HRW : Hid (BkRows wA x P I Tt W) := ⟨hB0.params, hB0.ins, hB0.nx, hB0.wth⟩
      have b0 := Keeps.of_below H1.bel _ _ hB0.c0
      have b1 := Keeps.of_below H1.bel _ _ hB0.c1
      have b2 := Keeps.of_below H1.bel _ _ hB0.c2
      have b3 := Keeps.of_below H1.bel _ _ hB0.c3
      have b4 := Keeps.of_below H1.bel _ _ hB0.c4
      have b5 := Keeps.of_below H1.bel _ _ hB0.c5
      obtain ⟨q, hq⟩ : ∃ q, wr.heap.size = q := ⟨_, rfl⟩
      obtain ⟨wB, hwB⟩ : ∃ wB, wr.alloc (.cells #[.slice P x.params.length p, .slice I x.ins.length i, .string (mkB x.fin), .int .i64 x.v, .slice Tt x.nx.length t, .slice W x.wth.length wcap] 60) = wB := ⟨_, rfl⟩
      have hbB : Below wr.heap.size wr wB := by rw [← hwB]; exact grow_alloc (grow_refl _) _
      have hmB : wB.heap[q]? = some (.cells #[.slice P x.params.length p, .slice I x.ins.length i, .string (mkB x.fin), .int .i64 x.v, .slice Tt x.nx.length t, .slice W x.wth.length wcap] 60 (0, 0)) := by rw [← hwB, ← hq]; exact heap_alloc_new wr _
      have HB : Hid (RoW wA mb gb hb (fun q9 cs9 => q9 = q ∧ cs9 = #[.slice P x.params.length p, .slice I x.ins.length i, .string (mkB x.fin), .int .i64 x.v, .slice Tt x.nx.length t, .slice W x.wth.length wcap]) s [] 0 vO1 vC1 ts1 wB) := (H1.below hbB).reF (fun q9 cs9 h9 => by obtain ⟨rfl, rfl⟩ := h9; exact hmB)
      have HWB := Lib.hid hwB
      have HQ2 := Lib.hid hq
      have HOKS := Lib.hid hok
      have HLT := Lib.hid hlt
      clear hwB hmB hbB hx hq H1 hB0 hok hlt hk hbm
      go_upto_region 9 with fail
      try change Code.wp _ _ _ _ (wr.alloc (.cells #[.slice P x.params.length p, .slice I x.ins.length i, .string (mkB x.fin), .int .i64 x.v, .slice Tt x.nx.length t, .slice W x.wth.length wcap] 60))
      rw [HQ2.out, HWB.out]
      clear b0 b1 b2 b3 b4 b5 i0 i1 i2 i3
      obtain ⟨b0, b1, b2, b3, b4, b5⟩ := row6B (HB.out.fr q _ ⟨rfl, rfl⟩)
      go_wp2_with fail
      go_loopw [17, 18, 19, 20, 21, 22] (fun z _ _ _ _ _ wx => ∃ (m : Nat) (s2 : WSt) (vO2 vC2 : Value) (ts2 : List CC), m ≤ x.ins.length ∧ z = .int .i64 m ∧ inssW T args ans x.ins s = inssW T args ans (x.ins.drop m) s2 ∧ WOk c T ans s2 ∧ RoW wA mb gb hb (fun q9 cs9 => q9 = q ∧ cs9 = #[.slice P x.params.length p, .slice I x.ins.length i, .string (mkB x.fin), .int .i64 x.v, .slice Tt x.nx.length t, .slice W x.wth.length wcap]) s2 [] 0 vO2 vC2 ts2 wx) (fun z _ _ _ _ _ _ => x.ins.length - (intOf z).toNat)
      case atStart => exact ⟨0, s, _, _, _, Nat.zero_le _, rfl, rfl, HOKS.out, HB.out⟩
      case round =>
        obtain ⟨m, s2, vO2, vC2, ts2, hm, rfl, hin, hok2, H2⟩ := hrel
        have HIN := Lib.hid hin
        have HOK2 := Lib.hid hok2
        have HH2 := Lib.hid H2
        clear hin b0 b1 b2 b3 b4 b5
        obtain ⟨b0, b1, b2, b3, b4, b5⟩ := row6B (H2.fr q _ ⟨rfl, rfl⟩)
        obtain ⟨AO, cO, rfl⟩ := own_slice H2.out
        obtain ⟨AC, cC, rfl⟩ := own_slice H2.calls
        by_cases hlt2 : m < x.ins.length
        · have hlt2' : (m : Int) < (x.ins.length : Int) := by omega
          have hm0 : (0 : Int) ≤ (m : Int) := by omega
          obtain ⟨b5', off5, A5, c5, e5, hL5⟩ := ins_at (HRW.out.ins.keep (Keeps.of_below H2.bel) fun _ _ => GoodI.keep (Keeps.of_below H2.bel)) hlt2
          subst e5
          have hym : x.ins[m] ∈ x.ins := List.getElem_mem hlt2
          have HSTP := Lib.hid (inssW_step (T := T) (args := args) (ans := ans) (s := s2) hlt2)
          obtain ⟨y, hy⟩ : ∃ y, x.ins[m] = y := ⟨_, rfl⟩
          have HBAD : Hid (∀ {o : Nat} {s3 : WSt}, insW T args ans y s2 = (o, s3) → o ≠ 0 → inssW T args ans x.ins s = (o, s3)) := fun hi ho => HIN.out.trans (insW_bad2 hlt2 hy hi ho)
          rw [hy] at hL5 hym HSTP
          have HGOOD : Hid (∀ {s3 : WSt}, insW T args ans y s2 = (0, s3) → inssW T args ans x.ins s = inssW T args ans (x.ins.drop (m + 1)) s3) := fun hi => by rw [HIN.out, HSTP.out, hi]; rfl
          obtain ⟨l0, l1, l2, l3, l4, hrowy⟩ := hL5
          have HLT2 := Lib.hid hlt2
          have HLF : Hid (InF c y) := HBO.out.ins y hym
          have HY6 : Hid (I64 y.num) := (HXN.out.ins y hym).num
          have HY8 : Hid (y.args.length ≤ 8) := (HXS.out.each y hym).1
          have HGG : Hid (s2.got.length = sn ∧ s2.has.length = sn) := ⟨hok2.g.trans HS2.out, hok2.h.trans HS2.out⟩
          obtain ⟨q2, hq2⟩ : ∃ q2, wr.heap.size = q2 := ⟨_, rfl⟩
          obtain ⟨wL, hwL⟩ : ∃ wL, wr.alloc (.cells #[.string (mkB y.kind), .int .i64 y.d, .slice A5 y.args.length c5, .int .i64 y.num, .string (mkB y.name)] 61) = wL := ⟨_, rfl⟩
          have hbL : Below wr.heap.size wr wL := by rw [← hwL]; exact grow_alloc (grow_refl _) _
          have hmL : wL.heap[q2]? = some (.cells #[.string (mkB y.kind), .int .i64 y.d, .slice A5 y.args.length c5, .int .i64 y.num, .string (mkB y.name)] 61 (0, 0)) := by rw [← hwL, ← hq2]; exact heap_alloc_new wr _
          have HL := Lib.hid (H2.below hbL)
          have HV := Lib.hid (pick_any (s := s2) (n := sn) HL.out.got HL.out.has HGG.out.1 HGG.out.2 y.args (by have := HY8.out; omega) (fun v hv => by have := HLF.out.args v hv; have := HSN.out; omega) A5 c5 (hrowy.keep (Keeps.of_below hbL)))
          have HWL := Lib.hid hwL
          have HQL := Lib.hid hq2
          have HML := Lib.hid hmL
          clear hwL hmL hbL hq2 H2 hok2 hlt2 hy hym hrowy
          go_upto_region 13 with fail
          try change Code.wp _ _ _ _ (wr.alloc (.cells #[.string (mkB y.kind), .int .i64 y.d, .slice A5 y.args.length c5, .int .i64 y.num, .string (mkB y.name)] 61))
          rw [HQL.out, HWL.out]
          clear l0 l1 l2 l3 l4 b0 b1 b2 b3 b4 b5
          obtain ⟨l0, l1, l2, l3, l4⟩ := row5B HML.out
          cases hp : pickW s2 y.args with
          | none =>
            have HP := Lib.hid hp
            have HI : Hid (insW T args ans y s2 = (2, s2)) := show _ = _ by unfold insW; rw [hp]
            clear hp
            go_upto_region 14 with (go_at_call 22; (with_reducible refine HV.out.mono ?_); rintro y9 w9 ⟨hb9, (⟨hno, rfl⟩ | ⟨r, A6, c6, hr, rfl, ho⟩)⟩; rotate_left; (exact absurd (HP.out.symm.trans hr) (by simp)))
            have H9 := HL.out.below hb9
            have m0 : w9.cell? ⟨mb, 0, none⟩ = some (.string ⟨#[]⟩) := H9.cellM rfl
            have m1 : w9.cell? ⟨mb, 1, none⟩ = some (.int .i64 0) := H9.cellM rfl
            have m3 := H9.cellM (j := 3) rfl
            have f0 := H9.frozM 0
            have f1 := H9.frozM 1
            have m2 := H9.cellM (j := 2) rfl
            have m4 := H9.cellM (j := 4) rfl
            have hr9 := (HX.out w9 H9.bel).2.1
            obtain ⟨s0, s1, s2', s3', s4'⟩ := row5A hr9
            have y0 := row_frozen hr9 0
            have y1 := row_frozen hr9 1
            have y2 := row_frozen hr9 2
            have y3 := row_frozen hr9 3
            have y4 := row_frozen hr9 4
            have HR9 := Lib.hid hr9
            clear hr9
            have HH9 := Lib.hid H9
            clear H9 hb9
            go_upto_region 15 with fail
            repeat (first | go_guarded | go_step | go_skip)
            obtain ⟨wF, hwF⟩ : ∃ wF, (w9.setCell ⟨mb, 0, none⟩ (.string ⟨#[115, 116, 117, 99, 107]⟩)) = wF := ⟨_, rfl⟩
            have H3 : RoW wA mb gb hb (fun _ _ => False) s2 hStuck 0 (.slice AO s2.out.length cO) (.slice AC s2.calls.length cC) _ (w9.setCell ⟨mb, 0, none⟩ (.string ⟨#[115, 116, 117, 99, 107]⟩)) := (HH9.out.set (t' := s2.ticks) (h' := hStuck) (v' := 0) (j := 0) (.string (mkB hStuck)) rfl).reF (fun _ _ h9 => h9.elim)
            rw [hwF] at H3 ⊢
            have hrF : wF.heap[rb]? = some (.cells #[.string ⟨#[]⟩, .int .i64 0, .slice none 0 0, .int .i64 0, .slice none 0 0] 42 (0, 0)) := by rw [← hwF]; exact (Below.heap_setCell _ _ _ _ hne2).trans HR9.out
            obtain ⟨z0, z1, z2, z3, z4⟩ := row5A (set5A (v0 := .string ⟨#[115, 116, 117, 99, 107]⟩) (v1 := .int .i64 0) (v2 := (.slice AO s2.out.length cO)) (v3 := .int .i64 s2.ticks) (v4 := (.slice AC s2.calls.length cC)) hrF)
            refine bodyPost_ret (v := .agg #[.string ⟨#[115, 116, 117, 99, 107]⟩, .int .i64 0, (.slice AO s2.out.length cO), .int .i64 s2.ticks, (.slice AC s2.calls.length cC)]) (by simp [results, Tryd.results11, go_sem, z0, z1, z2, z3, z4]; try rfl) rfl ?_
            exact ro_end H3 HOK2.out HAN.out HBA.out hrb (by rw [HRUN.out, mrun_bad HLT.out HKX.out (by decide) (HBAD.out HI.out (by decide))]; rfl)
          | some r =>
            have HP := Lib.hid hp
            have HRL : Hid (r.length = y.args.length) := pickW_len hp
            have HR6 : Hid (∀ n ∈ r, I64 n) := HPICK6.out HOK2.out hp
            clear hp
            go_upto_region 17 with (go_at_call 22; (with_reducible refine HV.out.mono ?_); rintro y9 w9 ⟨hb9, (⟨hno, -⟩ | ⟨r9, A6, c6, hr, rfl, ho⟩)⟩; (exact absurd (hno.symm.trans HP.out) (by simp)); obtain rfl := Option.some.inj (HP.out.symm.trans hr))
            have hk9 := (hb9.block q2 (Array.getElem?_eq_some_iff.1 HML.out).1).trans HML.out
            have H9 := HL.out.below hb9
            clear l0 l1 l2 l3 l4
            obtain ⟨l0, l1, l2, l3, l4⟩ := row5B hk9
            by_cases htick : y.kind = kTick
            · have hk : y.kind = kTick := htick
              have hkn : kindW y.kind = 6 := by rw [hk]; decide
              have qtick : ((mkB y.kind).toList == [116, 105, 99, 107]) = true := by rw [mkB_eq, hk]; rfl
              have qprint : ((mkB y.kind).toList == [112, 114, 105, 110, 116]) = false := by rw [mkB_eq, hk]; rfl
              have qparam : ((mkB y.kind).toList == [112, 97, 114, 97, 109]) = false := by rw [mkB_eq, hk]; rfl
              have qone : ((mkB y.kind).toList == [111, 110, 101]) = false := by rw [mkB_eq, hk]; rfl
              have qtwo : ((mkB y.kind).toList == [116, 119, 111]) = false := by rw [mkB_eq, hk]; rfl
              have qcall : ((mkB y.kind).toList == [99, 97, 108, 108]) = false := by rw [mkB_eq, hk]; rfl
              clear hk htick
              by_cases ht : T ≤ s2.ticks
              · have HI : Hid (insW T args ans y s2 = (1, s2)) := show _ = _ by unfold insW; rw [HP.out]; dsimp only; rw [hkn]; exact if_pos ht
                have m0 : w9.cell? ⟨mb, 0, none⟩ = some (.string ⟨#[]⟩) := H9.cellM rfl
                have m1 : w9.cell? ⟨mb, 1, none⟩ = some (.int .i64 0) := H9.cellM rfl
                have m3 := H9.cellM (j := 3) rfl
                have f0 := H9.frozM 0
                have f1 := H9.frozM 1
                have m2 := H9.cellM (j := 2) rfl
                have m4 := H9.cellM (j := 4) rfl
                have hr9 := (HX.out w9 H9.bel).2.1
                obtain ⟨s0, s1, s2', s3', s4'⟩ := row5A hr9
                have y0 := row_frozen hr9 0
                have y1 := row_frozen hr9 1
                have y2 := row_frozen hr9 2
                have y3 := row_frozen hr9 3
                have y4 := row_frozen hr9 4
                have HR9 := Lib.hid hr9
                clear hr9
                have HH9 := Lib.hid H9
                clear H9 hb9 hk9 ho
                go_upto_region 21 with fail
                repeat (first | go_guarded | go_step | go_skip)
                obtain ⟨wF, hwF⟩ : ∃ wF, (w9.setCell ⟨mb, 0, none⟩ (.string ⟨#[111, 118, 101, 114]⟩)) = wF := ⟨_, rfl⟩
                have H3 : RoW wA mb gb hb (fun _ _ => False) s2 hOver 0 (.slice AO s2.out.length cO) (.slice AC s2.calls.length cC) _ (w9.setCell ⟨mb, 0, none⟩ (.string ⟨#[111, 118, 101, 114]⟩)) := (HH9.out.set (t' := s2.ticks) (h' := hOver) (v' := 0) (j := 0) (.string (mkB hOver)) rfl).reF (fun _ _ h9 => h9.elim)
                rw [hwF] at H3 ⊢
                have hrF : wF.heap[rb]? = some (.cells #[.string ⟨#[]⟩, .int .i64 0, .slice none 0 0, .int .i64 0, .slice none 0 0] 42 (0, 0)) := by rw [← hwF]; exact (Below.heap_setCell _ _ _ _ hne2).trans HR9.out
                obtain ⟨z0, z1, z2, z3, z4⟩ := row5A (set5A (v0 := .string ⟨#[111, 118, 101, 114]⟩) (v1 := .int .i64 0) (v2 := (.slice AO s2.out.length cO)) (v3 := .int .i64 s2.ticks) (v4 := (.slice AC s2.calls.length cC)) hrF)
                refine bodyPost_ret (v := .agg #[.string ⟨#[111, 118, 101, 114]⟩, .int .i64 0, (.slice AO s2.out.length cO), .int .i64 s2.ticks, (.slice AC s2.calls.length cC)]) (by simp [results, Tryd.results11, go_sem, z0, z1, z2, z3, z4]; try rfl) rfl ?_
                exact ro_end H3 HOK2.out HAN.out HBA.out hrb (by rw [HRUN.out, mrun_bad HLT.out HKX.out (by decide) (HBAD.out HI.out (by decide))]; rfl)
              · have HI : Hid (insW T args ans y s2 = (0, { s2 with ticks := s2.ticks + 1 })) := show _ = _ by unfold insW; rw [HP.out]; dsimp only; rw [hkn]; exact if_neg ht
                have htk := HOK2.out.ticks
                have hw : IntKind.i64.wrap (s2.ticks + 1) = s2.ticks + 1 := IntWalk.i64_in _ (by omega)
                have m3 : w9.cell? ⟨mb, 3, none⟩ = some (.int .i64 s2.ticks) := H9.cellM rfl
                have f3 := H9.frozM 3
                have HN := Lib.hid (H9.set (t' := s2.ticks + 1) (h' := []) (v' := 0) (j := 3) (.int .i64 (s2.ticks + 1)) rfl)
                clear H9 hb9 hk9 ho htk
                go_wp2_with fail
                go_roundw
                case rel => have hlt2 := HLT2.out; exact ⟨m + 1, _, _, _, _, by omega, by go_num, HGOOD.out HI.out, HOKI.out HY6.out HY8.out HOK2.out HI.out, HN.out⟩
                case measure => have hlt2 := HLT2.out; simp [intOf]; omega
            by_cases hprint : y.kind = kPrint
            · have hk : y.kind = kPrint := hprint
              have hkn : kindW y.kind = 7 := by rw [hk]; decide
              have qtick : ((mkB y.kind).toList == [116, 105, 99, 107]) = false := by rw [mkB_eq, hk]; rfl
              have qprint : ((mkB y.kind).toList == [112, 114, 105, 110, 116]) = true := by rw [mkB_eq, hk]; rfl
              have qparam : ((mkB y.kind).toList == [112, 97, 114, 97, 109]) = false := by rw [mkB_eq, hk]; rfl
              have qone : ((mkB y.kind).toList == [111, 110, 101]) = false := by rw [mkB_eq, hk]; rfl
              have qtwo : ((mkB y.kind).toList == [116, 119, 111]) = false := by rw [mkB_eq, hk]; rfl
              have qcall : ((mkB y.kind).toList == [99, 97, 108, 108]) = false := by rw [mkB_eq, hk]; rfl
              clear hk hprint
              by_cases hout : 1000 ≤ s2.out.length
              · have HI : Hid (insW T args ans y s2 = (1, s2)) := show _ = _ by unfold insW; rw [HP.out]; dsimp only; rw [hkn]; exact if_pos hout
                have hout' : (1000 : Int) ≤ (s2.out.length : Int) := by omega
                have m0 : w9.cell? ⟨mb, 0, none⟩ = some (.string ⟨#[]⟩) := H9.cellM rfl
                have m1 : w9.cell? ⟨mb, 1, none⟩ = some (.int .i64 0) := H9.cellM rfl
                have m3 := H9.cellM (j := 3) rfl
                have f0 := H9.frozM 0
                have f1 := H9.frozM 1
                have m2 := H9.cellM (j := 2) rfl
                have m4 := H9.cellM (j := 4) rfl
                have hr9 := (HX.out w9 H9.bel).2.1
                obtain ⟨s0, s1, s2', s3', s4'⟩ := row5A hr9
                have y0 := row_frozen hr9 0
                have y1 := row_frozen hr9 1
                have y2 := row_frozen hr9 2
                have y3 := row_frozen hr9 3
                have y4 := row_frozen hr9 4
                have HR9 := Lib.hid hr9
                clear hr9
                have HH9 := Lib.hid H9
                clear H9 hb9 hk9 ho
                go_upto_region 26 with fail
                repeat (first | go_guarded | go_step | go_skip)
                obtain ⟨wF, hwF⟩ : ∃ wF, (w9.setCell ⟨mb, 0, none⟩ (.string ⟨#[111, 118, 101, 114]⟩)) = wF := ⟨_, rfl⟩
                have H3 : RoW wA mb gb hb (fun _ _ => False) s2 hOver 0 (.slice AO s2.out.length cO) (.slice AC s2.calls.length cC) _ (w9.setCell ⟨mb, 0, none⟩ (.string ⟨#[111, 118, 101, 114]⟩)) := (HH9.out.set (t' := s2.ticks) (h' := hOver) (v' := 0) (j := 0) (.string (mkB hOver)) rfl).reF (fun _ _ h9 => h9.elim)
                rw [hwF] at H3 ⊢
                have hrF : wF.heap[rb]? = some (.cells #[.string ⟨#[]⟩, .int .i64 0, .slice none 0 0, .int .i64 0, .slice none 0 0] 42 (0, 0)) := by rw [← hwF]; exact (Below.heap_setCell _ _ _ _ hne2).trans HR9.out
                obtain ⟨z0, z1, z2, z3, z4⟩ := row5A (set5A (v0 := .string ⟨#[111, 118, 101, 114]⟩) (v1 := .int .i64 0) (v2 := (.slice AO s2.out.length cO)) (v3 := .int .i64 s2.ticks) (v4 := (.slice AC s2.calls.length cC)) hrF)
                refine bodyPost_ret (v := .agg #[.string ⟨#[111, 118, 101, 114]⟩, .int .i64 0, (.slice AO s2.out.length cO), .int .i64 s2.ticks, (.slice AC s2.calls.length cC)]) (by simp [results, Tryd.results11, go_sem, z0, z1, z2, z3, z4]; try rfl) rfl ?_
                exact ro_end H3 HOK2.out HAN.out HBA.out hrb (by rw [HRUN.out, mrun_bad HLT.out HKX.out (by decide) (HBAD.out HI.out (by decide))]; rfl)
              · have HI : Hid (insW T args ans y s2 = (0, { s2 with out := s2.out ++ [r.getD 0 0] })) := show _ = _ by unfold insW; rw [HP.out]; dsimp only; rw [hkn]; exact if_neg hout
                have hout' : (s2.out.length : Int) < 1000 := by omega
                have hyl := HLF.out.print hkn
                obtain ⟨A6', c6', e6, -, hr6⟩ := owns_rowA ho
                injection e6 with e6 _ e7
                subst e6
                subst e7
                have hl0 : 0 < r.length := by have := HRL.out; omega
                obtain ⟨b6, o6, hA6, r0⟩ := hr6 0 _ (intVs_get hl0)
                subst hA6
                rw [Nat.add_zero] at r0
                have hl0' : (0 : Int) < (r.length : Int) := by omega
                have hv0 : r.getD 0 0 = r[0] := by rw [List.getD_eq_getElem?_getD, List.getElem?_eq_getElem hl0]; rfl
                rw [← hv0] at r0
                obtain ⟨vv, hvv⟩ : ∃ z, r.getD 0 0 = z := ⟨_, rfl⟩
                rw [hvv] at r0 HI
                obtain ⟨i0, hi, hz0, hz1, hz2⟩ := info_parts intInfo
                have HO : Hid (w9.ownsRow wA.heap.size 3 1 (.slice AO s2.out.length cO) s2.out.length (intVs s2.out)) := H9.out
                have hw0 : wA.heap.size ≤ w9.heap.size := H9.bel.size
                have HN := Lib.hid H9
                have o1 : w9.cell? ⟨mb, 2, none⟩ = some (.slice AO s2.out.length cO) := H9.cellM rfl
                have hnO := World.new_ne w9 _ o1
                have hnR := World.new_ne w9 _ r0
                have g1 : (w9.alloc (.cells #[.int .i64 vv] 3)).cell? ⟨mb, 2, none⟩ = some (.slice AO s2.out.length cO) := Keeps.alloc _ _ _ _ o1
                have g2 : (w9.alloc (.cells #[.int .i64 vv] 3)).cell? ⟨b6, o6, none⟩ = some (.int .i64 vv) := Keeps.alloc _ _ _ _ r0
                clear hv0 hvv hr6 H9 hb9 hk9 ho hyl
                go_upto_region 28 with fail
                go_region_law (first
                  | (refine step_append_lies _ rfl _ _ 25 rfl wA.heap.size 3 i0 _ 1 8 Tryd.underlying25 hi hz0 hz1 hz2 rfl (by decide) _ s2.out.length (intVs s2.out) rfl (by first | exact (World.ownsRow.alloc HO.out _).drewN 1 | exact (HO.out.drewN 1).alloc _ | exact World.ownsRow.alloc HO.out _) ⟨w9.heap.size, 0, none⟩ 1 1 [.int .i64 vv] rfl rfl (by first | exact World.news_of_block (heap_alloc_new w9 _) | exact World.news_of_block (heap_alloc_new w9.drew _) | exact World.news_of_block (w := (w9.alloc (.cells #[.int .i64 vv] 3)).drew) (heap_alloc_new w9 _)) (fun u hu => by simp at hu; subst hu; rfl) (by decide) (by unfold maxLen; omega) (by omega) (by first | (show wA.heap.size ≤ (w9.alloc _).heap.size; simp; omega) | (simp; omega)) _ rfl ?_; intro g cap w8 hown hgrow hat hlt9; obtain ⟨j1, j2⟩ := HN.out.putO (jO := 2) (o := .cells #[.int .i64 vv] 3) (fun _ => rfl) hown ⟨hgrow.os, hgrow.tape, hgrow.output, hgrow.size, hgrow.block⟩ (hat.imp id fun e => e.trans (by first | (show (w9.alloc _).heap.size = _; simp) | simp)); have o1 : w8.cell? ⟨mb, 2, none⟩ = some (.slice AO s2.out.length cO) := (World.cell?_of_block j1).trans (HN.out.cellM rfl); have z1 := row_frozen (j1.trans HN.out.blk) 2; have H8 := Lib.hid j2; clear j1 j2 hown hgrow hat))
                all_goals go_wp2_with fail
                all_goals (
                  go_roundw
                  case rel => have hlt2 := HLT2.out; exact ⟨m + 1, _, _, _, _, by omega, by go_num, HGOOD.out HI.out, HOKI.out HY6.out HY8.out HOK2.out HI.out, H8.out⟩
                  case measure => have hlt2 := HLT2.out; simp [intOf]; omega
                )
            by_cases hparam : y.kind = kParam
            · have hk : y.kind = kParam := hparam
              have hkn : kindW y.kind = 1 := by rw [hk]; decide
              have h5n : kindW y.kind ≠ 5 := by rw [hkn]; decide
              have h6n : kindW y.kind ≠ 6 := by rw [hkn]; decide
              have h7n : kindW y.kind ≠ 7 := by rw [hkn]; decide
              have qtick : ((mkB y.kind).toList == [116, 105, 99, 107]) = false := by rw [mkB_eq, hk]; rfl
              have qprint : ((mkB y.kind).toList == [112, 114, 105, 110, 116]) = false := by rw [mkB_eq, hk]; rfl
              have qparam : ((mkB y.kind).toList == [112, 97, 114, 97, 109]) = true := by rw [mkB_eq, hk]; rfl
              have qone : ((mkB y.kind).toList == [111, 110, 101]) = false := by rw [mkB_eq, hk]; rfl
              have qtwo : ((mkB y.kind).toList == [116, 119, 111]) = false := by rw [mkB_eq, hk]; rfl
              have qcall : ((mkB y.kind).toList == [99, 97, 108, 108]) = false := by rw [mkB_eq, hk]; rfl
              clear hk hparam
              have hd := HLF.out.d h6n h7n
              obtain ⟨dn, hdn⟩ : ∃ dn : Nat, y.d = (dn : Int) := ⟨y.d.toNat, (Int.toNat_of_nonneg hd.1).symm⟩
              rw [hdn] at l1
              have hd0 : (0 : Int) ≤ (dn : Int) := by omega
              have hd1 : (dn : Int) < (sn : Int) := by have := HSN.out; omega
              have hdl : dn < sn := by omega
              have HDN := Lib.hid hdn
              have hg1 : ¬ gb = hb := H9.neGH
              have hg2 : ¬ hb = gb := Ne.symm H9.neGH
              have hqg1 : ¬ q2 = gb := ty_ne hk9 H9.got (by decide)
              have hqg2 : ¬ q2 = hb := ty_ne hk9 H9.has (by decide)
              clear hd hdn
              have cg := H9.cellG (j := dn) (by rw [HGG.out.1]; exact hdl)
              have ch := H9.cellH (j := dn) (by rw [HGG.out.2]; exact hdl)
              have zg := H9.frozG dn
              have zh := H9.frozH dn
              obtain ⟨ug, hug⟩ : ∃ z, s2.got.getD dn 0 = z := ⟨_, rfl⟩
              obtain ⟨uh, huh⟩ : ∃ z, s2.has.getD dn false = z := ⟨_, rfl⟩
              rw [hug] at cg
              rw [huh] at ch
              clear hug huh
              have hpm := HLF.out.param hkn
              obtain ⟨nn, hnn⟩ : ∃ nn : Nat, y.num = (nn : Int) := ⟨y.num.toNat, (Int.toNat_of_nonneg hpm.1).symm⟩
              have hnl : nn < args.length := by have := HPA.out; omega
              have hn0 : (0 : Int) ≤ (nn : Int) := by omega
              have hn1 : (nn : Int) < (args.length : Int) := by omega
              obtain ⟨xb, xo, hXe, x0⟩ := (HX.out w9 H9.bel).2.2.2.1 nn _ (intVs_get hnl)
              have hpv : pureW args y r = args[nn] := by unfold pureW; rw [hkn, hnn]; show args.getD _ 0 = _; rw [Int.toNat_natCast, List.getD_eq_getElem?_getD, List.getElem?_eq_getElem hnl]; rfl
              have HI : Hid (insW T args ans y s2 = (0, putW s2 dn (args[nn]))) := show _ = _ by rw [insW_else T args ans HP.out h5n h6n h7n, HDN.out, hpv]
              obtain ⟨vv, hvv⟩ : ∃ z, args[nn] = z := ⟨_, rfl⟩
              rw [hvv] at x0 HI
              rw [hnn] at l3
              have HN := Lib.hid (H9.put (d := dn) vv)
              clear H9 hb9 hk9 ho hpm hnn hpv hvv
              subst hXe
              go_wp2_with fail
              go_roundw
              case rel => have hlt2 := HLT2.out; exact ⟨m + 1, _, _, _, _, by omega, by go_num, HGOOD.out HI.out, HOKI.out HY6.out HY8.out HOK2.out HI.out, HN.out⟩
              case measure => have hlt2 := HLT2.out; simp [intOf]; omega
            by_cases hone : y.kind = kOne
            · have hk : y.kind = kOne := hone
              as_aux_lemma =>
                have hkn : kindW y.kind = 3 := by rw [hk]; decide
                have h5n : kindW y.kind ≠ 5 := by rw [hkn]; decide
                have h6n : kindW y.kind ≠ 6 := by rw [hkn]; decide
                have h7n : kindW y.kind ≠ 7 := by rw [hkn]; decide
                have qtick : ((mkB y.kind).toList == [116, 105, 99, 107]) = false := by rw [mkB_eq, hk]; rfl
                have qprint : ((mkB y.kind).toList == [112, 114, 105, 110, 116]) = false := by rw [mkB_eq, hk]; rfl
                have qparam : ((mkB y.kind).toList == [112, 97, 114, 97, 109]) = false := by rw [mkB_eq, hk]; rfl
                have qone : ((mkB y.kind).toList == [111, 110, 101]) = true := by rw [mkB_eq, hk]; rfl
                have qtwo : ((mkB y.kind).toList == [116, 119, 111]) = false := by rw [mkB_eq, hk]; rfl
                have qcall : ((mkB y.kind).toList == [99, 97, 108, 108]) = false := by rw [mkB_eq, hk]; rfl
                clear hk hone
                have h1f := HLF.out.one hkn
                have hyl := h1f.1
                have hd := HLF.out.d h6n h7n
                obtain ⟨dn, hdn⟩ : ∃ dn : Nat, y.d = (dn : Int) := ⟨y.d.toNat, (Int.toNat_of_nonneg hd.1).symm⟩
                rw [hdn] at l1
                have hd0 : (0 : Int) ≤ (dn : Int) := by omega
                have hd1 : (dn : Int) < (sn : Int) := by have := HSN.out; omega
                have hdl : dn < sn := by omega
                have HDN := Lib.hid hdn
                have hg1 : ¬ gb = hb := H9.neGH
                have hg2 : ¬ hb = gb := Ne.symm H9.neGH
                have hqg1 : ¬ q2 = gb := ty_ne hk9 H9.got (by decide)
                have hqg2 : ¬ q2 = hb := ty_ne hk9 H9.has (by decide)
                clear hd hdn
                have cg := H9.cellG (j := dn) (by rw [HGG.out.1]; exact hdl)
                have ch := H9.cellH (j := dn) (by rw [HGG.out.2]; exact hdl)
                have zg := H9.frozG dn
                have zh := H9.frozH dn
                obtain ⟨ug, hug⟩ : ∃ z, s2.got.getD dn 0 = z := ⟨_, rfl⟩
                obtain ⟨uh, huh⟩ : ∃ z, s2.has.getD dn false = z := ⟨_, rfl⟩
                rw [hug] at cg
                rw [huh] at ch
                clear hug huh
                obtain ⟨A6', c6', e6, -, hr6⟩ := owns_rowA ho
                injection e6 with e6 _ e7
                subst e6
                subst e7
                have hl0 : 0 < r.length := by have := HRL.out; omega
                obtain ⟨b6, o6, hA6, r0⟩ := hr6 0 _ (intVs_get hl0)
                subst hA6
                rw [Nat.add_zero] at r0
                have hl0' : (0 : Int) < (r.length : Int) := by omega
                have hv0 : r.getD 0 0 = r[0] := by rw [List.getD_eq_getElem?_getD, List.getElem?_eq_getElem hl0]; rfl
                rw [← hv0] at r0
                obtain ⟨vv, hvv⟩ := Option.isSome_iff_exists.1 (h1f.2 (r.getD 0 0))
                have hpv : pureW args y r = vv := by unfold pureW; rw [hkn]; show (oneV y.name (r.getD 0 0)).getD 0 = _; rw [hvv]; rfl
                have HI : Hid (insW T args ans y s2 = (0, putW s2 dn (vv))) := show _ = _ by rw [insW_else T args ans HP.out h5n h6n h7n, HDN.out, hpv]
                have HC : Hid (∀ j9, Calls Tryd.prog 23 #[.string (mkB y.name), .int .i64 (r.getD 0 0)] (w9.drewN j9) (Quiet (.int .i64 vv) (w9.drewN j9))) := fun j9 => (OneOf_any (mkB y.name) (r.getD 0 0) vv (by rw [mkB_toList]; exact hvv) (w9.drewN j9)).mono fun _ _ h => ⟨h.1, 0, h.2⟩
                obtain ⟨rv, hrv⟩ : ∃ z, r.getD 0 0 = z := ⟨_, rfl⟩
                rw [hrv] at r0 HC
                have HN := Lib.hid (fun j9 => (H9.drewN j9).put (d := dn) vv)
                have HC0 : Hid (w9.cell? ⟨q2, 1, none⟩ = some (.int .i64 (dn : Int)) ∧ w9.cell? ⟨gb, dn, none⟩ = some (.int .i64 ug) ∧ w9.cell? ⟨hb, dn, none⟩ = some (.bool uh) ∧ w9.frozen? ⟨gb, dn, none⟩ = false ∧ w9.frozen? ⟨hb, dn, none⟩ = false) := ⟨l1, cg, ch, zg, zh⟩
                clear H9 hb9 hk9 ho hv0 hr6 hyl h1f hpv hvv hrv
                go_upto_region 32 with fail
                go_quiet ((go_at_call 23; exact Calls.quiet_of (HC.out _)))
                obtain ⟨l1, cg, ch, zg, zh⟩ := HC0.out
                go_wp2_with fail
                go_roundw
                case rel => have hlt2 := HLT2.out; exact ⟨m + 1, _, _, _, _, by omega, by go_num, HGOOD.out HI.out, HOKI.out HY6.out HY8.out HOK2.out HI.out, HN.out _⟩
                case measure => have hlt2 := HLT2.out; simp [intOf]; omega
            by_cases htwo : y.kind = kTwo
            · have hk : y.kind = kTwo := htwo
              as_aux_lemma =>
                have hkn : kindW y.kind = 4 := by rw [hk]; decide
                have h5n : kindW y.kind ≠ 5 := by rw [hkn]; decide
                have h6n : kindW y.kind ≠ 6 := by rw [hkn]; decide
                have h7n : kindW y.kind ≠ 7 := by rw [hkn]; decide
                have qtick : ((mkB y.kind).toList == [116, 105, 99, 107]) = false := by rw [mkB_eq, hk]; rfl
                have qprint : ((mkB y.kind).toList == [112, 114, 105, 110, 116]) = false := by rw [mkB_eq, hk]; rfl
                have qparam : ((mkB y.kind).toList == [112, 97, 114, 97, 109]) = false := by rw [mkB_eq, hk]; rfl
                have qone : ((mkB y.kind).toList == [111, 110, 101]) = false := by rw [mkB_eq, hk]; rfl
                have qtwo : ((mkB y.kind).toList == [116, 119, 111]) = true := by rw [mkB_eq, hk]; rfl
                have qcall : ((mkB y.kind).toList == [99, 97, 108, 108]) = false := by rw [mkB_eq, hk]; rfl
                clear hk htwo
                have h1f := HLF.out.two hkn
                have hyl := h1f.1
                have hd := HLF.out.d h6n h7n
                obtain ⟨dn, hdn⟩ : ∃ dn : Nat, y.d = (dn : Int) := ⟨y.d.toNat, (Int.toNat_of_nonneg hd.1).symm⟩
                rw [hdn] at l1
                have hd0 : (0 : Int) ≤ (dn : Int) := by omega
                have hd1 : (dn : Int) < (sn : Int) := by have := HSN.out; omega
                have hdl : dn < sn := by omega
                have HDN := Lib.hid hdn
                have hg1 : ¬ gb = hb := H9.neGH
                have hg2 : ¬ hb = gb := Ne.symm H9.neGH
                have hqg1 : ¬ q2 = gb := ty_ne hk9 H9.got (by decide)
                have hqg2 : ¬ q2 = hb := ty_ne hk9 H9.has (by decide)
                clear hd hdn
                have cg := H9.cellG (j := dn) (by rw [HGG.out.1]; exact hdl)
                have ch := H9.cellH (j := dn) (by rw [HGG.out.2]; exact hdl)
                have zg := H9.frozG dn
                have zh := H9.frozH dn
                obtain ⟨ug, hug⟩ : ∃ z, s2.got.getD dn 0 = z := ⟨_, rfl⟩
                obtain ⟨uh, huh⟩ : ∃ z, s2.has.getD dn false = z := ⟨_, rfl⟩
                rw [hug] at cg
                rw [huh] at ch
                clear hug huh
                obtain ⟨A6', c6', e6, -, hr6⟩ := owns_rowA ho
                injection e6 with e6 _ e7
                subst e6
                subst e7
                have hl0 : 0 < r.length := by have := HRL.out; omega
                obtain ⟨b6, o6, hA6, r0⟩ := hr6 0 _ (intVs_get hl0)
                subst hA6
                rw [Nat.add_zero] at r0
                have hl0' : (0 : Int) < (r.length : Int) := by omega
                have hv0 : r.getD 0 0 = r[0] := by rw [List.getD_eq_getElem?_getD, List.getElem?_eq_getElem hl0]; rfl
                rw [← hv0] at r0
                have hl9 : 1 < r.length := by have := HRL.out; omega
                obtain ⟨b7, o7, e9, r1⟩ := hr6 1 _ (intVs_get hl9)
                injection e9 with e9
                injection e9 with e9 e8 _
                subst e9
                subst e8
                have hl9' : (1 : Int) < (r.length : Int) := by omega
                have hv1 : r.getD 1 0 = r[1] := by rw [List.getD_eq_getElem?_getD, List.getElem?_eq_getElem hl9]; rfl
                rw [← hv1] at r1
                obtain ⟨vv, hvv⟩ := Option.isSome_iff_exists.1 (h1f.2 (r.getD 0 0) (r.getD 1 0))
                have hpv : pureW args y r = vv := by unfold pureW; rw [hkn]; show (doV y.name (r.getD 0 0) (r.getD 1 0)).getD 0 = _; rw [hvv]; rfl
                have HI : Hid (insW T args ans y s2 = (0, putW s2 dn (vv))) := show _ = _ by rw [insW_else T args ans HP.out h5n h6n h7n, HDN.out, hpv]
                have h64 : I64 (r.getD 0 0) := by rw [hv0]; exact HR6.out _ (List.getElem_mem hl0)
                have HC : Hid (∀ j9, Calls Tryd.prog 24 #[.string (mkB y.name), .int .i64 (r.getD 0 0), .int .i64 (r.getD 1 0)] (w9.drewN j9) (Quiet (.int .i64 vv) (w9.drewN j9))) := fun j9 => (DoOf_any (mkB y.name) (r.getD 0 0) (r.getD 1 0) h64 (w9.drewN j9)).mono fun _ _ h => ⟨by rw [h.1, mkB_toList, doV_dofV _ _ _ _ hvv], 0, h.2⟩
                obtain ⟨rv, hrv⟩ : ∃ z, r.getD 0 0 = z := ⟨_, rfl⟩
                rw [hrv] at r0 HC
                obtain ⟨rv1, hrv1⟩ : ∃ z, r.getD 1 0 = z := ⟨_, rfl⟩
                rw [hrv1] at r1 HC
                have HN := Lib.hid (fun j9 => (H9.drewN j9).put (d := dn) vv)
                have HC0 : Hid (w9.cell? ⟨q2, 1, none⟩ = some (.int .i64 (dn : Int)) ∧ w9.cell? ⟨gb, dn, none⟩ = some (.int .i64 ug) ∧ w9.cell? ⟨hb, dn, none⟩ = some (.bool uh) ∧ w9.frozen? ⟨gb, dn, none⟩ = false ∧ w9.frozen? ⟨hb, dn, none⟩ = false) := ⟨l1, cg, ch, zg, zh⟩
                clear H9 hb9 hk9 ho hv0 hv1 hr6 hyl h1f hpv hvv hrv hrv1 h64
                go_upto_region 34 with fail
                go_quiet ((go_at_call 24; exact Calls.quiet_of (HC.out _)))
                obtain ⟨l1, cg, ch, zg, zh⟩ := HC0.out
                go_wp2_with fail
                go_roundw
                case rel => have hlt2 := HLT2.out; exact ⟨m + 1, _, _, _, _, by omega, by go_num, HGOOD.out HI.out, HOKI.out HY6.out HY8.out HOK2.out HI.out, HN.out _⟩
                case measure => have hlt2 := HLT2.out; simp [intOf]; omega
            by_cases hcall : y.kind = kCall
            · have hk : y.kind = kCall := hcall
              as_aux_lemma =>
                have hkn : kindW y.kind = 5 := by rw [hk]; decide
                have h6n : kindW y.kind ≠ 6 := by rw [hkn]; decide
                have h7n : kindW y.kind ≠ 7 := by rw [hkn]; decide
                have qtick : ((mkB y.kind).toList == [116, 105, 99, 107]) = false := by rw [mkB_eq, hk]; rfl
                have qprint : ((mkB y.kind).toList == [112, 114, 105, 110, 116]) = false := by rw [mkB_eq, hk]; rfl
                have qparam : ((mkB y.kind).toList == [112, 97, 114, 97, 109]) = false := by rw [mkB_eq, hk]; rfl
                have qone : ((mkB y.kind).toList == [111, 110, 101]) = false := by rw [mkB_eq, hk]; rfl
                have qtwo : ((mkB y.kind).toList == [116, 119, 111]) = false := by rw [mkB_eq, hk]; rfl
                have qcall : ((mkB y.kind).toList == [99, 97, 108, 108]) = true := by rw [mkB_eq, hk]; rfl
                clear hk hcall
                by_cases hcc : ans.length ≤ s2.calls.length
                · have HI : Hid (insW T args ans y s2 = (1, s2)) := show _ = _ by unfold insW; rw [HP.out]; dsimp only; rw [hkn]; exact if_pos hcc
                  have hcc' : (ans.length : Int) ≤ (s2.calls.length : Int) := by omega
                  have m4' : w9.cell? ⟨mb, 4, none⟩ = some (.slice AC s2.calls.length cC) := H9.cellM rfl
                  have m0 : w9.cell? ⟨mb, 0, none⟩ = some (.string ⟨#[]⟩) := H9.cellM rfl
                  have m1 : w9.cell? ⟨mb, 1, none⟩ = some (.int .i64 0) := H9.cellM rfl
                  have m3 := H9.cellM (j := 3) rfl
                  have f0 := H9.frozM 0
                  have f1 := H9.frozM 1
                  have m2 := H9.cellM (j := 2) rfl
                  have m4 := H9.cellM (j := 4) rfl
                  have hr9 := (HX.out w9 H9.bel).2.1
                  obtain ⟨s0, s1, s2', s3', s4'⟩ := row5A hr9
                  have y0 := row_frozen hr9 0
                  have y1 := row_frozen hr9 1
                  have y2 := row_frozen hr9 2
                  have y3 := row_frozen hr9 3
                  have y4 := row_frozen hr9 4
                  have HR9 := Lib.hid hr9
                  clear hr9
                  have HH9 := Lib.hid H9
                  clear H9 hb9 hk9 ho
                  go_upto_region 38 with fail
                  repeat (first | go_guarded | go_step | go_skip)
                  obtain ⟨wF, hwF⟩ : ∃ wF, (w9.setCell ⟨mb, 0, none⟩ (.string ⟨#[111, 118, 101, 114]⟩)) = wF := ⟨_, rfl⟩
                  have H3 : RoW wA mb gb hb (fun _ _ => False) s2 hOver 0 (.slice AO s2.out.length cO) (.slice AC s2.calls.length cC) _ (w9.setCell ⟨mb, 0, none⟩ (.string ⟨#[111, 118, 101, 114]⟩)) := (HH9.out.set (t' := s2.ticks) (h' := hOver) (v' := 0) (j := 0) (.string (mkB hOver)) rfl).reF (fun _ _ h9 => h9.elim)
                  rw [hwF] at H3 ⊢
                  have hrF : wF.heap[rb]? = some (.cells #[.string ⟨#[]⟩, .int .i64 0, .slice none 0 0, .int .i64 0, .slice none 0 0] 42 (0, 0)) := by rw [← hwF]; exact (Below.heap_setCell _ _ _ _ hne2).trans HR9.out
                  obtain ⟨z0, z1, z2, z3, z4⟩ := row5A (set5A (v0 := .string ⟨#[111, 118, 101, 114]⟩) (v1 := .int .i64 0) (v2 := (.slice AO s2.out.length cO)) (v3 := .int .i64 s2.ticks) (v4 := (.slice AC s2.calls.length cC)) hrF)
                  refine bodyPost_ret (v := .agg #[.string ⟨#[111, 118, 101, 114]⟩, .int .i64 0, (.slice AO s2.out.length cO), .int .i64 s2.ticks, (.slice AC s2.calls.length cC)]) (by simp [results, Tryd.results11, go_sem, z0, z1, z2, z3, z4]; try rfl) rfl ?_
                  exact ro_end H3 HOK2.out HAN.out HBA.out hrb (by rw [HRUN.out, mrun_bad HLT.out HKX.out (by decide) (HBAD.out HI.out (by decide))]; rfl)
                · have hcc' : (s2.calls.length : Int) < (ans.length : Int) := by omega
                  have hcl : s2.calls.length < ans.length := by omega
                  have hcm : s2.calls.length ≤ 1000 := by have := HAN.out; omega
                  have hc0 : (0 : Int) ≤ (s2.calls.length : Int) := by omega
                  have hd := HLF.out.d h6n h7n
                  obtain ⟨dn, hdn⟩ : ∃ dn : Nat, y.d = (dn : Int) := ⟨y.d.toNat, (Int.toNat_of_nonneg hd.1).symm⟩
                  rw [hdn] at l1
                  have hd0 : (0 : Int) ≤ (dn : Int) := by omega
                  have hd1 : (dn : Int) < (sn : Int) := by have := HSN.out; omega
                  have hdl : dn < sn := by omega
                  have HDN := Lib.hid hdn
                  have hg1 : ¬ gb = hb := H9.neGH
                  have hg2 : ¬ hb = gb := Ne.symm H9.neGH
                  have hqg1 : ¬ q2 = gb := ty_ne hk9 H9.got (by decide)
                  have hqg2 : ¬ q2 = hb := ty_ne hk9 H9.has (by decide)
                  clear hd hdn
                  obtain ⟨yb, yo, hYe, y0⟩ := (HX.out w9 H9.bel).2.2.2.2 _ _ (intVs_get hcl)
                  obtain ⟨vv, hvv⟩ : ∃ z, ans[s2.calls.length] = z := ⟨_, rfl⟩
                  have hav : ans.getD s2.calls.length 0 = vv := by rw [← hvv, List.getD_eq_getElem?_getD, List.getElem?_eq_getElem hcl]; rfl
                  rw [hvv] at y0
                  have HI : Hid (insW T args ans y s2 = (0, putW { s2 with calls := s2.calls ++ [(y.name, r)] } dn vv)) := show _ = _ by unfold insW; rw [HP.out]; dsimp only; rw [hkn]; show (if _ then _ else _) = _; rw [if_neg hcc, HDN.out, hav]
                  have HRR : Hid (Row w9 A6 (intVs r)) := by
                    obtain ⟨A6', c6', e6, -, hr6⟩ := owns_rowA ho
                    injection e6 with e6 _ _
                    subst e6
                    exact hr6
                  have HF6 : Hid (FarW ⟨(y.name, r), A6, c6⟩ wA.heap.size mb gb hb (.slice AO s2.out.length cO) (.slice AC s2.calls.length cC)) := by
                    have h0 := HL.out.fresh (t := ⟨(y.name, r), A6, c6⟩) (fun _ a ha => (own_lt ho (k := a.block) (by show Value.ownBlock (.slice A6 r.length c6) = _; rw [show A6 = some a from ha]; rfl)).1)
                    exact h0
                  have HO : Hid (w9.ownsRow wA.heap.size 79 2 (.slice AC s2.calls.length cC) s2.calls.length (ts2.flatMap CC.cells)) := H9.calls
                  have hw0 : wA.heap.size ≤ w9.heap.size := H9.bel.size
                  have HN := Lib.hid H9
                  have o1 : w9.cell? ⟨mb, 4, none⟩ = some (.slice AC s2.calls.length cC) := H9.cellM rfl
                  have hql : q2 < w9.heap.size := (Array.getElem?_eq_some_iff.1 hk9).1
                  have hkn9 : ((.slice AC s2.calls.length cC) : Value).ownBlock ≠ some q2 := own_apart H9.calls hk9 (by decide)
                  have HBK : Hid (∀ w8, (w9.alloc (.cells #[.string (mkB y.name), .slice A6 r.length c6] 79)).grownBy w8 (Value.slice AC s2.calls.length cC).ownBlock → (w8.heap[q2]? = some (.cells #[.string (mkB y.kind), .int .i64 (dn : Int), .slice A5 y.args.length c5, .int .i64 y.num, .string (mkB y.name)] 61 (0, 0)) ∧ q2 ≠ mb)) := fun w8 hg9 => ⟨by rw [hg9.block q2 (by simp; omega) (fun e => hkn9 e.symm)]; exact (old_block _ _ hql).trans (by rw [← HDN.out]; exact hk9), ty_ne hk9 H9.blk (by decide)⟩
                  have hnO := World.new_ne w9 _ o1
                  have hnN := World.new_ne w9 _ l4
                  have g1 : (w9.alloc (.cells #[.string (mkB y.name), .slice A6 r.length c6] 79)).cell? ⟨mb, 4, none⟩ = some (.slice AC s2.calls.length cC) := Keeps.alloc _ _ _ _ o1
                  have g2 : (w9.alloc (.cells #[.string (mkB y.name), .slice A6 r.length c6] 79)).cell? ⟨q2, 4, none⟩ = some (.string (mkB y.name)) := Keeps.alloc _ _ _ _ l4
                  subst hYe
                  clear hql hkn9 H9 hb9 hk9 ho hvv hav
                  obtain ⟨i0, hi, hz0, hz1, hz2⟩ := info_parts toldInfo
                  go_upto_region 42 with (at_builtin; (refine wpList_append_lies _ rfl (.tmp 143) (.tmp 148) 40 rfl wA.heap.size 79 i0 _ 2 40 Tryd.underlying40 hi hz0 hz1 hz2 rfl (by decide) _ s2.calls.length (ts2.flatMap CC.cells) rfl (World.ownsRow.alloc HO.out _) ⟨w9.heap.size, 0, none⟩ 1 1 [.string (mkB y.name), .slice A6 r.length c6] rfl rfl (World.news_of_block (heap_alloc_new w9 _)) (fun u hu => by simp at hu; rcases hu with rfl | rfl <;> rfl) (by decide) (by unfold maxLen; omega) (by omega) (by simp; omega) _ rfl ?_; intro g cap w8 hown hgrow hat hlt9; obtain ⟨j1, j2⟩ := HN.out.putC (jC := 4) (o := (.cells #[.string (mkB y.name), .slice A6 r.length c6] 79)) (t := ⟨(y.name, r), A6, c6⟩) (fun _ => rfl) (by rw [CC.cells]; exact hown) ⟨hgrow.os, hgrow.tape, hgrow.output, hgrow.size, hgrow.block⟩ (hat.imp id fun e => e.trans (by simp)) HRR.out HF6.out; have jb := HBK.out w8 ⟨hgrow.os, hgrow.tape, hgrow.output, hgrow.size, hgrow.block⟩; have o1 : w8.cell? ⟨mb, 4, none⟩ = some (.slice AC s2.calls.length cC) := (World.cell?_of_block j1).trans (HN.out.cellM rfl); have z1 := row_frozen (j1.trans HN.out.blk) 4; have H8 := Lib.hid j2; have HK8 := Lib.hid jb; clear j1 j2 jb hown hgrow hat))
                  all_goals (
                    have H9 := H8.out
                    have hk9 := (Below.heap_setCell w8 ⟨mb, 4, none⟩ (.slice (some ⟨g, 0, none⟩) (s2.calls.length + 1) cap) q2 HK8.out.2).trans HK8.out.1
                    obtain ⟨wc, hwc⟩ : ∃ wc, w8.setCell ⟨mb, 4, none⟩ (.slice (some ⟨g, 0, none⟩) (s2.calls.length + 1) cap) = wc := ⟨_, rfl⟩
                    rw [hwc] at H9 hk9 ⊢
                    have HWC := Lib.hid hwc
                    clear hwc hi hz0 hz1 hz2 z1
                    clear l0 l1 l2 l3 l4 o1 g1 g2 hnO hnN
                    obtain ⟨l0, l1, l2, l3, l4⟩ := row5B hk9
                    have cg := H9.cellG (j := dn) (by show dn < s2.got.length; rw [HGG.out.1]; exact hdl)
                    have ch := H9.cellH (j := dn) (by show dn < s2.has.length; rw [HGG.out.2]; exact hdl)
                    have zg := H9.frozG dn
                    have zh := H9.frozH dn
                    obtain ⟨ug, hug⟩ : ∃ z, ({ s2 with calls := s2.calls ++ [(y.name, r)] } : WSt).got.getD dn 0 = z := ⟨_, rfl⟩
                    obtain ⟨uh, huh⟩ : ∃ z, ({ s2 with calls := s2.calls ++ [(y.name, r)] } : WSt).has.getD dn false = z := ⟨_, rfl⟩
                    rw [hug] at cg
                    rw [huh] at ch
                    clear hug huh
                    have HN2 := Lib.hid (H9.put (d := dn) vv)
                    clear H9 hk9
                    go_wp2_with fail
                    go_roundw
                    case rel => have hlt2 := HLT2.out; exact ⟨m + 1, _, _, _, _, by omega, by go_num, HGOOD.out HI.out, HOKI.out HY6.out HY8.out HOK2.out HI.out, HN2.out⟩
                    case measure => have hlt2 := HLT2.out; simp [intOf]; omega
                  )
            have hkn0 := HLF.out.kind
            have h5n : kindW y.kind ≠ 5 := fun e => hcall ((@kindW_of y.kind).1 e)
            have h6n : kindW y.kind ≠ 6 := fun e => htick ((@kindW_is y.kind).2.1.1 e)
            have h7n : kindW y.kind ≠ 7 := fun e => hprint ((@kindW_is y.kind).2.2.1 e)
            have qtick : ((mkB y.kind).toList == [116, 105, 99, 107]) = false := by rw [mkB_eq]; exact beq_eq_false_iff_ne.2 htick
            have qprint : ((mkB y.kind).toList == [112, 114, 105, 110, 116]) = false := by rw [mkB_eq]; exact beq_eq_false_iff_ne.2 hprint
            have qparam : ((mkB y.kind).toList == [112, 97, 114, 97, 109]) = false := by rw [mkB_eq]; exact beq_eq_false_iff_ne.2 hparam
            have qone : ((mkB y.kind).toList == [111, 110, 101]) = false := by rw [mkB_eq]; exact beq_eq_false_iff_ne.2 hone
            have qtwo : ((mkB y.kind).toList == [116, 119, 111]) = false := by rw [mkB_eq]; exact beq_eq_false_iff_ne.2 htwo
            have qcall : ((mkB y.kind).toList == [99, 97, 108, 108]) = false := by rw [mkB_eq]; exact beq_eq_false_iff_ne.2 hcall
            have hd := HLF.out.d h6n h7n
            obtain ⟨dn, hdn⟩ : ∃ dn : Nat, y.d = (dn : Int) := ⟨y.d.toNat, (Int.toNat_of_nonneg hd.1).symm⟩
            rw [hdn] at l1
            have hd0 : (0 : Int) ≤ (dn : Int) := by omega
            have hd1 : (dn : Int) < (sn : Int) := by have := HSN.out; omega
            have hdl : dn < sn := by omega
            have HDN := Lib.hid hdn
            have hg1 : ¬ gb = hb := H9.neGH
            have hg2 : ¬ hb = gb := Ne.symm H9.neGH
            have hqg1 : ¬ q2 = gb := ty_ne hk9 H9.got (by decide)
            have hqg2 : ¬ q2 = hb := ty_ne hk9 H9.has (by decide)
            clear hd hdn
            have cg := H9.cellG (j := dn) (by rw [HGG.out.1]; exact hdl)
            have ch := H9.cellH (j := dn) (by rw [HGG.out.2]; exact hdl)
            have zg := H9.frozG dn
            have zh := H9.frozH dn
            obtain ⟨ug, hug⟩ : ∃ z, s2.got.getD dn 0 = z := ⟨_, rfl⟩
            obtain ⟨uh, huh⟩ : ∃ z, s2.has.getD dn false = z := ⟨_, rfl⟩
            rw [hug] at cg
            rw [huh] at ch
            clear hug huh
            have HI : Hid (insW T args ans y s2 = (0, putW s2 dn (y.num))) := show _ = _ by rw [insW_else T args ans HP.out h5n h6n h7n, HDN.out, pureW_else args y r hparam hone htwo]
            have HN := Lib.hid (H9.put (d := dn) y.num)
            clear H9 hb9 hk9 ho htick hprint hparam hone htwo hcall
            go_wp2_with fail
            go_roundw
            case rel => have hlt2 := HLT2.out; exact ⟨m + 1, _, _, _, _, by omega, by go_num, HGOOD.out HI.out, HOKI.out HY6.out HY8.out HOK2.out HI.out, HN.out⟩
            case measure => have hlt2 := HLT2.out; simp [intOf]; omega
        · have hm' : m = x.ins.length := by omega
          subst hm'
          have HGL : Hid (s2.got.length = sn ∧ s2.has.length = sn) := ⟨hok2.g.trans HS2.out, hok2.h.trans HS2.out⟩
          have HIE : Hid (inssW T args ans x.ins s = (0, s2)) := show _ = _ by rw [HIN.out, List.drop_length]; rfl
          have HEE : Hid (runW c T args ans most 0 (WSt0 c) = match endW c x s2 with
              | .go k' s' => runW c T args ans (most - (j + 1)) k' s'
              | .done v => some (hDone, v, s2)
              | .stuck => some (hStuck, 0, s2)) := show _ = _ from HRUN.out.trans (mrun_end HLT.out HKX.out HIE.out)
          have HHH : Hid (RoW wA mb gb hb (fun q9 cs9 => q9 = q ∧ cs9 = #[.slice P x.params.length p, .slice I x.ins.length i, .string (mkB x.fin), .int .i64 x.v, .slice Tt x.nx.length t, .slice W x.wth.length wcap]) s2 [] 0 (.slice AO s2.out.length cO) (.slice AC s2.calls.length cC) ts2 wr) := H2
          have e2 : ((mkB x.fin).toList == [114, 101, 116, 117, 114, 110]) = (x.fin == eReturn) := by rw [mkB_eq]; rfl
          obtain ⟨jb, hjb⟩ : ∃ z, (x.fin == eJump) = z := ⟨_, rfl⟩
          have e1 : ((mkB x.fin).toList == [106, 117, 109, 112]) = jb := by rw [← hjb, mkB_eq]; rfl
          have HJB := Lib.hid hjb
          have E2 := Lib.hid e2
          clear e2 hjb H2 hok2 hlt2
          go_upto_if 162 with fail
          go_cut [23] from 160 to 187 (fun way wx => ∃ k9 : Nat, way = .int .i64 k9 ∧ k9 < x.nx.length ∧ endW c x s2 = goW (leaveW c x k9 s2) ∧ RoW wA mb gb hb (fun q9 cs9 => q9 = q ∧ cs9 = #[.slice P x.params.length p, .slice I x.ins.length i, .string (mkB x.fin), .int .i64 x.v, .slice Tt x.nx.length t, .slice W x.wth.length wcap]) s2 [] 0 (.slice AO s2.out.length cO) (.slice AC s2.calls.length cC) ts2 wx)
          case first =>
            cases jb
            case true =>
              have hj1 : x.fin = eJump := eq_of_beq HJB.out
              have h0 : 0 < x.nx.length := by have hnx := HBO.out.nx; rw [hj1] at hnx; have : endN eJump = 1 := rfl; omega
              have HF : Hid (endW c x s2 = goW (leaveW c x 0 s2)) := show _ = _ by
                unfold endW
                rw [if_pos (by rw [hj1]; rfl)]
                cases leaveW c x 0 s2 <;> rfl
              clear hj1
              go_wp2_with fail
              go_meet
              exact ⟨0, rfl, h0, HF.out, HHH.out⟩
            case false =>
              have hj1 : ¬ x.fin = eJump := beq_eq_false_iff_ne.1 HJB.out
              have hv9 := HBO.out.v hj1
              obtain ⟨vn, hvn⟩ : ∃ vn : Nat, x.v = (vn : Int) := ⟨x.v.toNat, (Int.toNat_of_nonneg hv9.1).symm⟩
              have HNJ : Hid (endW c x s2 = if hasW s2 x.v = true then (if (x.fin == eReturn) = true then .done (gotW s2 x.v) else goW (leaveW c x (if gotW s2 x.v ≠ 0 then 0 else 1) s2)) else .stuck) := show _ = _ by
                unfold endW
                rw [if_neg (by simpa using hj1)]
                cases leaveW c x (if gotW s2 x.v ≠ 0 then 0 else 1) s2 <;> rfl
              rw [hvn] at b3 hv9 HNJ
              have hvl : vn < sn := by have := HSN.out; omega
              have hv0 : (0 : Int) ≤ (vn : Int) := by omega
              have hv1 : (vn : Int) < (sn : Int) := by omega
              have H9 := HHH.out
              have cg := H9.cellG (j := vn) (by rw [HGL.out.1]; exact hvl)
              have ch := H9.cellH (j := vn) (by rw [HGL.out.2]; exact hvl)
              obtain ⟨ug, hug⟩ : ∃ z, s2.got.getD vn 0 = z := ⟨_, rfl⟩
              obtain ⟨uh, huh⟩ : ∃ z, s2.has.getD vn false = z := ⟨_, rfl⟩
              rw [hug] at cg
              rw [huh] at ch
              rw [show hasW s2 (vn : Int) = uh from huh, show gotW s2 (vn : Int) = ug from hug] at HNJ
              clear hug huh hvn hv9
              cases uh
              · have HES : Hid (endW c x s2 = .stuck) := show _ = _ by rw [HNJ.out]; rfl
                have m0 : wr.cell? ⟨mb, 0, none⟩ = some (.string ⟨#[]⟩) := H9.cellM rfl
                have m1 : wr.cell? ⟨mb, 1, none⟩ = some (.int .i64 0) := H9.cellM rfl
                have m3 := H9.cellM (j := 3) rfl
                have f0 := H9.frozM 0
                have f1 := H9.frozM 1
                have m2 := H9.cellM (j := 2) rfl
                have m4 := H9.cellM (j := 4) rfl
                have hr9 := (HX.out wr H9.bel).2.1
                obtain ⟨s0, s1, s2', s3', s4'⟩ := row5A hr9
                have y0 := row_frozen hr9 0
                have y1 := row_frozen hr9 1
                have y2 := row_frozen hr9 2
                have y3 := row_frozen hr9 3
                have y4 := row_frozen hr9 4
                have HR9 := Lib.hid hr9
                clear hr9
                have HH9 := Lib.hid H9
                clear H9
                go_upto_region 47 with fail
                repeat (first | go_guarded | go_step | go_skip)
                obtain ⟨wF, hwF⟩ : ∃ wF, (wr.setCell ⟨mb, 0, none⟩ (.string ⟨#[115, 116, 117, 99, 107]⟩)) = wF := ⟨_, rfl⟩
                have H3 : RoW wA mb gb hb (fun _ _ => False) s2 hStuck 0 (.slice AO s2.out.length cO) (.slice AC s2.calls.length cC) _ (wr.setCell ⟨mb, 0, none⟩ (.string ⟨#[115, 116, 117, 99, 107]⟩)) := (HH9.out.set (t' := s2.ticks) (h' := hStuck) (v' := 0) (j := 0) (.string (mkB hStuck)) rfl).reF (fun _ _ h9 => h9.elim)
                rw [hwF] at H3 ⊢
                have hrF : wF.heap[rb]? = some (.cells #[.string ⟨#[]⟩, .int .i64 0, .slice none 0 0, .int .i64 0, .slice none 0 0] 42 (0, 0)) := by rw [← hwF]; exact (Below.heap_setCell _ _ _ _ hne2).trans HR9.out
                obtain ⟨z0, z1, z2, z3, z4⟩ := row5A (set5A (v0 := .string ⟨#[115, 116, 117, 99, 107]⟩) (v1 := .int .i64 0) (v2 := (.slice AO s2.out.length cO)) (v3 := .int .i64 s2.ticks) (v4 := (.slice AC s2.calls.length cC)) hrF)
                refine bodyPost_ret (v := .agg #[.string ⟨#[115, 116, 117, 99, 107]⟩, .int .i64 0, (.slice AO s2.out.length cO), .int .i64 s2.ticks, (.slice AC s2.calls.length cC)]) (by simp [results, Tryd.results11, go_sem, z0, z1, z2, z3, z4]; try rfl) rfl ?_
                exact ro_end H3 HOK2.out HAN.out HBA.out hrb (by rw [HEE.out, HES.out]; rfl)
              · by_cases hj2 : x.fin = eReturn
                · have e2 : ((mkB x.fin).toList == [114, 101, 116, 117, 114, 110]) = true := by rw [E2.out, hj2]; rfl
                  have HES : Hid (endW c x s2 = .done ug) := show _ = _ by rw [HNJ.out, if_pos rfl, if_pos (by rw [hj2]; rfl)]
                  clear hj2 hj1
                  have m0 : wr.cell? ⟨mb, 0, none⟩ = some (.string ⟨#[]⟩) := H9.cellM rfl
                  have m1 : wr.cell? ⟨mb, 1, none⟩ = some (.int .i64 0) := H9.cellM rfl
                  have m3 := H9.cellM (j := 3) rfl
                  have f0 := H9.frozM 0
                  have f1 := H9.frozM 1
                  have m2 := H9.cellM (j := 2) rfl
                  have m4 := H9.cellM (j := 4) rfl
                  have hr9 := (HX.out wr H9.bel).2.1
                  obtain ⟨s0, s1, s2', s3', s4'⟩ := row5A hr9
                  have y0 := row_frozen hr9 0
                  have y1 := row_frozen hr9 1
                  have y2 := row_frozen hr9 2
                  have y3 := row_frozen hr9 3
                  have y4 := row_frozen hr9 4
                  have HR9 := Lib.hid hr9
                  clear hr9
                  have hgm1 : ¬ gb = mb := Ne.symm H9.neMG
                  have hgm2 : ¬ hb = mb := Ne.symm H9.neMH
                  have hqm : ¬ q = mb := ty_ne (H9.fr q _ ⟨rfl, rfl⟩) H9.blk (by decide)
                  have HH9 := Lib.hid H9
                  clear H9
                  go_upto_region 50 with fail
                  repeat (first | go_guarded | go_step | go_skip)
                  obtain ⟨wF, hwF⟩ : ∃ wF, ((wr.setCell ⟨mb, 0, none⟩ (.string ⟨#[100, 111, 110, 101]⟩)).setCell ⟨mb, 1, none⟩ (.int .i64 ug)) = wF := ⟨_, rfl⟩
                  have H3 : RoW wA mb gb hb (fun _ _ => False) s2 hDone ug (.slice AO s2.out.length cO) (.slice AC s2.calls.length cC) _ ((wr.setCell ⟨mb, 0, none⟩ (.string ⟨#[100, 111, 110, 101]⟩)).setCell ⟨mb, 1, none⟩ (.int .i64 ug)) := ((HH9.out.set (t' := s2.ticks) (h' := hDone) (v' := 0) (j := 0) (.string (mkB hDone)) rfl).set (t' := s2.ticks) (h' := hDone) (v' := ug) (j := 1) (.int .i64 ug) rfl).reF (fun _ _ h9 => h9.elim)
                  rw [hwF] at H3 ⊢
                  have hrF : wF.heap[rb]? = some (.cells #[.string ⟨#[]⟩, .int .i64 0, .slice none 0 0, .int .i64 0, .slice none 0 0] 42 (0, 0)) := by rw [← hwF]; exact (Below.heap_setCell _ _ _ _ hne2).trans ((Below.heap_setCell _ _ _ _ hne2).trans HR9.out)
                  obtain ⟨z0, z1, z2, z3, z4⟩ := row5A (set5A (v0 := .string ⟨#[100, 111, 110, 101]⟩) (v1 := .int .i64 ug) (v2 := (.slice AO s2.out.length cO)) (v3 := .int .i64 s2.ticks) (v4 := (.slice AC s2.calls.length cC)) hrF)
                  refine bodyPost_ret (v := .agg #[.string ⟨#[100, 111, 110, 101]⟩, .int .i64 ug, (.slice AO s2.out.length cO), .int .i64 s2.ticks, (.slice AC s2.calls.length cC)]) (by simp [results, Tryd.results11, go_sem, z0, z1, z2, z3, z4]; try rfl) rfl ?_
                  exact ro_end H3 HOK2.out HAN.out HBA.out hrb (by rw [HEE.out, HES.out]; rfl)
                · have e2 : ((mkB x.fin).toList == [114, 101, 116, 117, 114, 110]) = false := by rw [E2.out]; exact beq_eq_false_iff_ne.2 hj2
                  have hx2 : x.fin = eIf := by
                    rcases finP_cases HBO.out.fin with h | h | h
                    · exact absurd h hj1
                    · exact h
                    · exact absurd h hj2
                  have hn2 : 1 < x.nx.length := by have hnx := HBO.out.nx; rw [hx2] at hnx; have : endN eIf = 2 := rfl; omega
                  have HF : Hid (endW c x s2 = goW (leaveW c x (if ug ≠ 0 then 0 else 1) s2)) := show _ = _ by rw [HNJ.out, if_pos rfl, if_neg (by simpa using hj2)]
                  clear hj2 hj1 hx2 H9
                  by_cases hz : ug = 0
                  · have HF2 : Hid (endW c x s2 = goW (leaveW c x 1 s2)) := show _ = _ by rw [HF.out, if_neg (by simpa using hz)]
                    subst hz
                    go_wp2_with fail
                    go_meet
                    exact ⟨1, rfl, by omega, HF2.out, HHH.out⟩
                  · have HF2 : Hid (endW c x s2 = goW (leaveW c x 0 s2)) := show _ = _ by rw [HF.out, if_pos hz]
                    have hz' : (ug == 0) = false := by simpa using hz
                    go_wp2_with fail
                    go_meet
                    exact ⟨0, rfl, by omega, HF2.out, HHH.out⟩
          case rest =>
            as_aux_lemma =>
              obtain ⟨k9, rfl, hk9, hE, H3⟩ := hcut
              have HE := Lib.hid hE
              clear hE b0 b1 b2 b3 b4 b5
              obtain ⟨b0, b1, b2, b3, b4, b5⟩ := row6B (H3.fr q _ ⟨rfl, rfl⟩)
              have hkw : k9 < x.wth.length := by have h1 := HBO.out.nx; have h3 := HBO.out.wn; omega
              have hkx : x.nx[k9] = x.nx.getD k9 0 := by rw [List.getD_eq_getElem?_getD, List.getElem?_eq_getElem hk9]; rfl
              have hfar := HBO.out.far x.nx[k9] (List.getElem_mem hk9)
              obtain ⟨tn, htn⟩ : ∃ tn : Nat, x.nx[k9] = (tn : Int) := ⟨x.nx[k9].toNat, (Int.toNat_of_nonneg hfar.1).symm⟩
              have htl : tn < c.blocks.length := by omega
              have hfit := HBO.out.fit k9 hk9
              rw [withFit_eq hkw hk9 htn htl] at hfit
              have hfit2 : x.wth[k9].length = c.blocks[tn].params.length := by simpa using hfit
              obtain ⟨b7, off7, L, lc, hL, hcell7, hrow7⟩ := wth_at (HRW.out.wth.keep (Keeps.of_below H3.bel) fun _ _ => GoodL.keep (Keeps.of_below H3.bel)) hkw
              obtain ⟨l0, hl0⟩ : ∃ l, x.wth[k9] = l := ⟨_, rfl⟩
              rw [hl0] at hcell7 hrow7 hfit2
              have hl12 : l0.length ≤ 12 := by rw [← hl0]; exact HXS.out.wths _ (List.getElem_mem hkw)
              have hin0 : ∀ v ∈ l0, 0 ≤ v ∧ v < (sn : Int) := fun v hv => by rw [← hl0] at hv; have := HBO.out.wth _ (List.getElem_mem hkw) v hv; have := HSN.out; omega
              obtain ⟨b8', off8', P8, p8, I8, i8, T8, t8, W8, c8, e8', hB8⟩ := bks_at HRDA.out htl
              injection e8' with e8'
              injection e8' with e8' e9' _
              subst e8'
              subst e9'
              obtain ⟨ps, hps⟩ : ∃ ps, c.blocks[tn].params = ps := ⟨_, rfl⟩
              have hx8 := hB8.c0
              have hp8 := hB8.params
              rw [hps] at hx8 hp8 hfit2
              have hpn : ∀ v ∈ ps, 0 ≤ v ∧ v < (sn : Int) := fun v hv => by rw [← hps] at hv; have := (HBF.out _ (List.getElem_mem htl)).params v hv; have := HSN.out; omega
              obtain ⟨b6, off6, hT6, hc6⟩ := HRW.out.nx k9 _ (intVs_get hk9)
              rw [htn] at hc6
              have HLV : Hid (leaveW c x k9 s2 = match pickW s2 l0 with | none => none | some l => some (tn, putsW ps l s2)) := show _ = _ by
                unfold leaveW
                rw [List.getD_eq_getElem?_getD, List.getElem?_eq_getElem hkw, Option.getD_some, hl0, ← hkx, htn, Int.toNat_natCast, List.getElem?_eq_getElem htl]
                simp only [Option.map_some, Option.getD_some, hps]
                cases pickW s2 l0 <;> rfl
              have HV := Lib.hid (pick_any (s := s2) (n := sn) H3.got H3.has HGL.out.1 HGL.out.2 l0 (by omega) hin0 L lc hrow7)
              have HW0 : Hid (∀ W', Below wA.heap.size wA W' → W'.cell? ⟨b6, off6 + k9, none⟩ = some (.int .i64 (tn : Int)) ∧ W'.cell? ⟨b8, off8 + tn * 6, none⟩ = some (.slice P8 ps.length p8) ∧ Row W' P8 (intVs ps)) := fun W' hW => ⟨Keeps.of_below hW _ _ hc6, Keeps.of_below hW _ _ hx8, hp8.keep (Keeps.of_below hW)⟩
              have HP8 : Hid (∀ b9 o9, P8 = some ⟨b9, o9, none⟩ → 0 < ps.length → b9 < wA.heap.size) := fun b9 o9 e hl => by
                obtain ⟨b', o', e', hc'⟩ := hp8 0 _ (intVs_get hl)
                rw [e] at e'
                injection e' with e'
                injection e' with e1' e2' _
                subst e1'; subst e2'
                exact World.block_lt_of_cell? wA _ hc'
              have HPN := Lib.hid hpn
              have HFT := Lib.hid hfit2
              have HTL := Lib.hid htl
              have hps12 : ps.length ≤ 12 := by omega
              have hk0' : (0 : Int) ≤ (k9 : Int) := by omega
              have hk1' : (k9 : Int) < (x.wth.length : Int) := by omega
              have hk2' : (k9 : Int) < (x.nx.length : Int) := by omega
              have ht0 : (0 : Int) ≤ (tn : Int) := by omega
              have ht1 : (tn : Int) < (c.blocks.length : Int) := by omega
              subst hL hT6
              have HH3 := Lib.hid H3
              clear H3 hkw hkx hfar htn hfit hfit2 hl0 hin0 hps hx8 hp8 hpn hc6 hrow7 htl hB8 hk9
              cases hp : pickW s2 l0 with
              | none =>
                have HP := Lib.hid hp
                have HES : Hid (endW c x s2 = .stuck) := show _ = _ by rw [HE.out, HLV.out, hp]; rfl
                clear hp
                go_upto_region 56 with (go_at_call 22; (with_reducible refine HV.out.mono ?_); rintro y9 w9 ⟨hb9, (⟨hno, rfl⟩ | ⟨r, A6, c6, hr, rfl, ho⟩)⟩; rotate_left; (exact absurd (HP.out.symm.trans hr) (by simp)))
                have H9 := HH3.out.below hb9
                clear b0 b1 b2 b3 b4 b5 hcell7
                have m0 : w9.cell? ⟨mb, 0, none⟩ = some (.string ⟨#[]⟩) := H9.cellM rfl
                have m1 : w9.cell? ⟨mb, 1, none⟩ = some (.int .i64 0) := H9.cellM rfl
                have m3 := H9.cellM (j := 3) rfl
                have f0 := H9.frozM 0
                have f1 := H9.frozM 1
                have m2 := H9.cellM (j := 2) rfl
                have m4 := H9.cellM (j := 4) rfl
                have hr9 := (HX.out w9 H9.bel).2.1
                obtain ⟨s0, s1, s2', s3', s4'⟩ := row5A hr9
                have y0 := row_frozen hr9 0
                have y1 := row_frozen hr9 1
                have y2 := row_frozen hr9 2
                have y3 := row_frozen hr9 3
                have y4 := row_frozen hr9 4
                have HR9 := Lib.hid hr9
                clear hr9
                have HH9 := Lib.hid H9
                clear H9
                go_upto_region 57 with fail
                repeat (first | go_guarded | go_step | go_skip)
                obtain ⟨wF, hwF⟩ : ∃ wF, (w9.setCell ⟨mb, 0, none⟩ (.string ⟨#[115, 116, 117, 99, 107]⟩)) = wF := ⟨_, rfl⟩
                have H3 : RoW wA mb gb hb (fun _ _ => False) s2 hStuck 0 (.slice AO s2.out.length cO) (.slice AC s2.calls.length cC) _ (w9.setCell ⟨mb, 0, none⟩ (.string ⟨#[115, 116, 117, 99, 107]⟩)) := (HH9.out.set (t' := s2.ticks) (h' := hStuck) (v' := 0) (j := 0) (.string (mkB hStuck)) rfl).reF (fun _ _ h9 => h9.elim)
                rw [hwF] at H3 ⊢
                have hrF : wF.heap[rb]? = some (.cells #[.string ⟨#[]⟩, .int .i64 0, .slice none 0 0, .int .i64 0, .slice none 0 0] 42 (0, 0)) := by rw [← hwF]; exact (Below.heap_setCell _ _ _ _ hne2).trans HR9.out
                obtain ⟨z0, z1, z2, z3, z4⟩ := row5A (set5A (v0 := .string ⟨#[115, 116, 117, 99, 107]⟩) (v1 := .int .i64 0) (v2 := (.slice AO s2.out.length cO)) (v3 := .int .i64 s2.ticks) (v4 := (.slice AC s2.calls.length cC)) hrF)
                refine bodyPost_ret (v := .agg #[.string ⟨#[115, 116, 117, 99, 107]⟩, .int .i64 0, (.slice AO s2.out.length cO), .int .i64 s2.ticks, (.slice AC s2.calls.length cC)]) (by simp [results, Tryd.results11, go_sem, z0, z1, z2, z3, z4]; try rfl) rfl ?_
                exact ro_end H3 HOK2.out HAN.out HBA.out hrb (by rw [HEE.out, HES.out]; rfl)
              | some l =>
                have HP := Lib.hid hp
                have HES : Hid (endW c x s2 = .go tn (putsW ps l s2)) := show _ = _ by rw [HE.out, HLV.out, hp]; rfl
                have HLL : Hid (l.length = ps.length) := show _ = _ by rw [pickW_len hp, HFT.out]
                clear hp
                go_upto_region 56 with (go_at_call 22; (with_reducible refine HV.out.mono ?_); rintro y9 w9 ⟨hb9, (⟨hno, -⟩ | ⟨r9, A6, c6, hr, rfl, ho⟩)⟩; (exact absurd (hno.symm.trans HP.out) (by simp)); obtain rfl := Option.some.inj (HP.out.symm.trans hr))
                have H9 := HH3.out.below hb9
                clear b0 b1 b2 b3 b4 b5 hcell7
                obtain ⟨b0, b1, b2, b3, b4, b5⟩ := row6B (H9.fr q _ ⟨rfl, rfl⟩)
                obtain ⟨t6, x8, -⟩ := HW0.out w9 H9.bel
                obtain ⟨⟨i0, i1, i2, i3⟩, -, -, -, -⟩ := HX.out w9 H9.bel
                have HR6' : Hid (Row w9 A6 (intVs l)) := by
                  obtain ⟨A6', c6', e6, -, hr6⟩ := owns_rowA ho
                  injection e6 with e6 _ _
                  subst e6
                  exact hr6
                have HUP : Hid (∀ a, A6 = some a → a.block ≠ gb ∧ a.block ≠ hb) := fun a ha => by
                  have h9 := (own_lt ho (k := a.block) (by show Value.ownBlock (.slice A6 l.length c6) = _; rw [ha]; rfl)).1
                  have h8 := HH3.out.ltG
                  have h7 := HH3.out.ltH
                  omega
                have HH9 := Lib.hid H9
                clear H9 ho hr hb9
                go_upto_region 60 with fail
                go_wp2_with fail
                go_loopw [27] (fun z wr => ∃ (m : Nat) (s3 : WSt), m ≤ ps.length ∧ z = .int .i64 m ∧ putsW ps l s2 = putsW (ps.drop m) (l.drop m) s3 ∧ (s3.got.length = sn ∧ s3.has.length = sn) ∧ RoW wA mb gb hb (fun q9 cs9 => q9 = q ∧ cs9 = #[.slice P x.params.length p, .slice I x.ins.length i, .string (mkB x.fin), .int .i64 x.v, .slice (some ⟨b6, off6, none⟩) x.nx.length t, .slice (some ⟨b7, off7, none⟩) x.wth.length wcap]) s3 [] 0 (.slice AO s2.out.length cO) (.slice AC s2.calls.length cC) ts2 wr ∧ ∀ k, k ≠ gb → k ≠ hb → wr.heap[k]? = w9.heap[k]?) (fun z _ => ps.length - (intOf z).toNat)
                case atStart => exact ⟨0, s2, Nat.zero_le _, rfl, rfl, HGL.out, HH9.out, fun _ _ _ => rfl⟩
                case round =>
                  obtain ⟨m3, s3, hm3, rfl, hI, hok3, H4, hkp⟩ := hrel
                  have HI := Lib.hid hI
                  have HH4 := Lib.hid H4
                  have HOK3 := Lib.hid hok3
                  have HKP := Lib.hid hkp
                  clear hI hok3 hkp b0 b1 b2 b3 b4 b5 t6 x8 i0 i1 i2 i3
                  by_cases hlt : m3 < ps.length
                  · have hlt' : (m3 : Int) < (ps.length : Int) := by omega
                    have hlr : m3 < l.length := by have := HLL.out; omega
                    have hlr' : (m3 : Int) < (l.length : Int) := by omega
                    have hj0 : (0 : Int) ≤ (m3 : Int) := by omega
                    obtain ⟨b9, o9, e9, hc9⟩ := (HW0.out wr H4.bel).2.2 m3 _ (intVs_get hlt)
                    have hb9l := HP8.out b9 o9 e9 (by omega)
                    subst e9
                    obtain ⟨b5', o5, rfl, hc5⟩ := (row_by (w' := wr) HR6'.out (fun _ a ha => HKP.out a.block (HUP.out a ha).1 (HUP.out a ha).2)) m3 _ (intVs_get hlr)
                    have hpj := HPN.out _ (List.getElem_mem hlt)
                    have HST := Lib.hid (putsW_step (s := s3) hlt hlr)
                    obtain ⟨dn, hdn⟩ : ∃ dn : Nat, ps[m3] = (dn : Int) := ⟨ps[m3].toNat, (Int.toNat_of_nonneg hpj.1).symm⟩
                    obtain ⟨z, hz⟩ : ∃ z, l[m3] = z := ⟨_, rfl⟩
                    rw [hdn, hz] at HST
                    rw [hdn] at hc9 hpj
                    rw [hz] at hc5
                    have hd0 : (0 : Int) ≤ (dn : Int) := by omega
                    have hd1 : (dn : Int) < (sn : Int) := by omega
                    have hd2 : dn < sn := by omega
                    have cg := H4.cellG (j := dn) (by rw [HOK3.out.1]; exact hd2)
                    have ch := H4.cellH (j := dn) (by rw [HOK3.out.2]; exact hd2)
                    have zg := H4.frozG dn
                    have zh := H4.frozH dn
                    obtain ⟨ug, hug⟩ : ∃ z, s3.got.getD dn 0 = z := ⟨_, rfl⟩
                    obtain ⟨uh, huh⟩ : ∃ z, s3.has.getD dn false = z := ⟨_, rfl⟩
                    rw [hug] at cg
                    rw [huh] at ch
                    have hgh1 : ¬ gb = hb := H4.neGH
                    have hgh2 : ¬ hb = gb := Ne.symm H4.neGH
                    have hpg : ¬ b9 = gb := by have := H4.lowG; omega
                    have hpg2 : ¬ gb = b9 := by have := H4.lowG; omega
                    have hy := HUP.out ⟨b5', o5, none⟩ rfl
                    have hy1 : b5' ≠ gb := hy.1
                    have HS : Hid (wr.cell? ⟨b9, o9 + m3, none⟩ = some (.int .i64 (dn : Int)) ∧ wr.cell? ⟨b5', o5 + m3, none⟩ = some (.int .i64 z)) := ⟨hc9, hc5⟩
                    have HA1 := Lib.hid (fun j9 => (H4.drewN j9).put (d := dn) z)
                    have HKP2 : Hid (∀ k, k ≠ gb → k ≠ hb → ((wr.setCell ⟨gb, dn, none⟩ (.int .i64 z)).setCell ⟨hb, dn, none⟩ (.bool true)).heap[k]? = w9.heap[k]?) := fun k h1 h2 => (Below.heap_setCell _ _ _ _ h2).trans ((Below.heap_setCell _ _ _ _ h1).trans (HKP.out k h1 h2))
                    have HOK4 : Hid ((putW s3 dn z).got.length = sn ∧ (putW s3 dn z).has.length = sn) := by
                      refine ⟨?_, ?_⟩
                      · simp [putW, HOK3.out.1]
                      · simp [putW, HOK3.out.2]
                    clear hpj hdn hz H4 hy hug huh hb9l
                    go_upto_region 64 with fail
                    go_region_held3 (fun w' => w'.cell? ⟨b9, o9 + m3, none⟩ = some (.int .i64 (dn : Int)) ∧ w'.cell? ⟨b5', o5 + m3, none⟩ = some (.int .i64 z))
                      (first
                        | exact HS.out
                        | (go_split_ands
                           refine ⟨?_, ?_⟩
                           all_goals (first | assumption | exact cell_othW (by assumption) hpg | exact cell_othW (by assumption) hy1)))
                      (fail)
                    all_goals go_wp2_with fail
                    all_goals
                      go_roundw
                      case measure => simp [intOf]; omega
                      case rel => exact ⟨m3 + 1, putW s3 dn z, by omega, by go_num, by rw [HI.out, HST.out], HOK4.out, HA1.out _, HKP2.out⟩
                  · have hm' : m3 = ps.length := by omega
                    have HS3 : Hid (s3 = putsW ps l s2) := show _ = _ by rw [HI.out, hm', List.drop_length, show l.drop ps.length = [] by rw [← HLL.out, List.drop_length]]; rfl
                    clear hlt
                    subst hm'
                    go_wp2_with fail
                    go_roundw
                    case measure => have h9 := HLT.out; simp [intOf]; omega
                    case rel =>
                      have h9 := HLT.out
                      refine ⟨j + 1, tn, s3, _, _, _, by omega, by go_num, rfl, HTL.out, ?_, HH4.out.reF (fun _ _ h => h.elim), ?_⟩
                      · rw [HS3.out]; exact wok_end HOK2.out HES.out
                      · rw [HEE.out, HES.out, HS3.out]
    · have hj' : j = most := by omega
      subst hj'
      obtain ⟨AO, cO, rfl⟩ := own_slice H1.out
      obtain ⟨AC, cC, rfl⟩ := own_slice H1.calls
      have m0 : wr.cell? ⟨mb, 0, none⟩ = some (.string ⟨#[]⟩) := H1.cellM rfl
      have m1 : wr.cell? ⟨mb, 1, none⟩ = some (.int .i64 0) := H1.cellM rfl
      have m3 := H1.cellM (j := 3) rfl
      have f0 := H1.frozM 0
      have f1 := H1.frozM 1
      have m2 := H1.cellM (j := 2) rfl
      have m4 := H1.cellM (j := 4) rfl
      have hr9 := (HX.out wr H1.bel).2.1
      obtain ⟨s0, s1, s2', s3', s4'⟩ := row5A hr9
      have y0 := row_frozen hr9 0
      have y1 := row_frozen hr9 1
      have y2 := row_frozen hr9 2
      have y3 := row_frozen hr9 3
      have y4 := row_frozen hr9 4
      have HR9 := Lib.hid hr9
      clear hr9
      have HH1 := Lib.hid H1
      have HOKE := Lib.hid hok
      clear H1 hok
      go_upto_region 66 with fail
      repeat (first | go_guarded | go_step | go_skip)
      obtain ⟨wF, hwF⟩ : ∃ wF, (wr.setCell ⟨mb, 0, none⟩ (.string ⟨#[108, 111, 110, 103]⟩)) = wF := ⟨_, rfl⟩
      have H3 : RoW wA mb gb hb (fun _ _ => False) s hLong 0 (.slice AO s.out.length cO) (.slice AC s.calls.length cC) _ (wr.setCell ⟨mb, 0, none⟩ (.string ⟨#[108, 111, 110, 103]⟩)) := (HH1.out.set (t' := s.ticks) (h' := hLong) (v' := 0) (j := 0) (.string (mkB hLong)) rfl).reF (fun _ _ h9 => h9.elim)
      rw [hwF] at H3 ⊢
      have hrF : wF.heap[rb]? = some (.cells #[.string ⟨#[]⟩, .int .i64 0, .slice none 0 0, .int .i64 0, .slice none 0 0] 42 (0, 0)) := by rw [← hwF]; exact (Below.heap_setCell _ _ _ _ hne2).trans HR9.out
      obtain ⟨z0, z1, z2, z3, z4⟩ := row5A (set5A (v0 := .string ⟨#[108, 111, 110, 103]⟩) (v1 := .int .i64 0) (v2 := (.slice AO s.out.length cO)) (v3 := .int .i64 s.ticks) (v4 := (.slice AC s.calls.length cC)) hrF)
      refine bodyPost_ret (v := .agg #[.string ⟨#[108, 111, 110, 103]⟩, .int .i64 0, (.slice AO s.out.length cO), .int .i64 s.ticks, (.slice AC s.calls.length cC)]) (by simp [results, Tryd.results11, go_sem, z0, z1, z2, z3, z4]; try rfl) rfl ?_
      exact ro_end H3 HOKE.out HAN.out HBA.out hrb (by rw [HRUN.out, Nat.sub_self]; rfl)
end Go.Proofs.YtdilakpipbkokaaDoor
