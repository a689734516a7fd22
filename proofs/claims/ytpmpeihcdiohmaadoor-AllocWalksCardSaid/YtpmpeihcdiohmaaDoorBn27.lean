import Derived.Test.YtpmpeihcdiohmaaDoorBn22
import Derived.Test.YtpmpeihcdiohmaaDoorBn26
set_option linter.unusedVariables false
set_option linter.unusedSimpArgs false
namespace Go.Proofs.YtpmpeihcdiohmaaDoor
open Go.RowKit

/-! the reference's walk of registers (printed by gen_aor.py) -/
theorem run_overR {c : PCd} {T : Int} {args ans : List Int} {m j k : Nat} {x : PBlk} {s s' : ASt} (hj : j < m) (hk : c.blocks[k]? = some x) (hi : inssA T args ans x.ins s = (true, s')) : runA c T args ans (m - j) k s = some (hOver, 0, s') := by
  obtain ⟨n, hn⟩ : ∃ n, m - j = n + 1 := ⟨m - j - 1, by omega⟩
  rw [hn]; unfold runA; rw [hk]; dsimp only; rw [hi]
theorem run_doneR {c : PCd} {T : Int} {args ans : List Int} {m j k : Nat} {x : PBlk} {s s' : ASt} (hj : j < m) (hk : c.blocks[k]? = some x) (hi : inssA T args ans x.ins s = (false, s')) (hf : x.fin = eReturn) : runA c T args ans (m - j) k s = some (hDone, rOf s' x.a, s') := by
  obtain ⟨n, hn⟩ : ∃ n, m - j = n + 1 := ⟨m - j - 1, by omega⟩
  rw [hn]; unfold runA; rw [hk]; dsimp only; rw [hi]; dsimp only; rw [if_pos (by rw [hf]; rfl)]
theorem run_nextR {c : PCd} {T : Int} {args ans : List Int} {m j k : Nat} {x : PBlk} {s s' : ASt} (hj : j < m) (hk : c.blocks[k]? = some x) (hi : inssA T args ans x.ins s = (false, s')) (hf : x.fin ≠ eReturn) : runA c T args ans (m - j) k s = runA c T args ans (m - (j + 1)) (nextA x s') s' := by
  obtain ⟨n, hn⟩ : ∃ n, m - j = n + 1 := ⟨m - j - 1, by omega⟩
  rw [hn, show m - (j + 1) = n by omega]
  conv => lhs; unfold runA
  rw [hk]; dsimp only; rw [hi]; dsimp only; rw [if_neg (by simpa using hf)]
set_option maxHeartbeats 8000000 in
set_option maxRecDepth 1000000 in
theorem RunOf_any3 (c : PCd) (A : Option Addr) (ca : Nat) (hg : GoodA c) (hsm : ∀ b ∈ c.blocks, BlkSm b) (hi6 : ∀ b ∈ c.blocks, ∀ x ∈ b.ins, I64 x.num) (args ans : List Int) (X : Option Addr) (xc : Nat) (Y : Option Addr) (yc : Nat) (T : Int) (hT : 0 ≤ T) (hT6 : T ≤ 60) (hpa : (args.length : Int) = c.params) (han : ans.length ≤ 1000) (ha6 : ∀ n ∈ args, I64 n) (hn6 : ∀ n ∈ ans, I64 n) (most : Nat) (hmost : most ≤ 100000)
    (w : World) (hr : RdC w A c.blocks) (hX : Row w X (intVs args)) (hY : Row w Y (intVs ans)) :
    Calls Tryd.prog 11 #[cdV c A ca, .slice X args.length xc, .slice Y ans.length yc, .int .i64 T, .int .i64 most] w (RoPost c T args ans most w) := by
  obtain ⟨sn, hsn⟩ : ∃ sn : Nat, c.slots = (sn : Int) := ⟨c.slots.toNat, (Int.toNat_of_nonneg hg.slots.1).symm⟩
  have hs1000 : sn ≤ 1000 := by have := hg.slots.2; omega
  have hsn2 : c.slots.toNat = sn := by rw [hsn]; rfl
  obtain ⟨b0, hb0⟩ : ∃ b0, w.heap.size = b0 := ⟨_, rfl⟩
  obtain ⟨wA, hwA⟩ : ∃ wA, (w.alloc (.cells #[.string (mkB c.name), .int .i64 c.params, .int .i64 c.slots, .slice A c.blocks.length ca] 24)).alloc (.cells #[.string ⟨#[]⟩, .int .i64 0, .slice none 0 0, .int .i64 0, .slice none 0 0] 42) = wA := ⟨_, rfl⟩
  have hbA : Below w.heap.size w wA := by rw [← hwA]; exact grow_alloc (grow_alloc (grow_refl _) _) _
  have hzA : wA.heap.size = b0 + 2 := by rw [← hwA, ← hb0]; simp
  have hmA : wA.heap[b0]? = some (.cells #[.string (mkB c.name), .int .i64 c.params, .int .i64 c.slots, .slice A c.blocks.length ca] 24 (0, 0)) := by rw [← hwA, ← hb0]; exact (old_block _ _ (by simp)).trans (heap_alloc_new w _)
  have hrA : wA.heap[b0 + 1]? = some (.cells #[.string ⟨#[]⟩, .int .i64 0, .slice none 0 0, .int .i64 0, .slice none 0 0] 42 (0, 0)) := by rw [← hwA, ← hb0]; exact new_block _ _ (by simp)
  obtain ⟨rb, hrb⟩ : ∃ rb, b0 + 1 = rb := ⟨_, rfl⟩
  rw [hrb] at hrA
  obtain ⟨rB, hrB⟩ : ∃ rB, wA.heap.size = rB := ⟨_, rfl⟩
  obtain ⟨sB, hsB⟩ : ∃ sB, rB + 1 = sB := ⟨_, rfl⟩
  obtain ⟨nb, hnb⟩ : ∃ nb, sB + 1 = nb := ⟨_, rfl⟩
  obtain ⟨mb, hmb⟩ : ∃ mb, nb + 1 = mb := ⟨_, rfl⟩
  obtain ⟨wS, hwS⟩ : ∃ wS, (((wA.alloc (zrO 8)).alloc (zrO sn)).alloc (zrO 4)).alloc (.cells #[.string ⟨#[]⟩, .int .i64 0, .slice none 0 0, .int .i64 0, .slice none 0 0] 42) = wS := ⟨_, rfl⟩
  have hbS : Below wA.heap.size wA wS := by rw [← hwS]; exact grow_alloc (grow_alloc (grow_alloc (grow_alloc (grow_refl _) _) _) _) _
  have HS0 : Hid (RoS wA mb (rB) (sB) (nb) (fun _ _ => False) (ASt0 c) (.slice none 0 0) (.slice none 0 0) [] wS) := show RoAt _ _ _ _ _ _ _ _ _ _ _ from by
    have e2 : wS.heap[rB]? = some (zrO 8) := by rw [← hwS]; exact (old_block _ _ (by simp; omega)).trans ((old_block _ _ (by simp; omega)).trans ((old_block _ _ (by simp; omega)).trans (new_block _ _ (by omega))))
    have e3 : wS.heap[sB]? = some (zrO sn) := by rw [← hwS]; exact (old_block _ _ (by simp; omega)).trans ((old_block _ _ (by simp; omega)).trans (new_block _ _ (by simp; omega)))
    have e4 : wS.heap[nb]? = some (zrO 4) := by rw [← hwS]; exact (old_block _ _ (by simp; omega)).trans (new_block _ _ (by simp; omega))
    have e5 : wS.heap[mb]? = some (.cells #[.string ⟨#[]⟩, .int .i64 0, .slice none 0 0, .int .i64 0, .slice none 0 0] 42 (0, 0)) := by rw [← hwS]; exact new_block _ _ (by simp; omega)
    have hin : ∀ p ∈ rowsR (rB) (sB) (nb) (ASt0 c), p = (rB, (ASt0 c).r) ∨ p = (sB, (ASt0 c).slots) ∨ p = (nb, (ASt0 c).next) := fun p hp => by simpa [rowsR] using hp
    exact { bel := hbS, lowM := by omega, lowR := (fun p hp => by rcases hin p hp with rfl | rfl | rfl <;> (simp only; omega)), blk := e5, rs := (fun p hp => by
        rcases hin p hp with rfl | rfl | rfl
        · exact e2
        · rw [e3]; simp [zrO, ASt0, hsn2]
        · exact e4), nd := (by simp only [rowsR, List.map_cons, List.map_nil, List.nodup_cons, List.mem_cons, List.not_mem_nil, or_false, not_or, not_false_iff, List.nodup_nil, and_true]; omega), out := World.ownsRow_nil _ _ _ _, one := (fun p hp => by simp [Value.ownBlock]), calls := World.ownsRow_nil _ _ _ _, map := rfl, rows := (fun t h => by cases h), far := (fun t h => by cases h), fr := fun _ _ h => h.elim }
  have HX : Hid (∀ w', Below wA.heap.size wA w' → (w'.cell? ⟨b0, 0, none⟩ = some (.string (mkB c.name)) ∧ w'.cell? ⟨b0, 1, none⟩ = some (.int .i64 c.params) ∧ w'.cell? ⟨b0, 2, none⟩ = some (.int .i64 c.slots) ∧ w'.cell? ⟨b0, 3, none⟩ = some (.slice A c.blocks.length ca)) ∧ w'.heap[rb]? = some (.cells #[.string ⟨#[]⟩, .int .i64 0, .slice none 0 0, .int .i64 0, .slice none 0 0] 42 (0, 0)) ∧ Below w.heap.size w w') := fun w' hb =>
    ⟨row4A ((hb.block _ (by omega)).trans hmA), (hb.block _ (by omega)).trans hrA, grow_trans hbA hb⟩
  have HIN : Hid (∀ w', Below wA.heap.size wA w' → RdC w' A c.blocks ∧ Row w' X (intVs args) ∧ Row w' Y (intVs ans)) := fun w' hb => have k := Keeps.of_below (grow_trans hbA hb); ⟨hr.keep k, hX.keep k, hY.keep k⟩
  have HG := Lib.hid hg
  have HSM := Lib.hid hsm
  have HI6 := Lib.hid hi6
  have HOK : Hid (AOk c T ans (ASt0 c)) := aok_start hT
  have HINS : Hid (∀ {x : PLow}, I64 x.num → ∀ {s s' : ASt}, AOk c T ans s → insA T args ans x s = some s' → AOk c T ans s') := fun hx _ _ h hs => aok_ins ha6 hn6 hx h hs
  have hmk8 : ∀ w : World, (Instr.makeSlice 25 (.int .i64 8) (.int .i64 8)).run Tryd.prog w = .ok (.slice (some ⟨w.heap.size, 0, none⟩) 8 8) (w.alloc (zrO 8)) := fun w => make_zr 8 (by omega) w
  have hmk4 : ∀ w : World, (Instr.makeSlice 25 (.int .i64 4) (.int .i64 4)).run Tryd.prog w = .ok (.slice (some ⟨w.heap.size, 0, none⟩) 4 4) (w.alloc (zrO 4)) := fun w => make_zr 4 (by omega) w
  have hmk := make_zr sn (by omega)
  rw [← hsn] at hmk
  have HSN := Lib.hid hsn
  have HSN2 := Lib.hid hsn2
  have HWA := Lib.hid hwA
  have HWS := Lib.hid hwS
  have HBS := Lib.hid hbS
  have HZA := Lib.hid hzA
  have HNM := Lib.hid (And.intro hrb (And.intro hrB (And.intro hsB (And.intro hnb hmb))))
  have hrbA : rb < wA.heap.size ∧ b0 < wA.heap.size := by omega
  have HRB := Lib.hid hrbA
  have HBA := Lib.hid hbA
  have HB0 := Lib.hid hb0
  have HHN := Lib.hid (And.intro han hpa)
  have HH6 := Lib.hid (And.intro ha6 hn6)
  have hlen0 : 0 < c.blocks.length := hg.some
  obtain ⟨Q, hQ⟩ : ∃ Q, RoPost c T args ans most w = Q := ⟨_, rfl⟩
  have HDN : Hid (∀ (R : List (Nat × List Int)) (F : Nat → Array Value → Prop) (s : ASt) (h : List UInt8) (v : Int) (AO AC : Option Addr) (cO cC : Nat) (ts : List CC) (w' : World), RoAt wA mb R F s h v (.slice AO s.out.length cO) (.slice AC s.calls.length cC) ts w' → AOk c T ans s → (match runA c T args ans most 0 (ASt0 c) with | some z => tupD (h, v, s) = tupD z | none => h = hLong) →
      Q (.returned (.agg #[.string (mkB h), .int .i64 v, .slice AO s.out.length cO, .int .i64 s.ticks, .slice AC s.calls.length cC])) (((((w'.setCell ⟨rb, 0, none⟩ (.string (mkB h))).setCell ⟨rb, 1, none⟩ (.int .i64 v)).setCell ⟨rb, 2, none⟩ (.slice AO s.out.length cO)).setCell ⟨rb, 3, none⟩ (.int .i64 s.ticks)).setCell ⟨rb, 4, none⟩ (.slice AC s.calls.length cC))) :=
    fun _ _ _ _ _ _ _ _ _ _ _ H hok hP => by rw [← hQ]; exact ro_done H hok han hbA (by omega) hP
  rw [hQ]
  unfold cdV
  clear hr hX hY hbA hmA hrA hwA hg hsm hi6 ha6 hn6 hwS hbS hzA hQ hsn2 hpa han hsn hb0 hrbA hrb hrB hsB hnb hmb
  go_enter Tryd.func11, Tryd.ntmps11
  go_upto_region 1 with fail
  change Code.wp _ _ _ _ ((w.alloc (.cells #[.string (mkB c.name), .int .i64 c.params, .int .i64 c.slots, .slice A c.blocks.length ca] 24)).alloc (.cells #[.string ⟨#[]⟩, .int .i64 0, .slice none 0 0, .int .i64 0, .slice none 0 0] 42))
  rw [HWA.out, HB0.out, HNM.out.1]
  obtain ⟨i0, i1, i2, i3⟩ := (HX.out wA (grow_refl _)).1
  have i2' := Keeps.alloc wA (zrO 8) _ _ i2
  go_upto_region 5 with fail
  rw [HWS.out, HNM.out.2.1, HNM.out.2.2.1, HNM.out.2.2.2.1, HNM.out.2.2.2.2]
  clear i0 i1 i2 i3 i2' hmk8 hmk
  go_wp2_with fail
  go_loopw [13, 15, 16, 17, 18, 19, 20, 21] (fun nx k j _ _ _ _ _ wr => ∃ (jn kn nb' : Nat) (s : ASt) (vO vC : Value) (ts : List CC), jn ≤ most ∧ j = .int .i64 jn ∧ k = .int .i64 kn ∧ nx = .slice (some ⟨nb', 0, none⟩) 4 4 ∧ kn < c.blocks.length ∧ AOk c T ans s ∧ RoS wA mb rB sB nb' (fun _ _ => False) s vO vC ts wr ∧ runA c T args ans most 0 (ASt0 c) = runA c T args ans (most - jn) kn s) (fun _ _ j _ _ _ _ _ _ => most - (intOf j).toNat)
  case atStart => exact ⟨0, 0, nb, ASt0 c, _, _, _, Nat.zero_le _, rfl, rfl, rfl, hlen0, HOK.out, HS0.out, rfl⟩
  case round =>
    obtain ⟨j, k, nb, s, vO1, vC1, ts1, hj, rfl, rfl, rfl, hk, hok, H1, hrun⟩ := hrel
    have HRUN := Lib.hid hrun
    clear hrun
    by_cases hlt : j < most
    · have hlt' : (j : Int) < (most : Int) := by omega
      have hk0 : (0 : Int) ≤ (k : Int) := by omega
      have hk1 : (k : Int) < (c.blocks.length : Int) := by omega
      obtain ⟨⟨i0, i1, i2, i3⟩, -, -⟩ := HX.out wr H1.bel
      obtain ⟨b, off, I, ic, N, nc, rfl, hB0⟩ := (HIN.out wA (grow_refl _)).1 k hk
      obtain ⟨x, hx⟩ : ∃ x, c.blocks[k] = x := ⟨_, rfl⟩
      rw [hx] at hB0
      have hbm : x ∈ c.blocks := hx ▸ List.getElem_mem hk
      have HKX : Hid (c.blocks[k]? = some x) := show _ = _ by rw [List.getElem?_eq_getElem hk, hx]
      have HBO := Lib.hid (HG.out.blocks x hbm)
      have hl25 := (HSM.out x hbm).ins
      have HX6 := Lib.hid (HI6.out x hbm)
      obtain ⟨b0', b1, b2, b3, -, -⟩ := hB0.keep (Keeps.of_below H1.bel)
      obtain ⟨q, hq⟩ : ∃ q, wr.heap.size = q := ⟨_, rfl⟩
      obtain ⟨wB, hwB⟩ : ∃ wB, wr.alloc (.cells #[.slice I x.ins.length ic, .string (mkB x.fin), .int .i64 x.a, .slice N x.nx.length nc] 59) = wB := ⟨_, rfl⟩
      have hbB : Below wr.heap.size wr wB := by rw [← hwB]; exact grow_alloc (grow_refl _) _
      have hmB : wB.heap[q]? = some (.cells #[.slice I x.ins.length ic, .string (mkB x.fin), .int .i64 x.a, .slice N x.nx.length nc] 59 (0, 0)) := by rw [← hwB, ← hq]; exact heap_alloc_new wr _
      have HBX : Hid (∀ w', Below wA.heap.size wA w' → Row w' I (x.ins.flatMap lowL) ∧ Row w' N (intVs x.nx)) := fun w' hb => ⟨hB0.ins.keep (Keeps.of_below hb), hB0.nx.keep (Keeps.of_below hb)⟩
      have HB : Hid (RoS wA mb rB sB nb (fun q9 cs9 => q9 = q ∧ cs9 = #[.slice I x.ins.length ic, .string (mkB x.fin), .int .i64 x.a, .slice N x.nx.length nc]) s vO1 vC1 ts1 wB) := show RoAt _ _ _ _ _ _ _ _ _ _ _ from (H1.below hbB).reF (fun q9 cs9 h9 => by obtain ⟨rfl, rfl⟩ := h9; exact hmB)
      have HWB := Lib.hid hwB
      have HQ2 := Lib.hid hq
      have HOKS := Lib.hid hok
      have HLT := Lib.hid hlt
      have HK := Lib.hid hk
      have HBB := Lib.hid hbB
      clear hwB hmB hbB hx hq H1 hok hlt hk hbm hB0
      go_upto_region 10 with fail
      change Code.wp _ _ _ _ (wr.alloc (.cells #[.slice I x.ins.length ic, .string (mkB x.fin), .int .i64 x.a, .slice N x.nx.length nc] 59))
      rw [HQ2.out, HWB.out]
      clear b0' b1 b2 b3 i0 i1 i2 i3
      obtain ⟨b0', b1, b2, b3⟩ := row4A (HB.out.fr q _ ⟨rfl, rfl⟩)
      go_wp2_with fail
      go_loopw [13, 18, 19, 20, 21] (fun nx i _ _ _ wx => ∃ (n nb' : Nat) (s2 : ASt) (vO2 vC2 : Value) (ts2 : List CC), n ≤ x.ins.length ∧ i = .int .i64 n ∧ nx = .slice (some ⟨nb', 0, none⟩) 4 4 ∧ inssA T args ans x.ins s = inssA T args ans (x.ins.drop n) s2 ∧ AOk c T ans s2 ∧ RoS wA mb rB sB nb' (fun q9 cs9 => q9 = q ∧ cs9 = #[.slice I x.ins.length ic, .string (mkB x.fin), .int .i64 x.a, .slice N x.nx.length nc]) s2 vO2 vC2 ts2 wx) (fun _ i _ _ _ _ => x.ins.length - (intOf i).toNat)
      case atStart => exact ⟨0, nb, s, _, _, _, Nat.zero_le _, rfl, rfl, rfl, HOKS.out, HB.out⟩
      case round =>
        obtain ⟨n, nb2, s2, vO2, vC2, ts2, hn, rfl, rfl, hin, hok2, H2⟩ := hrel
        have HIN2 := Lib.hid hin
        have HOK2 := Lib.hid hok2
        clear hin b0' b1 b2 b3
        obtain ⟨b0', b1, b2, b3⟩ := row4A (H2.fr q _ ⟨rfl, rfl⟩)
        by_cases hlt2 : n < x.ins.length
        · have hlt2' : (n : Int) < (x.ins.length : Int) := by omega
          have hn0 : (0 : Int) ≤ (n : Int) := by omega
          obtain ⟨b5, off5, rfl, hL5⟩ := low_cells (HBX.out _ H2.bel).1 hlt2
          obtain ⟨l0, l1, l2, l3, l4, l5⟩ := hL5
          have hym : x.ins[n] ∈ x.ins := List.getElem_mem hlt2
          obtain ⟨y, hy⟩ : ∃ y, x.ins[n] = y := ⟨_, rfl⟩
          rw [hy] at l0 l1 l2 l3 l4 l5 hym
          have HLT2 := Lib.hid hlt2
          have HLF : Hid (LowF c y) := low_facts (HBO.out.ins y hym)
          have HY6 : Hid (I64 y.num) := HX6.out y hym
          have HYE : Hid (x.ins[n]? = some y) := show _ = _ by rw [List.getElem?_eq_getElem hlt2, hy]
          obtain ⟨q2, hq2⟩ : ∃ q2, wr.heap.size = q2 := ⟨_, rfl⟩
          obtain ⟨wL, hwL⟩ : ∃ wL, wr.alloc (.cells #[.string (mkB y.kind), .int .i64 y.d, .int .i64 y.a, .int .i64 y.b, .int .i64 y.num, .string (mkB y.name)] 60) = wL := ⟨_, rfl⟩
          have hbL : Below wr.heap.size wr wL := by rw [← hwL]; exact grow_alloc (grow_refl _) _
          have hmL : wL.heap[q2]? = some (.cells #[.string (mkB y.kind), .int .i64 y.d, .int .i64 y.a, .int .i64 y.b, .int .i64 y.num, .string (mkB y.name)] 60 (0, 0)) := by rw [← hwL, ← hq2]; exact heap_alloc_new wr _
          have HL := Lib.hid (H2.below hbL)
          have HWL := Lib.hid hwL
          have HQL := Lib.hid hq2
          have HML := Lib.hid hmL
          clear hwL hmL hbL hq2 H2 hok2 hlt2 hy hym
          go_upto_region 14 with fail
          change Code.wp _ _ _ _ (wr.alloc (.cells #[.string (mkB y.kind), .int .i64 y.d, .int .i64 y.a, .int .i64 y.b, .int .i64 y.num, .string (mkB y.name)] 60))
          rw [HQL.out, HWL.out]
          clear l0 l1 l2 l3 l4 l5 b0' b1 b2 b3
          obtain ⟨l0, l1, l2, l3, l4, l5⟩ := row6A HML.out
          go_upto_block 4 with fail
          refine wp_of_then ?_
          change Code.wp Tryd.prog swO _ _ _
          refine so_any (c := c) (Q := Q) HL.out HOK2.out hT6 HHN.out.2 HHN.out.1 (HIN.out wL HL.out.bel).2.1 (HIN.out wL HL.out.bel).2.2 HSN.out ⟨HRB.out.1, (HX.out wA (grow_refl _)).2.1⟩ y HLF.out _ _ _ HML.out _ _ _ _ _ _ _ _ _ _ _ _ _ _ _ _ _ _ _ _ _ _ _ _ _ _ _ _ _ _ _ _ _ _ _ _ _ _ _ _ _ _ _ _ _ _ _ _ _ _ _ _ _ _ _ _ _ _ _ _ _ _ _ _ _ _ _ _ _ _ _ _ _ _ _ _ _ _ _ _ _ _ _ _ _ _ _ _ _ _ _ _ _ _ _ _ _ _ _ _ _ _ _ _ _ _ _ _ _ _ _ _ _ _ _ _ _ _ _ _ _ _ _ _ _ _ _ _ _ _ _ _ _ _ _ _ _ _ _ _ _ _ _ _ _ _ _ _ _ _ _ _ _ _ _ _ _ _ _ _ _ _ _ _ _ _ _ _ _ _ _ _ _ _ _ _ _ _ _ _ _ _ _ _ _ _ _ _ _ _ _ _ _ _ _ _ _ _ _ _ _ _ _ _ _ _ _ _ _ _ _ _ _ _ _ _ _ _ _ _ _ _ _ _ _ _ _ ?_ ?_ ?_
          · intro nb' s' vO' vC' ts' y20 y21 y52 y53 y54 y55 y56 y57 y58 y59 y60 y61 y62 y63 y64 y65 y66 y67 y68 y69 y70 y71 y72 y73 y74 y75 y76 y77 y78 y79 y80 y81 y82 y83 y84 y85 y86 y87 y88 y89 y90 y91 y92 y93 y94 y95 y96 y97 y98 y99 y100 y101 y102 y103 y104 y105 y106 y107 y108 y109 y110 y111 y112 y113 y114 y115 y116 y117 y118 y119 y120 y121 y122 y123 y124 y125 y126 y127 y128 y129 y130 y131 y132 y133 y134 y135 y136 y137 y138 y139 y140 y141 y142 y143 y144 y145 y146 y147 y148 y149 y150 y151 y152 y153 y154 y155 y156 y157 y158 y159 y160 y161 y162 y163 y164 y165 y166 y167 y168 y169 y170 y171 y172 y173 y174 y175 y176 y177 y178 y179 y180 y181 y182 y183 y184 y185 y186 y187 y188 y189 y190 y191 y192 y193 y194 y195 y196 y197 y198 y199 y200 y201 y202 y203 y204 y205 y206 y207 y208 y209 y210 y211 y212 w' hi hh
            have HI := Lib.hid hi
            have HH2 := Lib.hid hh
            clear hi hh l0 l1 l2 l3 l4 l5
            go_wp2_with fail
            go_roundw
            case rel =>
              have hlt2 := HLT2.out
              exact ⟨n + 1, nb', s', _, _, _, by omega, by go_num, rfl, HIN2.out.trans (inss_some HYE.out HI.out), HINS.out HY6.out HOK2.out HI.out, HH2.out⟩
            case measure => have hlt2 := HLT2.out; simp [intOf]; omega
          · exact fun a w' h => h
          · intro hi AO cO AC cC w3 H3
            refine HDN.out _ _ _ _ _ _ _ _ _ _ _ H3 HOK2.out ?_
            rw [HRUN.out, run_overR HLT.out HKX.out (HIN2.out.trans (inss_none HYE.out hi))]
        · have hn' : n = x.ins.length := by omega
          subst hn'
          have HIE : Hid (inssA T args ans x.ins s = (false, s2)) := show _ = _ by rw [HIN2.out, List.drop_length]; rfl
          have h8 := hok2.r8
          have hnx := HBO.out.nx
          have hfar := HBO.out.far
          clear hlt2
          rcases fin_cases HBO.out.fin with hf | hf | hf
          · have hnx1 : x.nx.length = 1 := by rw [hf] at hnx; have : endN eJump = 1 := rfl; omega
            have hl0 : 0 < x.nx.length := by omega
            obtain ⟨b6, off6, hN6, hc6⟩ := (HBX.out _ H2.bel).2 0 _ (intVs_get hl0)
            subst hN6
            have hfz := hfar x.nx[0] (List.getElem_mem hl0)
            obtain ⟨kn, hkn⟩ : ∃ kn : Nat, x.nx[0] = (kn : Int) := ⟨x.nx[0].toNat, (Int.toNat_of_nonneg hfz.1).symm⟩
            rw [Nat.add_zero] at hc6
            have hxl2 : (0 : Int) < (x.nx.length : Int) := by omega
            rw [hkn] at hc6 hfz
            have HKN : Hid ((x.nx.getD 0 0).toNat = kn) := show _ = _ by rw [List.getD_eq_getElem?_getD, List.getElem?_eq_getElem hl0, Option.getD_some, hkn]; rfl
            have hknl : kn < c.blocks.length := by omega
            have b1' : wr.cell? ⟨q, 1, none⟩ = some (.string ⟨#[106, 117, 109, 112]⟩) := by rw [b1, hf]; rfl
            clear b1
            have HF := Lib.hid hf
            have HN2 := Lib.hid (H2.reF (F' := fun _ _ => False) (fun _ _ h9 => h9.elim))
            clear hf hkn hnx hfar hn H2 hok2 h8
            go_wp2_with fail
            go_roundw
            case rel =>
              have hlt := HLT.out
              refine ⟨j + 1, kn, nb2, s2, _, _, _, by omega, by go_num, rfl, rfl, hknl, HOK2.out, HN2.out, ?_⟩
              rw [HRUN.out, run_nextR hlt HKX.out HIE.out (by rw [HF.out]; decide), show nextA x s2 = kn from by unfold nextA; rw [if_neg (by rw [HF.out]; simp [eJump, eIf]), HKN.out]]
            case measure => have hlt := HLT.out; simp [intOf]; omega
          · have hnx1 : x.nx.length = 2 := by rw [hf] at hnx; have : endN eIf = 2 := rfl; omega
            obtain ⟨an, haN⟩ : ∃ an : Nat, x.a = (an : Int) := ⟨x.a.toNat, (Int.toNat_of_nonneg (HBO.out.reg (by rw [hf]; decide)).1).symm⟩
            have ha8 : an < 8 := by have := (HBO.out.reg (by rw [hf]; decide)).2; omega
            have ha0 : (0 : Int) ≤ an := by omega
            have ha1 : (an : Int) < 8 := by omega
            rw [haN] at b2
            obtain ⟨vv, hvv⟩ : ∃ z, s2.r.getD an 0 = z := ⟨_, rfl⟩
            have r1 : wr.cell? ⟨rB, an, none⟩ = some (.int .i64 (s2.r.getD an 0)) := H2.cellR (p := (rB, s2.r)) (by simp [rowsR]) (j := an) (by show _ < s2.r.length; omega)
            rw [hvv] at r1
            have HVV : Hid (rOf s2 x.a = vv) := show _ = _ by rw [haN, ← hvv]; rfl
            clear hvv
            have b1' : wr.cell? ⟨q, 1, none⟩ = some (.string ⟨#[105, 102]⟩) := by rw [b1, hf]; rfl
            clear b1
            have HF := Lib.hid hf
            have HN2 := Lib.hid (H2.reF (F' := fun _ _ => False) (fun _ _ h9 => h9.elim))
            have hl0 : 0 < x.nx.length := by omega
            obtain ⟨b6, off6, hN6, hc6⟩ := (HBX.out _ H2.bel).2 0 _ (intVs_get hl0)
            have hfz := hfar x.nx[0] (List.getElem_mem hl0)
            obtain ⟨kn, hkn⟩ : ∃ kn : Nat, x.nx[0] = (kn : Int) := ⟨x.nx[0].toNat, (Int.toNat_of_nonneg hfz.1).symm⟩
            rw [Nat.add_zero] at hc6
            rw [hkn] at hc6 hfz
            have HKN : Hid ((x.nx.getD 0 0).toNat = kn) := show _ = _ by rw [List.getD_eq_getElem?_getD, List.getElem?_eq_getElem hl0, Option.getD_some, hkn]; rfl
            have hknl : kn < c.blocks.length := by omega
            have hxl0 : (0 : Int) < (x.nx.length : Int) := by omega
            by_cases hz : vv = 0
            · subst hz
              have hl1 : 1 < x.nx.length := by omega
              obtain ⟨b7, off7, hN7, hc7⟩ := (HBX.out _ H2.bel).2 1 _ (intVs_get hl1)
              rw [hN6] at hN7
              injection hN7 with hN7
              injection hN7 with e7 e8 _
              subst e7; subst e8
              subst hN6
              have hfz1 := hfar x.nx[1] (List.getElem_mem hl1)
              obtain ⟨kn1, hkn1⟩ : ∃ kn : Nat, x.nx[1] = (kn : Int) := ⟨x.nx[1].toNat, (Int.toNat_of_nonneg hfz1.1).symm⟩
              have hxl2 : (1 : Int) < (x.nx.length : Int) := by omega
              rw [hkn1] at hc7 hfz1
              have HKN1 : Hid ((x.nx.getD 1 0).toNat = kn1) := show _ = _ by rw [List.getD_eq_getElem?_getD, List.getElem?_eq_getElem hl1, Option.getD_some, hkn1]; rfl
              have hknl1 : kn1 < c.blocks.length := by omega
              clear hf hkn hkn1 hnx hfar hn H2 hok2 h8
              go_wp2_with fail
              go_roundw
              case rel =>
                have hlt := HLT.out
                refine ⟨j + 1, kn1, nb2, s2, _, _, _, by omega, by go_num, rfl, rfl, hknl1, HOK2.out, HN2.out, ?_⟩
                rw [HRUN.out, run_nextR hlt HKX.out HIE.out (by rw [HF.out]; decide), show nextA x s2 = kn1 from by unfold nextA; rw [if_pos ⟨by rw [HF.out]; rfl, HVV.out⟩, HKN1.out]]
              case measure => have hlt := HLT.out; simp [intOf]; omega
            · subst hN6
              have hzb : (vv == 0) = false := beq_eq_false_iff_ne.2 hz
              have HZ := Lib.hid hz
              clear hf hkn hnx hfar hn H2 hok2 h8
              go_wp2_with fail
              go_roundw
              case rel =>
                have hlt := HLT.out
                refine ⟨j + 1, kn, nb2, s2, _, _, _, by omega, by go_num, rfl, rfl, hknl, HOK2.out, HN2.out, ?_⟩
                rw [HRUN.out, run_nextR hlt HKX.out HIE.out (by rw [HF.out]; decide), show nextA x s2 = kn from by unfold nextA; rw [if_neg (fun h9 => HZ.out (HVV.out.symm.trans h9.2)), HKN.out]]
              case measure => have hlt := HLT.out; simp [intOf]; omega
          · obtain ⟨an, haN⟩ : ∃ an : Nat, x.a = (an : Int) := ⟨x.a.toNat, (Int.toNat_of_nonneg (HBO.out.reg (by rw [hf]; decide)).1).symm⟩
            have ha8 : an < 8 := by have := (HBO.out.reg (by rw [hf]; decide)).2; omega
            have ha0 : (0 : Int) ≤ an := by omega
            have ha1 : (an : Int) < 8 := by omega
            rw [haN] at b2
            obtain ⟨vv, hvv⟩ : ∃ z, s2.r.getD an 0 = z := ⟨_, rfl⟩
            have r1 : wr.cell? ⟨rB, an, none⟩ = some (.int .i64 (s2.r.getD an 0)) := H2.cellR (p := (rB, s2.r)) (by simp [rowsR]) (j := an) (by show _ < s2.r.length; omega)
            rw [hvv] at r1
            have HVV : Hid (rOf s2 x.a = vv) := show _ = _ by rw [haN, ← hvv]; rfl
            clear hvv
            have b1' : wr.cell? ⟨q, 1, none⟩ = some (.string ⟨#[114, 101, 116, 117, 114, 110]⟩) := by rw [b1, hf]; rfl
            clear b1
            have HF := Lib.hid hf
            obtain ⟨AO, cO, rfl⟩ := own_slice H2.out
            obtain ⟨AC, cC, rfl⟩ := own_slice H2.calls
            obtain ⟨c0, c1, c2, c3, c4⟩ := H2.cells
            have zz0 := H2.frozen 0
            have zz1 := H2.frozen 1
            have hrbB := (HX.out wr H2.bel).2.1
            obtain ⟨w0a, w1a, w2a, w3a, w4a⟩ := row5A hrbB
            have y0 := row_frozen hrbB 0
            have y1 := row_frozen hrbB 1
            have y2 := row_frozen hrbB 2
            have y3 := row_frozen hrbB 3
            have y4 := row_frozen hrbB 4
            have hne1 : ¬ rb = mb := by have := H2.lowM; have := HRB.out.1; omega
            have hne2 : ¬ mb = rb := by omega
            have hne3 : ¬ mb = rB := (fun e => H2.neR (p := (rB, s2.r)) (by simp [rowsR]) e.symm)
            have hne4 : ¬ rB = mb := fun e => hne3 e.symm
            have hne5 : ¬ q = mb := fun e => H2.frM (q := q) ⟨rfl, rfl⟩ e
            have hne6 : ¬ mb = q := fun e => hne5 e.symm
            have HRBB := Lib.hid hrbB
            have HST := Lib.hid ((H2.set (s' := s2) (h' := hDone) (v' := 0) (j := 0) (.string ⟨#[100, 111, 110, 101]⟩) (by unfold roL; simp <;> rfl) rfl rfl).set (s' := s2) (h' := hDone) (v' := vv) (j := 1) (.int .i64 vv) (by unfold roL; simp) rfl rfl)
            clear hf hnx hfar hn H2 hok2 h8 hrbB
            go_wp2_with fail
            obtain ⟨wF, hwF⟩ : ∃ wF, (wr.setCell ⟨mb, 0, none⟩ (.string ⟨#[100, 111, 110, 101]⟩)).setCell ⟨mb, 1, none⟩ (.int .i64 vv) = wF := ⟨_, rfl⟩
            have H3 := HST.out
            have hrF := (Below.heap_setCell (wr.setCell ⟨mb, 0, none⟩ (.string ⟨#[100, 111, 110, 101]⟩)) ⟨mb, 1, none⟩ (.int .i64 vv) rb hne1).trans ((Below.heap_setCell wr ⟨mb, 0, none⟩ (.string ⟨#[100, 111, 110, 101]⟩) rb hne1).trans HRBB.out)
            rw [hwF] at H3 hrF ⊢
            obtain ⟨u0, u1, u2, u3, u4⟩ := row5A (set5A (v0 := .string ⟨#[100, 111, 110, 101]⟩) (v1 := .int .i64 vv) (v2 := .slice AO s2.out.length cO) (v3 := .int .i64 s2.ticks) (v4 := .slice AC s2.calls.length cC) hrF)
            refine bodyPost_ret (v := .agg #[.string ⟨#[100, 111, 110, 101]⟩, .int .i64 vv, .slice AO s2.out.length cO, .int .i64 s2.ticks, .slice AC s2.calls.length cC]) (by simp [results, Tryd.results11, go_sem, u0, u1, u2, u3, u4]; try rfl) rfl ?_
            refine HDN.out _ _ _ hDone _ _ _ _ _ _ _ H3 HOK2.out ?_
            rw [HRUN.out, run_doneR HLT.out HKX.out HIE.out HF.out, HVV.out]
    · have hj' : j = most := by omega
      subst hj'
      obtain ⟨AO, cO, rfl⟩ := own_slice H1.out
      obtain ⟨AC, cC, rfl⟩ := own_slice H1.calls
      obtain ⟨c0, c1, c2, c3, c4⟩ := H1.cells
      have zz0 := H1.frozen 0
      have hrbB := (HX.out wr H1.bel).2.1
      obtain ⟨w0a, w1a, w2a, w3a, w4a⟩ := row5A hrbB
      have y0 := row_frozen hrbB 0
      have y1 := row_frozen hrbB 1
      have y2 := row_frozen hrbB 2
      have y3 := row_frozen hrbB 3
      have y4 := row_frozen hrbB 4
      have hne1 : ¬ rb = mb := by have := H1.lowM; have := HRB.out.1; omega
      have hne2 : ¬ mb = rb := by omega
      have HRBB := Lib.hid hrbB
      have HOKS := Lib.hid hok
      have HST := Lib.hid (H1.set (s' := s) (h' := hLong) (v' := 0) (j := 0) (.string ⟨#[108, 111, 110, 103]⟩) (by unfold roL; simp <;> rfl) rfl rfl)
      clear H1 hok hrbB hlt
      go_wp2_with fail
      obtain ⟨wF, hwF⟩ : ∃ wF, wr.setCell ⟨mb, 0, none⟩ (.string ⟨#[108, 111, 110, 103]⟩) = wF := ⟨_, rfl⟩
      have H3 := HST.out
      have hrF := (Below.heap_setCell wr ⟨mb, 0, none⟩ (.string ⟨#[108, 111, 110, 103]⟩) rb hne1).trans HRBB.out
      rw [hwF] at H3 hrF ⊢
      obtain ⟨u0, u1, u2, u3, u4⟩ := row5A (set5A (v0 := .string ⟨#[108, 111, 110, 103]⟩) (v1 := .int .i64 0) (v2 := .slice AO s.out.length cO) (v3 := .int .i64 s.ticks) (v4 := .slice AC s.calls.length cC) hrF)
      refine bodyPost_ret (v := .agg #[.string ⟨#[108, 111, 110, 103]⟩, .int .i64 0, .slice AO s.out.length cO, .int .i64 s.ticks, .slice AC s.calls.length cC]) (by simp [results, Tryd.results11, go_sem, u0, u1, u2, u3, u4]; try rfl) rfl ?_
      refine HDN.out _ _ _ hLong _ _ _ _ _ _ _ H3 HOKS.out ?_
      rw [HRUN.out, Nat.sub_self]
      rfl
end Go.Proofs.YtpmpeihcdiohmaaDoor
