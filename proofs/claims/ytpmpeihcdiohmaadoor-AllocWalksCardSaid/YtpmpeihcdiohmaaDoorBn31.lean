import Derived.Test.YtpmpeihcdiohmaaDoorBn17
set_option linter.unusedVariables false
set_option linter.unusedSimpArgs false
namespace Go.Proofs.YtpmpeihcdiohmaaDoor
open Go.RowKit

/-! a code as the package has it: the walk (printed by gen_alas.py) -/
set_option maxHeartbeats 16000000 in
set_option maxRecDepth 100000 in
theorem AsLow_any (c : PCd) (A : Option Addr) (ca : Nat) (hn : c.blocks.length ≤ 100000) (hs : ∀ b ∈ c.blocks, BlkSm b) (w : World) (hr : RdC w A c.blocks) :
    Calls Tryd.prog 7 #[cdV c A ca] w (AsLPost c w) := by
  obtain ⟨wA, hwA⟩ : ∃ wA, (w.alloc (.cells #[.string (mkB c.name), .int .i64 c.params, .int .i64 c.slots, .slice A c.blocks.length ca] 24)).alloc (.cells #[.string ⟨#[]⟩, .int .i64 0, .int .i64 0, .slice none 0 0] 31) = wA := ⟨_, rfl⟩
  have hbA : Below w.heap.size w wA := by rw [← hwA]; exact grow_alloc (grow_alloc (grow_refl _) _) _
  have hmA : wA.heap[w.heap.size]? = some (.cells #[.string (mkB c.name), .int .i64 c.params, .int .i64 c.slots, .slice A c.blocks.length ca] 24 (0, 0)) := by rw [← hwA]; exact (old_block _ _ (by simp)).trans (heap_alloc_new w _)
  have hrA : wA.heap[w.heap.size + 1]? = some (.cells #[.string ⟨#[]⟩, .int .i64 0, .int .i64 0, .slice none 0 0] 31 (0, 0)) := by rw [← hwA]; exact new_block _ _ (by simp)
  have hlA : w.heap.size + 1 < wA.heap.size := (Array.getElem?_eq_some_iff.1 hrA).1
  have HX : Hid (∀ w', Below wA.heap.size wA w' → (w'.cell? ⟨w.heap.size, 0, none⟩ = some (.string (mkB c.name)) ∧ w'.cell? ⟨w.heap.size, 1, none⟩ = some (.int .i64 c.params) ∧ w'.cell? ⟨w.heap.size, 2, none⟩ = some (.int .i64 c.slots) ∧ w'.cell? ⟨w.heap.size, 3, none⟩ = some (.slice A c.blocks.length ca)) ∧ w'.heap[w.heap.size + 1]? = some (.cells #[.string ⟨#[]⟩, .int .i64 0, .int .i64 0, .slice none 0 0] 31 (0, 0)) ∧ RdC w' A c.blocks ∧ Below w.heap.size w w') := fun w' hb =>
    ⟨row4A ((hb.block _ (by omega)).trans hmA), (hb.block _ hlA).trans hrA, hr.keep (Keeps.of_below (grow_trans hbA hb)), grow_trans hbA hb⟩
  obtain ⟨ob, hob⟩ : ∃ ob, wA.heap.size = ob := ⟨_, rfl⟩
  obtain ⟨wP, hwP⟩ : ∃ wP, wA.alloc (.cells #[.string (mkB c.name), .int .i64 c.params, .int .i64 c.slots, .slice none 0 0] 31) = wP := ⟨_, rfl⟩
  have hbP : Below wA.heap.size wA wP := by rw [← hwP]; exact grow_alloc (grow_refl _) _
  have has0 : AsC c wA.heap.size ob 0 [] (.slice none 0 0) wP := ⟨by rw [← hwP, ← hob]; exact heap_alloc_new wA _, World.ownsRow_nil _ _ _ _, rfl, fun t ht => by cases ht⟩
  have HWA := Lib.hid hwA
  have HWP := Lib.hid hwP
  have HOB := Lib.hid hob
  have HBP := Lib.hid hbP
  have HAS0 := Lib.hid has0
  have HS := Lib.hid hs
  have hobl : wA.heap.size ≤ ob := by omega
  have hlw : w.heap.size + 1 < wA.heap.size := hlA
  obtain ⟨⟨i0, i1, i2, i3⟩, -, -, -⟩ := HX.out wA (grow_refl _)
  obtain ⟨li, hli, lz0, lz1, lz2⟩ := info_parts lowInfo
  obtain ⟨bi, hbi, bz0, bz1, bz2⟩ := info_parts blkInfo
  unfold cdV
  clear hr hs hbA hmA hrA hwA hwP hob hbP has0 hlA
  go_enter Tryd.func7, Tryd.ntmps7
  go_upto_region 1 with fail
  change Code.wp _ _ _ _ ((w.alloc (.cells #[.string (mkB c.name), .int .i64 c.params, .int .i64 c.slots, .slice A c.blocks.length ca] 24)).alloc (.cells #[.string ⟨#[]⟩, .int .i64 0, .int .i64 0, .slice none 0 0] 31))
  rw [HWA.out]
  go_upto_region 2 with fail
  try change Code.wp _ _ _ _ (wA.alloc (.cells #[.string (mkB c.name), .int .i64 c.params, .int .i64 c.slots, .slice none 0 0] 31))
  rw [HOB.out]
  rw [HWP.out]
  go_wp2_with fail
  go_loopw [4, 5, 6, 7, 8, 9] (fun i _ _ _ _ _ wr => ∃ (k : Nat) (ts : List BC) (vB : Value), k ≤ c.blocks.length ∧ i = .int .i64 k ∧ AsC c wA.heap.size ob k ts vB wr ∧ Below wA.heap.size wA wr) (fun i _ _ _ _ _ _ => c.blocks.length - (intOf i).toNat)
  case atStart => exact ⟨0, _, _, Nat.zero_le _, rfl, HAS0.out, HBP.out⟩
  case round =>
    obtain ⟨k, ts, vB, hk, rfl, has, hbel⟩ := hrel
    obtain ⟨wO, rfl⟩ : ∃ wO, wO = wr := ⟨wr, rfl⟩
    obtain ⟨⟨i0, i1, i2, i3⟩, hrr, hrd, hbw⟩ := HX.out wO hbel
    by_cases hlt : k < c.blocks.length
    · have hlt' : (k : Int) < (c.blocks.length : Int) := by omega
      obtain ⟨b, off, I, ic, N, nc, rfl, hB⟩ := hrd k hlt
      have hsm := HS.out _ (List.getElem_mem hlt)
      obtain ⟨x, hx⟩ : ∃ x, c.blocks[k] = x := ⟨_, rfl⟩
      rw [hx] at hB hsm
      obtain ⟨b0, b1, b2, b3, hI5, hN5⟩ := hB
      have hl25 := hsm.ins
      have hl4 := hsm.nx
      obtain ⟨q, hq⟩ : ∃ q, wO.heap.size = q := ⟨_, rfl⟩
      obtain ⟨wB, hwB⟩ : ∃ wB, wO.alloc (.cells #[.slice I x.ins.length ic, .string (mkB x.fin), .int .i64 x.a, .slice N x.nx.length nc] 59) = wB := ⟨_, rfl⟩
      have hbB : Below wO.heap.size wO wB := by rw [← hwB]; exact grow_alloc (grow_refl _) _
      have hmB : wB.heap[q]? = some (.cells #[.slice I x.ins.length ic, .string (mkB x.fin), .int .i64 x.a, .slice N x.nx.length nc] 59 (0, 0)) := by rw [← hwB, ← hq]; exact heap_alloc_new wO _
      have HNB : Hid (∀ w', Below wB.heap.size wB w' → Row w' N (intVs x.nx)) := fun w' hb => hN5.keep (Keeps.of_below (grow_trans hbB hb))
      have HI5 := Lib.hid hI5
      have HXX := Lib.hid hx
      have HAS := Lib.hid has
      have HBEL := Lib.hid hbel
      have HMB := Lib.hid hmB
      have HWB := Lib.hid hwB
      have HQ := Lib.hid hq
      have HBB := Lib.hid hbB
      have hqB : q < wB.heap.size := (Array.getElem?_eq_some_iff.1 hmB).1
      have hrB : wO.heap.size ≤ wB.heap.size := hbB.size
      have hrw : wA.heap.size ≤ wO.heap.size := hbel.size
      clear hwB hmB hbB hrd hrr hx hq hI5 hN5 has hbel hbw hsm
      go_upto_region 7 with fail
      try change Code.wp _ _ _ _ (wO.alloc (.cells #[.slice I x.ins.length ic, .string (mkB x.fin), .int .i64 x.a, .slice N x.nx.length nc] 59))
      rw [HQ.out]
      rw [HWB.out]
      clear b0 b1 b2 b3 i0 i1 i2 i3
      obtain ⟨b0, b1, b2, b3⟩ := row4A HMB.out
      go_cut [7] from 29 to 37 (fun p wx => ∃ (xb : Nat) (N2 : Option Addr) (nc2 : Nat), p = .pointer (some ⟨xb, 0, none⟩) ∧ AsX x wO.heap.size xb 0 (.slice none 0 0) N2 nc2 wx ∧ wO.heap.size ≤ xb ∧ Below wB.heap.size wB wx)
      case first =>
        go_region_held3 (fun w' => Below wB.heap.size wB w' ∧ w'.cell? ⟨q, 1, none⟩ = some (.string (mkB x.fin)) ∧ w'.cell? ⟨q, 2, none⟩ = some (.int .i64 x.a) ∧ w'.cell? ⟨q, 3, none⟩ = some (.slice N x.nx.length nc))
          (first
            | with_reducible exact ⟨grow_refl _, b1, b2, b3⟩
            | with_reducible exact ⟨drewA (grow_refl _), cellDrewA b1, cellDrewA b2, cellDrewA b3⟩
            | (go_split_ands
               refine ⟨?_, ?_, ?_, ?_⟩
               all_goals (first | with_reducible assumption | ((repeat (first | with_reducible refine drewA ?_ | with_reducible refine grow_alloc ?_ _)); (first | with_reducible assumption | with_reducible exact HJ.out.1 | with_reducible exact grow_refl _)) | ((repeat (first | with_reducible refine cellDrewA ?_ | with_reducible refine cellAllocA ?_)); (first | with_reducible assumption | with_reducible exact HJ.out.2.1 | with_reducible exact HJ.out.2.2.1 | with_reducible exact HJ.out.2.2.2)) | (with_reducible refine grow_trans ?_ hb7; with_reducible assumption) | (with_reducible refine cellBelowA hb7 ?_; with_reducible assumption) | (with_reducible refine put4A ?_ (by omega); (first | with_reducible assumption | with_reducible exact HJ.out.1 | with_reducible exact grow_refl _)) | (with_reducible refine put4cA (by dsimp only; omega) ?_; (first | with_reducible assumption | with_reducible exact HJ.out.2.1 | with_reducible exact HJ.out.2.2.1 | with_reducible exact HJ.out.2.2.2)))))
          (first
            | (refine step_append_intsO rfl _ _ rfl x.nx rfl N nc rfl (HNB.out _ (by first | assumption | (go_split_ands; assumption))) (by omega) ?_; intro A7 c7 w7 ho7 hr7 hb7; have HO7 := Lib.hid ho7; have hs7 : wB.heap.size ≤ w7.heap.size := (by first | exact hb7.size | exact Nat.le_trans (by show wB.heap.size ≤ (wB.alloc _).heap.size; simp) hb7.size); have HJ : Hid (Below wB.heap.size wB w7 ∧ w7.cell? ⟨q, 1, none⟩ = some (.string (mkB x.fin)) ∧ w7.cell? ⟨q, 2, none⟩ = some (.int .i64 x.a) ∧ w7.cell? ⟨q, 3, none⟩ = some (.slice N x.nx.length nc)) := show _ ∧ _ from (by go_split_ands; refine ⟨?_, ?_, ?_, ?_⟩; all_goals (first | (with_reducible refine grow_trans ?_ hb7; with_reducible assumption) | (with_reducible refine cellBelowA hb7 ?_; with_reducible assumption))); (first | (have hz := (allocBlkA (w := wB) (o := .cells #[.slice none 0 0, .string ⟨#[]⟩, .int .i64 0, .slice none 0 0] 55) (by rfl) hb7).trans (heap_alloc_new _ _); obtain ⟨e0, e1, e2, e3⟩ := row4A hz; have y0 := row_frozen hz 0; have y1 := row_frozen hz 1; have y2 := row_frozen hz 2; have y3 := row_frozen hz 3) | skip); clear ho7 hr7))
        all_goals go_wp2_with fail
        all_goals go_meet
        all_goals first
          | exact ⟨_, A7, c7, rfl, ⟨heap_alloc_new w7 _, World.ownsRow_nil _ _ _ _, (owns_mono HO7.out (by first | (show wO.heap.size ≤ wB.heap.size; omega) | (show wO.heap.size ≤ (wB.alloc _).heap.size; simp; omega))).alloc _⟩, (by omega), grow_alloc HJ.out.1 _⟩
          | exact ⟨_, A7, c7, rfl, ⟨set4A hz, World.ownsRow_nil _ _ _ _, own_same (owns_mono HO7.out (by first | (show wO.heap.size ≤ wB.heap.size; omega) | (show wO.heap.size ≤ (wB.alloc _).heap.size; simp; omega))) (fun j hj => far4A j (fun e => by subst e; exact own_else HO7.out hz (fun cs e4 => by injection e4 with _ e4 _; exact absurd e4 (by decide)) hj))⟩, (by omega), put4A HJ.out.1 (by omega)⟩
      case rest =>
        obtain ⟨xb, N2, nc2, rfl, hax, hxl, hb7⟩ := hcut
        obtain ⟨w7, hw7⟩ : ∃ w7, wc = w7 := ⟨_, rfl⟩
        rw [hw7] at hax hb7
        rw [hw7]
        have HAX := Lib.hid hax
        have HB7 := Lib.hid (grow_trans HBB.out hb7)
        have HB7B := Lib.hid hb7
        clear hw7 hax hb7
        go_wp2_with fail
        go_loopw [8, 9] (fun j _ wy => ∃ (k2 : Nat) (vI : Value), k2 ≤ x.ins.length ∧ j = .int .i64 k2 ∧ AsX x wO.heap.size xb k2 vI N2 nc2 wy ∧ Below wO.heap.size wO wy ∧ wy.heap[q]? = some (.cells #[.slice I x.ins.length ic, .string (mkB x.fin), .int .i64 x.a, .slice N x.nx.length nc] 59 (0, 0))) (fun j _ _ => x.ins.length - (intOf j).toNat)
        case atStart => exact ⟨0, _, Nat.zero_le _, rfl, HAX.out, HB7.out, (HB7B.out.block _ hqB).trans HMB.out⟩
        case round =>
          obtain ⟨k2, vI, hk2, rfl, hax, hby, hmq⟩ := hrel
          obtain ⟨b0, b1, b2, b3⟩ := row4A hmq
          by_cases hlt2 : k2 < x.ins.length
          · have hlt2' : (k2 : Int) < (x.ins.length : Int) := by omega
            obtain ⟨b5, off5, rfl, hL5⟩ := low_cells (HI5.out.keep (Keeps.of_below hby)) hlt2
            obtain ⟨n, hnn⟩ : ∃ n, x.ins[k2] = n := ⟨_, rfl⟩
            rw [hnn] at hL5
            obtain ⟨l0, l1, l2, l3, l4, l5⟩ := hL5
            obtain ⟨q2, hq2⟩ : ∃ q, wr.heap.size = q := ⟨_, rfl⟩
            obtain ⟨wN, hwN⟩ : ∃ wN, wr.alloc (.cells #[.string (mkB n.kind), .int .i64 n.d, .int .i64 n.a, .int .i64 n.b, .int .i64 n.num, .string (mkB n.name)] 60) = wN := ⟨_, rfl⟩
            have hbN : Below wr.heap.size wr wN := by rw [← hwN]; exact grow_alloc (grow_refl _) _
            have hmN : wN.heap[q2]? = some (.cells #[.string (mkB n.kind), .int .i64 n.d, .int .i64 n.a, .int .i64 n.b, .int .i64 n.num, .string (mkB n.name)] 60 (0, 0)) := by rw [← hwN, ← hq2]; exact heap_alloc_new wr _
            have haxN := hax.below hbN
            have hmqN := (hbN.block _ (Array.getElem?_eq_some_iff.1 hmq).1).trans hmq
            have hry : wO.heap.size ≤ wr.heap.size := hby.size
            have hbyN : Below wO.heap.size wO wN := hby.trans (hbN.mono hry)
            obtain ⟨AI, cI, rfl⟩ := own_slice haxN.ins
            obtain ⟨x0, x1, x2, x3⟩ := row4A haxN.blk
            have zx := row_frozen haxN.blk 0
            have HOWN : Hid (wN.ownsRow wO.heap.size 52 6 (.slice AI k2 cI) k2 ((x.ins.take k2).flatMap lowL)) := haxN.ins
            have HAXN := Lib.hid haxN
            have HBYN := Lib.hid hbyN
            have HMQN := Lib.hid hmqN
            have HNN := Lib.hid hnn
            have HMN := Lib.hid hmN
            have HWN := Lib.hid hwN
            have HQ3 := Lib.hid hq2
            have hsN : wO.heap.size ≤ wN.heap.size := hbyN.size
            have HQN : Hid (q < wN.heap.size) := (Array.getElem?_eq_some_iff.1 hmqN).1
            have hqN : q < wN.heap.size := HQN.out
            have hqx : q ≠ xb := fun e => by
              have h1 := haxN.blk
              rw [← e, hmqN] at h1
              injection h1 with h1
              injection h1 with _ h1 _
              exact absurd h1 (by decide)
            clear hwN hmN hbN hax hby hmq hmqN hbyN hnn hq2 haxN
            go_upto_region 12 with fail
            try change Code.wp _ _ _ _ (wr.alloc (.cells #[.string (mkB n.kind), .int .i64 n.d, .int .i64 n.a, .int .i64 n.b, .int .i64 n.num, .string (mkB n.name)] 60))
            rw [HQ3.out]
            rw [HWN.out]
            clear l0 l1 l2 l3 l4 l5
            obtain ⟨l0, l1, l2, l3, l4, l5⟩ := row6A HMN.out
            go_wp2_with (at_builtin; (refine wpList_append_own_at _ rfl (.tmp 51) (.tmp 65) 53 rfl wO.heap.size 52 li _ 6 64 Tryd.underlying53 hli lz0 lz1 lz2 rfl (by decide) _ k2 ((x.ins.take k2).flatMap lowL) rfl (HOWN.out.alloc _) ⟨wN.heap.size, 0, none⟩ 1 1 (lowL n) rfl rfl (World.news_of_block (heap_alloc_new wN _)) (fun u hu => by unfold lowL at hu; simp only [List.mem_cons, List.not_mem_nil, or_false] at hu; rcases hu with rfl | rfl | rfl | rfl | rfl | rfl <;> rfl) (by unfold maxLen; omega) (by omega) (by simp; omega) ?_; intro v' w9 hown' hgrow _ hat; obtain ⟨A9, a9, rfl⟩ := own_slice hown'; obtain ⟨j1, j2, j3⟩ := HAXN.out.next hlt2 hxl (by rw [HNN.out]; exact hown') hgrow; obtain ⟨x0, x1, x2, x3⟩ := row4A (j1.trans HAXN.out.blk); have zx := row_frozen (j1.trans HAXN.out.blk) 0; have H2 := Lib.hid j2; have H3 := Lib.hid j3; have HG := Lib.hid hgrow; clear j1 j2 j3 hown' hgrow hat))
            go_roundw
            case rel =>
              refine ⟨k2 + 1, _, by omega, by go_num, H2.out, HBYN.out.trans H3.out, ?_⟩
              refine (Below.heap_setCell _ _ _ _ hqx).trans ?_
              rw [HG.out.block q (by simp; omega) (fun e => own_else HAXN.out.ins HMQN.out (fun cs e4 => by injection e4 with _ e4 _; exact absurd e4 (by decide)) e.symm)]
              exact (old_block _ _ HQN.out).trans HMQN.out
            case measure => simp [intOf]; omega
          · have hk2' : k2 = x.ins.length := by omega
            subst hk2'
            have hasY := HAS.out.below hby
            obtain ⟨AI, cI, rfl⟩ := own_slice hax.ins
            have hins := hax.ins
            rw [List.take_length] at hins
            have hok : BC.Ok wr wA.heap.size ⟨x, AI, cI, N2, nc2⟩ := ⟨owns_mono hins hrw, owns_mono hax.nx hrw⟩
            obtain ⟨AB, cB, rfl⟩ := own_slice hasY.own
            obtain ⟨x0, x1, x2, x3⟩ := row4A hax.blk
            obtain ⟨o0, o1, o2, o3⟩ := row4A hasY.blk
            have zo := row_frozen hasY.blk 3
            have hry : wO.heap.size ≤ wr.heap.size := hby.size
            have HBY := Lib.hid (HBEL.out.trans (hby.mono hrw))
            have HASY := Lib.hid hasY
            have HOK := Lib.hid hok
            have HOWN : Hid (wr.ownsRow wA.heap.size 55 4 (.slice AB k cB) k (ts.flatMap BC.cells)) := hasY.own
            have hsA : wA.heap.size ≤ wr.heap.size := by omega
            clear hasY hok hins hax hby hmq
            go_wp2_with (at_builtin; (refine wpList_append_own_at _ rfl (.tmp 69) (.tmp 71) 29 rfl wA.heap.size 55 bi _ 4 72 Tryd.underlying29 hbi bz0 bz1 bz2 rfl (by decide) _ k (ts.flatMap BC.cells) rfl (HOWN.out.alloc _) ⟨wr.heap.size, 0, none⟩ 1 1 (BC.cells ⟨x, AI, cI, N2, nc2⟩) rfl rfl (World.news_of_block (heap_alloc_new wr _)) (fun u hu => by unfold BC.cells blkL at hu; simp only [List.mem_cons, List.not_mem_nil, or_false] at hu; rcases hu with rfl | rfl | rfl | rfl <;> rfl) (by unfold maxLen; omega) (by omega) (by simp; omega) ?_; intro v' w9 hown' hgrow _ hat; obtain ⟨A9, a9, rfl⟩ := own_slice hown'; obtain ⟨j1, j2, j3⟩ := HASY.out.next hlt hobl HXX.out.symm HOK.out hown' hgrow; obtain ⟨o0, o1, o2, o3⟩ := row4A (j1.trans HASY.out.blk); have zo := row_frozen (j1.trans HASY.out.blk) 3; have H2 := Lib.hid j2; have H3 := Lib.hid j3; clear j1 j2 j3 hown' hgrow hat))
            go_roundw
            case rel => exact ⟨k + 1, _, _, by omega, by go_num, H2.out, HBY.out.trans H3.out⟩
            case measure => simp [intOf]; omega
    · have hk' : k = c.blocks.length := by omega
      subst hk'
      obtain ⟨AB, cB, rfl⟩ := own_slice has.own
      obtain ⟨o0, o1, o2, o3⟩ := row4A has.blk
      obtain ⟨s0, s1, s2, s3⟩ := row4A hrr
      have y0 := row_frozen hrr 0
      have y1 := row_frozen hrr 1
      have y2 := row_frozen hrr 2
      have y3 := row_frozen hrr 3
      have HAS := Lib.hid has
      have HRR := Lib.hid hrr
      have HBW := Lib.hid hbw
      clear has hrr hrd hbel hbw
      go_wp2_with fail
      obtain ⟨u0, u1, u2, u3⟩ := row4A (set4A (v0 := .string (mkB c.name)) (v1 := .int .i64 c.params) (v2 := .int .i64 c.slots) (v3 := .slice AB c.blocks.length cB) HRR.out)
      refine bodyPost_ret (v := .agg #[.string (mkB c.name), .int .i64 c.params, .int .i64 c.slots, .slice AB c.blocks.length cB]) (by simp [results, Tryd.results7, go_sem, u0, u1, u2, u3]; try rfl) rfl ?_
      obtain ⟨A9, c9, e9, hle, hrd⟩ := (HAS.out.high hobl (w' := ((((wO.setCell ⟨w.heap.size + 1, 0, none⟩ (.string (mkB c.name))).setCell ⟨w.heap.size + 1, 1, none⟩ (.int .i64 c.params)).setCell ⟨w.heap.size + 1, 2, none⟩ (.int .i64 c.slots)).setCell ⟨w.heap.size + 1, 3, none⟩ (.slice AB c.blocks.length cB))) (fun j hj => far4A j (by omega))).read
      injection e9 with e91 _ e92
      subst e91; subst e92
      exact ⟨_, _, rfl, hle, hrd, put4A HBW.out (by omega)⟩
end Go.Proofs.YtpmpeihcdiohmaaDoor
