import Derived.Deep.CutRange
import Derived.Deep.CutBlock
import Derived.Test.YtdilakpipbkokaaDoorBn30
import Derived.Test.YtdilakpipbkokaaDoorBn20
set_option linter.unusedVariables false
set_option linter.unusedSimpArgs false
namespace Go.Proofs.YtdilakpipbkokaaDoor
open Go.RowKit

/-! the document's look at a block (printed by gen_plr2.py) -/
def blkE (c : PCo) (b : PBk) : Nat := if !bkKinds b then 4 else if !bkBounds c b then 2 else if !bkShapes c b then 3 else 0
theorem all_take {α : Type} {P : α → Bool} {l : List α} {k : Nat} (h : k < l.length) : (l.take (k + 1)).all P = ((l.take k).all P && P l[k]) := by
  rw [List.take_succ_eq_append_getElem h, List.all_append]; simp
theorem quiet_sm {f : FuncId} {a : Array Value} {w : World} {v : Value} (h : Calls Tryd.prog f a w (Sm v w)) : Calls Tryd.prog f a w (Quiet v w) := h.mono fun _ _ h => ⟨h.1, 0, h.2⟩
set_option maxRecDepth 100000 in
set_option maxHeartbeats 16000000 in
theorem blockError_any (c : PCo) (A : Option Addr) (ca : Nat) (b : PBk) (hs : PSm b) (P : Option Addr) (p : Nat) (I : Option Addr) (i : Nat) (T : Option Addr) (t : Nat) (W : Option Addr) (wc : Nat) (w : World) (hr : BkRows w b P I T W) (hA : RdP w c.blocks A) :
    Calls Tryd.prog 17 #[coV c A ca, bkV b P p I i T t W wc] w (Ret (.int .i64 (blkE c b : Nat)) w) := by
  obtain ⟨cb, hcb⟩ : ∃ cb, w.heap.size = cb := ⟨_, rfl⟩
  obtain ⟨bb, hbb⟩ : ∃ bb, cb + 1 = bb := ⟨_, rfl⟩
  obtain ⟨wB, hwB⟩ : ∃ wB, (w.alloc (.cells #[.string (mkB c.name), .int .i64 c.params, .int .i64 c.values, .slice A c.blocks.length ca] 24)).alloc (.cells #[.slice P b.params.length p, .slice I b.ins.length i, .string (mkB b.fin), .int .i64 b.v, .slice T b.nx.length t, .slice W b.wth.length wc] 60) = wB := ⟨_, rfl⟩
  have hbB : Below w.heap.size w wB := by rw [← hwB]; exact grow_alloc (grow_alloc (grow_refl _) _) _
  have m0 : wB.heap[cb]? = some (.cells #[.string (mkB c.name), .int .i64 c.params, .int .i64 c.values, .slice A c.blocks.length ca] 24 (0, 0)) := by
    rw [← hwB, ← hcb]
    exact (old_block _ _ (by simp)).trans (heap_alloc_new w _)
  have m1 : wB.heap[bb]? = some (.cells #[.slice P b.params.length p, .slice I b.ins.length i, .string (mkB b.fin), .int .i64 b.v, .slice T b.nx.length t, .slice W b.wth.length wc] 60 (0, 0)) := by
    rw [← hwB, ← hbb, ← hcb]
    exact new_block _ _ (by simp)
  have HX : Hid (∀ w', Below wB.heap.size wB w' → (w'.cell? ⟨cb, 0, none⟩ = some (.string (mkB c.name)) ∧ w'.cell? ⟨cb, 1, none⟩ = some (.int .i64 c.params) ∧ w'.cell? ⟨cb, 2, none⟩ = some (.int .i64 c.values) ∧ w'.cell? ⟨cb, 3, none⟩ = some (.slice A c.blocks.length ca)) ∧ (w'.cell? ⟨bb, 0, none⟩ = some (.slice P b.params.length p) ∧ w'.cell? ⟨bb, 1, none⟩ = some (.slice I b.ins.length i) ∧ w'.cell? ⟨bb, 2, none⟩ = some (.string (mkB b.fin)) ∧ w'.cell? ⟨bb, 3, none⟩ = some (.int .i64 b.v) ∧ w'.cell? ⟨bb, 4, none⟩ = some (.slice T b.nx.length t) ∧ w'.cell? ⟨bb, 5, none⟩ = some (.slice W b.wth.length wc)) ∧ BkRows w' b P I T W ∧ RdP w' c.blocks A ∧ Below w.heap.size w w') := fun w' hb =>
    have f := fun {k : Nat} {o : Obj} (h : wB.heap[k]? = some o) => (hb.block k (Array.getElem?_eq_some_iff.1 h).1).trans h
    ⟨row4B (f m0), row6B (f m1), hr.keep (Keeps.of_below (grow_trans hbB hb)), hA.keep (Keeps.of_below (grow_trans hbB hb)), grow_trans hbB hb⟩
  have hl20 := hs.ins
  have hn4 := hs.nx
  have hw4 := hs.wth
  have HS := Lib.hid hs
  obtain ⟨⟨i0, i1, i2, i3⟩, ⟨b0, b1, b2, b3, b4, b5⟩, hR, -, -⟩ := HX.out wB (grow_refl _)
  obtain ⟨en, hen⟩ : ∃ z, endN b.fin = z := ⟨_, rfl⟩
  obtain ⟨jp, hjp⟩ : ∃ z, (b.fin == eJump) = z := ⟨_, rfl⟩
  have HEN := Lib.hid hen
  have e1 : ((mkB b.fin).toList == [106, 117, 109, 112]) = (b.fin == eJump) := by rw [mkB_eq]; rfl
  have e2 : ((mkB b.fin).toList == [105, 102]) = (b.fin == eIf) := by rw [mkB_eq]; rfl
  have e3 : ((mkB b.fin).toList == [114, 101, 116, 117, 114, 110]) = (b.fin == eReturn) := by rw [mkB_eq]; rfl
  have HJP := Lib.hid hjp
  have HAI : Hid (∀ (l : List Int) (Z : Option Addr) (z : Nat) (most : Int) (w' : World), l.length ≤ 100000 → Row w' Z (intVs l) → Calls Tryd.prog 28 #[.slice Z l.length z, .int .i64 most] w' (Sm (.bool (inR most l)) w')) := fun l Z z most w' hl hz => allIn_any l hl Z z most w' hz
  have HIK : Hid (∀ (x : PIn) (A5 : Option Addr) (c5 : Nat) (w' : World), Calls Tryd.prog 27 #[inV x A5 c5] w' (Ret (.bool (inKnown x)) w')) := insKind_any
  have HIS : Hid (∀ (x : PIn) (A5 : Option Addr) (c5 : Nat) (w' : World), kindW x.kind ≠ 0 → Calls Tryd.prog 29 #[inV x A5 c5] w' (Ret (.bool (inShape x)) w')) := fun x A5 c5 w' h => insShape_any x h A5 c5 w'
  have HMV : Hid (∀ k w', Calls Tryd.prog 18 #[.string (mkB k)] w' fun e w'' => e = .returned (.bool (madeW k)) ∧ w'' = w') := makesV_any
  have HEQ : Hid (blkE c b = if !bkKinds b then 4 else if !bkBounds c b then 2 else if !bkShapes c b then 3 else 0) := show _ = _ from rfl
  have HKE : Hid (bkKinds b = (b.ins.all inKnown && decide (0 ≤ en))) := show _ = _ by rw [← hen]; rfl
  have HWB := Lib.hid hwB
  have HCB := Lib.hid hcb
  have HBB := Lib.hid hbb
  unfold coV bkV
  clear hr hs hwB hbB m0 m1 hcb hbb hen hjp hR hA
  go_enter Tryd.func17, Tryd.ntmps17
  go_upto_region 1 with fail
  change Code.wp _ _ _ _ ((w.alloc (.cells #[.string (mkB c.name), .int .i64 c.params, .int .i64 c.values, .slice A c.blocks.length ca] 24)).alloc (.cells #[.slice P b.params.length p, .slice I b.ins.length i, .string (mkB b.fin), .int .i64 b.v, .slice T b.nx.length t, .slice W b.wth.length wc] 60))
  rw [HWB.out, HCB.out, HBB.out]
  go_wp2_with fail
  -- kinds
  go_loopw [5, 6] (fun k _ wr => ∃ n : Nat, n ≤ b.ins.length ∧ k = .int .i64 n ∧ b.ins.all inKnown = (b.ins.drop n).all inKnown ∧ Below wB.heap.size wB wr) (fun k _ _ => b.ins.length - (intOf k).toNat)
  case atStart => exact ⟨0, Nat.zero_le _, rfl, rfl, grow_refl _⟩
  case round =>
    obtain ⟨n, hn, rfl, hI, hbel⟩ := hrel
    have HI := Lib.hid hI
    clear hI
    clear i0 i1 i2 i3 b0 b1 b2 b3 b4 b5
    obtain ⟨⟨i0, i1, i2, i3⟩, ⟨b0, b1, b2, b3, b4, b5⟩, hR, -, -⟩ := HX.out wr hbel
    by_cases hlt : n < b.ins.length
    · have hlt' : (n : Int) < (b.ins.length : Int) := by omega
      have hn0 : (0 : Int) ≤ (n : Int) := by omega
      obtain ⟨b9, off, A5, c5, rfl, hx⟩ := ins_at hR.ins hlt
      have HD := Lib.hid (all_dropP (P := inKnown) hlt)
      obtain ⟨x, hxe⟩ : ∃ x, b.ins[n] = x := ⟨_, rfl⟩
      rw [hxe] at hx HD
      obtain ⟨c0, c1, c2, c3, c4, hrow⟩ := hx
      have hk0 := HIK.out x A5 c5 wr
      obtain ⟨z, hz⟩ : ∃ z, inKnown x = z := ⟨_, rfl⟩
      rw [hz] at hk0 HD
      unfold inV at hk0
      have HC := Lib.hid hk0
      clear hk0 hz hxe hrow hR
      cases z
      · have HF : Hid (blkE c b = 4) := show _ = _ by rw [HEQ.out, HKE.out, HI.out, HD.out]; rfl
        go_wp2_with (go_at_call 27; (with_reducible refine HC.out.mono ?_); rintro y w1 ⟨rfl, hb1⟩)
        go_ret
        exact ⟨by rw [HF.out]; rfl, (HX.out _ (grow_trans hbel hb1)).2.2.2.2⟩
      · have HF : Hid (b.ins.all inKnown = (b.ins.drop (n + 1)).all inKnown) := show _ = _ by rw [HI.out, HD.out]; rfl
        go_wp2_with (go_at_call 27; (with_reducible refine HC.out.mono ?_); rintro y w1 ⟨rfl, hb1⟩)
        go_roundw
        case rel => exact ⟨n + 1, by omega, by go_num, HF.out, grow_trans hbel hb1⟩
        case measure => simp [intOf]; omega
    · have hn' : n = b.ins.length := by omega
      have HKN : Hid (b.ins.all inKnown = true) := show _ = _ by rw [HI.out, hn', List.drop_length]; rfl
      subst hn'
      clear HI hlt
      go_upto_region 7 with fail
      go_upto_block 2 with fail
      go_cut [7] from 31 to 38 (fun v wx => v = .int .i64 en ∧ wr = wx)
      case first =>
        have HE9 : Hid (endN b.fin = if (b.fin == eJump) = true then 1 else if (b.fin == eIf) = true then 2 else if (b.fin == eReturn) = true then 0 else -1) := show _ = _ from rfl
        rw [HEN.out] at HE9
        cases f1 : (b.fin == eJump)
        · rw [f1] at e1 HE9
          cases f2 : (b.fin == eIf)
          · rw [f2] at e2 HE9
            cases f3 : (b.fin == eReturn)
            · rw [f3] at e3 HE9
              go_wp2_with fail
              go_meet
              exact ⟨by rw [HE9.out]; rfl, rfl⟩
            · rw [f3] at e3 HE9
              go_wp2_with fail
              go_meet
              exact ⟨by rw [HE9.out]; rfl, rfl⟩
          · rw [f2] at e2 HE9
            go_wp2_with fail
            go_meet
            exact ⟨by rw [HE9.out]; rfl, rfl⟩
        · rw [f1] at e1 HE9
          go_wp2_with fail
          go_meet
          exact ⟨by rw [HE9.out]; rfl, rfl⟩
      case rest =>
        obtain ⟨rfl, rfl⟩ := hcut
        rw [HJP.out] at e1
        have e1' : ((mkB b.fin).toList != [106, 117, 109, 112]) = !jp := by unfold bne; rw [e1]
        clear e2 e3
        rcases Classical.em (en < 0) with fe | fe
        · have HF : Hid (blkE c b = 4) := show _ = _ by rw [HEQ.out, HKE.out, HKN.out, show decide (0 ≤ en) = false by simp; omega]; rfl
          clear hR
          go_wp2_with fail
          go_ret
          exact ⟨by rw [HF.out]; rfl, (HX.out _ hbel).2.2.2.2⟩
        · have HKT : Hid (bkKinds b = true) := show _ = _ by rw [HKE.out, HKN.out, show decide (0 ≤ en) = true by simp; omega]; rfl
          have hfe : (0 : Int) ≤ en := by omega
          have HFE : Hid (0 ≤ en) := hfe
          -- bounds: what is no loop's
          go_upto_region 17 with fail
          obtain ⟨z1, hz1⟩ : ∃ z, inR c.values b.params = z := ⟨_, rfl⟩
          obtain ⟨z2, hz2⟩ : ∃ z, inR c.blocks.length b.nx = z := ⟨_, rfl⟩
          obtain ⟨z3, hz3⟩ : ∃ z, okV c b.v = z := ⟨_, rfl⟩
          obtain ⟨zz, hzz⟩ : ∃ z, (z1 && (z2 && (jp || z3))) = z := ⟨_, rfl⟩
          have hp0 := HAI.out b.params P p c.values wr (by have := HS.out.params; omega) hR.params
          have hx0 := HAI.out b.nx T t c.blocks.length wr (by omega) hR.nx
          rw [hz1] at hp0
          rw [hz2] at hx0
          have HP0 := Lib.hid hp0
          have HX0 := Lib.hid hx0
          have HBE : Hid (bkBounds c b = (zz && (b.wth.all (okVs c) && b.ins.all (inBound c)))) := show _ = _ by
            rw [bkBounds_eq]
            unfold bkLast
            rw [← inR_okVs, hz1, hz3, HJP.out, show (!farTo c.blocks.length b.nx) = z2 by rw [← inR_far, hz2], ← hzz]
            cases z1 <;> cases z2 <;> cases jp <;> cases z3 <;> cases b.wth.all (okVs c) <;> cases b.ins.all (inBound c) <;> rfl
          have HZ3 : Hid ((decide (0 ≤ b.v) && decide (b.v < c.values)) = z3) := show _ = _ from hz3
          have HZZ := Lib.hid hzz
          clear hp0 hx0 hz1 hz2 hz3 hzz
          go_cut [8] from 41 to 53 (fun v wx => v = .bool (z1 && z2) ∧ wr = wx)
          case first =>
            cases z1
            · go_wp2_with (go_at_call 28; first | ((with_reducible refine HP0.out.mono ?_); rintro y w1 ⟨rfl, rfl⟩) | ((with_reducible refine HX0.out.mono ?_); rintro y w1 ⟨rfl, rfl⟩))
              go_meet
              exact ⟨rfl, rfl⟩
            · go_wp2_with (go_at_call 28; first | ((with_reducible refine HP0.out.mono ?_); rintro y w1 ⟨rfl, rfl⟩) | ((with_reducible refine HX0.out.mono ?_); rintro y w1 ⟨rfl, rfl⟩))
              go_meet
              exact ⟨by cases z2 <;> rfl, rfl⟩
          case rest =>
            obtain ⟨rfl, rfl⟩ := hcut
            go_upto_region 18 with fail
            go_cut [68] from 54 to 68 (fun v wx => v = .bool (!jp && !z3) ∧ wr = wx)
            case first =>
              cases jp
              · rcases Classical.em (b.v < 0) with f1 | f1
                · have hz3 : z3 = false := by rw [← HZ3.out]; simp; omega
                  go_wp2_with fail
                  go_meet
                  exact ⟨by rw [hz3]; rfl, rfl⟩
                · rcases Classical.em (c.values ≤ b.v) with f2 | f2
                  · have hz3 : z3 = false := by rw [← HZ3.out]; simp; omega
                    go_wp2_with fail
                    go_meet
                    exact ⟨by rw [hz3]; rfl, rfl⟩
                  · have hz3 : z3 = true := by rw [← HZ3.out]; simp; omega
                    go_wp2_with fail
                    go_meet
                    exact ⟨by rw [hz3]; rfl, rfl⟩
              · go_wp2_with fail
                go_meet
                exact ⟨rfl, rfl⟩
            case rest =>
              obtain ⟨rfl, rfl⟩ := hcut
              obtain ⟨zb, hzb⟩ : ∃ z, (!jp && !z3) = z := ⟨_, rfl⟩
              obtain ⟨zc, hzc⟩ : ∃ z, (z1 && z2) = z := ⟨_, rfl⟩
              have HZQ : Hid (zz = (zc && !zb)) := show _ = _ by rw [← HZZ.out, ← hzb, ← hzc]; cases z1 <;> cases z2 <;> cases jp <;> cases z3 <;> rfl
              rw [hzb, hzc]
              clear hzb hzc
              go_upto_if 68 with fail
              go_cut [8] from 68 to 68 (fun v wx => v = .bool zz ∧ wr = wx)
              case first =>
                cases zb
                · go_wp2_with fail
                  go_meet
                  exact ⟨by rw [HZQ.out]; cases zc <;> rfl, rfl⟩
                · go_wp2_with fail
                  go_meet
                  exact ⟨by rw [HZQ.out]; cases zc <;> rfl, rfl⟩
              case rest =>
                obtain ⟨rfl, rfl⟩ := hcut
                clear hR
                go_wp2_with fail
                -- bounds: with
                go_loopw [8, 9] (fun v k wy => ∃ n : Nat, n ≤ b.wth.length ∧ k = .int .i64 n ∧ v = .bool (zz && (b.wth.take n).all (okVs c)) ∧ Below wB.heap.size wB wy) (fun _ k _ => b.wth.length - (intOf k).toNat)
                case atStart => exact ⟨0, Nat.zero_le _, rfl, by cases zz <;> rfl, hbel⟩
                case round =>
                  obtain ⟨n, hn, rfl, rfl, hbel⟩ := hrel
                  clear i0 i1 i2 i3 b0 b1 b2 b3 b4 b5
                  obtain ⟨⟨i0, i1, i2, i3⟩, ⟨b0, b1, b2, b3, b4, b5⟩, hR, -, -⟩ := HX.out wr hbel
                  by_cases hlt : n < b.wth.length
                  · have hlt' : (n : Int) < (b.wth.length : Int) := by omega
                    have hn0 : (0 : Int) ≤ (n : Int) := by omega
                    obtain ⟨b9, off, A5, c5, rfl, hx, hrow⟩ := wth_at hR.wth hlt
                    have hargs : (b.wth[n]).length ≤ 100000 := by have := HS.out.wths _ (List.getElem_mem hlt); omega
                    have HD := Lib.hid (all_take (P := okVs c) hlt)
                    obtain ⟨x, hxe⟩ : ∃ x, b.wth[n] = x := ⟨_, rfl⟩
                    rw [hxe] at hx hrow hargs HD
                    obtain ⟨zt, hzt⟩ : ∃ z, (zz && (b.wth.take n).all (okVs c)) = z := ⟨_, rfl⟩
                    obtain ⟨va, hva⟩ : ∃ z, okVs c x = z := ⟨_, rfl⟩
                    have HA : Hid (∀ j9, Calls Tryd.prog 28 #[.slice A5 x.length c5, .int .i64 c.values] (wr.drewN j9) (Quiet (.bool va) (wr.drewN j9))) := fun j9 => by
                      have h9 := HAI.out x A5 c5 c.values (wr.drewN j9) hargs (hrow.keep (Keeps.of_below (below_drewN (Below.refl _ _) j9)))
                      rw [inR_okVs, hva] at h9
                      exact quiet_sm h9
                    have HZT : Hid ((zz && (b.wth.take (n + 1)).all (okVs c)) = (zt && va)) := show _ = _ by rw [HD.out, hva, ← hzt, Bool.and_assoc]
                    rw [hzt]
                    clear hzt hva hR hxe hargs hrow
                    cases zt
                    · go_upto_region 23 with fail
                      go_quiet (fail)
                      go_wp2_with fail
                      go_roundw
                      case rel => exact ⟨n + 1, by omega, by go_num, by rw [HZT.out]; rfl, grow_drew hbel _⟩
                      case measure => simp [intOf]; omega
                    · go_upto_region 23 with fail
                      go_quiet ((go_at_call 28; exact Calls.quiet_of (HA.out _)))
                      go_wp2_with fail
                      go_roundw
                      case rel => exact ⟨n + 1, by omega, by go_num, by rw [HZT.out]; cases va <;> rfl, grow_drew hbel _⟩
                      case measure => simp [intOf]; omega
                  · have hn' : n = b.wth.length := by omega
                    subst hn'
                    rw [List.take_length]
                    obtain ⟨zw, hzw⟩ : ∃ z, (zz && b.wth.all (okVs c)) = z := ⟨_, rfl⟩
                    have HBW : Hid (bkBounds c b = (zw && b.ins.all (inBound c))) := show _ = _ by rw [HBE.out, ← hzw, Bool.and_assoc]
                    rw [hzw]
                    clear hzw hR hlt
                    go_wp2_with fail
                    -- bounds: instructions
                    go_loopw [8, 10, 11, 12] (fun v k _ _ wy => ∃ n : Nat, n ≤ b.ins.length ∧ k = .int .i64 n ∧ v = .bool (zw && (b.ins.take n).all (inBound c)) ∧ Below wB.heap.size wB wy) (fun _ k _ _ _ => b.ins.length - (intOf k).toNat)
                    case atStart => exact ⟨0, Nat.zero_le _, rfl, by cases zw <;> rfl, hbel⟩
                    case round =>
                      obtain ⟨n, hn, rfl, rfl, hbel⟩ := hrel
                      clear i0 i1 i2 i3 b0 b1 b2 b3 b4 b5
                      obtain ⟨⟨i0, i1, i2, i3⟩, ⟨b0, b1, b2, b3, b4, b5⟩, hR, -, -⟩ := HX.out wr hbel
                      by_cases hlt : n < b.ins.length
                      · have hlt' : (n : Int) < (b.ins.length : Int) := by omega
                        have hn0 : (0 : Int) ≤ (n : Int) := by omega
                        obtain ⟨b9, off, A5, c5, rfl, hx⟩ := ins_at hR.ins hlt
                        have hargs : (b.ins[n]).args.length ≤ 100000 := by have := (HS.out.each _ (List.getElem_mem hlt)).1; omega
                        have HD := Lib.hid (all_take (P := inBound c) hlt)
                        obtain ⟨x, hxe⟩ : ∃ x, b.ins[n] = x := ⟨_, rfl⟩
                        rw [hxe] at hx hargs HD
                        obtain ⟨c0, c1, c2, c3, c4, hrow⟩ := hx
                        obtain ⟨q, hq⟩ : ∃ q, wr.heap.size = q := ⟨_, rfl⟩
                        obtain ⟨wL, hwL⟩ : ∃ wL, wr.alloc (.cells #[.string (mkB x.kind), .int .i64 x.d, .slice A5 x.args.length c5, .int .i64 x.num, .string (mkB x.name)] 61) = wL := ⟨_, rfl⟩
                        have hbL : Below wr.heap.size wr wL := by rw [← hwL]; exact grow_alloc (grow_refl _) _
                        have mL : wL.heap[q]? = some (.cells #[.string (mkB x.kind), .int .i64 x.d, .slice A5 x.args.length c5, .int .i64 x.num, .string (mkB x.name)] 61 (0, 0)) := by rw [← hwL, ← hq]; exact heap_alloc_new wr _
                        obtain ⟨zt, hzt⟩ : ∃ z, (zw && (b.ins.take n).all (inBound c)) = z := ⟨_, rfl⟩
                        obtain ⟨va, hva⟩ : ∃ z, okVs c x.args = z := ⟨_, rfl⟩
                        obtain ⟨vm, hvm⟩ : ∃ z, madeW x.kind = z := ⟨_, rfl⟩
                        obtain ⟨vd, hvd⟩ : ∃ z, okV c x.d = z := ⟨_, rfl⟩
                        obtain ⟨vk, hvk⟩ : ∃ z, (x.kind == kParam) = z := ⟨_, rfl⟩
                        have ek : ((mkB x.kind).toList == [112, 97, 114, 97, 109]) = vk := by rw [mkB_eq, ← hvk]; rfl
                        have ha0 := HAI.out x.args A5 c5 c.values wL hargs (hrow.keep (Keeps.of_below hbL))
                        rw [inR_okVs, hva] at ha0
                        have hm0 := HMV.out x.kind wL
                        rw [hvm] at hm0
                        have HIB : Hid (inBound c x = (va && ((!vm || vd) && (!vk || (decide (0 ≤ x.num) && decide (x.num < c.params)))))) := show _ = _ by rw [inBound_eq, hva, hvm, hvd, hvk]
                        have HVD : Hid ((decide (0 ≤ x.d) && decide (x.d < c.values)) = vd) := show _ = _ from hvd
                        have HZT : Hid ((zw && (b.ins.take (n + 1)).all (inBound c)) = (zt && inBound c x)) := show _ = _ by rw [HD.out, ← hzt, Bool.and_assoc]
                        have HA := Lib.hid ha0
                        have HM := Lib.hid hm0
                        have HBEL := Lib.hid (grow_trans hbel hbL)
                        have HWL := Lib.hid hwL
                        have HQ := Lib.hid hq
                        have HML := Lib.hid mL
                        rw [hzt]
                        clear hzt hva hvm hvd hvk hR hxe hargs hrow hq hwL mL hbL ha0 hm0
                        go_upto_region 28 with fail
                        try change Code.wp _ _ _ _ (wr.alloc (.cells #[.string (mkB x.kind), .int .i64 x.d, .slice A5 x.args.length c5, .int .i64 x.num, .string (mkB x.name)] 61))
                        rw [HQ.out, HWL.out]
                        clear c0 c1 c2 c3 c4
                        clear i0 i1 i2 i3 b0 b1 b2 b3 b4 b5
                        obtain ⟨c0, c1, c2, c3, c4⟩ := row5B HML.out
                        obtain ⟨⟨i0, i1, i2, i3⟩, ⟨b0, b1, b2, b3, b4, b5⟩, -, -, -⟩ := HX.out wL HBEL.out
                        go_cut [8] from 99 to 106 (fun v wx => v = .bool (zt && va) ∧ wL = wx)
                        case first =>
                          cases zt
                          · go_wp2_with fail
                            go_meet
                            exact ⟨rfl, rfl⟩
                          · go_wp2_with (go_at_call 28; (with_reducible refine HA.out.mono ?_); rintro y w1 ⟨rfl, rfl⟩)
                            go_meet
                            exact ⟨by cases va <;> rfl, rfl⟩
                        case rest =>
                          obtain ⟨rfl, rfl⟩ := hcut
                          obtain ⟨zu, hzu⟩ : ∃ z, (zt && va) = z := ⟨_, rfl⟩
                          have HZU : Hid ((zw && (b.ins.take (n + 1)).all (inBound c)) = (zu && ((!vm || vd) && (!vk || (decide (0 ≤ x.num) && decide (x.num < c.params)))))) := show _ = _ by rw [HZT.out, HIB.out, ← hzu, Bool.and_assoc]
                          rw [hzu]
                          clear hzu
                          cases vm
                          · cases vk
                            · have HF : Hid ((zw && (b.ins.take (n + 1)).all (inBound c)) = zu) := show _ = _ by rw [HZU.out]; simp [*]
                              clear HZU HZT HIB HD
                              go_wp2_with (go_at_call 18; (with_reducible refine HM.out.mono ?_); rintro y w1 ⟨rfl, rfl⟩)
                              go_roundw
                              case rel => exact ⟨n + 1, by omega, by go_num, by rw [HF.out], HBEL.out⟩
                              case measure => simp [intOf]; omega
                            · rcases Classical.em (x.num < 0) with f3 | f3
                              · have f3' : ¬ 0 ≤ x.num := by omega
                                have HF : Hid ((zw && (b.ins.take (n + 1)).all (inBound c)) = false) := show _ = _ by rw [HZU.out]; simp [*]
                                clear HZU HZT HIB HD
                                go_wp2_with (go_at_call 18; (with_reducible refine HM.out.mono ?_); rintro y w1 ⟨rfl, rfl⟩)
                                go_roundw
                                case rel => exact ⟨n + 1, by omega, by go_num, by rw [HF.out], HBEL.out⟩
                                case measure => simp [intOf]; omega
                              · have f3' : 0 ≤ x.num := by omega
                                rcases Classical.em (c.params ≤ x.num) with f4 | f4
                                · have f4' : ¬ x.num < c.params := by omega
                                  have HF : Hid ((zw && (b.ins.take (n + 1)).all (inBound c)) = false) := show _ = _ by rw [HZU.out]; simp [*]
                                  clear HZU HZT HIB HD
                                  go_wp2_with (go_at_call 18; (with_reducible refine HM.out.mono ?_); rintro y w1 ⟨rfl, rfl⟩)
                                  go_roundw
                                  case rel => exact ⟨n + 1, by omega, by go_num, by rw [HF.out], HBEL.out⟩
                                  case measure => simp [intOf]; omega
                                · have f4' : x.num < c.params := by omega
                                  have HF : Hid ((zw && (b.ins.take (n + 1)).all (inBound c)) = zu) := show _ = _ by rw [HZU.out]; simp [*]
                                  clear HZU HZT HIB HD
                                  go_wp2_with (go_at_call 18; (with_reducible refine HM.out.mono ?_); rintro y w1 ⟨rfl, rfl⟩)
                                  go_roundw
                                  case rel => exact ⟨n + 1, by omega, by go_num, by rw [HF.out], HBEL.out⟩
                                  case measure => simp [intOf]; omega
                          · rcases Classical.em (x.d < 0) with f1 | f1
                            · have hvd : vd = false := by rw [← HVD.out]; simp; omega
                              subst hvd
                              have HF : Hid ((zw && (b.ins.take (n + 1)).all (inBound c)) = false) := show _ = _ by rw [HZU.out]; simp [*]
                              clear HZU HZT HIB HD
                              go_wp2_with (go_at_call 18; (with_reducible refine HM.out.mono ?_); rintro y w1 ⟨rfl, rfl⟩)
                              go_roundw
                              case rel => exact ⟨n + 1, by omega, by go_num, by rw [HF.out], HBEL.out⟩
                              case measure => simp [intOf]; omega
                            · rcases Classical.em (c.values ≤ x.d) with f2 | f2
                              · have hvd : vd = false := by rw [← HVD.out]; simp; omega
                                subst hvd
                                have HF : Hid ((zw && (b.ins.take (n + 1)).all (inBound c)) = false) := show _ = _ by rw [HZU.out]; simp [*]
                                clear HZU HZT HIB HD
                                go_wp2_with (go_at_call 18; (with_reducible refine HM.out.mono ?_); rintro y w1 ⟨rfl, rfl⟩)
                                go_roundw
                                case rel => exact ⟨n + 1, by omega, by go_num, by rw [HF.out], HBEL.out⟩
                                case measure => simp [intOf]; omega
                              · have hvd : vd = true := by rw [← HVD.out]; simp; omega
                                subst hvd
                                cases vk
                                · have HF : Hid ((zw && (b.ins.take (n + 1)).all (inBound c)) = zu) := show _ = _ by rw [HZU.out]; simp [*]
                                  clear HZU HZT HIB HD
                                  go_wp2_with (go_at_call 18; (with_reducible refine HM.out.mono ?_); rintro y w1 ⟨rfl, rfl⟩)
                                  go_roundw
                                  case rel => exact ⟨n + 1, by omega, by go_num, by rw [HF.out], HBEL.out⟩
                                  case measure => simp [intOf]; omega
                                · rcases Classical.em (x.num < 0) with f3 | f3
                                  · have f3' : ¬ 0 ≤ x.num := by omega
                                    have HF : Hid ((zw && (b.ins.take (n + 1)).all (inBound c)) = false) := show _ = _ by rw [HZU.out]; simp [*]
                                    clear HZU HZT HIB HD
                                    go_wp2_with (go_at_call 18; (with_reducible refine HM.out.mono ?_); rintro y w1 ⟨rfl, rfl⟩)
                                    go_roundw
                                    case rel => exact ⟨n + 1, by omega, by go_num, by rw [HF.out], HBEL.out⟩
                                    case measure => simp [intOf]; omega
                                  · have f3' : 0 ≤ x.num := by omega
                                    rcases Classical.em (c.params ≤ x.num) with f4 | f4
                                    · have f4' : ¬ x.num < c.params := by omega
                                      have HF : Hid ((zw && (b.ins.take (n + 1)).all (inBound c)) = false) := show _ = _ by rw [HZU.out]; simp [*]
                                      clear HZU HZT HIB HD
                                      go_wp2_with (go_at_call 18; (with_reducible refine HM.out.mono ?_); rintro y w1 ⟨rfl, rfl⟩)
                                      go_roundw
                                      case rel => exact ⟨n + 1, by omega, by go_num, by rw [HF.out], HBEL.out⟩
                                      case measure => simp [intOf]; omega
                                    · have f4' : x.num < c.params := by omega
                                      have HF : Hid ((zw && (b.ins.take (n + 1)).all (inBound c)) = zu) := show _ = _ by rw [HZU.out]; simp [*]
                                      clear HZU HZT HIB HD
                                      go_wp2_with (go_at_call 18; (with_reducible refine HM.out.mono ?_); rintro y w1 ⟨rfl, rfl⟩)
                                      go_roundw
                                      case rel => exact ⟨n + 1, by omega, by go_num, by rw [HF.out], HBEL.out⟩
                                      case measure => simp [intOf]; omega
                      · have hn' : n = b.ins.length := by omega
                        subst hn'
                        rw [List.take_length]
                        obtain ⟨zx, hzx⟩ : ∃ z, (zw && b.ins.all (inBound c)) = z := ⟨_, rfl⟩
                        have HBX : Hid (bkBounds c b = zx) := show _ = _ by rw [HBW.out, hzx]
                        rw [hzx]
                        clear hzx hR hlt
                        cases zx
                        · have HF : Hid (blkE c b = 2) := show _ = _ by rw [HEQ.out, HKT.out, HBX.out]; rfl
                          go_wp2_with fail
                          go_ret
                          exact ⟨by rw [HF.out]; rfl, (HX.out _ hbel).2.2.2.2⟩
                        · go_wp2_with fail
                          have HSE : Hid (blkE c b = if !bkShapes c b then 3 else 0) := show _ = _ by rw [HEQ.out, HKT.out, HBX.out]; rfl
                          have HFAR : Hid (∀ k ∈ b.nx, 0 ≤ k ∧ k < c.blocks.length) := by
                            have h9 : bkBounds c b = true := HBX.out
                            unfold bkBounds at h9
                            simp only [Bool.and_eq_true, Bool.not_eq_true'] at h9
                            exact far_lt h9.2
                          have HKN0 : Hid (∀ x ∈ b.ins, kindW x.kind ≠ 0) := fun x hx => by
                            have h9 := List.all_eq_true.1 HKN.out x hx
                            unfold inKnown at h9
                            simp only [Bool.and_eq_true, bne_iff_ne] at h9
                            exact h9.1
                          have HSH : Hid (bkShapes c b = (b.ins.all inShape && ((b.nx.length : Int) == en && ((b.wth.length : Int) == en && ((!jp || b.v == 0) && (List.range b.nx.length).all (withFit c b)))))) := show _ = _ by
                            unfold bkShapes
                            rw [HEN.out, HJP.out]
                            simp only [Bool.and_assoc]
                          -- shapes
                          go_loopw [13, 14] (fun k _ wy => ∃ n : Nat, n ≤ b.ins.length ∧ k = .int .i64 n ∧ b.ins.all inShape = (b.ins.drop n).all inShape ∧ Below wB.heap.size wB wy) (fun k _ _ => b.ins.length - (intOf k).toNat)
                          case atStart => exact ⟨0, Nat.zero_le _, rfl, rfl, hbel⟩
                          case round =>
                            obtain ⟨n, hn, rfl, hI, hbel⟩ := hrel
                            have HI := Lib.hid hI
                            clear hI
                            clear i0 i1 i2 i3 b0 b1 b2 b3 b4 b5
                            obtain ⟨⟨i0, i1, i2, i3⟩, ⟨b0, b1, b2, b3, b4, b5⟩, hR, -, -⟩ := HX.out wr hbel
                            by_cases hlt : n < b.ins.length
                            · have hlt' : (n : Int) < (b.ins.length : Int) := by omega
                              have hn0 : (0 : Int) ≤ (n : Int) := by omega
                              obtain ⟨b9, off, A5, c5, rfl, hx⟩ := ins_at hR.ins hlt
                              have HD := Lib.hid (all_dropP (P := inShape) hlt)
                              have hkk := HKN0.out _ (List.getElem_mem hlt)
                              obtain ⟨x, hxe⟩ : ∃ x, b.ins[n] = x := ⟨_, rfl⟩
                              rw [hxe] at hx HD hkk
                              obtain ⟨c0, c1, c2, c3, c4, hrow⟩ := hx
                              have hk0 := HIS.out x A5 c5 wr hkk
                              obtain ⟨z, hz⟩ : ∃ z, inShape x = z := ⟨_, rfl⟩
                              rw [hz] at hk0 HD
                              unfold inV at hk0
                              have HC := Lib.hid hk0
                              clear hk0 hz hxe hrow hR hkk
                              cases z
                              · have HF : Hid (blkE c b = 3) := show _ = _ by rw [HSE.out, HSH.out, HI.out, HD.out]; rfl
                                go_wp2_with (go_at_call 29; (with_reducible refine HC.out.mono ?_); rintro y w1 ⟨rfl, hb1⟩)
                                go_ret
                                exact ⟨by rw [HF.out]; rfl, (HX.out _ (grow_trans hbel hb1)).2.2.2.2⟩
                              · have HF : Hid (b.ins.all inShape = (b.ins.drop (n + 1)).all inShape) := show _ = _ by rw [HI.out, HD.out]; rfl
                                go_wp2_with (go_at_call 29; (with_reducible refine HC.out.mono ?_); rintro y w1 ⟨rfl, hb1⟩)
                                go_roundw
                                case rel => exact ⟨n + 1, by omega, by go_num, HF.out, grow_trans hbel hb1⟩
                                case measure => simp [intOf]; omega
                            · have hn' : n = b.ins.length := by omega
                              have HSN : Hid (b.ins.all inShape = true) := show _ = _ by rw [HI.out, hn', List.drop_length]; rfl
                              subst hn'
                              clear HI hlt hR
                              obtain ⟨ln, hln⟩ : ∃ z, ((b.nx.length : Int) != en) = z := ⟨_, rfl⟩
                              obtain ⟨wn, hwn⟩ : ∃ z, ((b.wth.length : Int) != en) = z := ⟨_, rfl⟩
                              obtain ⟨vz, hvz⟩ : ∃ z, (b.v != 0) = z := ⟨_, rfl⟩
                              have HSQ : Hid (bkShapes c b = (!ln && (!wn && ((!jp || !vz) && (List.range b.nx.length).all (withFit c b))))) := show _ = _ by
                                rw [HSH.out, HSN.out, ← hln, ← hwn, ← hvz]
                                simp only [bne, Bool.not_not, Bool.true_and]
                              have HLN := Lib.hid hln
                              have HWN := Lib.hid hwn
                              have HVZ := Lib.hid hvz
                              clear hln hwn hvz
                              go_upto_region 40 with fail
                              obtain ⟨z4, hz4⟩ : ∃ z, (ln || (wn || (jp && vz))) = z := ⟨_, rfl⟩
                              have HZ4 := Lib.hid hz4
                              clear hz4
                              go_cut [178] from 157 to 178 (fun v wx => v = .bool z4 ∧ wr = wx)
                              case first =>
                                have hln := HLN.out
                                have hwn := HWN.out
                                have hvz := HVZ.out
                                cases ln
                                · cases wn
                                  · cases jp
                                    · go_wp2_with fail
                                      go_meet
                                      exact ⟨by rw [← HZ4.out]; rfl, rfl⟩
                                    · cases vz
                                      · go_wp2_with fail
                                        go_meet
                                        exact ⟨by rw [← HZ4.out]; rfl, rfl⟩
                                      · go_wp2_with fail
                                        go_meet
                                        exact ⟨by rw [← HZ4.out]; rfl, rfl⟩
                                  · go_wp2_with fail
                                    go_meet
                                    exact ⟨by rw [← HZ4.out]; rfl, rfl⟩
                                · go_wp2_with fail
                                  go_meet
                                  exact ⟨by rw [← HZ4.out]; rfl, rfl⟩
                              case rest =>
                                obtain ⟨rfl, rfl⟩ := hcut
                                cases z4
                                · have hz := HZ4.out
                                  simp only [Bool.or_eq_false_iff, Bool.and_eq_false_iff] at hz
                                  obtain ⟨z1', z2', z3'⟩ := hz
                                  have HEQ2 : Hid (bkShapes c b = (List.range b.nx.length).all (withFit c b)) := show _ = _ by
                                    rw [HSQ.out, z1', z2']
                                    rcases z3' with z3' | z3' <;> rw [z3'] <;> simp
                                  have HNE : Hid ((b.nx.length : Int) = en) := show _ = _ by
                                    have h1 := HLN.out
                                    rw [z1'] at h1
                                    simpa only [bne_eq_false_iff_eq] using h1
                                  have HWE : Hid ((b.wth.length : Int) = en) := show _ = _ by
                                    have h1 := HWN.out
                                    rw [z2'] at h1
                                    simpa only [bne_eq_false_iff_eq] using h1
                                  clear z1' z2' z3'
                                  go_wp2_with fail
                                  go_loopw [15] (fun k wy => ∃ n : Nat, n ≤ b.nx.length ∧ k = .int .i64 n ∧ bkShapes c b = ((List.range b.nx.length).drop n).all (withFit c b) ∧ Below wB.heap.size wB wy) (fun k _ => b.nx.length - (intOf k).toNat)
                                  case atStart => exact ⟨0, Nat.zero_le _, rfl, by rw [HEQ2.out]; rfl, hbel⟩
                                  case round =>
                                    obtain ⟨n, hn, rfl, hI, hbel⟩ := hrel
                                    have HI := Lib.hid hI
                                    clear hI
                                    clear i0 i1 i2 i3 b0 b1 b2 b3 b4 b5
                                    obtain ⟨⟨i0, i1, i2, i3⟩, ⟨b0, b1, b2, b3, b4, b5⟩, hR, hAA, -⟩ := HX.out wr hbel
                                    by_cases hlt : n < b.nx.length
                                    · have hlt' : (n : Int) < en := by have := HNE.out; omega
                                      have hn0 : (0 : Int) ≤ (n : Int) := by omega
                                      have hltn : (n : Int) < (b.nx.length : Int) := by omega
                                      have hltw : n < b.wth.length := by have := HNE.out; have := HWE.out; omega
                                      have hltw' : (n : Int) < (b.wth.length : Int) := by omega
                                      obtain ⟨b6, off6, rfl, hc6⟩ := hR.nx n _ (intVs_get hlt)
                                      have hfz := HFAR.out b.nx[n] (List.getElem_mem hlt)
                                      obtain ⟨tn, htn⟩ : ∃ tn : Nat, b.nx[n] = (tn : Int) := ⟨b.nx[n].toNat, (Int.toNat_of_nonneg hfz.1).symm⟩
                                      have htl : tn < c.blocks.length := by omega
                                      have HW9 := Lib.hid (withFit_eq (c := c) hltw hlt htn htl)
                                      rw [htn] at hc6
                                      have htl' : (tn : Int) < (c.blocks.length : Int) := by omega
                                      have ht0 : (0 : Int) ≤ (tn : Int) := by omega
                                      obtain ⟨b7, off7, B7, c7, rfl, hx7, -⟩ := wth_at hR.wth hltw
                                      obtain ⟨b8, off8, P8, p8, I8, i8, T8, t8, W8, c8, rfl, hB8⟩ := bks_at hAA htl
                                      have hx8 := hB8.c0
                                      have HD := Lib.hid (range_all_drop (P := withFit c b) hlt)
                                      obtain ⟨L1, hL1⟩ : ∃ L, b.wth[n].length = L := ⟨_, rfl⟩
                                      obtain ⟨L2, hL2⟩ : ∃ L, c.blocks[tn].params.length = L := ⟨_, rfl⟩
                                      rw [hL1] at hx7 HW9
                                      rw [hL2] at hx8 HW9
                                      obtain ⟨fk, hfk⟩ : ∃ z, ((L1 : Int) != (L2 : Int)) = z := ⟨_, rfl⟩
                                      have HFK : Hid (withFit c b n = !fk) := show _ = _ by
                                        rw [HW9.out, ← hfk]
                                        by_cases e : L1 = L2
                                        · subst e; simp
                                        · have e' : ¬ (L1 : Int) = (L2 : Int) := by omega
                                          rw [beq_eq_false_iff_ne.2 e, bne, beq_eq_false_iff_ne.2 e']; rfl
                                      clear hfz htn hB8 hL1 hL2 hR hAA HW9
                                      cases fk
                                      · have HF : Hid (bkShapes c b = ((List.range b.nx.length).drop (n + 1)).all (withFit c b)) := show _ = _ by rw [HI.out, HD.out, HFK.out]; rfl
                                        go_upto_region 45 with fail
                                        go_quiet (fail)
                                        go_wp2_with fail
                                        go_roundw
                                        case rel => exact ⟨n + 1, by omega, by go_num, HF.out, grow_drew hbel _⟩
                                        case measure => simp [intOf]; omega
                                      · have HF : Hid (blkE c b = 3) := show _ = _ by rw [HSE.out, HI.out, HD.out, HFK.out]; rfl
                                        go_upto_region 45 with fail
                                        go_quiet (fail)
                                        go_wp2_with fail
                                        go_ret
                                        exact ⟨by rw [HF.out]; rfl, (HX.out _ (grow_drew hbel _)).2.2.2.2⟩
                                    · have hn' : n = b.nx.length := by omega
                                      have HF : Hid (blkE c b = 0) := show _ = _ by rw [HSE.out, HI.out, hn', List.drop_of_length_le (by simp)]; rfl
                                      have hltf : ¬ (n : Int) < en := by have := HNE.out; omega
                                      clear hR hAA hn' hlt
                                      go_wp2_with fail
                                      go_ret
                                      exact ⟨by rw [HF.out]; rfl, (HX.out _ hbel).2.2.2.2⟩
                                · have HF : Hid (blkE c b = 3) := show _ = _ by
                                    have hz := HZ4.out
                                    rw [HSE.out, HSQ.out]
                                    cases ln <;> cases wn <;> cases jp <;> cases vz <;> simp_all
                                  go_wp2_with fail
                                  go_ret
                                  exact ⟨by rw [HF.out]; rfl, (HX.out _ hbel).2.2.2.2⟩
end Go.Proofs.YtdilakpipbkokaaDoor
