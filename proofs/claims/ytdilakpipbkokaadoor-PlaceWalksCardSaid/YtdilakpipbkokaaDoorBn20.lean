import Derived.Deep.DeepCutAuto
import Derived.Test.YtdilakpipbkokaaDoorBn18
import Derived.Test.YtdilakpipbkokaaDoorBn19
set_option linter.unusedVariables false
set_option linter.unusedSimpArgs false
namespace Go.Proofs.YtdilakpipbkokaaDoor
open Go.RowKit

/-! shapes of a block -/
def litP : List UInt8 → Option Value := putF (putF (putF (fun _ => none) [106, 117, 109, 112] (.int .i64 1)) [105, 102] (.int .i64 2)) [114, 101, 116, 117, 114, 110] (.int .i64 0)
theorem litP_eq (e : List UInt8) (h : 0 ≤ endN e) : litP e = some (.int .i64 (endN e)) := by
  by_cases h1 : e = eJump
  · subst h1; simp [litP, putF, endN, eJump]
  by_cases h2 : e = eIf
  · subst h2; simp [litP, putF, endN, eJump, eIf]
  by_cases h3 : e = eReturn
  · subst h3; simp [litP, putF, endN, eJump, eIf, eReturn]
  unfold endN at h
  simp [h1, h2, h3] at h
theorem far_lt {n : Nat} {l : List Int} (h : farTo n l = false) : ∀ k ∈ l, 0 ≤ k ∧ k < n := fun k hk => by
  unfold farTo at h
  rw [List.any_eq_false] at h
  have := h k hk
  simp only [Bool.or_eq_true, decide_eq_true_eq, not_or] at this
  omega
theorem range_all_drop {P : Nat → Bool} {n k : Nat} (h : k < n) : ((List.range n).drop k).all P = (P k && ((List.range n).drop (k + 1)).all P) := by
  have := all_dropP (P := P) (l := List.range n) (k := k) (by simpa using h)
  rw [this, List.getElem_range]
theorem withFit_eq {c : PCo} {b : PBk} {k : Nat} (h1 : k < b.wth.length) (h2 : k < b.nx.length) {t : Nat} (h3 : b.nx[k] = (t : Int)) (h4 : t < c.blocks.length) : withFit c b k = (b.wth[k].length == c.blocks[t].params.length) := by
  unfold withFit
  rw [List.getD_eq_getElem?_getD, List.getElem?_eq_getElem h1, Option.getD_some, List.getD_eq_getElem?_getD, List.getElem?_eq_getElem h2, Option.getD_some, h3, Int.toNat_natCast, List.getElem?_eq_getElem h4]
  rfl
set_option maxRecDepth 100000 in
set_option maxHeartbeats 8000000 in
theorem shapes_any (c : PCo) (A : Option Addr) (ca : Nat) (b : PBk) (hs : PSm b) (P : Option Addr) (p : Nat) (I : Option Addr) (i : Nat) (T : Option Addr) (t : Nat) (W : Option Addr) (wc : Nat) (w : World) (hr : BkRows w b P I T W) (hA : RdP w c.blocks A) (he : 0 ≤ endN b.fin) (hfar : farTo c.blocks.length b.nx = false) :
    Calls Tryd.prog 34 #[coV c A ca, bkV b P p I i T t W wc] w (Ret (.bool (bkShapes c b)) w) := by
  obtain ⟨cb, hcb⟩ : ∃ cb, w.heap.size = cb := ⟨_, rfl⟩
  obtain ⟨bb, hbb⟩ : ∃ bb, cb + 1 = bb := ⟨_, rfl⟩
  obtain ⟨wB, hwB⟩ : ∃ wB, (w.alloc (.cells #[.string (mkB c.name), .int .i64 c.params, .int .i64 c.values, .slice A c.blocks.length ca] 31)).alloc (.cells #[.slice P b.params.length p, .slice I b.ins.length i, .string (mkB b.fin), .int .i64 b.v, .slice T b.nx.length t, .slice W b.wth.length wc] 56) = wB := ⟨_, rfl⟩
  have hbB : Below w.heap.size w wB := by rw [← hwB]; exact grow_alloc (grow_alloc (grow_refl _) _) _
  have m0 : wB.heap[cb]? = some (.cells #[.string (mkB c.name), .int .i64 c.params, .int .i64 c.values, .slice A c.blocks.length ca] 31 (0, 0)) := by
    rw [← hwB, ← hcb]
    exact (old_block _ _ (by simp)).trans (heap_alloc_new w _)
  have m1 : wB.heap[bb]? = some (.cells #[.slice P b.params.length p, .slice I b.ins.length i, .string (mkB b.fin), .int .i64 b.v, .slice T b.nx.length t, .slice W b.wth.length wc] 56 (0, 0)) := by
    rw [← hwB, ← hbb, ← hcb]
    exact new_block _ _ (by simp)
  have HX : Hid (∀ w', Below wB.heap.size wB w' → (w'.cell? ⟨cb, 0, none⟩ = some (.string (mkB c.name)) ∧ w'.cell? ⟨cb, 1, none⟩ = some (.int .i64 c.params) ∧ w'.cell? ⟨cb, 2, none⟩ = some (.int .i64 c.values) ∧ w'.cell? ⟨cb, 3, none⟩ = some (.slice A c.blocks.length ca)) ∧
      (w'.cell? ⟨bb, 0, none⟩ = some (.slice P b.params.length p) ∧ w'.cell? ⟨bb, 1, none⟩ = some (.slice I b.ins.length i) ∧ w'.cell? ⟨bb, 2, none⟩ = some (.string (mkB b.fin)) ∧ w'.cell? ⟨bb, 3, none⟩ = some (.int .i64 b.v) ∧ w'.cell? ⟨bb, 4, none⟩ = some (.slice T b.nx.length t) ∧ w'.cell? ⟨bb, 5, none⟩ = some (.slice W b.wth.length wc)) ∧
      BkRows w' b P I T W ∧ RdP w' c.blocks A ∧ Below w.heap.size w w') := fun w' hb =>
    have f := fun {k : Nat} {o : Obj} (h : wB.heap[k]? = some o) => (hb.block k (Array.getElem?_eq_some_iff.1 h).1).trans h
    ⟨row4B (f m0), row6B (f m1), hr.keep (Keeps.of_below (grow_trans hbB hb)), hA.keep (Keeps.of_below (grow_trans hbB hb)), grow_trans hbB hb⟩
  have hl20 := hs.ins
  have hn4 := hs.nx
  have hfl : b.fin.length ≤ 1000000 := by have := hs.fin; omega
  obtain ⟨⟨i0, i1, i2, i3⟩, ⟨b0, b1, b2, b3, b4, b5⟩, hR, -, -⟩ := HX.out wB (grow_refl _)
  have hc0 := hasSh b.ins (by omega) I i wB hR.ins fun x _ A' c' w' _ => shapes1_any x A' c' w'
  obtain ⟨sh, hsh⟩ : ∃ z, b.ins.all inShape = z := ⟨_, rfl⟩
  obtain ⟨en, hen⟩ : ∃ z, endN b.fin = z := ⟨_, rfl⟩
  obtain ⟨jp, hjp⟩ : ∃ z, (b.fin == eJump) = z := ⟨_, rfl⟩
  obtain ⟨ln, hln⟩ : ∃ z, ((b.nx.length : Int) != en) = z := ⟨_, rfl⟩
  obtain ⟨wn, hwn⟩ : ∃ z, ((b.wth.length : Int) != en) = z := ⟨_, rfl⟩
  obtain ⟨vz, hvz⟩ : ∃ z, (b.v != 0) = z := ⟨_, rfl⟩
  have e1 : ((mkB b.fin).toList == [106, 117, 109, 112]) = jp := by rw [mkB_eq]; exact hjp
  have HEQ : Hid (bkShapes c b = (sh && (!ln && (!wn && ((!jp || !vz) && (List.range b.nx.length).all (withFit c b)))))) := show _ = _ by
    unfold bkShapes
    rw [hsh, hen, hjp, ← hln, ← hwn, ← hvz]
    simp only [bne, Bool.not_not, Bool.and_assoc]
  rw [hsh] at hc0
  have HLIT : Hid (litP b.fin = some (.int .i64 en)) := show _ = _ by rw [litP_eq _ he, hen]
  have HFAR := Lib.hid (far_lt hfar)
  have HC := Lib.hid hc0
  have HLN := Lib.hid hln
  have HWN := Lib.hid hwn
  have HVZ := Lib.hid hvz
  have HWB := Lib.hid hwB
  have HCB := Lib.hid hcb
  have HBB := Lib.hid hbb
  unfold coV bkV
  clear hr hs hwB hbB m0 m1 hcb hbb hc0 hsh hen hjp hln hwn hvz he hfar hR hA
  cases sh
  · have HF : Hid (bkShapes c b = false) := show _ = _ by rw [HEQ.out]; rfl
    go_enter Tryd.func34, Tryd.ntmps34
    go_upto_region 1 with fail
    change Code.wp _ _ _ _ ((w.alloc (.cells #[.string (mkB c.name), .int .i64 c.params, .int .i64 c.values, .slice A c.blocks.length ca] 31)).alloc (.cells #[.slice P b.params.length p, .slice I b.ins.length i, .string (mkB b.fin), .int .i64 b.v, .slice T b.nx.length t, .slice W b.wth.length wc] 56))
    rw [HWB.out, HCB.out, HBB.out]
    go_wp2_with (go_at_call 49; (with_reducible refine HC.out.mono ?_); rintro y w1 ⟨rfl, hb1⟩)
    go_ret
    exact ⟨by rw [HF.out]; rfl, (HX.out _ hb1).2.2.2.2⟩
  · go_enter Tryd.func34, Tryd.ntmps34
    go_upto_region 1 with fail
    change Code.wp _ _ _ _ ((w.alloc (.cells #[.string (mkB c.name), .int .i64 c.params, .int .i64 c.values, .slice A c.blocks.length ca] 31)).alloc (.cells #[.slice P b.params.length p, .slice I b.ins.length i, .string (mkB b.fin), .int .i64 b.v, .slice T b.nx.length t, .slice W b.wth.length wc] 56))
    rw [HWB.out, HCB.out, HBB.out]
    go_upto_region 3 with (go_at_call 49; (with_reducible refine HC.out.mono ?_); rintro y w1 ⟨rfl, hb1⟩)
    have hM := Lib.hid (MapAt.made w1)
    have hW := Lib.hid (grow_alloc hb1 (.map #[] 0))
    have hZ : Hid (wB.heap.size ≤ w1.heap.size) := hb1.size
    have hmm := @run_makeMap Tryd.prog
    clear hb1 i0 i1 i2 i3 b0 b1 b2 b3 b4 b5
    go_upto_region 4 with (first
      | (refine wpList_insert_map rfl (.tmp 11) _ _ _ rfl 3 Tryd.underlying119 _ _ _ hM.out (by decide) rfl [106, 117, 109, 112] (by decide) rfl (.int .i64 1) rfl ?_; intro w5 hm5 hg5; have hb5 := Below.grown hW.out hg5 hW.out.size (fun q hq => by injection hq with hq; have := hZ.out; omega); have hM := Lib.hid hm5; have hW := Lib.hid hb5; clear hm5 hg5 hb5)
      | (refine wpList_insert_map rfl (.tmp 11) _ _ _ rfl 3 Tryd.underlying119 _ _ _ hM.out (by decide) rfl [105, 102] (by decide) rfl (.int .i64 2) rfl ?_; intro w5 hm5 hg5; have hb5 := Below.grown hW.out hg5 hW.out.size (fun q hq => by injection hq with hq; have := hZ.out; omega); have hM := Lib.hid hm5; have hW := Lib.hid hb5; clear hm5 hg5 hb5)
      | (refine wpList_insert_map rfl (.tmp 11) _ _ _ rfl 3 Tryd.underlying119 _ _ _ hM.out (by decide) rfl [114, 101, 116, 117, 114, 110] (by decide) rfl (.int .i64 0) rfl ?_; intro w5 hm5 hg5; have hb5 := Below.grown hW.out hg5 hW.out.size (fun q hq => by injection hq with hq; have := hZ.out; omega); have hM := Lib.hid hm5; have hW := Lib.hid hb5; have look := hm5.get Tryd.underlying119 (zeroIntM _) b.fin hfl; rw [show putF (putF (putF (fun _ => none) [106, 117, 109, 112] (.int .i64 1)) [105, 102] (.int .i64 2)) [114, 101, 116, 117, 114, 110] (.int .i64 0) b.fin = some (.int .i64 en) from HLIT.out, Option.getD_some, show ({ data := b.fin.toArray } : ByteArray) = mkB b.fin from rfl] at look; obtain ⟨⟨i0, i1, i2, i3⟩, ⟨b0, b1, b2, b3, b4, b5⟩, -, -, -⟩ := HX.out _ hb5; clear hm5 hg5 hb5))
    clear look hmm hM
    obtain ⟨z4, hz4⟩ : ∃ z, (ln || (wn || (jp && vz))) = z := ⟨_, rfl⟩
    have HZ4 := Lib.hid hz4
    go_cut [37] from 16 to 37 (fun v wx => v = .bool z4 ∧ w5 = wx)
    case first =>
      have hln := HLN.out
      have hwn := HWN.out
      have hvz := HVZ.out
      clear hz4 HEQ
      cases ln
      · cases wn
        · cases jp
          · go_wp2_with fail
            go_meet
            exact ⟨by rw [← HZ4.out]; rfl, rfl⟩
          · cases vz
            · go_wp2_with fail
              go_meet
              exact ⟨by rw [← HZ4.out]; rfl, rfl⟩
            · go_wp2_with fail
              go_meet
              exact ⟨by rw [← HZ4.out]; rfl, rfl⟩
        · go_wp2_with fail
          go_meet
          exact ⟨by rw [← HZ4.out]; rfl, rfl⟩
      · go_wp2_with fail
        go_meet
        exact ⟨by rw [← HZ4.out]; rfl, rfl⟩
    case rest =>
      obtain ⟨rfl, rfl⟩ := hcut
      clear hz4
      cases z4
      · have hz := HZ4.out
        simp only [Bool.or_eq_false_iff, Bool.and_eq_false_iff] at hz
        obtain ⟨z1, z2, z3⟩ := hz
        have HEQ2 : Hid (bkShapes c b = (List.range b.nx.length).all (withFit c b)) := show _ = _ by
          rw [HEQ.out, z1, z2]
          rcases z3 with z3 | z3 <;> rw [z3] <;> simp
        have HLW : Hid (b.nx.length = b.wth.length) := show _ = _ by
          have h1 := HLN.out
          have h2 := HWN.out
          rw [z1] at h1
          rw [z2] at h2
          simp only [bne_eq_false_iff_eq] at h1 h2
          omega
        clear z1 z2 z3 HEQ
        go_wp2_with fail
        go_loopw [6, 7, 41] (fun _ _ k wr => ∃ n : Nat, n ≤ b.nx.length ∧ k = .int .i64 n ∧ bkShapes c b = ((List.range b.nx.length).drop n).all (withFit c b) ∧ Below wB.heap.size wB wr) (fun _ _ k _ => b.nx.length - (intOf k).toNat)
        case atStart => exact ⟨0, Nat.zero_le _, rfl, by rw [HEQ2.out]; rfl, hW.out⟩
        case round =>
          obtain ⟨n, hn, rfl, hI, hbel⟩ := hrel
          have HI := Lib.hid hI
          clear hI i0 i1 i2 i3 b0 b1 b2 b3 b4 b5
          obtain ⟨⟨i0, i1, i2, i3⟩, ⟨b0, b1, b2, b3, b4, b5⟩, hR, hAA, -⟩ := HX.out wr hbel
          by_cases hlt : n < b.nx.length
          · have hlt' : (n : Int) < (b.nx.length : Int) := by omega
            have hn0 : (0 : Int) ≤ (n : Int) := by omega
            have hltw : n < b.wth.length := by have := HLW.out; omega
            have hltw' : (n : Int) < (b.wth.length : Int) := by omega
            obtain ⟨b6, off6, rfl, hc6⟩ := hR.nx n _ (intVs_get hlt)
            have hfz := HFAR.out b.nx[n] (List.getElem_mem hlt)
            obtain ⟨tn, htn⟩ : ∃ tn : Nat, b.nx[n] = (tn : Int) := ⟨b.nx[n].toNat, (Int.toNat_of_nonneg hfz.1).symm⟩
            have htl : tn < c.blocks.length := by omega
            have HW9 := Lib.hid (withFit_eq (c := c) hltw hlt htn htl)
            rw [htn] at hc6
            have htl' : (tn : Int) < (c.blocks.length : Int) := by omega
            have ht0 : (0 : Int) ≤ (tn : Int) := by omega
            obtain ⟨b7, off7, B7, c7, rfl, hx7, -⟩ := wth_at hR.wth hltw
            obtain ⟨b8, off8, P8, p8, I8, i8, T8, t8, W8, c8, rfl, hB8⟩ := bks_at hAA htl
            have hx8 := hB8.c0
            have HD := Lib.hid (range_all_drop (P := withFit c b) hlt)
            obtain ⟨L1, hL1⟩ : ∃ L, b.wth[n].length = L := ⟨_, rfl⟩
            obtain ⟨L2, hL2⟩ : ∃ L, c.blocks[tn].params.length = L := ⟨_, rfl⟩
            rw [hL1] at hx7 HW9
            rw [hL2] at hx8 HW9
            obtain ⟨fk, hfk⟩ : ∃ z, ((L1 : Int) != (L2 : Int)) = z := ⟨_, rfl⟩
            have HFK : Hid (withFit c b n = !fk) := show _ = _ by
              rw [HW9.out, ← hfk]
              by_cases e : L1 = L2
              · subst e; simp
              · have e' : ¬ (L1 : Int) = (L2 : Int) := by omega
                rw [beq_eq_false_iff_ne.2 e, bne, beq_eq_false_iff_ne.2 e']; rfl
            clear hfz htn hB8 hL1 hL2 hR hAA HW9
            cases fk
            · have HF : Hid (bkShapes c b = ((List.range b.nx.length).drop (n + 1)).all (withFit c b)) := show _ = _ by rw [HI.out, HD.out, HFK.out]; rfl
              go_upto_region 9 with fail
              go_quiet (fail)
              go_wp2_with fail
              go_roundw
              case rel => exact ⟨n + 1, by omega, by go_num, HF.out, grow_drew hbel _⟩
              case measure => simp [intOf]; omega
            · have HF : Hid (bkShapes c b = false) := show _ = _ by rw [HI.out, HD.out, HFK.out]; rfl
              go_upto_region 9 with fail
              go_quiet (fail)
              go_wp2_with fail
              go_ret
              exact ⟨by rw [HF.out]; rfl, (HX.out _ (grow_drew hbel _)).2.2.2.2⟩
          · have hn' : n = b.nx.length := by omega
            have HF : Hid (bkShapes c b = true) := show _ = _ by rw [HI.out, hn', List.drop_of_length_le (by simp)]; rfl
            subst hn'
            clear hR hAA
            go_wp2_with fail
            go_ret
            exact ⟨by rw [HF.out]; rfl, (HX.out _ hbel).2.2.2.2⟩
      · have HF : Hid (bkShapes c b = false) := show _ = _ by
          have hz := HZ4.out
          rw [HEQ.out]
          cases ln <;> cases wn <;> cases jp <;> cases vz <;> simp_all
        go_wp2_with fail
        go_ret
        exact ⟨by rw [HF.out]; rfl, (HX.out _ hW.out).2.2.2.2⟩
end Go.Proofs.YtdilakpipbkokaaDoor
