import Derived.StillTailTactics
import Derived.Deep.AppendLies
import Derived.Test.YtonnhechjbdenaaGreatDoorBn11
set_option linter.unusedVariables false
set_option linter.unusedSimpArgs false
namespace Go.Proofs.YtonnhechjbdenaaGreatDoor
open Go.RowKit

/-! a code as words: what stands in memory -/
theorem set_ownE {w : World} {base size : Nat} {e : TypeId} {g n cap k : Nat} {xs : List Value} (u : Value) (h : w.ownsRow base e size (.slice (some ⟨g, 0, none⟩) n cap) n xs) : (w.setCell ⟨g, k, none⟩ u).ownsRow base e size (.slice (some ⟨g, 0, none⟩) n cap) n (xs.set k u) := by
  refine ⟨by rw [List.length_set]; exact h.1, .inr ?_⟩
  rcases h.2 with ⟨r, _⟩ | ⟨g', cap', cur, r, h2, h3, h4, h5, h6, h7⟩
  · cases r
  · injection r with r1 r2 r3
    injection r1 with r1
    injection r1 with r1
    subst r1 r3
    refine ⟨g, cap, cur.setIfInBounds k u, rfl, h2, row_set u h3 rfl, h4, h5, by simpa using h6, ?_⟩
    rw [Array.toList_setIfInBounds, List.take_set, h7]
theorem flat5_get : ∀ (os : List PIns) (k : Nat) (hk : k < os.length) (i : Nat), i < 5 → (os.flatMap insL5)[k * 5 + i]? = (insL5 os[k])[i]? := by
  intro os
  induction os with
  | nil => intro k h; cases h
  | cons o os ih =>
    intro k h i hi
    rw [List.flatMap_cons]
    cases k with
    | zero => rw [Nat.zero_mul, Nat.zero_add, List.getElem?_append_left (by simp [insL5]; omega)]; rfl
    | succ k =>
      rw [List.getElem?_append_right (by simp [insL5]; omega), show (k + 1) * 5 + i - (insL5 o).length = k * 5 + i by simp [insL5]; omega]
      exact ih k (by simpa using h) i hi
theorem flat5_set : ∀ (os : List PIns) (k : Nat) (hk : k < os.length) (v : Int), (os.set k { os[k] with imm := v }).flatMap insL5 = (os.flatMap insL5).set (k * 5 + 4) (.int .i64 v) := by
  intro os
  induction os with
  | nil => intro k h; cases h
  | cons o os ih =>
    intro k h v
    cases k with
    | zero => rw [List.set_cons_zero, List.flatMap_cons, List.flatMap_cons, List.set_append_left _ _ (by simp [insL5])]; rfl
    | succ k =>
      rw [List.set_cons_succ, List.flatMap_cons, List.flatMap_cons, List.set_append_right _ _ (by simp [insL5]; omega), show (k + 1) * 5 + 4 - (insL5 o).length = k * 5 + 4 by simp [insL5]; omega]
      have := ih k (by simpa using h) v
      simp only [List.getElem_cons_succ]
      rw [this]
theorem EmAt.out_cells {base eb : Nat} {vL : Value} {os : List PIns} {A : Option Addr} {cap : Nat} {w : World} (h : EmAt base eb vL os (.slice A os.length cap) w) {k : Nat} (hk : k < os.length) : ∃ g, A = some ⟨g, 0, none⟩ ∧ w.cell? ⟨g, k * 5, none⟩ = some (.string (mkB os[k].op)) ∧ w.cell? ⟨g, k * 5 + 4, none⟩ = some (.int .i64 os[k].imm) ∧ (∀ j, w.frozen? ⟨g, j, none⟩ = false) := by
  rcases h.out.2 with ⟨q, h0⟩ | ⟨g, cap', cur, q1, q2, q3, q4, q5, q6, q7⟩
  · omega
  · injection q1 with q1 _ _
    have hc : ∀ j u, (os.flatMap insL5)[j]? = some u → w.cell? ⟨g, j, none⟩ = some u := fun j u hj => by
      rw [← q7, List.getElem?_take] at hj
      split at hj
      · rw [cell_of_row _ _ j _ _ _ q3, ← Array.getElem?_toList]; exact hj
      · cases hj
    exact ⟨g, q1, hc _ _ (flat5_get os k hk 0 (by omega)), hc _ _ (flat5_get os k hk 4 (by omega)), fun j => row_frozen q3 j⟩
theorem EmAt.imm {base eb : Nat} {vL : Value} {os : List PIns} {g cap : Nat} {w : World} (h : EmAt base eb vL os (.slice (some ⟨g, 0, none⟩) os.length cap) w) {k : Nat} (hk : k < os.length) (v : Int) :
    EmAt base eb vL (os.set k { os[k] with imm := v }) (.slice (some ⟨g, 0, none⟩) os.length cap) (w.setCell ⟨g, k * 5 + 4, none⟩ (.int .i64 v)) ∧ EmMv base eb (.slice (some ⟨g, 0, none⟩) os.length cap) (.slice (some ⟨g, 0, none⟩) os.length cap) w (w.setCell ⟨g, k * 5 + 4, none⟩ (.int .i64 v)) := by
  have hg : g ≠ eb := fun e => h.ne (by rw [e]; rfl)
  have hlt := own_lt h.out (k := g) rfl
  refine ⟨⟨h.low, (Below.heap_setCell _ _ _ _ (Ne.symm hg)).trans h.blk, ?_⟩, ⟨(Below.refl base w).setCell (p := ⟨g, k * 5 + 4, none⟩) hlt.1 _, fun j _ _ h3 => Below.heap_setCell _ _ _ _ (fun e => h3 (by rw [e]; rfl)), .inl rfl⟩⟩
  rw [flat5_set os k hk v, List.length_set]
  exact set_ownE _ h.out
/-- What stands while a code is turned into words. -/
structure CoAt (wA : World) (base eb : Nat) (vL vO0 : Value) (os : List PIns) (vO vB : Value) (bg : List Int) (w : World) : Prop where
  em : EmAt base eb vL os vO w
  mv : EmMv base eb vO0 vO wA w
  bg : w.ownsRow wA.heap.size 3 1 vB bg.length (intVs bg)
section
variable {wA : World} {base eb : Nat} {vL vO0 vO vO' vB : Value} {os os' : List PIns} {bg : List Int} {w w' : World}
theorem CoAt.emit (h : CoAt wA base eb vL vO0 os vO vB bg w) (he : EmAt base eb vL os' vO' w') (hm : EmMv base eb vO vO' w w') : CoAt wA base eb vL vO0 os' vO' vB bg w' :=
  ⟨he, h.mv.trans hm, own_same h.bg fun j hj => hm.kp j (own_lt h.bg hj).2 (fun e => own_else h.bg h.em.blk (fun cs e2 => by injection e2 with _ e2 _; exact absurd e2 (by decide)) (by rw [hj, e])) (own_ne h.bg h.em.out (by decide) hj)⟩
theorem CoAt.below (h : CoAt wA base eb vL vO0 os vO vB bg w) (hb : Below w.heap.size w w') : CoAt wA base eb vL vO0 os vO vB bg w' :=
  h.emit (h.em.below hb) (EmMv.of_below hb h.em.base_le)
theorem CoAt.base_le (h : CoAt wA base eb vL vO0 os vO vB bg w) : base ≤ w.heap.size := h.em.base_le
/-- A block of another type, as it was. -/
theorem CoAt.kp (hm : EmMv base eb vO vO' w w') (he : EmAt base eb vL os vO w) {b : Nat} {cs : Array Value} {T : TypeId} (hb : w.heap[b]? = some (.cells cs T (0, 0))) (h1 : T ≠ 88) (h2 : T ≠ 90) : w'.heap[b]? = some (.cells cs T (0, 0)) :=
  (hm.kp b (Array.getElem?_eq_some_iff.1 hb).1 (fun e => by rw [e, he.blk] at hb; injection hb with hb; injection hb with _ hb _; exact h1 hb.symm) (own_else he.out hb fun cs' e => by injection e with _ e _; exact h2 e)).trans hb
theorem CoAt.next {o : Obj} {g cap : Nat} {n : Int} {w4 : World} (h : CoAt wA base eb vL vO0 os vO vB bg w) (hbA : base ≤ wA.heap.size) (hown : w4.ownsRow wA.heap.size 3 1 (.slice (some ⟨g, 0, none⟩) (bg.length + 1) cap) (bg.length + 1) (intVs bg ++ [.int .i64 n])) (hg : (w.alloc o).grownBy w4 vB.ownBlock) :
    CoAt wA base eb vL vO0 os vO (.slice (some ⟨g, 0, none⟩) (bg.length + 1) cap) (bg ++ [n]) w4 := by
  have hm : ∀ k, k < w.heap.size → vB.ownBlock ≠ some k → w4.heap[k]? = w.heap[k]? := fun k hk hne => by rw [hg.block k (by simp; omega) (fun e => hne e.symm)]; exact old_block _ _ hk
  have hnb : ∀ k, vB.ownBlock = some k → wA.heap.size ≤ k := fun k hk => (own_lt h.bg hk).1
  have hlA : wA.heap.size ≤ w.heap.size := h.mv.bel.size
  refine ⟨⟨h.em.low, (hm eb h.em.lt (own_else h.bg h.em.blk fun cs e => by injection e with _ e _; exact absurd e (by decide))).trans h.em.blk, own_same h.em.out fun k hk => hm k (own_lt h.em.out hk).2 (own_ne h.em.out h.bg (by decide) hk)⟩, ?_, ?_⟩
  · refine ⟨h.mv.bel.trans (Below.grown ((Below.refl base w).alloc h.em.base_le o) hg (by have := h.em.base_le; simp; omega) (fun k hk => by have := hnb k hk; omega)), fun k h1 h2 h3 => ?_, h.mv.nw⟩
    exact (hm k (by omega) (fun e => by have := hnb k e; omega)).trans (h.mv.kp k h1 h2 h3)
  · have e : intVs (bg ++ [n]) = intVs bg ++ [.int .i64 n] := intVs_snoc _ _
    rw [e, List.length_append, List.length_singleton]
    exact hown
end
end Go.Proofs.YtonnhechjbdenaaGreatDoor

namespace Go.Proofs.YtonnhechjbdenaaGreatDoor
open Go.RowKit

/-! a code as words -/
theorem blksE_take {l : List PCd} {bs : List PBlk} {k : Nat} (h : k < bs.length) : blksE l (bs.take (k + 1)) = blksE l (bs.take k) ++ blkE l bs[k] := by
  unfold blksE
  rw [List.take_succ_eq_append_getElem h, List.flatMap_append, List.flatMap_singleton]
theorem begE_take {l : List PCd} : ∀ {bs : List PBlk} {k first : Nat}, k < bs.length → begE l first (bs.take (k + 1)) = begE l first (bs.take k) ++ [((first + (blksE l (bs.take k)).length : Nat) : Int)] := by
  intro bs
  induction bs with
  | nil => intro k first h; cases h
  | cons b bs ih =>
    intro k first h
    cases k with
    | zero => simp [begE, blksE]
    | succ k =>
      rw [List.take_succ_cons, List.take_succ_cons]
      unfold begE
      rw [ih (by simpa using h)]
      unfold blksE
      rw [List.flatMap_cons, List.length_append, List.cons_append, Nat.add_assoc]
theorem ins_take {l : List PCd} {xs : List PLow} {k : Nat} (h : k < xs.length) : (xs.take (k + 1)).flatMap (lowE l) = (xs.take k).flatMap (lowE l) ++ lowE l xs[k] := by
  rw [List.take_succ_eq_append_getElem h, List.flatMap_append, List.flatMap_singleton]
/-- The words of which the first k are placed. -/
def partE (bg : List Int) (ws : List PIns) (k : Nat) : List PIns := (ws.take k).map (placeE bg) ++ ws.drop k
theorem partE_len (bg : List Int) (ws : List PIns) (k : Nat) (h : k ≤ ws.length) : (partE bg ws k).length = ws.length := by
  unfold partE; rw [List.length_append, List.length_map, List.length_take, List.length_drop]; omega
theorem partE_at {bg : List Int} {ws : List PIns} {k : Nat} (h : k < ws.length) : (partE bg ws k)[k]'(by rw [partE_len _ _ _ (by omega)]; exact h) = ws[k] := by
  unfold partE
  rw [List.getElem_append_right (by simp; omega)]
  simp [Nat.min_eq_left (Nat.le_of_lt h)]
theorem partE_step {bg : List Int} {ws : List PIns} {k : Nat} (h : k < ws.length) : partE bg ws (k + 1) = (partE bg ws k).set k (placeE bg ws[k]) := by
  unfold partE
  rw [List.take_succ_eq_append_getElem h, List.map_append, List.set_append_right _ _ (by simp; omega), show ws.drop k = ws[k] :: ws.drop (k + 1) from List.drop_eq_getElem_cons h]
  simp [Nat.min_eq_left (Nat.le_of_lt h)]
  rw [show ws.drop k = ws[k] :: ws.drop (k + 1) from List.drop_eq_getElem_cons h, List.set_cons_zero]
theorem partE_same {bg : List Int} {ws : List PIns} {k : Nat} (h : k < ws.length) (hg : goesB ws[k] = false) : partE bg ws (k + 1) = partE bg ws k := by
  have e : placeE bg ws[k] = (partE bg ws k)[k]'(by rw [partE_len _ _ _ (by omega)]; exact h) := by rw [partE_at h]; unfold placeE; rw [if_neg (by rw [hg]; decide)]
  rw [partE_step h, e, List.set_getElem_self]
theorem partE_all (bg : List Int) (ws : List PIns) : partE bg ws ws.length = ws.map (placeE bg) := by unfold partE; simp
theorem partE_none (bg : List Int) (ws : List PIns) : partE bg ws 0 = ws := by unfold partE; simp
theorem grown_keepE {w w9 : World} {o ob : Obj} {r : Option Nat} {k : Nat} (hg : (w.alloc o).grownBy w9 r) (hk : w.heap[k]? = some ob) (hn : r ≠ some k) : w9.heap[k]? = some ob := by
  have hl := (Array.getElem?_eq_some_iff.1 hk).1
  rw [hg.block k (by simp; omega) (fun e => hn e.symm)]
  exact (old_block _ _ hl).trans hk
set_option maxHeartbeats 16000000 in
set_option maxRecDepth 100000 in
theorem code_any {w0 : World} {base eb : Nat} (hbase : w0.heap.size = base) {A : Option Addr} {l : List PCd} {cl : Nat} {vO : Value} {os : List PIns} {w : World} (h : EmAt base eb (.slice A l.length cl) os vO w) (hll : l.length ≤ 1000) (c : PCd) (Ac : Option Addr) (cc : Nat) (hg : GoodA c) (hsm : ∀ b ∈ c.blocks, b.ins.length ≤ 25) (h6 : ∀ b ∈ c.blocks, ∀ x ∈ b.ins, I64 x.num) (hbig : os.length + (blksE l c.blocks).length ≤ 80000) (hgo : ∀ i ∈ blksE l c.blocks, goesB i = true → ∃ k : Nat, k < c.blocks.length ∧ i.imm = k) (hW : Below base w0 w) (hrL : RdL w0 A l) (hrC : RdC w0 Ac c.blocks) :
    Calls Tryz.prog 25 #[.pointer (some ⟨eb, 0, none⟩), .agg #[.string (mkB c.name), .int .i64 c.params, .int .i64 c.slots, .slice Ac c.blocks.length cc]] w (EmPost base eb (.slice A l.length cl) (os ++ cdE l os.length c) vO w) := by
  obtain ⟨b0, hb0⟩ : ∃ b0, w.heap.size = b0 := ⟨_, rfl⟩
  obtain ⟨bx, hbx⟩ : ∃ bx, w.alloc (.cells #[.string (mkB c.name), .int .i64 c.params, .int .i64 c.slots, .slice Ac c.blocks.length cc] 32) = bx := ⟨_, rfl⟩
  have hb : Below w.heap.size w bx := by rw [← hbx]; exact grow_alloc (grow_refl _) _
  have hn : bx.heap[b0]? = some (.cells #[.string (mkB c.name), .int .i64 c.params, .int .i64 c.slots, .slice Ac c.blocks.length cc] 32 (0, 0)) := by rw [← hbx, ← hb0]; exact heap_alloc_new w _
  have h2 := h.below hb
  have hbb := hb.mono h.base_le
  have hmv : EmMv base eb vO vO w bx := EmMv.of_below hb h.base_le
  have HC0 : Hid (CoAt bx base eb (.slice A l.length cl) vO (os ++ blksE l (c.blocks.take 0)) vO (.slice none 0 0) (begE l os.length (c.blocks.take 0)) bx) := show CoAt _ _ _ _ _ _ _ _ _ _ from ⟨by rw [show blksE l (c.blocks.take 0) = [] from rfl, List.append_nil]; exact h2, EmMv.refl, World.ownsRow_nil _ _ _ _⟩
  obtain ⟨-, -, -, i3⟩ := row4A hn
  obtain ⟨AO, cO, hvO⟩ := own_slice h.out
  have o1 := h2.cells.2
  rw [hvO] at o1
  have HBX := Lib.hid (And.intro hbx hb0)
  have HMV := Lib.hid hmv
  have HRR : Hid (∀ w', Below base bx w' → Keeps w0 w') := fun w' hb' => Keeps.of_below (by rw [hbase]; exact hW.trans (hbb.trans hb'))
  have HRL := Lib.hid hrL
  have HGO := Lib.hid hgo
  have HBIG := Lib.hid hbig
  have HRC := Lib.hid hrC
  have HG := Lib.hid hg
  have HSM := Lib.hid hsm
  have HI6 := Lib.hid h6
  have hbA : base ≤ bx.heap.size := h2.base_le
  have hn3000 := hg.most
  have hlen0 : (0 : Int) ≤ os.length := by omega
  obtain ⟨i0, hi, hz0, hz1, hz2⟩ := info_parts intInfo
  clear h h2 hb hbb hmv hbx hb0 hg hsm h6 hgo hW hrL hrC hn hvO hbase
  go_enter Tryz.func25, Tryz.ntmps25
  go_upto_region 1 with fail
  change Code.wp _ _ _ _ (w.alloc (.cells #[.string (mkB c.name), .int .i64 c.params, .int .i64 c.slots, .slice Ac c.blocks.length cc] 32))
  rw [HBX.out.1, HBX.out.2]
  go_wp2_with fail
  go_loopw [5, 7, 9, 20] (fun bv _ _ i wr => ∃ (k : Nat) (vO1 : Value), k ≤ c.blocks.length ∧ i = .int .i64 k ∧ CoAt bx base eb (.slice A l.length cl) vO (os ++ blksE l (c.blocks.take k)) vO1 bv (begE l os.length (c.blocks.take k)) wr) (fun _ _ _ i _ => c.blocks.length - (intOf i).toNat)
  case atStart => exact ⟨0, _, Nat.zero_le _, rfl, HC0.out⟩
  case round =>
    obtain ⟨k, vO1, hk, rfl, hco⟩ := hrel
    by_cases hlt : k < c.blocks.length
    · have hlt' : (k : Int) < (c.blocks.length : Int) := by omega
      have hk0 : (0 : Int) ≤ k := by omega
      obtain ⟨b, off, I, ic, N, nc, rfl, hB0⟩ := HRC.out k hlt
      obtain ⟨x, hx⟩ : ∃ x, c.blocks[k] = x := ⟨_, rfl⟩
      rw [hx] at hB0
      have hbm : x ∈ c.blocks := hx ▸ List.getElem_mem hlt
      have HXE : Hid (blksE l (c.blocks.take (k + 1)) = blksE l (c.blocks.take k) ++ blkE l x ∧ begE l os.length (c.blocks.take (k + 1)) = begE l os.length (c.blocks.take k) ++ [((os.length + (blksE l (c.blocks.take k)).length : Nat) : Int)] ∧ (begE l os.length (c.blocks.take k)).length = k ∧ (blksE l (c.blocks.take (k + 1))).length ≤ (blksE l c.blocks).length) := show _ ∧ _ from ⟨by rw [blksE_take hlt, hx], begE_take hlt, by rw [beg_len, List.length_take]; omega, by
        conv => rhs; rw [← List.take_append_drop (k + 1) c.blocks]
        unfold blksE
        rw [List.flatMap_append, List.length_append]
        omega⟩
      have HBO := Lib.hid (HG.out.blocks x hbm)
      have hl25 := HSM.out x hbm
      have HX6 := Lib.hid (HI6.out x hbm)
      obtain ⟨c0, c1, c2, c3, -, -⟩ := hB0.keep (HRR.out wr hco.mv.bel)
      obtain ⟨bq, hbq⟩ : ∃ bq, wr.heap.size = bq := ⟨_, rfl⟩
      obtain ⟨wB, hwB⟩ : ∃ wB, wr.alloc (.cells #[.slice I x.ins.length ic, .string (mkB x.fin), .int .i64 x.a, .slice N x.nx.length nc] 74) = wB := ⟨_, rfl⟩
      have hbB : Below wr.heap.size wr wB := by rw [← hwB]; exact grow_alloc (grow_refl _) _
      have hmB : wB.heap[bq]? = some (.cells #[.slice I x.ins.length ic, .string (mkB x.fin), .int .i64 x.a, .slice N x.nx.length nc] 74 (0, 0)) := by rw [← hwB, ← hbq]; exact heap_alloc_new wr _
      have hcB := hco.below hbB
      obtain ⟨osk, hosk⟩ : ∃ z, os ++ blksE l (c.blocks.take k) = z := ⟨_, rfl⟩
      obtain ⟨bgk, hbgk⟩ : ∃ z, begE l os.length (c.blocks.take k) = z := ⟨_, rfl⟩
      rw [hosk, hbgk] at hcB
      obtain ⟨AO1, cO1, rfl⟩ := own_slice hcB.em.out
      have o1 := hcB.em.cells.2
      obtain ⟨AB, cB, rfl⟩ := own_slice hcB.bg
      have hkl : bgk.length = k := by rw [← hbgk]; exact HXE.out.2.2.1
      have hosl : (osk.length : Int) = os.length + (blksE l (c.blocks.take k)).length := by rw [← hosk]; simp
      have HWB := Lib.hid (And.intro hwB hbq)
      have HMB := Lib.hid hmB
      have HCB := Lib.hid hcB
      have HOK := Lib.hid (And.intro hosk (And.intro hbgk hosl))
      have hbs : bx.heap.size ≤ wB.heap.size := hcB.mv.bel.size
      have hkm : k + 1 ≤ 3000 := by omega
      have HLT := Lib.hid hlt
      have HRW : Hid (∀ w', Below base bx w' → Row w' I (x.ins.flatMap lowL) ∧ Row w' N (intVs x.nx) ∧ RdL w' A l) := fun w' hb' => ⟨hB0.ins.keep (HRR.out w' hb'), hB0.nx.keep (HRR.out w' hb'), HRL.out.keep (HRR.out w' hb')⟩
      clear hco hx hwB hbq hbB hmB hcB hosk hbgk hosl hlt hk hB0
      go_upto_region 6 with fail
      rw [HWB.out.1, HWB.out.2]
      clear c0 c1 c2 c3
      obtain ⟨c0, c1, c2, c3⟩ := row4A HMB.out
      go_upto_region 8 with (at_builtin; (refine wpList_append_lies _ rfl (.tmp 24) (.tmp 30) 23 rfl bx.heap.size 3 i0 _ 1 8 Tryz.underlying23 hi hz0 hz1 hz2 rfl (by decide) _ bgk.length (intVs bgk) rfl (World.ownsRow.alloc HCB.out.bg _) ⟨wB.heap.size, 0, none⟩ 1 1 [.int .i64 osk.length] rfl rfl (World.news_of_block (heap_alloc_new wB _)) (fun u hu => by simp at hu; subst hu; rfl) (by decide) (by unfold maxLen; omega) (by omega) (by simp; omega) _ rfl ?_; intro g cap w4 hown hgrow _ _; have hc4 := HCB.out.next hbA hown hgrow; have hm4 := grown_keepE hgrow HMB.out (fun e => by have h1 := (own_lt HCB.out.bg e).1; have h2 := own_blk HCB.out.bg e; obtain ⟨cs, h2⟩ := h2; rw [HMB.out] at h2; injection h2 with h2; injection h2 with _ h2 _; exact absurd h2 (by decide)); have HC4 := Lib.hid hc4; have HM4 := Lib.hid hm4; obtain ⟨c0, c1, c2, c3⟩ := row4A hm4; clear hown hgrow hc4 hm4))
      have HLEN : Hid (∀ j, (osk ++ (x.ins.take j).flatMap (lowE l)).length + (endE x).length ≤ 80000) := fun j => by
        have h1 := HXE.out.2.2.2
        rw [HXE.out.1, List.length_append] at h1
        have h2 : ((x.ins.take j).flatMap (lowE l)).length + (endE x).length ≤ (blkE l x).length := by
          unfold blkE
          conv => rhs; rw [← List.take_append_drop j x.ins]
          rw [List.flatMap_append, List.length_append, List.length_append]
          omega
        rw [List.length_append]
        have h3 := HOK.out.2.2
        omega
      go_loopw [9, 35] (fun _ i wx => ∃ (j : Nat) (vO2 : Value), j ≤ x.ins.length ∧ i = .int .i64 j ∧ CoAt bx base eb (.slice A l.length cl) vO (osk ++ (x.ins.take j).flatMap (lowE l)) vO2 (.slice (some ⟨g, 0, none⟩) (bgk.length + 1) cap) (bgk ++ [(osk.length : Int)]) wx ∧ wx.heap[bq]? = some (.cells #[.slice I x.ins.length ic, .string (mkB x.fin), .int .i64 x.a, .slice N x.nx.length nc] 74 (0, 0))) (fun _ i _ => x.ins.length - (intOf i).toNat)
      case atStart => exact ⟨0, _, Nat.zero_le _, rfl, by rw [show (x.ins.take 0).flatMap (lowE l) = [] from rfl, List.append_nil]; exact HC4.out, HM4.out⟩
      case round =>
        obtain ⟨j, vO2, hj, rfl, hc, hm⟩ := hrel
        clear c0 c1 c2 c3
        by_cases hlt2 : j < x.ins.length
        · have hlt2' : (j : Int) < (x.ins.length : Int) := by omega
          have hj0 : (0 : Int) ≤ j := by omega
          obtain ⟨b5, off5, rfl, hL5⟩ := low_cells (HRW.out _ hc.mv.bel).1 hlt2
          obtain ⟨l0, l1, l2, l3, l4, l5⟩ := hL5
          have hym : x.ins[j] ∈ x.ins := List.getElem_mem hlt2
          have HST := Lib.hid (ins_take (l := l) hlt2)
          obtain ⟨y, hy⟩ : ∃ y, x.ins[j] = y := ⟨_, rfl⟩
          rw [hy] at l0 l1 l2 l3 l4 l5 hym HST
          obtain ⟨q2, hq2⟩ : ∃ q2, wr.heap.size = q2 := ⟨_, rfl⟩
          obtain ⟨wL, hwL⟩ : ∃ wL, wr.alloc (.cells #[.string (mkB y.kind), .int .i64 y.d, .int .i64 y.a, .int .i64 y.b, .int .i64 y.num, .string (mkB y.name)] 71) = wL := ⟨_, rfl⟩
          have hbL : Below wr.heap.size wr wL := by rw [← hwL]; exact grow_alloc (grow_refl _) _
          have hmL : wL.heap[q2]? = some (.cells #[.string (mkB y.kind), .int .i64 y.d, .int .i64 y.a, .int .i64 y.b, .int .i64 y.num, .string (mkB y.name)] 71 (0, 0)) := by rw [← hwL, ← hq2]; exact heap_alloc_new wr _
          have hcL := hc.below hbL
          have hmB2 := (hbL.block _ (Array.getElem?_eq_some_iff.1 hm).1).trans hm
          have HLO := Lib.hid (low_any hcL.em (by have := HLEN.out j; omega) hll (HRW.out _ hcL.mv.bel).2.2 y (HBO.out.ins y hym) (HX6.out y hym))
          have HCL := Lib.hid hcL
          have HM2 := Lib.hid hmB2
          have HWL := Lib.hid (And.intro hwL hq2)
          have HML := Lib.hid hmL
          have HLT2 := Lib.hid hlt2
          clear hwL hq2 hbL hmL hcL hmB2 hc hm hlt2 hy hym hj
          go_upto_region 10 with fail
          rw [HWL.out.1, HWL.out.2]
          clear l0 l1 l2 l3 l4 l5
          obtain ⟨l0, l1, l2, l3, l4, l5⟩ := row6E HML.out
          go_wp2_with (go_at_call 48; (with_reducible refine HLO.out.mono ?_); rintro z w5 ⟨rfl, vO3, h5, m5⟩; have H5 := Lib.hid (HCL.out.emit h5 m5); have HM5 := Lib.hid (CoAt.kp m5 HCL.out.em HM2.out (by decide) (by decide)); clear h5 m5)
          go_roundw
          case rel => exact ⟨j + 1, vO3, by have := HLT2.out; omega, by go_num, by rw [HST.out, ← List.append_assoc]; exact H5.out, HM5.out⟩
          case measure => have := HLT2.out; simp [intOf]; omega
        · have hj' : j = x.ins.length := by omega
          subst hj'
          rw [List.take_length] at hc
          obtain ⟨c0, c1, c2, c3⟩ := row4A hm
          have HLE := HLEN.out x.ins.length
          rw [List.take_length] at HLE
          have HHC := Lib.hid hc
          have HHM := Lib.hid hm
          have HLL := Lib.hid HLE
          have hnx := HBO.out.nx
          have hregs := HBO.out.reg
          have HEND : Hid (∀ (os2 : List PIns) (vO5 : Value) (w5 : World), endE x = os2 → CoAt bx base eb (.slice A l.length cl) vO (osk ++ x.ins.flatMap (lowE l) ++ os2) vO5 (.slice (some ⟨g, 0, none⟩) (bgk.length + 1) cap) (bgk ++ [(osk.length : Int)]) w5 → CoAt bx base eb (.slice A l.length cl) vO (os ++ blksE l (c.blocks.take (k + 1))) vO5 (.slice (some ⟨g, 0, none⟩) (bgk.length + 1) cap) (begE l os.length (c.blocks.take (k + 1))) w5) := fun os2 vO5 w5 e hc5 => by
            rw [HXE.out.1, HXE.out.2.1, ← List.append_assoc, HOK.out.1, HOK.out.2.1, show ((os.length + (blksE l (c.blocks.take k)).length : Nat) : Int) = osk.length by have := HOK.out.2.2; omega]
            unfold blkE
            rw [e, ← List.append_assoc]
            exact hc5
          have HNR : Hid (Row wr N (intVs x.nx)) := (HRW.out _ hc.mv.bel).2.1
          clear hc hm hlt2 hj HLE
          rcases fin_casesE HBO.out.fin with hf | hf | hf
          · have hnx1 : x.nx.length = 1 := by rw [hf] at hnx; have : endN eJump = 1 := rfl; omega
            have hl0 : 0 < x.nx.length := by omega
            obtain ⟨b6, off6, hN6, hc6⟩ := HNR.out 0 _ (intVs_get hl0)
            subst hN6
            rw [Nat.add_zero] at hc6
            have hxl : (0 : Int) < (x.nx.length : Int) := by omega
            obtain ⟨n0, hn0⟩ : ∃ z, x.nx[0] = z := ⟨_, rfl⟩
            rw [hn0] at hc6
            have HE : Hid (endE x = [⟨jumpT, 0, 0, 0, n0⟩]) := show _ = _ by unfold endE; rw [if_pos (by rw [hf]; rfl), List.getD_eq_getElem?_getD, List.getElem?_eq_getElem hl0, hn0]; rfl
            have HA : Hid (Calls Tryz.prog 49 #[.pointer (some ⟨eb, 0, none⟩), .agg #[.string ⟨#[106, 117, 109, 112]⟩, .int .i64 0, .int .i64 0, .int .i64 0, .int .i64 n0]] wr _) := add_any HHC.out.em (by have := HLL.out; omega) ⟨jumpT, 0, 0, 0, n0⟩
            have b1' : wr.cell? ⟨bq, 1, none⟩ = some (.string ⟨#[106, 117, 109, 112]⟩) := by rw [c1, hf]; rfl
            clear c1 hf hn0 hnx hregs
            go_wp2_with (go_at_call 49; (with_reducible refine HA.out.mono ?_); rintro z w5 ⟨rfl, vO5, h5, m5⟩; have H5 := Lib.hid (HEND.out _ _ _ HE.out (HHC.out.emit h5 m5)); clear h5 m5)
            go_roundw
            case rel => exact ⟨k + 1, vO5, by have := HLT.out; omega, by go_num, by have h9 := H5.out; rw [hkl] at h9; exact h9⟩
            case measure => have := HLT.out; simp [intOf]; omega
          · have hnx1 : x.nx.length = 2 := by rw [hf] at hnx; have : endN eIf = 2 := rfl; omega
            have hl0 : 0 < x.nx.length := by omega
            have hl1 : 1 < x.nx.length := by omega
            obtain ⟨b6, off6, hN6, hc6⟩ := HNR.out 0 _ (intVs_get hl0)
            obtain ⟨b7, off7, hN7, hc7⟩ := HNR.out 1 _ (intVs_get hl1)
            rw [hN6] at hN7
            injection hN7 with hN7
            injection hN7 with e7 e8 _
            subst e7; subst e8
            have HNX : Hid (∀ w', Below base bx w' → w'.cell? ⟨b6, off6 + 1, none⟩ = some (.int .i64 x.nx[1])) := fun w' hb' => by
              obtain ⟨b9, off9, hN9, hc9⟩ := (HRW.out w' hb').2.1 1 _ (intVs_get hl1)
              rw [hN6] at hN9
              injection hN9 with hN9
              injection hN9 with e7 e8 _
              subst e7; subst e8
              exact hc9
            subst hN6
            rw [Nat.add_zero] at hc6
            have hxl : (0 : Int) < (x.nx.length : Int) := by omega
            have hxl1 : (1 : Int) < (x.nx.length : Int) := by omega
            obtain ⟨n0, hn0⟩ : ∃ z, x.nx[0] = z := ⟨_, rfl⟩
            obtain ⟨n1, hn1⟩ : ∃ z, x.nx[1] = z := ⟨_, rfl⟩
            rw [hn0] at hc6
            rw [hn1] at hc7 HNX
            have HE : Hid (endE x = [⟨ifT, 0, x.a, 0, n0⟩, ⟨jumpT, 0, 0, 0, n1⟩]) := show _ = _ by unfold endE; rw [if_neg (by rw [hf]; decide), if_pos (by rw [hf]; rfl), List.getD_eq_getElem?_getD, List.getElem?_eq_getElem hl0, List.getD_eq_getElem?_getD, List.getElem?_eq_getElem hl1, hn0, hn1]; rfl
            have HA : Hid (∀ w', Below wr.heap.size wr w' → Calls Tryz.prog 49 #[.pointer (some ⟨eb, 0, none⟩), .agg #[.string ⟨#[105, 102]⟩, .int .i64 0, .int .i64 x.a, .int .i64 0, .int .i64 n0]] w' (EmPost base eb (.slice A l.length cl) (osk ++ x.ins.flatMap (lowE l) ++ [⟨ifT, 0, x.a, 0, n0⟩]) vO2 w')) := fun w' hb' => add_any (HHC.out.em.below hb') (by have := HLL.out; omega) ⟨ifT, 0, x.a, 0, n0⟩
            have HA2 : Hid (∀ vO5 w5, CoAt bx base eb (.slice A l.length cl) vO (osk ++ x.ins.flatMap (lowE l) ++ [⟨ifT, 0, x.a, 0, n0⟩]) vO5 (.slice (some ⟨g, 0, none⟩) (bgk.length + 1) cap) (bgk ++ [(osk.length : Int)]) w5 → Calls Tryz.prog 49 #[.pointer (some ⟨eb, 0, none⟩), .agg #[.string ⟨#[106, 117, 109, 112]⟩, .int .i64 0, .int .i64 0, .int .i64 0, .int .i64 n1]] w5 (EmPost base eb (.slice A l.length cl) (osk ++ x.ins.flatMap (lowE l) ++ [⟨ifT, 0, x.a, 0, n0⟩] ++ [⟨jumpT, 0, 0, 0, n1⟩]) vO5 w5)) := fun vO5 w5 h5 => add_any h5.em (by have := HLL.out; rw [List.length_append]; simp only [List.length_singleton]; omega) ⟨jumpT, 0, 0, 0, n1⟩
            have b1' : wr.cell? ⟨bq, 1, none⟩ = some (.string ⟨#[105, 102]⟩) := by rw [c1, hf]; rfl
            clear c1 hf hn0 hn1 hnx hregs
            go_upto_region 17 with fail
            go_still_tail 8, (by kernel_rfl)
            change wpList _ _ _ _ _ wr.drew
            go_upto_region 18 with (go_at_call 49; (with_reducible refine (HA.out _ (drewE (grow_refl wr))).mono ?_); rintro z w5 ⟨rfl, vO5, h5, m5⟩; have hcd := HHC.out.below (drewE (grow_refl wr)); have hc5 := hcd.emit h5 m5; have hm5 := CoAt.kp m5 hcd.em (w := wr.drew) HHM.out (by decide) (by decide); have H5 := Lib.hid hc5; have HC6 := Lib.hid (HA2.out vO5 w5 hc5); obtain ⟨c0, c1, c2, c3⟩ := row4A hm5; have hc7 := HNX.out w5 hc5.mv.bel; clear h5 m5 hcd hc5 hm5)
            go_wp2_with (go_at_call 49; (with_reducible refine HC6.out.mono ?_); rintro z w6 ⟨rfl, vO6, h6, m6⟩; have H6 := Lib.hid (HEND.out [⟨ifT, 0, x.a, 0, n0⟩, ⟨jumpT, 0, 0, 0, n1⟩] _ _ HE.out (by have := H5.out.emit h6 m6; rw [List.append_assoc _ [_] [_]] at this; exact this)); clear h6 m6)
            go_roundw
            case rel => exact ⟨k + 1, vO6, by have := HLT.out; omega, by go_num, by have h9 := H6.out; rw [hkl] at h9; exact h9⟩
            case measure => have := HLT.out; simp [intOf]; omega
          · have HE : Hid (endE x = [⟨returnT, 0, x.a, 0, 0⟩]) := show _ = _ by unfold endE; rw [if_neg (by rw [hf]; decide), if_neg (by rw [hf]; decide)]
            have HA : Hid (Calls Tryz.prog 49 #[.pointer (some ⟨eb, 0, none⟩), .agg #[.string ⟨#[114, 101, 116, 117, 114, 110]⟩, .int .i64 0, .int .i64 x.a, .int .i64 0, .int .i64 0]] wr _) := add_any HHC.out.em (by have := HLL.out; omega) ⟨returnT, 0, x.a, 0, 0⟩
            have b1' : wr.cell? ⟨bq, 1, none⟩ = some (.string ⟨#[114, 101, 116, 117, 114, 110]⟩) := by rw [c1, hf]; rfl
            clear c1 hf hnx hregs
            go_wp2_with (go_at_call 49; (with_reducible refine HA.out.mono ?_); rintro z w5 ⟨rfl, vO5, h5, m5⟩; have H5 := Lib.hid (HEND.out _ _ _ HE.out (HHC.out.emit h5 m5)); clear h5 m5)
            go_roundw
            case rel => exact ⟨k + 1, vO5, by have := HLT.out; omega, by go_num, by have h9 := H5.out; rw [hkl] at h9; exact h9⟩
            case measure => have := HLT.out; simp [intOf]; omega
    · have hk' : k = c.blocks.length := by omega
      subst hk'
      rw [List.take_length] at hco
      obtain ⟨ws, hws⟩ : ∃ ws, blksE l c.blocks = ws := ⟨_, rfl⟩
      obtain ⟨bg, hbg⟩ : ∃ bg, begE l os.length c.blocks = bg := ⟨_, rfl⟩
      rw [hws, hbg] at hco
      have HEQ : Hid (cdE l os.length c = ws.map (placeE bg) ∧ bg.length = c.blocks.length) := show _ ∧ _ from ⟨by unfold cdE; rw [hws, hbg], by rw [← hbg, beg_len]⟩
      have HGW : Hid (∀ i ∈ ws, goesB i = true → ∃ k : Nat, k < bg.length ∧ i.imm = k) := fun i hi9 hg9 => by rw [HEQ.out.2]; exact HGO.out i (by rw [hws]; exact hi9) hg9
      have hN8 : (os ++ ws).length ≤ 80000 := by have := HBIG.out; rw [hws] at this; rw [List.length_append]; exact this
      obtain ⟨AO1, cO1, rfl⟩ := own_slice hco.em.out
      obtain ⟨AB, cB, rfl⟩ := own_slice hco.bg
      obtain ⟨L, hL⟩ : ∃ L, (os ++ ws).length = L := ⟨_, rfl⟩
      have hL2 : L = os.length + ws.length := by rw [← hL, List.length_append]
      rw [hL] at hco hN8
      have o1 := hco.em.cells.2
      have HL := Lib.hid (And.intro hL2 hN8)
      have HC8 : Hid (CoAt bx base eb (.slice A l.length cl) vO (os ++ partE bg ws 0) (.slice AO1 L cO1) (.slice AB bg.length cB) bg wr) := show CoAt _ _ _ _ _ _ _ _ _ _ from by rw [partE_none]; exact hco
      clear hco hws hbg hlt hk hL hL2
      go_wp2_with fail
      go_loopw [10, 11] (fun i _ wx => ∃ m idx : Nat, m ≤ ws.length ∧ idx = os.length + m ∧ i = .int .i64 idx ∧ CoAt bx base eb (.slice A l.length cl) vO (os ++ partE bg ws m) (.slice AO1 L cO1) (.slice AB bg.length cB) bg wx) (fun i _ _ => L - (intOf i).toNat)
      case atStart => exact ⟨0, os.length, Nat.zero_le _, rfl, rfl, HC8.out⟩
      case round =>
        obtain ⟨m, idx, hm, hidx, rfl, hc⟩ := hrel
        clear o1
        have o1 := hc.em.cells.2
        have hL2 := HL.out.1
        by_cases hlt : m < ws.length
        · have hix : (idx : Int) < (L : Int) := by omega
          have hix0 : (0 : Int) ≤ idx := by omega
          have hlen : (os ++ partE bg ws m).length = L := by rw [List.length_append, partE_len _ _ _ hm]; omega
          have hem : EmAt base eb (.slice A l.length cl) (os ++ partE bg ws m) (.slice AO1 (os ++ partE bg ws m).length cO1) wr := by rw [hlen]; exact hc.em
          have hil : idx < (os ++ partE bg ws m).length := by omega
          obtain ⟨g, rfl, p0, p4, pz⟩ := hem.out_cells hil
          have hat : (os ++ partE bg ws m)[idx] = ws[m] := by
            subst hidx
            rw [List.getElem_append_right (by omega)]
            simp only [Nat.add_sub_cancel_left]
            exact partE_at hlt
          rw [hat] at p0 p4
          have HIM := Lib.hid (fun v => hem.imm hil v)
          obtain ⟨wi, hwi⟩ : ∃ wi, ws[m] = wi := ⟨_, rfl⟩
          rw [hwi] at p0 p4
          have hwm : wi ∈ ws := hwi ▸ List.getElem_mem hlt
          have HSAME : Hid (goesB wi = false → partE bg ws (m + 1) = partE bg ws m) := fun hg9 => partE_same hlt (by rw [hwi]; exact hg9)
          have HSTEP : Hid (os ++ partE bg ws (m + 1) = (os ++ partE bg ws m).set idx (placeE bg wi)) := show _ = _ by
            rw [partE_step hlt, hwi, hidx, List.set_append_right _ _ (by omega), Nat.add_sub_cancel_left]
          have HAT := Lib.hid (And.intro hlen hidx)
          have HCC := Lib.hid hc
          have HLM := Lib.hid hlt
          have hgb : goesB wi = (wi.op == jumpT || wi.op == ifT) := rfl
          obtain ⟨iop, hiop⟩ : ∃ z, wi.op = z := ⟨_, rfl⟩
          rw [hiop] at p0 hgb
          cases hg1 : goesB wi with
          | false =>
            rw [hg1] at hgb
            obtain ⟨hj, hf⟩ := Bool.or_eq_false_iff.1 hgb.symm
            have k1 : ((mkB iop).toList == [106, 117, 109, 112]) = false := by rw [mkB_toList]; exact hj
            have k2 : ((mkB iop).toList == [105, 102]) = false := by rw [mkB_toList]; exact hf
            have HS := Lib.hid (HSAME.out hg1)
            clear HIM hc hem hat hwi hwm hgb hj hf hg1 hil hlen hiop hm hidx hlt pz
            go_wp2_with fail
            go_roundw
            case rel =>
              have hlm := HLM.out
              have hid := HAT.out.2
              exact ⟨m + 1, idx + 1, by omega, by omega, by go_num, by rw [HS.out]; exact HCC.out⟩
            case measure => have hlm := HLM.out; simp [intOf]; omega
          | true =>
            obtain ⟨kk, hkk, hkk2⟩ := HGW.out wi hwm hg1
            have hkI : (kk : Int) < (bg.length : Int) := by omega
            have hkI0 : (0 : Int) ≤ kk := by omega
            rw [hkk2] at p4
            obtain ⟨AB9, cB9, eB9, -, hrB⟩ := owns_rowG hc.bg
            injection eB9 with eB9 _ eB10
            subst eB9; subst eB10
            obtain ⟨b8, off8, rfl, r8⟩ := hrB kk _ (intVs_get hkk)
            obtain ⟨v8, hv8⟩ : ∃ v, bg[kk] = v := ⟨_, rfl⟩
            rw [hv8] at r8
            have zz := pz (idx * 5 + 4)
            have HPL : Hid (placeE bg wi = { (os ++ partE bg ws m)[idx] with imm := v8 }) := show _ = _ by
              unfold placeE
              rw [if_pos hg1, hkk2, Int.toNat_natCast, List.getD_eq_getElem?_getD, List.getElem?_eq_getElem hkk, Option.getD_some, hv8, hat, hwi]
            have HST : Hid (CoAt bx base eb (.slice A l.length cl) vO (os ++ partE bg ws (m + 1)) (.slice (some ⟨g, 0, none⟩) L cO1) (.slice (some ⟨b8, off8, none⟩) bg.length cB) bg (wr.setCell ⟨g, idx * 5 + 4, none⟩ (.int .i64 v8))) := show CoAt _ _ _ _ _ _ _ _ _ _ from by
              rw [HSTEP.out, HPL.out]
              have h9 := HIM.out v8
              rw [hlen] at h9
              exact hc.emit h9.1 h9.2
            have HST1 : Hid (CoAt bx base eb (.slice A l.length cl) vO (os ++ partE bg ws (m + 1)) (.slice (some ⟨g, 0, none⟩) L cO1) (.slice (some ⟨b8, off8, none⟩) bg.length cB) bg ((wr.drewN 1).setCell ⟨g, idx * 5 + 4, none⟩ (.int .i64 v8))) := show CoAt _ _ _ _ _ _ _ _ _ _ from (HST.out).below (w' := (wr.drewN 1).setCell ⟨g, idx * 5 + 4, none⟩ (.int .i64 v8)) (below_drewN (Below.refl _ _) 1)
            by_cases hj : iop = jumpT
            · have k1 : ((mkB iop).toList == [106, 117, 109, 112]) = true := by rw [mkB_toList, hj]; rfl
              clear HIM HPL hc hem hat hwi hwm hgb hj hg1 hil hlen hiop hm hidx hlt pz hrB hv8 hkk hkk2
              go_upto_region 25 with fail
              go_still_tail 18, (by kernel_rfl)
              change wpList _ _ _ _ _ wr.drew
              go_wp2_with fail
              go_roundw
              case rel =>
                have hlm := HLM.out
                have hid := HAT.out.2
                exact ⟨m + 1, idx + 1, by omega, by omega, by go_num, HST1.out⟩
              case measure => have hlm := HLM.out; simp [intOf]; omega
            · have k1 : ((mkB iop).toList == [106, 117, 109, 112]) = false := by rw [mkB_toList]; exact beq_eq_false_iff_ne.2 hj
              have k2 : ((mkB iop).toList == [105, 102]) = true := by
                rw [mkB_toList]
                rw [hg1] at hgb
                have h9 : (iop == jumpT) = false := beq_eq_false_iff_ne.2 hj
                rw [h9] at hgb
                exact hgb.symm
              clear HIM HPL hc hem hat hwi hwm hgb hj hg1 hil hlen hiop hm hidx hlt pz hrB hv8 hkk hkk2
              go_upto_region 25 with fail
              go_still_tail 18, (by kernel_rfl)
              change wpList _ _ _ _ _ wr.drew
              go_wp2_with fail
              go_roundw
              case rel =>
                have hlm := HLM.out
                have hid := HAT.out.2
                exact ⟨m + 1, idx + 1, by omega, by omega, by go_num, HST1.out⟩
              case measure => have hlm := HLM.out; simp [intOf]; omega
        · have hm' : m = ws.length := by omega
          subst hm'
          rw [partE_all] at hc
          have HCC := Lib.hid hc
          have hix : ¬ ((idx : Int) < (L : Int)) := by omega
          clear hc hlt hm
          go_wp2_with fail
          go_returns
          exact ⟨rfl, _, by rw [HEQ.out.1]; exact HCC.out.em, HMV.out.trans HCC.out.mv⟩
end Go.Proofs.YtonnhechjbdenaaGreatDoor
