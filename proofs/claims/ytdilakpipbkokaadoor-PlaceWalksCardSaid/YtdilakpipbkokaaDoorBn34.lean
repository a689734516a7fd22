import Derived.Deep.RegionHeld3
import Derived.Test.YtdilakpipbkokaaDoorBn33
set_option linter.unusedVariables false
set_option linter.unusedSimpArgs false
namespace Go.Proofs.YtdilakpipbkokaaDoor
open Go.RowKit

/-! a code as the package has it: the walk (printed by gen_plas.py) -/
theorem own_bel {w w' : World} {base size : Nat} {e : TypeId} {v : Value} {n : Nat} {xs : List Value} (h : w.ownsRow base e size v n xs) (hb : Below w.heap.size w w') : w'.ownsRow base e size v n xs := own_same h fun j hj => hb.block _ (own_lt h hj).2

theorem drewB {n : Nat} {a w : World} (h : Below n a w) : Below n a w.drew := below_drewN h 1
theorem cellDrewB {w : World} {a : Addr} {x : Value} (h : w.cell? a = some x) : w.drew.cell? a = some x := h
theorem allocBlkB {w w' W : World} {o : Obj} (hW : W.heap = (w.alloc o).heap) (hb : Below W.heap.size W w') : w'.heap[w.heap.size]? = (w.alloc o).heap[w.heap.size]? := by
  rw [hb.block w.heap.size (by rw [hW]; simp), hW]
theorem cellAllocB {w : World} {o : Obj} {a : Addr} {x : Value} (h : w.cell? a = some x) : (w.alloc o).cell? a = some x := Keeps.alloc _ _ _ _ h
theorem cellBelowB {w w' : World} {a : Addr} {x : Value} (hb : Below w.heap.size w w') (h : w.cell? a = some x) : w'.cell? a = some x := Keeps.of_below hb _ _ h
theorem set6B {w : World} {q : Nat} {a0 a1 a2 a3 a4 a5 v0 v1 v2 v3 v4 v5 : Value} {T : TypeId} {fz : Nat × Nat} (h : w.heap[q]? = some (.cells #[a0, a1, a2, a3, a4, a5] T fz)) :
    ((((((w.setCell ⟨q, 0, none⟩ v0).setCell ⟨q, 1, none⟩ v1).setCell ⟨q, 2, none⟩ v2).setCell ⟨q, 3, none⟩ v3).setCell ⟨q, 4, none⟩ v4).setCell ⟨q, 5, none⟩ v5).heap[q]? = some (.cells #[v0, v1, v2, v3, v4, v5] T fz) :=
  row_set (j := 5) v5 (row_set (j := 4) v4 (row_set (j := 3) v3 (row_set (j := 2) v2 (row_set (j := 1) v1 (row_set (j := 0) v0 h rfl) rfl) rfl) rfl) rfl) (by simp)
theorem far6B {w : World} {q : Nat} {v0 v1 v2 v3 v4 v5 : Value} (k : Nat) (hk : k ≠ q) : ((((((w.setCell ⟨q, 0, none⟩ v0).setCell ⟨q, 1, none⟩ v1).setCell ⟨q, 2, none⟩ v2).setCell ⟨q, 3, none⟩ v3).setCell ⟨q, 4, none⟩ v4).setCell ⟨q, 5, none⟩ v5).heap[k]? = w.heap[k]? :=
  (Below.heap_setCell _ _ _ _ hk).trans ((Below.heap_setCell _ _ _ _ hk).trans ((Below.heap_setCell _ _ _ _ hk).trans ((Below.heap_setCell _ _ _ _ hk).trans ((Below.heap_setCell _ _ _ _ hk).trans (Below.heap_setCell _ _ _ _ hk)))))
theorem put6B {n : Nat} {w0 w : World} {q : Nat} {v0 v1 v2 v3 v4 v5 : Value} (h : Below n w0 w) (hq : n ≤ q) : Below n w0 ((((((w.setCell ⟨q, 0, none⟩ v0).setCell ⟨q, 1, none⟩ v1).setCell ⟨q, 2, none⟩ v2).setCell ⟨q, 3, none⟩ v3).setCell ⟨q, 4, none⟩ v4).setCell ⟨q, 5, none⟩ v5) :=
  (((((h.setCell hq _).setCell hq _).setCell hq _).setCell hq _).setCell hq _).setCell hq _
theorem put6cB {w : World} {q : Nat} {v0 v1 v2 v3 v4 v5 x : Value} {a : Addr} (h : a.block < q) (hx : w.cell? a = some x) : ((((((w.setCell ⟨q, 0, none⟩ v0).setCell ⟨q, 1, none⟩ v1).setCell ⟨q, 2, none⟩ v2).setCell ⟨q, 3, none⟩ v3).setCell ⟨q, 4, none⟩ v4).setCell ⟨q, 5, none⟩ v5).cell? a = some x :=
  (World.cell?_of_block ((put6B (Below.refl q w) (Nat.le_refl _)).block _ h)).trans hx
theorem wpList_append_intsO {w : World} {ops : Array Oper} {rest : List Oper} {o : Oper} {a : Act} {Q : Exit → Act → World → Prop} (hgd : o.guard = none) (s x : Operand)
    (ho : o.op = .call { callee := .builtin .append, args := #[s, x], argTypes := #[25, 25] }) (ys : List Int) (hs : a.eval s = .slice none 0 0)
    (X : Option Addr) (c : Nat) (hx : a.eval x = .slice X ys.length c) (hrow : Row w X (intVs ys)) (hn : ys.length ≤ 100000)
    (h : ∀ A' c' w', w'.ownsRow w.heap.size 3 1 (.slice A' ys.length c') ys.length (intVs ys) → Row w' A' (intVs ys) → Below w.heap.size w w' → wpList Tryd.prog ops Q rest (a.put o.dst (.slice A' ys.length c')) w') :
    wpList Tryd.prog ops Q (o :: rest) a w :=
  wpList_plain hgd fun _ hK => wp_append_intsO s x ho ys hs X c hx hrow hn fun A' c' w' h1 h2 h3 => hK _ _ (h A' c' w' h1 h2 h3)
def ldAs : Op := Op.load 53 (Operand.tmp 58)
@[go_sem] theorem ldAs_eq : ldAs = Op.load 53 (Operand.tmp 58) := rfl
theorem cell_othC {w : World} {a : Addr} {b j : Nat} {u y : Value} (h : w.cell? a = some u) (hne : a.block ≠ b) : (w.setCell ⟨b, j, none⟩ y).cell? a = some u := (World.cell?_of_block (Below.heap_setCell w ⟨b, j, none⟩ y a.block hne)).trans h
theorem zAl {w w' : World} {o : Obj} (hb : Below (w.alloc o).heap.size (w.alloc o) w') : w'.heap[w.heap.size]? = some o := (hb.block _ (by simp)).trans (heap_alloc_new w o)
theorem zAd {w w' : World} {o : Obj} (hb : Below (w.alloc o).drew.heap.size (w.alloc o).drew w') : w'.heap[w.heap.size]? = some o := (hb.block _ (by show w.heap.size < (w.alloc o).heap.size; simp)).trans (heap_alloc_new w o)
theorem zDa {w w' : World} {o : Obj} (hb : Below (w.drew.alloc o).heap.size (w.drew.alloc o) w') : w'.heap[w.heap.size]? = some o := (hb.block _ (by show w.heap.size < (w.drew.alloc o).heap.size; simp)).trans (heap_alloc_new w.drew o)
/-- Both new rows, and the block that holds them. -/
theorem new_x {x : PBk} {wO wZ : World} {xb : Nat} {P N : Option Addr} {p t : Nat} (hb : wZ.heap[xb]? = some (.cells #[.slice P x.params.length p, .slice none 0 0, .string (mkB x.fin), .int .i64 x.v, .slice N x.nx.length t, .slice none 0 0] 56 (0, 0)))
    (h1 : wZ.ownsRow wO.heap.size 3 1 (.slice P x.params.length p) x.params.length (intVs x.params)) (h2 : wZ.ownsRow wO.heap.size 3 1 (.slice N x.nx.length t) x.nx.length (intVs x.nx)) : AsX x wO.heap.size xb 0 0 [] [] P p (.slice none 0 0) N t (.slice none 0 0) wZ :=
  ⟨hb, h1, World.ownsRow_nil _ _ _ _, rfl, fun s hs => (by cases hs), h2, World.ownsRow_nil _ _ _ _, rfl, fun s hs => (by cases hs)⟩
theorem own_far6 {w : World} {q base size : Nat} {e : TypeId} {v : Value} {n : Nat} {xs : List Value} {cs : Array Value} {v0 v1 v2 v3 v4 v5 : Value} (h : w.ownsRow base e size v n xs) (hb : w.heap[q]? = some (.cells cs 56 (0, 0))) (hE : 56 ≠ e) : ((((((w.setCell ⟨q, 0, none⟩ v0).setCell ⟨q, 1, none⟩ v1).setCell ⟨q, 2, none⟩ v2).setCell ⟨q, 3, none⟩ v3).setCell ⟨q, 4, none⟩ v4).setCell ⟨q, 5, none⟩ v5).ownsRow base e size v n xs :=
  own_same h fun j hj => far6B j fun e3 => own_apart h hb hE (by rw [hj, e3])
set_option maxHeartbeats 16000000 in
set_option maxRecDepth 100000 in
theorem AsCode_any (c : PCo) (A : Option Addr) (ca : Nat) (hn : c.blocks.length ≤ 100000) (hs : ∀ b ∈ c.blocks, PSm b) (w : World) (hr : RdP w c.blocks A) :
    Calls Tryd.prog 7 #[coV c A ca] w (AsCPost c w) := by
  obtain ⟨wA, hwA⟩ : ∃ wA, (w.alloc (.cells #[.string (mkB c.name), .int .i64 c.params, .int .i64 c.values, .slice A c.blocks.length ca] 24)).alloc (.cells #[.string ⟨#[]⟩, .int .i64 0, .int .i64 0, .slice none 0 0] 31) = wA := ⟨_, rfl⟩
  have hbA : Below w.heap.size w wA := by rw [← hwA]; exact grow_alloc (grow_alloc (grow_refl _) _) _
  have hmA : wA.heap[w.heap.size]? = some (.cells #[.string (mkB c.name), .int .i64 c.params, .int .i64 c.values, .slice A c.blocks.length ca] 24 (0, 0)) := by rw [← hwA]; exact (old_block _ _ (by simp)).trans (heap_alloc_new w _)
  have hrA : wA.heap[w.heap.size + 1]? = some (.cells #[.string ⟨#[]⟩, .int .i64 0, .int .i64 0, .slice none 0 0] 31 (0, 0)) := by rw [← hwA]; exact new_block _ _ (by simp)
  have hlA : w.heap.size + 1 < wA.heap.size := (Array.getElem?_eq_some_iff.1 hrA).1
  have HX : Hid (∀ w', Below wA.heap.size wA w' → (w'.cell? ⟨w.heap.size, 0, none⟩ = some (.string (mkB c.name)) ∧ w'.cell? ⟨w.heap.size, 1, none⟩ = some (.int .i64 c.params) ∧ w'.cell? ⟨w.heap.size, 2, none⟩ = some (.int .i64 c.values) ∧ w'.cell? ⟨w.heap.size, 3, none⟩ = some (.slice A c.blocks.length ca)) ∧ w'.heap[w.heap.size + 1]? = some (.cells #[.string ⟨#[]⟩, .int .i64 0, .int .i64 0, .slice none 0 0] 31 (0, 0)) ∧ RdP w' c.blocks A ∧ Below w.heap.size w w') := fun w' hb =>
    ⟨row4B ((hb.block _ (by omega)).trans hmA), (hb.block _ hlA).trans hrA, hr.keep (Keeps.of_below (grow_trans hbA hb)), grow_trans hbA hb⟩
  obtain ⟨ob, hob⟩ : ∃ ob, wA.heap.size = ob := ⟨_, rfl⟩
  obtain ⟨wP, hwP⟩ : ∃ wP, wA.alloc (.cells #[.string (mkB c.name), .int .i64 c.params, .int .i64 c.values, .slice none 0 0] 31) = wP := ⟨_, rfl⟩
  have hbP : Below wA.heap.size wA wP := by rw [← hwP]; exact grow_alloc (grow_refl _) _
  have has0 : AsC c wA.heap.size ob 0 [] (.slice none 0 0) wP := ⟨by rw [← hwP, ← hob]; exact heap_alloc_new wA _, World.ownsRow_nil _ _ _ _, rfl, fun t ht => by cases ht⟩
  have HWA := Lib.hid hwA
  have HWP := Lib.hid hwP
  have HOB := Lib.hid hob
  have HBP := Lib.hid hbP
  have HAS0 := Lib.hid has0
  have HS := Lib.hid hs
  have hobl : wA.heap.size ≤ ob := by omega
  have hlw : w.heap.size + 1 < wA.heap.size := hlA
  obtain ⟨⟨i0, i1, i2, i3⟩, -, -, -⟩ := HX.out wA (grow_refl _)
  obtain ⟨li, hli, lz0, lz1, lz2⟩ := info_parts pinInfo
  obtain ⟨bi, hbi, bz0, bz1, bz2⟩ := info_parts pbkInfo
  obtain ⟨si, hsi, sz0, sz1, sz2⟩ := info_parts pisInfo
  unfold coV
  clear hr hs hbA hmA hrA hwA hwP hob hbP has0 hlA
  go_enter Tryd.func7, Tryd.ntmps7
  go_upto_region 1 with fail
  change Code.wp _ _ _ _ ((w.alloc (.cells #[.string (mkB c.name), .int .i64 c.params, .int .i64 c.values, .slice A c.blocks.length ca] 24)).alloc (.cells #[.string ⟨#[]⟩, .int .i64 0, .int .i64 0, .slice none 0 0] 31))
  rw [HWA.out]
  go_upto_region 2 with fail
  try change Code.wp _ _ _ _ (wA.alloc (.cells #[.string (mkB c.name), .int .i64 c.params, .int .i64 c.values, .slice none 0 0] 31))
  rw [HOB.out]
  rw [HWP.out]
  go_wp2_with fail
  go_loopw [4, 5, 6, 7, 8, 9, 10, 11, 12, 13] (fun ii _ _ _ _ _ _ _ _ _ wr => ∃ (k : Nat) (ts : List BC) (vB : Value), k ≤ c.blocks.length ∧ ii = .int .i64 k ∧ AsC c wA.heap.size ob k ts vB wr ∧ Below wA.heap.size wA wr) (fun ii _ _ _ _ _ _ _ _ _ _ => c.blocks.length - (intOf ii).toNat)
  case atStart => exact ⟨0, _, _, Nat.zero_le _, rfl, HAS0.out, HBP.out⟩
  case round =>
    obtain ⟨k, ts, vB, hk, rfl, has, hbel⟩ := hrel
    obtain ⟨wO, rfl⟩ : ∃ wO, wO = wr := ⟨wr, rfl⟩
    obtain ⟨⟨i0, i1, i2, i3⟩, hrr, hrd, hbw⟩ := HX.out wO hbel
    by_cases hlt : k < c.blocks.length
    · have hlt' : (k : Int) < (c.blocks.length : Int) := by omega
      obtain ⟨b, off, P, p, I, i, N, t, W, wcp, rfl, hB⟩ := bks_at hrd hlt
      have hsm := HS.out _ (List.getElem_mem hlt)
      obtain ⟨x, hx⟩ : ∃ x, c.blocks[k] = x := ⟨_, rfl⟩
      rw [hx] at hB hsm
      obtain ⟨b0, b1, b2, b3, b4, b5, hP5, hI5, hN5, hW5⟩ := hB
      have hl20 := hsm.ins
      have hl10 := hsm.params
      have hl4 := hsm.nx
      have hw4 := hsm.wth
      have HSM := Lib.hid hsm
      obtain ⟨q, hq⟩ : ∃ q, wO.heap.size = q := ⟨_, rfl⟩
      obtain ⟨wB, hwB⟩ : ∃ wB, wO.alloc (.cells #[.slice P x.params.length p, .slice I x.ins.length i, .string (mkB x.fin), .int .i64 x.v, .slice N x.nx.length t, .slice W x.wth.length wcp] 60) = wB := ⟨_, rfl⟩
      have hbB : Below wO.heap.size wO wB := by rw [← hwB]; exact grow_alloc (grow_refl _) _
      have hmB : wB.heap[q]? = some (.cells #[.slice P x.params.length p, .slice I x.ins.length i, .string (mkB x.fin), .int .i64 x.v, .slice N x.nx.length t, .slice W x.wth.length wcp] 60 (0, 0)) := by rw [← hwB, ← hq]; exact heap_alloc_new wO _
      have HNB : Hid (∀ w', Below wB.heap.size wB w' → Row w' N (intVs x.nx)) := fun w' hb => hN5.keep (Keeps.of_below (grow_trans hbB hb))
      have HPB : Hid (∀ w', Below wB.heap.size wB w' → Row w' P (intVs x.params)) := fun w' hb => hP5.keep (Keeps.of_below (grow_trans hbB hb))
      have HI5 := Lib.hid hI5
      have HW5 := Lib.hid hW5
      have HXX := Lib.hid hx
      have HAS := Lib.hid has
      have HBEL := Lib.hid hbel
      have HMB := Lib.hid hmB
      have HWB := Lib.hid hwB
      have HQ := Lib.hid hq
      have HBB := Lib.hid hbB
      have hqB : q < wB.heap.size := (Array.getElem?_eq_some_iff.1 hmB).1
      have hrB : wO.heap.size ≤ wB.heap.size := hbB.size
      have hrw : wA.heap.size ≤ wO.heap.size := hbel.size
      clear hwB hmB hbB hrd hrr hx hq hI5 hN5 hP5 hW5 has hbel hbw hsm
      go_upto_region 8 with fail
      try change Code.wp _ _ _ _ (wO.alloc (.cells #[.slice P x.params.length p, .slice I x.ins.length i, .string (mkB x.fin), .int .i64 x.v, .slice N x.nx.length t, .slice W x.wth.length wcp] 60))
      rw [HQ.out]
      rw [HWB.out]
      clear b0 b1 b2 b3 b4 b5 i0 i1 i2 i3
      obtain ⟨b0, b1, b2, b3, b4, b5⟩ := row6B HMB.out
      go_cut [8] from 33 to 45 (fun pp wx => ∃ (xb : Nat) (P2 : Option Addr) (p2 : Nat) (N2 : Option Addr) (nc2 : Nat), pp = .pointer (some ⟨xb, 0, none⟩) ∧ AsX x wO.heap.size xb 0 0 [] [] P2 p2 (.slice none 0 0) N2 nc2 (.slice none 0 0) wx ∧ wO.heap.size ≤ xb ∧ Below wB.heap.size wB wx)
      case first =>
        have HS0 : Hid (∀ w', Below wB.heap.size wB w' → w'.cell? ⟨q, 0, none⟩ = some (.slice P x.params.length p) ∧ w'.cell? ⟨q, 2, none⟩ = some (.string (mkB x.fin)) ∧ w'.cell? ⟨q, 3, none⟩ = some (.int .i64 x.v) ∧ w'.cell? ⟨q, 4, none⟩ = some (.slice N x.nx.length t)) := fun w' hb => by
          obtain ⟨b0, b1, b2, b3, b4, b5⟩ := row6B ((hb.block _ hqB).trans HMB.out)
          exact ⟨b0, b2, b3, b4⟩
        clear b0 b1 b2 b3 b4 b5
        go_region_held3 (fun w' => w'.cell? ⟨q, 0, none⟩ = some (.slice P x.params.length p) ∧ w'.cell? ⟨q, 2, none⟩ = some (.string (mkB x.fin)) ∧ w'.cell? ⟨q, 3, none⟩ = some (.int .i64 x.v) ∧ w'.cell? ⟨q, 4, none⟩ = some (.slice N x.nx.length t))
          (with_reducible refine HS0.out _ ?_; ((repeat (first | with_reducible refine drewB ?_ | with_reducible refine grow_alloc ?_ _ | with_reducible refine Below.setCell ?_ (by first | exact Nat.le_refl _ | exact hsP | exact hsQ | (dsimp only; omega)) _)); (first | with_reducible exact hbP2 | with_reducible exact hbQ2 | with_reducible exact grow_refl _)))
          (first
            | (refine step_append_intsO rfl _ _ rfl x.params rfl P p rfl (HPB.out _ (by ((repeat (first | with_reducible refine drewB ?_ | with_reducible refine grow_alloc ?_ _ | with_reducible refine Below.setCell ?_ (by first | exact Nat.le_refl _ | exact hsP | exact hsQ | (dsimp only; omega)) _)); (first | with_reducible exact hbP2 | with_reducible exact hbQ2 | with_reducible exact grow_refl _)))) (by omega) ?_
               intro AP cP wP hoP hrP hbP
               (first
                 | (have hcP : Below wQ.heap.size wQ wP := (by (first | with_reducible exact hbP | with_reducible exact grow_trans (drewB (grow_refl wQ)) hbP | with_reducible exact grow_trans (grow_alloc (grow_refl wQ) _) hbP | with_reducible exact grow_trans (drewB (grow_alloc (grow_refl wQ) _)) hbP | with_reducible exact grow_trans (grow_alloc (drewB (grow_refl wQ)) _) hbP))
                    have hbP2 := grow_trans hbQ2 hcP
                    have HOQ' : Hid (wP.ownsRow wO.heap.size 3 1 (.slice AQ x.nx.length cQ) x.nx.length (intVs x.nx)) := own_bel HOQ.out hcP
                    (first
                      | (have hzP := (hcP.block _ (Array.getElem?_eq_some_iff.1 hzQ).1).trans hzQ)
                      | (have hzP := (by first | with_reducible exact zAl hbP | with_reducible exact zAd hbP | with_reducible exact zDa hbP : wP.heap[wQ.heap.size]? = some (.cells #[.slice none 0 0, .slice none 0 0, .string ⟨#[]⟩, .int .i64 0, .slice none 0 0, .slice none 0 0] 56)))
                      | skip))
                 | (have hbP2 : Below wB.heap.size wB wP := (by (first | with_reducible exact hbP | with_reducible exact grow_trans (drewB (grow_refl wB)) hbP | with_reducible exact grow_trans (grow_alloc (grow_refl wB) _) hbP | with_reducible exact grow_trans (drewB (grow_alloc (grow_refl wB) _)) hbP | with_reducible exact grow_trans (grow_alloc (drewB (grow_refl wB)) _) hbP))
                    (first
                      | (have hzP := (by first | with_reducible exact zAl hbP | with_reducible exact zAd hbP | with_reducible exact zDa hbP : wP.heap[wB.heap.size]? = some (.cells #[.slice none 0 0, .slice none 0 0, .string ⟨#[]⟩, .int .i64 0, .slice none 0 0, .slice none 0 0] 56)))
                      | skip)))
               have HOP : Hid (wP.ownsRow wO.heap.size 3 1 (.slice AP x.params.length cP) x.params.length (intVs x.params)) := owns_mono hoP (by first | exact hrB | exact Nat.le_trans hrB hbQ2.size | (show wO.heap.size ≤ (wB.alloc _).heap.size; simp; omega) | (have := hbQ2.size; show wO.heap.size ≤ (wQ.alloc _).heap.size; simp; omega))
               have hsP : wB.heap.size ≤ wP.heap.size := hbP2.size
               (first | (obtain ⟨e0, e1, e2, e3, e4, e5⟩ := row6B hzP; have y0 := row_frozen hzP 0; have y1 := row_frozen hzP 1; have y2 := row_frozen hzP 2; have y3 := row_frozen hzP 3; have y4 := row_frozen hzP 4; have y5 := row_frozen hzP 5) | skip)
               clear hoP hrP hbP)
            | (refine step_append_intsO rfl _ _ rfl x.nx rfl N t rfl (HNB.out _ (by ((repeat (first | with_reducible refine drewB ?_ | with_reducible refine grow_alloc ?_ _ | with_reducible refine Below.setCell ?_ (by first | exact Nat.le_refl _ | exact hsP | exact hsQ | (dsimp only; omega)) _)); (first | with_reducible exact hbP2 | with_reducible exact hbQ2 | with_reducible exact grow_refl _)))) (by omega) ?_
               intro AQ cQ wQ hoQ hrQ hbQ
               (first
                 | (have hcQ : Below wP.heap.size wP wQ := (by (first | with_reducible exact hbQ | with_reducible exact grow_trans (drewB (grow_refl wP)) hbQ | with_reducible exact grow_trans (grow_alloc (grow_refl wP) _) hbQ | with_reducible exact grow_trans (drewB (grow_alloc (grow_refl wP) _)) hbQ | with_reducible exact grow_trans (grow_alloc (drewB (grow_refl wP)) _) hbQ))
                    have hbQ2 := grow_trans hbP2 hcQ
                    have HOP' : Hid (wQ.ownsRow wO.heap.size 3 1 (.slice AP x.params.length cP) x.params.length (intVs x.params)) := own_bel HOP.out hcQ
                    (first
                      | (have hzQ := (hcQ.block _ (Array.getElem?_eq_some_iff.1 hzP).1).trans hzP)
                      | (have hzQ := (by first | with_reducible exact zAl hbQ | with_reducible exact zAd hbQ | with_reducible exact zDa hbQ : wQ.heap[wP.heap.size]? = some (.cells #[.slice none 0 0, .slice none 0 0, .string ⟨#[]⟩, .int .i64 0, .slice none 0 0, .slice none 0 0] 56)))
                      | skip))
                 | (have hbQ2 : Below wB.heap.size wB wQ := (by (first | with_reducible exact hbQ | with_reducible exact grow_trans (drewB (grow_refl wB)) hbQ | with_reducible exact grow_trans (grow_alloc (grow_refl wB) _) hbQ | with_reducible exact grow_trans (drewB (grow_alloc (grow_refl wB) _)) hbQ | with_reducible exact grow_trans (grow_alloc (drewB (grow_refl wB)) _) hbQ))
                    (first
                      | (have hzQ := (by first | with_reducible exact zAl hbQ | with_reducible exact zAd hbQ | with_reducible exact zDa hbQ : wQ.heap[wB.heap.size]? = some (.cells #[.slice none 0 0, .slice none 0 0, .string ⟨#[]⟩, .int .i64 0, .slice none 0 0, .slice none 0 0] 56)))
                      | skip)))
               have HOQ : Hid (wQ.ownsRow wO.heap.size 3 1 (.slice AQ x.nx.length cQ) x.nx.length (intVs x.nx)) := owns_mono hoQ (by first | exact hrB | exact Nat.le_trans hrB hbP2.size | (show wO.heap.size ≤ (wB.alloc _).heap.size; simp; omega) | (have := hbP2.size; show wO.heap.size ≤ (wP.alloc _).heap.size; simp; omega))
               have hsQ : wB.heap.size ≤ wQ.heap.size := hbQ2.size
               (first | (obtain ⟨e0, e1, e2, e3, e4, e5⟩ := row6B hzQ; have y0 := row_frozen hzQ 0; have y1 := row_frozen hzQ 1; have y2 := row_frozen hzQ 2; have y3 := row_frozen hzQ 3; have y4 := row_frozen hzQ 4; have y5 := row_frozen hzQ 5) | skip)
               clear hoQ hrQ hbQ))
        skip
        all_goals go_wp2_with fail
        all_goals go_meet
        all_goals first
          | (with_reducible refine ⟨_, AP, cP, AQ, cQ, rfl, new_x (heap_alloc_new wQ _) (World.ownsRow.alloc HOP'.out _) (World.ownsRow.alloc HOQ.out _), ?_, grow_alloc hbQ2 _⟩; omega)
          | (with_reducible refine ⟨_, AP, cP, AQ, cQ, rfl, new_x (heap_alloc_new wP _) (World.ownsRow.alloc HOP.out _) (World.ownsRow.alloc HOQ'.out _), ?_, grow_alloc hbP2 _⟩; omega)
          | (with_reducible refine ⟨_, AP, cP, AQ, cQ, rfl, new_x (set6B hzQ) (own_far6 HOP'.out hzQ (by decide)) (own_far6 HOQ.out hzQ (by decide)), ?_, put6B hbQ2 ?_⟩ <;> omega)
          | (with_reducible refine ⟨_, AP, cP, AQ, cQ, rfl, new_x (set6B hzP) (own_far6 HOP.out hzP (by decide)) (own_far6 HOQ'.out hzP (by decide)), ?_, put6B hbP2 ?_⟩ <;> omega)
      case rest =>
        obtain ⟨xb, P2, p2, N2, nc2, rfl, hax, hxl, hb7⟩ := hcut
        obtain ⟨w7, hw7⟩ : ∃ w7, wc = w7 := ⟨_, rfl⟩
        rw [hw7] at hax hb7
        rw [hw7]
        have HAX := Lib.hid hax
        have HB7 := Lib.hid (grow_trans HBB.out hb7)
        have HB7B := Lib.hid hb7
        clear hw7 hax hb7
        go_wp2_with fail
        go_loopw [9, 10, 11] (fun jj _ _ wy => ∃ (k2 : Nat) (xs : List IC) (vI : Value), k2 ≤ x.ins.length ∧ jj = .int .i64 k2 ∧ AsX x wO.heap.size xb k2 0 xs [] P2 p2 vI N2 nc2 (.slice none 0 0) wy ∧ Below wO.heap.size wO wy ∧ wy.heap[q]? = some (.cells #[.slice P x.params.length p, .slice I x.ins.length i, .string (mkB x.fin), .int .i64 x.v, .slice N x.nx.length t, .slice W x.wth.length wcp] 60 (0, 0))) (fun jj _ _ _ => x.ins.length - (intOf jj).toNat)
        case atStart => exact ⟨0, [], _, Nat.zero_le _, rfl, HAX.out, HB7.out, (HB7B.out.block _ hqB).trans HMB.out⟩
        case round =>
          obtain ⟨k2, xs, vI, hk2, rfl, hax, hby, hmq⟩ := hrel
          obtain ⟨b0, b1, b2, b3, b4, b5⟩ := row6B hmq
          by_cases hlt2 : k2 < x.ins.length
          · have hlt2' : (k2 : Int) < (x.ins.length : Int) := by omega
            obtain ⟨b5', off5, A5, c5, rfl, hL5⟩ := ins_at (HI5.out.keep (Keeps.of_below hby) fun _ _ => GoodI.keep (Keeps.of_below hby)) hlt2
            have hea := (HSM.out.each _ (List.getElem_mem hlt2)).1
            obtain ⟨n, hnn⟩ : ∃ n, x.ins[k2] = n := ⟨_, rfl⟩
            rw [hnn] at hL5 hea
            obtain ⟨l0, l1, l2, l3, l4, hrow⟩ := hL5
            obtain ⟨q2, hq2⟩ : ∃ q, wr.heap.size = q := ⟨_, rfl⟩
            obtain ⟨wN, hwN⟩ : ∃ wN, wr.alloc (.cells #[.string (mkB n.kind), .int .i64 n.d, .slice A5 n.args.length c5, .int .i64 n.num, .string (mkB n.name)] 61) = wN := ⟨_, rfl⟩
            have hbN : Below wr.heap.size wr wN := by rw [← hwN]; exact grow_alloc (grow_refl _) _
            have hmN : wN.heap[q2]? = some (.cells #[.string (mkB n.kind), .int .i64 n.d, .slice A5 n.args.length c5, .int .i64 n.num, .string (mkB n.name)] 61 (0, 0)) := by rw [← hwN, ← hq2]; exact heap_alloc_new wr _
            have haxN := hax.below hbN
            have hmqN := (hbN.block _ (Array.getElem?_eq_some_iff.1 hmq).1).trans hmq
            have hry : wO.heap.size ≤ wr.heap.size := hby.size
            have hbyN : Below wO.heap.size wO wN := hby.trans (hbN.mono hry)
            obtain ⟨AI, cI, rfl⟩ := own_slice haxN.ins
            have HAXN := Lib.hid haxN
            have HBYN := Lib.hid hbyN
            have HMQN := Lib.hid hmqN
            have HNN := Lib.hid hnn
            have HMN := Lib.hid hmN
            have HWN := Lib.hid hwN
            have HQ3 := Lib.hid hq2
            have HROW : Hid (Row wN A5 (intVs n.args)) := hrow.keep (Keeps.of_below hbN)
            have hsN : wO.heap.size ≤ wN.heap.size := hbyN.size
            clear hwN hmN hbN hax hby hmq hmqN hbyN hnn hq2 haxN hrow
            go_upto_region 14 with fail
            try change Code.wp _ _ _ _ (wr.alloc (.cells #[.string (mkB n.kind), .int .i64 n.d, .slice A5 n.args.length c5, .int .i64 n.num, .string (mkB n.name)] 61))
            rw [HQ3.out]
            rw [HWN.out]
            clear l0 l1 l2 l3 l4 b0 b1 b2 b3 b4 b5
            obtain ⟨l0, l1, l2, l3, l4⟩ := row5B HMN.out
            obtain ⟨x0, x1, x2, x3, x4, x5⟩ := row6B HAXN.out.blk
            have zx := row_frozen HAXN.out.blk 1
            have hqx2 : q2 ≠ xb := ty_ne HMN.out HAXN.out.blk (by decide)
            rw [show Op.load 53 (Operand.tmp 58) = ldAs from rfl]
            go_region_held3 (fun w' => w'.cell? ⟨q2, 0, none⟩ = some (.string (mkB n.kind)) ∧ w'.cell? ⟨q2, 1, none⟩ = some (.int .i64 n.d) ∧ w'.cell? ⟨q2, 2, none⟩ = some (.slice A5 n.args.length c5) ∧ w'.cell? ⟨q2, 3, none⟩ = some (.int .i64 n.num) ∧ w'.cell? ⟨q2, 4, none⟩ = some (.string (mkB n.name)))
              (first
                | exact ⟨l0, l1, l2, l3, l4⟩
                | exact HJ9.out
                | exact HJ7.out
                | (go_split_ands
                   refine ⟨?_, ?_, ?_, ?_, ?_⟩
                   all_goals (first | assumption | exact Keeps.alloc _ _ _ _ (by assumption) | exact cell_othC (by assumption) hqx2)))
              (first
              | (refine step_append_intsO rfl _ _ rfl n.args rfl A5 c5 rfl (by exact HROW.out) (by omega) ?_
                 intro A7 c7 w7 ho7 hr7 hb7
                 have hb7' : Below wN.heap.size wN w7 := (by first | exact hb7 | exact grow_trans (drewB (grow_refl wN)) hb7)
                 have HO7 : Hid (w7.ownsRow wO.heap.size 3 1 (.slice A7 n.args.length c7) n.args.length (intVs n.args)) := owns_mono ho7 (by first | exact hsN | (show wO.heap.size ≤ wN.heap.size; exact hsN))
                 have hm7 := (hb7'.block _ (Array.getElem?_eq_some_iff.1 HMN.out).1).trans HMN.out
                 have hq7 := (hb7'.block _ (Array.getElem?_eq_some_iff.1 HMQN.out).1).trans HMQN.out
                 have HAX7 := Lib.hid (HAXN.out.below hb7')
                 have HS7 : Hid (wO.heap.size ≤ w7.heap.size) := Nat.le_trans hsN hb7'.size
                 have HB7' := Lib.hid (HBYN.out.trans (hb7'.mono hsN))
                 have HQ7 := Lib.hid hq7
                 have HM7 := Lib.hid hm7
                 have HJ7 := Lib.hid (row5B hm7)
                 obtain ⟨u0, u1, u2, u3, u4, u5⟩ := row6B HAX7.out.blk
                 have zu := row_frozen HAX7.out.blk 1
                 clear u0 u2 u3 u4 u5
                 have u1b : (w7.alloc (.cells #[.string (mkB n.kind), .int .i64 n.d, .slice A7 n.args.length c7, .int .i64 n.num, .string (mkB n.name)] 52)).cell? ⟨xb, 1, none⟩ = some (.slice AI k2 cI) := Keeps.alloc _ _ _ _ u1
                 clear ho7 hr7 hb7 hb7' hm7 hq7)
              | (refine step_append_lies _ rfl _ _ 53 rfl wO.heap.size 52 li _ 5 72 Tryd.underlying53 hli lz0 lz1 lz2 rfl (by decide) _ k2 (xs.flatMap IC.cells) rfl (by first | exact World.ownsRow.alloc HAX7.out.ins _ | exact (World.ownsRow.alloc HAX7.out.ins _).drewN 1 | exact World.ownsRow.alloc (HAX7.out.ins.drewN 1) _) ⟨w7.heap.size, 0, none⟩ 1 1 (IC.cells ⟨n, A7, c7⟩) rfl rfl (by first | exact World.news_of_block (heap_alloc_new w7 _) | exact World.news_of_block (heap_alloc_new w7.drew _) | exact World.news_of_block (w := (w7.alloc _).drew) (heap_alloc_new w7 _)) (fun u hu => by unfold IC.cells inL at hu; simp only [List.mem_cons, List.not_mem_nil, or_false] at hu; rcases hu with rfl | rfl | rfl | rfl | rfl <;> rfl) (by decide) (by unfold maxLen; omega) (by omega) (by first | (have := HS7.out; show wO.heap.size ≤ (w7.alloc _).heap.size; simp; omega) | (have := HS7.out; simp; omega)) _ rfl ?_
                 intro g cap w9 hown9 hgrow9 hat9 hlt9
                 have hgr : (w7.alloc (.cells #[.string (mkB n.kind), .int .i64 n.d, .slice A7 n.args.length c7, .int .i64 n.num, .string (mkB n.name)] 52)).grownBy w9 (Value.slice AI k2 cI).ownBlock := ⟨hgrow9.os, hgrow9.tape, hgrow9.output, hgrow9.size, hgrow9.block⟩
                 obtain ⟨j1, j2, j3, j4⟩ := HAX7.out.nextI (s := ⟨n, A7, c7⟩) hlt2 hxl HS7.out HNN.out.symm HO7.out hown9 hgr
                 obtain ⟨v0, v1, v2, v3, v4, v5⟩ := row6B (j1.trans HAX7.out.blk)
                 have zv := row_frozen (j1.trans HAX7.out.blk) 1
                 clear v0 v2 v3 v4 v5
                 have hz9 := j4 q _ _ HQ7.out (by decide) (by decide)
                 have hm9 := (hgr.block q2 (by have := (Array.getElem?_eq_some_iff.1 HM7.out).1; simp; omega) (fun e => own_apart HAX7.out.ins HM7.out (by decide) e.symm)).trans ((old_block _ _ (Array.getElem?_eq_some_iff.1 HM7.out).1).trans HM7.out)
                 have HJ9 := Lib.hid (row5B hm9)
                 have H9 := Lib.hid (And.intro j2 (And.intro j3 hz9))
                 clear hown9 hgrow9 hat9 hlt9 j1 j2 j3 j4 hz9 hgr hm9))
            all_goals go_wp2_with fail
            all_goals
              go_roundw
              case rel => exact ⟨k2 + 1, xs ++ [⟨n, A7, c7⟩], _, by omega, by go_num, H9.out.1, HB7'.out.trans H9.out.2.1, H9.out.2.2⟩
              case measure => simp [intOf]; omega
          · have hk2' : k2 = x.ins.length := by omega
            subst hk2'
            have HAXI := Lib.hid hax
            have HBYI := Lib.hid hby
            have HMQI := Lib.hid hmq
            clear hax hby hmq
            go_wp2_with fail
            go_loopw [12, 13] (fun jj _ wy => ∃ (k3 : Nat) (ls : List LC) (vW : Value), k3 ≤ x.wth.length ∧ jj = .int .i64 k3 ∧ AsX x wO.heap.size xb x.ins.length k3 xs ls P2 p2 vI N2 nc2 vW wy ∧ Below wO.heap.size wO wy ∧ wy.heap[q]? = some (.cells #[.slice P x.params.length p, .slice I x.ins.length i, .string (mkB x.fin), .int .i64 x.v, .slice N x.nx.length t, .slice W x.wth.length wcp] 60 (0, 0))) (fun jj _ _ => x.wth.length - (intOf jj).toNat)
            case atStart => exact ⟨0, [], _, Nat.zero_le _, rfl, HAXI.out, HBYI.out, HMQI.out⟩
            case round =>
              obtain ⟨k3, ls, vW, hk3, rfl, hax, hby, hmq⟩ := hrel
              obtain ⟨b0, b1, b2, b3, b4, b5⟩ := row6B hmq
              by_cases hlt3 : k3 < x.wth.length
              · have hlt3' : (k3 : Int) < (x.wth.length : Int) := by omega
                obtain ⟨b5', off5, A5, c5, rfl, l0, hrow⟩ := wth_at (HW5.out.keep (Keeps.of_below hby) fun _ _ => GoodL.keep (Keeps.of_below hby)) hlt3
                have hea := HSM.out.wths _ (List.getElem_mem hlt3)
                obtain ⟨n, hnn⟩ : ∃ n, x.wth[k3] = n := ⟨_, rfl⟩
                rw [hnn] at l0 hrow hea
                have hsN : wO.heap.size ≤ wr.heap.size := hby.size
                have HAXN := Lib.hid hax
                have HBYN := Lib.hid hby
                have HMQN := Lib.hid hmq
                have HNN := Lib.hid hnn
                have HROW := Lib.hid hrow
                clear hax hby hmq hnn hrow
                go_upto_region 20 with (at_builtin; (refine wpList_append_intsO rfl (.tmp 83) (.tmp 88) rfl n rfl A5 c5 rfl HROW.out (by omega) ?_; intro A7 c7 w7 ho7 hr7 hb7; have HO7 : Hid (w7.ownsRow wO.heap.size 3 1 (.slice A7 n.length c7) n.length (intVs n)) := owns_mono ho7 hsN; have hq7 := (hb7.block _ (Array.getElem?_eq_some_iff.1 HMQN.out).1).trans HMQN.out; have HAX7 := Lib.hid (HAXN.out.below hb7); have HS7 : Hid (wO.heap.size ≤ w7.heap.size) := Nat.le_trans hsN hb7.size; have HB7' := Lib.hid (HBYN.out.trans (hb7.mono hsN)); have HQ7 := Lib.hid hq7; clear ho7 hr7 hb7 hq7))
                clear l0 b0 b1 b2 b3 b4 b5
                obtain ⟨AW, cW, rfl⟩ := own_slice HAX7.out.wth
                obtain ⟨u0, u1, u2, u3, u4, u5⟩ := row6B HAX7.out.blk
                have zu := row_frozen HAX7.out.blk 5
                have HOWN : Hid (w7.ownsRow wO.heap.size 25 1 (.slice AW k3 cW) k3 (ls.flatMap LC.cells)) := HAX7.out.wth
                have hs7 := HS7.out
                go_wp2_with (at_builtin; (refine wpList_append_own_at _ rfl (.tmp 91) (.tmp 93) 54 rfl wO.heap.size 25 si _ 1 24 Tryd.underlying54 hsi sz0 sz1 sz2 rfl (by decide) _ k3 (ls.flatMap LC.cells) rfl (HOWN.out.alloc _) ⟨w7.heap.size, 0, none⟩ 1 1 (LC.cells ⟨n, A7, c7⟩) rfl rfl (World.news_of_block (heap_alloc_new w7 _)) (fun u hu => by unfold LC.cells at hu; simp only [List.mem_cons, List.not_mem_nil, or_false] at hu; rcases hu with rfl; rfl) (by unfold maxLen; omega) (by omega) (by simp; omega) ?_; intro v' w9 hown' hgrow _ hat; obtain ⟨A9, a9, rfl⟩ := own_slice hown'; obtain ⟨j1, j2, j3, j4⟩ := HAX7.out.nextW (s := ⟨n, A7, c7⟩) hlt3 hxl HS7.out HNN.out.symm HO7.out hown' hgrow; obtain ⟨x0, x1, x2, x3, x4, x5⟩ := row6B (j1.trans HAX7.out.blk); have zx := row_frozen (j1.trans HAX7.out.blk) 5; have hz9 := j4 q _ _ HQ7.out (by decide) (by decide); have H9 := Lib.hid (And.intro j2 (And.intro j3 hz9)); clear j1 j2 j3 j4 hown' hgrow hat hz9))
                go_roundw
                case rel => exact ⟨k3 + 1, ls ++ [⟨n, A7, c7⟩], _, by omega, by go_num, H9.out.1, HB7'.out.trans H9.out.2.1, H9.out.2.2⟩
                case measure => simp [intOf]; omega
              · have hk3' : k3 = x.wth.length := by omega
                subst hk3'
                have hasY := HAS.out.below hby
                obtain ⟨AI, cI, rfl⟩ := own_slice hax.ins
                obtain ⟨AW, cW, rfl⟩ := own_slice hax.wth
                have k9 : Hold wr wr wO.heap.size wA.heap.size (fun _ => True) := hold_mono hrw
                have hok : BC.Ok wr wA.heap.size ⟨x, P2, p2, AI, cI, N2, nc2, AW, cW, xs, ls⟩ := ⟨k9 _ _ _ _ _ trivial hax.params, k9 _ _ _ _ _ trivial hax.ins, by rw [hax.insM, List.take_length], fun s hs => k9 _ _ _ _ _ trivial (hax.insO s hs), k9 _ _ _ _ _ trivial hax.nx, k9 _ _ _ _ _ trivial hax.wth, by rw [hax.wthM, List.take_length], fun s hs => k9 _ _ _ _ _ trivial (hax.wthO s hs)⟩
                obtain ⟨AB, cB, rfl⟩ := own_slice hasY.own
                obtain ⟨x0, x1, x2, x3, x4, x5⟩ := row6B hax.blk
                obtain ⟨o0, o1, o2, o3⟩ := row4B hasY.blk
                have zo := row_frozen hasY.blk 3
                have hry : wO.heap.size ≤ wr.heap.size := hby.size
                have HBY := Lib.hid (HBEL.out.trans (hby.mono hrw))
                have HASY := Lib.hid hasY
                have HOK := Lib.hid hok
                have HOWN : Hid (wr.ownsRow wA.heap.size 56 6 (.slice AB k cB) k (ts.flatMap BC.cells)) := hasY.own
                have hsA : wA.heap.size ≤ wr.heap.size := by omega
                have HSA := Lib.hid hsA
                clear hasY hok hax hby hmq k9
                go_wp2_with (at_builtin; (refine wpList_append_own_at _ rfl (.tmp 97) (.tmp 99) 29 rfl wA.heap.size 56 bi _ 6 120 Tryd.underlying29 hbi bz0 bz1 bz2 rfl (by decide) _ k (ts.flatMap BC.cells) rfl (HOWN.out.alloc _) ⟨wr.heap.size, 0, none⟩ 1 1 (BC.cells ⟨x, P2, p2, AI, cI, N2, nc2, AW, cW, xs, ls⟩) rfl rfl (World.news_of_block (heap_alloc_new wr _)) (fun u hu => by unfold BC.cells bkL at hu; simp only [List.mem_cons, List.not_mem_nil, or_false] at hu; rcases hu with rfl | rfl | rfl | rfl | rfl | rfl <;> rfl) (by unfold maxLen; omega) (by omega) (by simp; omega) ?_; intro v' w9 hown' hgrow _ hat; obtain ⟨A9, a9, rfl⟩ := own_slice hown'; obtain ⟨j1, j2, j3⟩ := HASY.out.next hlt hobl HSA.out HXX.out.symm HOK.out hown' hgrow; obtain ⟨o0, o1, o2, o3⟩ := row4B (j1.trans HASY.out.blk); have zo := row_frozen (j1.trans HASY.out.blk) 3; have H2 := Lib.hid j2; have H3 := Lib.hid j3; clear j1 j2 j3 hown' hgrow hat))
                go_roundw
                case rel => exact ⟨k + 1, _, _, by omega, by go_num, H2.out, HBY.out.trans H3.out⟩
                case measure => simp [intOf]; omega
    · have hk' : k = c.blocks.length := by omega
      subst hk'
      obtain ⟨AB, cB, rfl⟩ := own_slice has.own
      obtain ⟨o0, o1, o2, o3⟩ := row4B has.blk
      obtain ⟨s0, s1, s2, s3⟩ := row4B hrr
      have y0 := row_frozen hrr 0
      have y1 := row_frozen hrr 1
      have y2 := row_frozen hrr 2
      have y3 := row_frozen hrr 3
      have HAS := Lib.hid has
      have HRR := Lib.hid hrr
      have HBW := Lib.hid hbw
      clear has hrr hrd hbel hbw
      go_wp2_with fail
      obtain ⟨u0, u1, u2, u3⟩ := row4B (set4A (v0 := .string (mkB c.name)) (v1 := .int .i64 c.params) (v2 := .int .i64 c.values) (v3 := .slice AB c.blocks.length cB) HRR.out)
      refine bodyPost_ret (v := .agg #[.string (mkB c.name), .int .i64 c.params, .int .i64 c.values, .slice AB c.blocks.length cB]) (by simp [results, Tryd.results7, go_sem, u0, u1, u2, u3]; try rfl) rfl ?_
      obtain ⟨A9, c9, e9, hle, hrd⟩ := (HAS.out.high hobl (w' := ((((wO.setCell ⟨w.heap.size + 1, 0, none⟩ (.string (mkB c.name))).setCell ⟨w.heap.size + 1, 1, none⟩ (.int .i64 c.params)).setCell ⟨w.heap.size + 1, 2, none⟩ (.int .i64 c.values)).setCell ⟨w.heap.size + 1, 3, none⟩ (.slice AB c.blocks.length cB))) (fun j hj => far4A j (by omega))).read
      injection e9 with e91 _ e92
      subst e91; subst e92
      exact ⟨_, _, rfl, hle, hrd, put4A HBW.out (by omega)⟩
end Go.Proofs.YtdilakpipbkokaaDoor
