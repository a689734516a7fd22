import Derived.Maps.AppendAt
import Derived.Deep.AppendLies
import Derived.Laws.OwnMore
import Derived.Deep.RegionHeld3
import Derived.Test.YtgoifbkogboppaaDoorBn16
set_option linter.unusedVariables false
set_option linter.unusedSimpArgs false
namespace Go.Proofs.YtgoifbkogboppaaDoor
open Go.RowKit

/-! the machine: call -/
def slO (n : Nat) : Obj := .cells (intVs (List.replicate n 0)).toArray 3
theorem made_zero (n : Nat) : madeCells #[Value.int .i64 0] n = (intVs (List.replicate n 0)).toArray := by
  apply Array.ext
  · simp [intVs, size_madeCells]
  · intro i h1 h2
    simp [intVs, madeCells, Nat.mod_one]
theorem make_ints (n : Nat) (hn : n ≤ 1000) (w : World) : (Instr.makeSlice 26 (.int .i64 n) (.int .i64 n)).run Tryd.prog w = .ok (.slice (some ⟨w.heap.size, 0, none⟩) n n) (w.alloc (slO n)) := by
  obtain ⟨i0, hi, hz0, hz1, hz2⟩ := info_parts intInfo
  have h := run_makeSlice (P := Tryd.prog) (w := w) 26 3 i0 (.int .i64 0) Tryd.underlying26 hi hz0 .i64 .i64 n n (by omega) (by omega) (by rw [hz1]; simp; omega) (by rw [hz2]; omega) (by omega)
  rw [h, hz1]
  simp only [Int.toNat_natCast, Nat.mul_one]
  unfold slO
  rw [← made_zero]
  rfl
section
variable {m : PImg} {A : Option Addr} {cf : Nat} {B : Option Addr} {cw : Nat} {C : Value} {mb T : Nat} {s : PMs} {v u : Value} {fbs : List (Nat × Nat)} {w w' : World} {f : PFn} {d : Nat} {args : List Int}
def frO (f : PFn) (d : Nat) (args : List Int) (sb : Nat) : Obj := .cells (frL (newFr f d args) sb).toArray 102
theorem frO_lit {n e : Nat} (hn : f.slots = n) (he : f.entry = e) (a0 a1 a2 a3 : Int) (sb : Nat) : frO f d [a0, a1, a2, a3] sb = .cells #[.string (mkB f.name), .int .i64 f.params, .int .i64 n, .int .i64 e, .int .i64 0, .int .i64 0, .int .i64 0, .int .i64 0, .int .i64 0, .int .i64 0, .int .i64 0, .int .i64 0, .slice (some ⟨sb, 0, none⟩) n n, .int .i64 a0, .int .i64 a1, .int .i64 a2, .int .i64 a3, .int .i64 0, .int .i64 0, .int .i64 0, .int .i64 0, .int .i64 e, .int .i64 d] 102 := by
  obtain ⟨fn, fp, fs, fe⟩ := f
  simp only at hn he
  subst hn; subst he
  unfold frO newFr frL fnL
  simp [intVs, zero8, zero4]
theorem cell_oth {b o j : Nat} {z y : Value} (h : w.cell? ⟨b, o, none⟩ = some z) (hb : b ≠ mb) : (w.setCell ⟨mb, j, none⟩ y).cell? ⟨b, o, none⟩ = some z := (World.cell?_of_block (Below.heap_setCell _ _ _ _ hb)).trans h
/-- Behind the append of a new frame. -/
theorem MaAt.push {u' : Value} {o : Obj} (h : MaAt m A cf B cw C mb T s v u fbs w)
    (hown : w'.ownsRow mb 100 1 u' (s.calls.length + 1) (ptrVs fbs ++ [.pointer (some ⟨w.heap.size + 1, 0, none⟩)]))
    (hg : (((w.alloc (slO f.slots.toNat)).alloc (frO f d args w.heap.size)).alloc o).grownBy w' u.ownBlock)
    (hat : u'.ownBlock = u.ownBlock ∨ u'.ownBlock = some (w.heap.size + 3)) :
    w'.heap[mb]? = w.heap[mb]? ∧ MaAt m A cf B cw C mb T (pushM f d args s) v u' (fbs ++ [(w.heap.size + 1, w.heap.size)]) (w'.setCell ⟨mb, 8, none⟩ u') ∧ Below mb w (w'.setCell ⟨mb, 8, none⟩ u') := by
  obtain ⟨n1, n2, n3, n4⟩ := h.mbne
  have hlt := h.lt
  have hb3 : Below w.heap.size w (((w.alloc (slO f.slots.toNat)).alloc (frO f d args w.heap.size)).alloc o) := grow_alloc (grow_alloc (grow_alloc (grow_refl _) _) _) _
  have hold : ∀ k, k < w.heap.size → u.ownBlock ≠ some k → w'.heap[k]? = w.heap[k]? := fun k hk hn => by
    rw [hg.block k (by simp; omega) (fun e => hn e.symm)]
    exact hb3.block k hk
  have hu : ∀ k, u.ownBlock = some k → k < w.heap.size := fun k hk => (own_lt h.calls hk).2
  have hs0 : w'.heap[w.heap.size]? = some (slO f.slots.toNat) := by
    rw [hg.block _ (by simp; omega) (fun e => by have := hu _ e.symm; omega)]
    exact (old_block _ _ (by simp; omega)).trans ((old_block _ _ (by simp)).trans (heap_alloc_new w _))
  have hs1 : w'.heap[w.heap.size + 1]? = some (frO f d args w.heap.size) := by
    rw [hg.block _ (by simp) (fun e => by have := hu _ e.symm; omega)]
    exact (old_block _ _ (by simp)).trans (new_block _ _ (by simp))
  have hbel : Below mb w w' := Below.grown (hb3.mono (Nat.le_of_lt hlt)) hg (by simp; omega) (fun k hk => (own_lt h.calls hk).1)
  have hm := hold mb hlt n3
  have hne : ∀ k, k < w.heap.size → u.ownBlock ≠ some k → u'.ownBlock ≠ some k := fun k hk hn e => by
    rcases hat with q | q
    · rw [q] at e; exact hn e
    · rw [q] at e; have := Option.some.inj e; omega
  have hs : ∀ k, k ≠ mb → (w'.setCell ⟨mb, 8, none⟩ u').heap[k]? = w'.heap[k]? := fun k hk => Below.heap_setCell _ _ _ _ hk
  have hks : ∀ k, k < w.heap.size → k ≠ mb → u.ownBlock ≠ some k → (w'.setCell ⟨mb, 8, none⟩ u').heap[k]? = w.heap[k]? := fun k h1 h2 h3 => (hs k h2).trans (hold k h1 h3)
  have hall : Below mb w (w'.setCell ⟨mb, 8, none⟩ u') := hbel.trans ((Below.refl mb w').setCell (p := ⟨mb, 8, none⟩) (Nat.le_refl _) _)
  have hpl : ∀ p ∈ fbs, p.1 < w.heap.size ∧ p.2 < w.heap.size := fun p hp => by
    obtain ⟨x, -, hx⟩ := h.frk hp
    exact ⟨(Array.getElem?_eq_some_iff.1 hx.blk).1, (Array.getElem?_eq_some_iff.1 hx.slots).1⟩
  refine ⟨hm, ⟨row_set (j := 8) u' (hm.trans h.blk) (by unfold maL pushM; simp), fun i z hi => ?_, h.far, own_same h.code fun k q => hks k (own_lt h.code q).2 (fun e => n1 (by rw [q, e])) (own_ne h.code h.calls (by decide) q), own_same h.out fun k q => hks k (own_lt h.out q).2 (fun e => n2 (by rw [q, e])) (own_ne h.out h.calls (by decide) q), ?_,
    by unfold pushM; simp [h.len], fun k h1 h2 => ?_, ?_, ?_, fun p hp => ?_, h.ticks⟩, hall⟩
  · obtain ⟨b, off, e, hc⟩ := h.funs i z hi
    exact ⟨b, off, e, (World.cell?_of_block (hall.block b (h.far _ e))).trans hc⟩
  · have e1 : (pushM f d args s).calls.length = s.calls.length + 1 := by unfold pushM; simp
    have e2 : ptrVs (fbs ++ [(w.heap.size + 1, w.heap.size)]) = ptrVs fbs ++ [.pointer (some ⟨w.heap.size + 1, 0, none⟩)] := by unfold ptrVs; simp
    rw [e1, e2]
    exact own_same hown fun k q => hs k (fun e => hne mb hlt n3 (by rw [q, e]))
  · simp only [List.length_append, List.length_singleton] at h1
    by_cases hk : k < fbs.length
    · have hk2 : k < s.calls.length := by rw [← h.len]; exact hk
      have hf := h.fr k hk hk2
      have hn := n4 _ (List.getElem_mem hk)
      have hl := hpl _ (List.getElem_mem hk)
      have e1 : (fbs ++ [(w.heap.size + 1, w.heap.size)])[k]'(by simp; omega) = fbs[k] := List.getElem_append_left hk
      have e2 : (pushM f d args s).calls[k]'h2 = s.calls[k] := by unfold pushM; exact List.getElem_append_left hk2
      have hu1 : u.ownBlock ≠ some fbs[k].1 := own_else h.calls hf.blk fun cs e => by injection e with _ e _; exact absurd e (by decide)
      have hu2 : u.ownBlock ≠ some fbs[k].2 := own_else h.calls hf.slots fun cs e => by injection e with _ e _; exact absurd e (by decide)
      rw [e1, e2]
      exact ⟨hf.low, (hks _ hl.1 hn.1 hu1).trans hf.blk, (hks _ hl.2 hn.2 hu2).trans hf.slots⟩
    · have hk2 : k = fbs.length := by omega
      subst hk2
      have e1 : (fbs ++ [(w.heap.size + 1, w.heap.size)])[fbs.length]'(by simp) = (w.heap.size + 1, w.heap.size) := by simp
      have e2 : (pushM f d args s).calls[fbs.length]'h2 = newFr f d args := by unfold pushM; simp [h.len]
      rw [e1, e2]
      refine ⟨⟨by simp only; omega, by simp only; omega⟩, (hs _ (by simp only; omega)).trans hs1, (hs _ (by simp only; omega)).trans ?_⟩
      simp only
      rw [hs0]
      rfl
  · rw [List.map_append, List.nodup_append]
    refine ⟨h.nd1, by simp, fun a ha b hb e => ?_⟩
    obtain ⟨p, hp, rfl⟩ := List.mem_map.1 ha
    have := (hpl p hp).1
    simp at hb
    omega
  · rw [List.map_append, List.nodup_append]
    refine ⟨h.nd2, by simp, fun a ha b hb e => ?_⟩
    obtain ⟨p, hp, rfl⟩ := List.mem_map.1 ha
    have := (hpl p hp).2
    simp at hb
    omega
  · rcases List.mem_append.1 hp with hp | hp
    · exact h.ne p hp
    · rw [List.mem_singleton.1 hp]
      intro e
      have := (own_lt h.out e).2
      simp at this
/-- The load of the calls, under a name: go_region_held3 then takes it in its turn. -/
def ldCalls : Op := Op.load 73 (Operand.tmp 31)
@[go_sem] theorem ldCalls_eq : ldCalls = Op.load 73 (Operand.tmp 31) := rfl
theorem ptrInfo : (Tryd.prog.info? 100).map (fun i => (i.zero, i.size, i.bytes)) = some (some (.pointer none), 1, 8) := by kernel_rfl
theorem push_old {wr w4 : World} {o1 o2 o3 : Obj} {r : Option Nat} (hg : (((wr.drew.alloc o1).alloc o2).alloc o3).grownBy w4 r) : ∀ k, k < wr.heap.size → r ≠ some k → w4.heap[k]? = wr.heap[k]? := fun k hk hn => by
  rw [hg.block k (by show k < (((wr.drew.alloc o1).alloc o2).alloc o3).heap.size; simp; omega) (fun e => hn e.symm)]
  exact (old_block _ _ (by show k < ((wr.drew.alloc o1).alloc o2).heap.size; simp; omega)).trans ((old_block _ _ (by show k < (wr.drew.alloc o1).heap.size; simp; omega)).trans (old_block wr.drew _ hk))
theorem row44 {q p : Nat} {v0 v1 v2 v3 u0 u1 u2 u3 : Value} {T1 T2 : TypeId} {z1 z2 : Nat × Nat} (h : w.heap[q]? = some (.cells #[v0, v1, v2, v3] T1 z1)) (h' : w.heap[p]? = some (.cells #[u0, u1, u2, u3] T2 z2)) :
    w.cell? ⟨q, 0, none⟩ = some v0 ∧ w.cell? ⟨q, 1, none⟩ = some v1 ∧ w.cell? ⟨q, 2, none⟩ = some v2 ∧ w.cell? ⟨q, 3, none⟩ = some v3 ∧ w.cell? ⟨p, 0, none⟩ = some u0 ∧ w.cell? ⟨p, 1, none⟩ = some u1 ∧ w.cell? ⟨p, 2, none⟩ = some u2 ∧ w.cell? ⟨p, 3, none⟩ = some u3 :=
  ⟨cell_of_row _ _ 0 _ _ _ h, cell_of_row _ _ 1 _ _ _ h, cell_of_row _ _ 2 _ _ _ h, cell_of_row _ _ 3 _ _ _ h, cell_of_row _ _ 0 _ _ _ h', cell_of_row _ _ 1 _ _ _ h', cell_of_row _ _ 2 _ _ _ h', cell_of_row _ _ 3 _ _ _ h'⟩
set_option maxHeartbeats 4000000 in
set_option maxRecDepth 100000 in
theorem call_push (h : MaAt m A cf B cw C mb T s v u fbs w) (hT : T ≤ 5000) (htk : s.ticks < T) (hd : s.calls.length < 40) (k : Nat) (hk : k < m.funs.length) (hf : m.funs[k] = f) (n : Nat) (hn : f.slots = n) (hn1 : n ≤ 1000) (e : Nat) (he : f.entry = e) (d : Nat) (a0 a1 a2 a3 : Int) :
    Calls Tryd.prog 26 #[.pointer (some ⟨mb, 0, none⟩), .int .i64 k, .int .i64 d, .agg #[.int .i64 a0, .int .i64 a1, .int .i64 a2, .int .i64 a3]] w
      fun en w' => en = .returned (.tuple #[]) ∧ ∃ u' fbs', MaAt m A cf B cw C mb T (pushM f d [a0, a1, a2, a3] (tickM T s)) v u' fbs' w' ∧ Below mb w w' := by
  obtain ⟨bx, hbx⟩ : ∃ bx, w.alloc (.cells #[.int .i64 a0, .int .i64 a1, .int .i64 a2, .int .i64 a3] 60) = bx := ⟨_, rfl⟩
  have hb := (grow_alloc (grow_refl w) (.cells #[.int .i64 a0, .int .i64 a1, .int .i64 a2, .int .i64 a3] 60))
  have hnw := heap_alloc_new w (.cells #[.int .i64 a0, .int .i64 a1, .int .i64 a2, .int .i64 a3] 60)
  rw [hbx] at hb hnw
  have hlt := h.lt
  have htick := tick_any (h.below hb) hT
  rw [decide_eq_true htk] at htick
  have HTK := Lib.hid htick
  have HBX := Lib.hid hbx
  have HB := Lib.hid (hb.mono (Nat.le_of_lt hlt))
  have HNW := Lib.hid hnw
  have hcl : (tickM T s).calls = s.calls := by unfold tickM; rw [if_pos htk]
  have HCL := Lib.hid hcl
  have HF := Lib.hid hf
  have HN := Lib.hid hn
  have HE := Lib.hid he
  have hmk := make_ints n hn1
  clear h hb hbx hnw htick htk hcl hf hn he
  go_enter Tryd.func26, Tryd.ntmps26
  go_upto_region 1 with fail
  change Code.wp _ _ _ _ (w.alloc (.cells #[.int .i64 a0, .int .i64 a1, .int .i64 a2, .int .i64 a3] 60))
  rw [HBX.out]
  go_upto_region 2 with (go_at_call 41; (with_reducible refine HTK.out.mono ?_); rintro z w2 ⟨rfl, h2, hb2, ho2⟩; have H2 := Lib.hid h2; have HB2 := Lib.hid hb2; have HO2 := Lib.hid ho2; clear h2 hb2 ho2)
  obtain ⟨c0, c1, c2, c3, c4, c5, c6, c7, c8⟩ := row9m H2.out.blk
  obtain ⟨Au, cu, rfl⟩ := own_slice H2.out.calls
  rw [HCL.out] at c8
  obtain ⟨b4, off4, rfl, f0, f1, f2, f3⟩ := fn_cells H2.out.funs hk
  rw [HF.out] at f0 f1 f2 f3
  rw [HN.out] at f2
  rw [HE.out] at f3
  have hl40 : ((s.calls.length : Int) == 40) = false := beq_eq_false_iff_ne.2 (by omega)
  have hk0 : (0 : Int) ≤ k := by omega
  have hkn : (k : Int) < (m.funs.length : Int) := by omega
  have ha2 := (HO2.out.2 w.heap.size (by omega)).trans HNW.out
  have HA2 := Lib.hid ha2
  have hlt2 := H2.out.lt
  clear ha2
  go_upto_region 5 with fail
  obtain ⟨p, hp⟩ : ∃ p, w.heap.size = p := ⟨_, rfl⟩
  obtain ⟨q, hq⟩ : ∃ q, w2.heap.size = q := ⟨_, rfl⟩
  obtain ⟨wr, hwr⟩ : ∃ wr, w2.alloc (.cells #[.string (mkB f.name), .int .i64 f.params, .int .i64 n, .int .i64 e] 48) = wr := ⟨_, rfl⟩
  have hbr : Below w2.heap.size w2 wr := by rw [← hwr]; exact grow_alloc (grow_refl _) _
  have hqn : wr.heap[q]? = some (.cells #[.string (mkB f.name), .int .i64 f.params, .int .i64 n, .int .i64 e] 48) := by rw [← hwr]; exact new_block _ _ hq.symm
  have hpl : p < w2.heap.size := by rw [← hp]; exact (Array.getElem?_eq_some_iff.1 HA2.out).1
  have hpn : wr.heap[p]? = some (.cells #[.int .i64 a0, .int .i64 a1, .int .i64 a2, .int .i64 a3] 60 (0, 0)) := (hbr.block p hpl).trans (by rw [← hp]; exact HA2.out)
  have hR := H2.out.below hbr
  rw [hwr, hp, hq]
  have hqm : q ≠ mb := by omega
  have hpm : p ≠ mb := by rw [← hp]; omega
  have hql : q < wr.heap.size := (Array.getElem?_eq_some_iff.1 hqn).1
  have hpl2 : p < wr.heap.size := (Array.getElem?_eq_some_iff.1 hpn).1
  have hmr := hR.lt
  obtain ⟨j0, j1, j2, j3⟩ := (⟨cell_of_row _ _ 0 _ _ _ hqn, cell_of_row _ _ 1 _ _ _ hqn, cell_of_row _ _ 2 _ _ _ hqn, cell_of_row _ _ 3 _ _ _ hqn⟩ : wr.cell? ⟨q, 0, none⟩ = some (.string (mkB f.name)) ∧ wr.cell? ⟨q, 1, none⟩ = some (.int .i64 f.params) ∧ wr.cell? ⟨q, 2, none⟩ = some (.int .i64 n) ∧ wr.cell? ⟨q, 3, none⟩ = some (.int .i64 e))
  obtain ⟨i0, i1, i2, i3⟩ := (⟨cell_of_row _ _ 0 _ _ _ hpn, cell_of_row _ _ 1 _ _ _ hpn, cell_of_row _ _ 2 _ _ _ hpn, cell_of_row _ _ 3 _ _ _ hpn⟩ : wr.cell? ⟨p, 0, none⟩ = some (.int .i64 a0) ∧ wr.cell? ⟨p, 1, none⟩ = some (.int .i64 a1) ∧ wr.cell? ⟨p, 2, none⟩ = some (.int .i64 a2) ∧ wr.cell? ⟨p, 3, none⟩ = some (.int .i64 a3))
  obtain ⟨-, -, -, -, -, -, -, -, c8⟩ := row9m hR.blk
  have z8 := row_frozen hR.blk 8
  have hcl2 := HCL.out
  rw [hcl2] at c8
  have k1 : ∀ o, (wr.alloc o).cell? ⟨mb, 8, none⟩ = some (.slice Au s.calls.length cu) := fun o => Keeps.alloc _ _ _ _ c8
  have k2 : ∀ o o', ((wr.alloc o).alloc o').cell? ⟨mb, 8, none⟩ = some (.slice Au s.calls.length cu) := fun o o' => Keeps.alloc _ _ _ _ (k1 o)
  have k3 : ∀ o o' o'', (((wr.alloc o).alloc o').alloc o'').cell? ⟨mb, 8, none⟩ = some (.slice Au s.calls.length cu) := fun o o' o'' => Keeps.alloc _ _ _ _ (k2 o o')
  have hown := hR.calls
  rw [hcl2] at hown
  have HOA : Hid ((((wr.drew.alloc (slO n)).alloc (.cells #[.string (mkB f.name), .int .i64 f.params, .int .i64 n, .int .i64 e, .int .i64 0, .int .i64 0, .int .i64 0, .int .i64 0, .int .i64 0, .int .i64 0, .int .i64 0, .int .i64 0, .slice (some ⟨wr.heap.size, 0, none⟩) n n, .int .i64 a0, .int .i64 a1, .int .i64 a2, .int .i64 a3, .int .i64 0, .int .i64 0, .int .i64 0, .int .i64 0, .int .i64 e, .int .i64 d] 102)).alloc (.cells #[.pointer (some ⟨wr.heap.size + 1, 0, none⟩)] 100)).ownsRow mb 100 1 (.slice Au s.calls.length cu) s.calls.length (ptrVs fbs)) := (((World.ownsRow.alloc (w := wr.drew) hown _).alloc _).alloc _)
  have HNP : Hid (∀ j z, [Value.pointer (some ⟨wr.heap.size + 1, 0, none⟩)][j]? = some z → (((wr.drew.alloc (slO n)).alloc (.cells #[.string (mkB f.name), .int .i64 f.params, .int .i64 n, .int .i64 e, .int .i64 0, .int .i64 0, .int .i64 0, .int .i64 0, .int .i64 0, .int .i64 0, .int .i64 0, .int .i64 0, .slice (some ⟨wr.heap.size, 0, none⟩) n n, .int .i64 a0, .int .i64 a1, .int .i64 a2, .int .i64 a3, .int .i64 0, .int .i64 0, .int .i64 0, .int .i64 0, .int .i64 e, .int .i64 d] 102)).alloc (.cells #[.pointer (some ⟨wr.heap.size + 1, 0, none⟩)] 100)).cell? ((⟨wr.heap.size + 2, 0, none⟩ : Addr).add j) = some z) := by
    have hh := cell_one_new ((wr.drew.alloc (slO n)).alloc (.cells #[.string (mkB f.name), .int .i64 f.params, .int .i64 n, .int .i64 e, .int .i64 0, .int .i64 0, .int .i64 0, .int .i64 0, .int .i64 0, .int .i64 0, .int .i64 0, .int .i64 0, .slice (some ⟨wr.heap.size, 0, none⟩) n n, .int .i64 a0, .int .i64 a1, .int .i64 a2, .int .i64 a3, .int .i64 0, .int .i64 0, .int .i64 0, .int .i64 0, .int .i64 e, .int .i64 d] 102)) (.pointer (some ⟨wr.heap.size + 1, 0, none⟩)) 100
    rw [show ((wr.drew.alloc (slO n)).alloc (.cells #[.string (mkB f.name), .int .i64 f.params, .int .i64 n, .int .i64 e, .int .i64 0, .int .i64 0, .int .i64 0, .int .i64 0, .int .i64 0, .int .i64 0, .int .i64 0, .int .i64 0, .slice (some ⟨wr.heap.size, 0, none⟩) n n, .int .i64 a0, .int .i64 a1, .int .i64 a2, .int .i64 a3, .int .i64 0, .int .i64 0, .int .i64 0, .int .i64 0, .int .i64 e, .int .i64 d] 102)).heap.size = wr.heap.size + 2 by simp] at hh
    exact hh
  have HOC : Hid (∀ z ∈ [Value.pointer (some ⟨wr.heap.size + 1, 0, none⟩)], z.oneCell' = true) := fun z hz => by simp at hz; subst hz; rfl
  obtain ⟨ti, hti, hz0, hz1, hz2⟩ := info_parts ptrInfo
  have HR := Lib.hid hR
  have HQN := Lib.hid hqn
  have HPN := Lib.hid hpn
  have hbs : mb ≤ (((wr.drew.alloc (slO n)).alloc (.cells #[.string (mkB f.name), .int .i64 f.params, .int .i64 n, .int .i64 e, .int .i64 0, .int .i64 0, .int .i64 0, .int .i64 0, .int .i64 0, .int .i64 0, .int .i64 0, .int .i64 0, .slice (some ⟨wr.heap.size, 0, none⟩) n n, .int .i64 a0, .int .i64 a1, .int .i64 a2, .int .i64 a3, .int .i64 0, .int .i64 0, .int .i64 0, .int .i64 0, .int .i64 e, .int .i64 d] 102)).alloc (.cells #[.pointer (some ⟨wr.heap.size + 1, 0, none⟩)] 100)).heap.size := by
    have e3 : (((wr.drew.alloc (slO n)).alloc (.cells #[.string (mkB f.name), .int .i64 f.params, .int .i64 n, .int .i64 e, .int .i64 0, .int .i64 0, .int .i64 0, .int .i64 0, .int .i64 0, .int .i64 0, .int .i64 0, .int .i64 0, .slice (some ⟨wr.heap.size, 0, none⟩) n n, .int .i64 a0, .int .i64 a1, .int .i64 a2, .int .i64 a3, .int .i64 0, .int .i64 0, .int .i64 0, .int .i64 0, .int .i64 e, .int .i64 d] 102)).alloc (.cells #[.pointer (some ⟨wr.heap.size + 1, 0, none⟩)] 100)).heap.size = wr.heap.size + 3 := by simp
    omega
  have hqu : Value.ownBlock (.slice Au s.calls.length cu) ≠ some q := own_else hown HQN.out fun cs e => by
    injection e with _ e _
    exact absurd e (by decide)
  have hpu : Value.ownBlock (.slice Au s.calls.length cu) ≠ some p := own_else hown HPN.out fun cs e => by
    injection e with _ e _
    exact absurd e (by decide)
  have hmu : Value.ownBlock (.slice Au s.calls.length cu) ≠ some mb := own_else hown HR.out.blk fun cs e => by
    injection e with _ e _
    exact absurd e (by decide)
  have h63 : s.calls.length + 1 ≤ maxLen := by unfold maxLen; omega
  have hby : (s.calls.length + 1) * 8 ≤ 140737488355328 := by omega
  have HR := Lib.hid hR
  have HQN := Lib.hid hqn
  have HPN := Lib.hid hpn
  have HJ0 := Lib.hid (And.intro j0 (And.intro j1 (And.intro j2 (And.intro j3 (And.intro i0 (And.intro i1 (And.intro i2 i3)))))))
  have HBR := Lib.hid hbr
  clear hR hqn hpn hown hwr hp hq hbr hcl2 f0 f1 f2 f3 c0 c1 c2 c3 c4 c5 c6 c7 HA2 HTK HBX
  rw [show Op.load 73 (Operand.tmp 31) = ldCalls from rfl]
  go_region_held3 (fun w' => w'.cell? ⟨q, 0, none⟩ = some (.string (mkB f.name)) ∧ w'.cell? ⟨q, 1, none⟩ = some (.int .i64 f.params) ∧ w'.cell? ⟨q, 2, none⟩ = some (.int .i64 n) ∧ w'.cell? ⟨q, 3, none⟩ = some (.int .i64 e) ∧ w'.cell? ⟨p, 0, none⟩ = some (.int .i64 a0) ∧ w'.cell? ⟨p, 1, none⟩ = some (.int .i64 a1) ∧ w'.cell? ⟨p, 2, none⟩ = some (.int .i64 a2) ∧ w'.cell? ⟨p, 3, none⟩ = some (.int .i64 a3))
    (first
      | exact HJ0.out
      | exact J4.out
      | (go_split_ands
         refine ⟨?_, ?_, ?_, ?_, ?_, ?_, ?_, ?_⟩
         all_goals (first | assumption | exact Keeps.alloc _ _ _ _ (by assumption) | exact cell_oth (by assumption) hqm | exact cell_oth (by assumption) hpm)))
    (first
      | (refine step_append_lies _ rfl _ _ 73 rfl mb 100 ti _ 1 8 Tryd.underlying73 hti hz0 hz1 hz2 rfl (by decide) _ s.calls.length (ptrVs fbs) rfl HOA.out ⟨wr.heap.size + 2, 0, none⟩ 1 1 [.pointer (some ⟨wr.heap.size + 1, 0, none⟩)] rfl rfl HNP.out HOC.out (by decide) h63 hby hbs _ rfl ?_; intro g cap w4 hown hgrow hat hlt; have hold4 : ∀ k, k < wr.heap.size → Value.ownBlock (.slice Au s.calls.length cu) ≠ some k → w4.heap[k]? = wr.heap[k]? := (push_old hgrow); have hq4 := (hold4 q hql hqu).trans HQN.out; have hp4 := (hold4 p hpl2 hpu).trans HPN.out; have J4 := Lib.hid (row44 hq4 hp4); have HM4 := Lib.hid (And.intro hown (And.intro hgrow hat)); have x8 : w4.cell? ⟨mb, 8, none⟩ = some (.slice Au s.calls.length cu) := (World.cell?_of_block (hold4 mb hmr hmu)).trans c8; have y8 : w4.frozen? ⟨mb, 8, none⟩ = false := row_frozen ((hold4 mb hmr hmu).trans HR.out.blk) 8; clear hown hgrow hat hlt hold4 hq4 hp4))
  all_goals
    go_end0
    obtain ⟨hown, hgrow, hat⟩ := HM4.out
    rw [← frO_lit HN.out HE.out a0 a1 a2 a3 wr.heap.size] at hgrow
    have hsn : slO n = slO f.slots.toNat := by rw [HN.out]; rfl
    rw [hsn] at hgrow
    rw [← HCL.out] at hown
    have hgrow' : (((wr.drew.alloc (slO f.slots.toNat)).alloc (frO f d [a0, a1, a2, a3] wr.heap.size)).alloc (.cells #[.pointer (some ⟨wr.heap.size + 1, 0, none⟩)] 100)).grownBy w4 (Value.ownBlock (.slice Au s.calls.length cu)) := hgrow
    rw [← HCL.out] at hgrow'
    have hat' : Value.ownBlock (.slice Au s.calls.length cu) = some g ∨ g = _ := hat
    rw [← HCL.out] at hat'
    have hpush := MaAt.push (w := wr.drew) (HR.out.drewN 1) hown hgrow' (by
      rcases hat' with q1 | q1
      · exact .inl q1.symm
      · exact .inr (by rw [q1]; simp [Value.ownBlock]))
    rw [← HCL.out]
    exact ⟨rfl, _, _, hpush.2.1, HB.out.trans (HB2.out.trans ((HBR.out.mono (by omega)).trans ((below_drewN (Below.refl _ _) 1).trans hpush.2.2)))⟩
end
end Go.Proofs.YtgoifbkogboppaaDoor

namespace Go.Proofs.YtgoifbkogboppaaDoor
open Go.RowKit

/-! the machine: call, whole -/
section
variable {m : PImg} {A : Option Addr} {cf : Nat} {B : Option Addr} {cw : Nat} {C : Value} {mb T : Nat} {s : PMs} {v u : Value} {fbs : List (Nat × Nat)} {w w' : World} {d : Nat}
set_option maxHeartbeats 2000000 in
set_option maxRecDepth 100000 in
theorem call_tired (h : MaAt m A cf B cw C mb T s v u fbs w) (hT : T ≤ 5000) (htk : ¬ s.ticks < T) (k d : Nat) (a0 a1 a2 a3 : Int) :
    Calls Tryd.prog 26 #[.pointer (some ⟨mb, 0, none⟩), .int .i64 k, .int .i64 d, .agg #[.int .i64 a0, .int .i64 a1, .int .i64 a2, .int .i64 a3]] w
      fun en w' => en = .returned (.tuple #[]) ∧ ∃ u' fbs', MaAt m A cf B cw C mb T (tickM T s) v u' fbs' w' ∧ Below mb w w' := by
  obtain ⟨bx, hbx⟩ : ∃ bx, w.alloc (.cells #[.int .i64 a0, .int .i64 a1, .int .i64 a2, .int .i64 a3] 60) = bx := ⟨_, rfl⟩
  have hb := (grow_alloc (grow_refl w) (.cells #[.int .i64 a0, .int .i64 a1, .int .i64 a2, .int .i64 a3] 60))
  rw [hbx] at hb
  have hlt := h.lt
  have htick := tick_any (h.below hb) hT
  rw [decide_eq_false htk] at htick
  have HTK := Lib.hid htick
  have HBX := Lib.hid hbx
  have HB := Lib.hid (hb.mono (Nat.le_of_lt hlt))
  clear h hb hbx htick htk
  go_enter Tryd.func26, Tryd.ntmps26
  go_upto_region 1 with fail
  change Code.wp _ _ _ _ (w.alloc (.cells #[.int .i64 a0, .int .i64 a1, .int .i64 a2, .int .i64 a3] 60))
  rw [HBX.out]
  go_wp2_with (go_at_call 41; (with_reducible refine HTK.out.mono ?_); rintro z w2 ⟨rfl, h2, hb2, ho2⟩; have H2 := Lib.hid (And.intro h2 hb2); clear h2 hb2 ho2)
  go_returns
  exact ⟨rfl, _, _, H2.out.1, HB.out.trans H2.out.2⟩
set_option maxHeartbeats 2000000 in
set_option maxRecDepth 100000 in
theorem call_deep (h : MaAt m A cf B cw C mb T s v u fbs w) (hT : T ≤ 5000) (htk : s.ticks < T) (hd : s.calls.length = 40) (k d : Nat) (a0 a1 a2 a3 : Int) :
    Calls Tryd.prog 26 #[.pointer (some ⟨mb, 0, none⟩), .int .i64 k, .int .i64 d, .agg #[.int .i64 a0, .int .i64 a1, .int .i64 a2, .int .i64 a3]] w
      fun en w' => en = .returned (.tuple #[]) ∧ ∃ u' fbs', MaAt m A cf B cw C mb T (endM deepT (tickM T s)) v u' fbs' w' ∧ Below mb w w' := by
  obtain ⟨bx, hbx⟩ : ∃ bx, w.alloc (.cells #[.int .i64 a0, .int .i64 a1, .int .i64 a2, .int .i64 a3] 60) = bx := ⟨_, rfl⟩
  have hb := (grow_alloc (grow_refl w) (.cells #[.int .i64 a0, .int .i64 a1, .int .i64 a2, .int .i64 a3] 60))
  rw [hbx] at hb
  have hlt := h.lt
  have htick := tick_any (h.below hb) hT
  rw [decide_eq_true htk] at htick
  have HTK := Lib.hid htick
  have HBX := Lib.hid hbx
  have HB := Lib.hid (hb.mono (Nat.le_of_lt hlt))
  have hcl : (tickM T s).calls.length = 40 := by unfold tickM; rw [if_pos htk]; exact hd
  have HCL := Lib.hid hcl
  clear h hb hbx htick htk hcl hd
  go_enter Tryd.func26, Tryd.ntmps26
  go_upto_region 1 with fail
  change Code.wp _ _ _ _ (w.alloc (.cells #[.int .i64 a0, .int .i64 a1, .int .i64 a2, .int .i64 a3] 60))
  rw [HBX.out]
  go_upto_region 2 with (go_at_call 41; (with_reducible refine HTK.out.mono ?_); rintro z w2 ⟨rfl, h2, hb2, ho2⟩; have H2 := Lib.hid h2; have HB2 := Lib.hid hb2; clear h2 hb2 ho2)
  obtain ⟨c0, c1, c2, c3, c4, c5, c6, c7, c8⟩ := row9m H2.out.blk
  obtain ⟨Au, cu, rfl⟩ := own_slice H2.out.calls
  rw [HCL.out] at c8
  have HEND : Hid (Calls Tryd.prog 27 #[.pointer (some ⟨mb, 0, none⟩), .string ⟨#[100, 101, 101, 112]⟩] w2 fun e w' => e = .returned (.tuple #[]) ∧ MaAt m A cf B cw C mb T (endM deepT (tickM T s)) v (.slice Au (tickM T s).calls.length cu) fbs w' ∧ Below mb w2 w' ∧ Only mb w2 w') := end_any H2.out deepT
  go_wp2_with (go_at_call 27; (with_reducible refine HEND.out.mono ?_); rintro e w3 ⟨rfl, h3, hb3, -⟩; have H3 := Lib.hid (And.intro h3 hb3); clear h3 hb3)
  go_returns
  exact ⟨rfl, _, _, H3.out.1, HB.out.trans (HB2.out.trans H3.out.2)⟩
theorem call_any (hg : GoodI m) (h : MaAt m A cf B cw C mb T s v u fbs w) (hT : T ≤ 5000) (ho : s.over = false) (hd40 : s.calls.length ≤ 40) (k : Nat) (hk : k < m.funs.length) (d : Nat) (a0 a1 a2 a3 : Int) :
    Calls Tryd.prog 26 #[.pointer (some ⟨mb, 0, none⟩), .int .i64 k, .int .i64 d, .agg #[.int .i64 a0, .int .i64 a1, .int .i64 a2, .int .i64 a3]] w
      fun en w' => en = .returned (.tuple #[]) ∧ ∃ u' fbs', MaAt m A cf B cw C mb T (enterM m.funs T k d [a0, a1, a2, a3] s) v u' fbs' w' ∧ Below mb w w' := by
  by_cases htk : s.ticks < T
  · have h1 : (tickM T s).over = false := by unfold tickM; rw [if_pos htk]; exact ho
    have hf : m.funs.getD k fn0 = m.funs[k] := by rw [List.getD_eq_getElem?_getD, List.getElem?_eq_getElem hk]; rfl
    have hok := fn_ok (hg.funs k hk)
    by_cases hd : s.calls.length = 40
    · have e : enterM m.funs T k d [a0, a1, a2, a3] s = endM deepT (tickM T s) := by unfold enterM; rw [if_neg (by rw [h1]; decide), if_pos (by omega)]
      rw [e]
      exact call_deep h hT htk hd k d a0 a1 a2 a3
    · have e : enterM m.funs T k d [a0, a1, a2, a3] s = pushM m.funs[k] d [a0, a1, a2, a3] (tickM T s) := by unfold enterM; rw [if_neg (by rw [h1]; decide), if_neg (by omega), hf]
      rw [e]
      exact call_push h hT htk (by omega) k hk rfl m.funs[k].slots.toNat (by omega) (by omega) m.funs[k].entry.toNat (by omega) d a0 a1 a2 a3
  · have h1 : (tickM T s).over = true := by unfold tickM; rw [if_neg htk]; rfl
    have e : enterM m.funs T k d [a0, a1, a2, a3] s = tickM T s := by unfold enterM; rw [if_pos h1]
    rw [e]
    exact call_tired h hT htk k d a0 a1 a2 a3
end
end Go.Proofs.YtgoifbkogboppaaDoor

namespace Go.Proofs.YtgoifbkogboppaaDoor
open Go.RowKit

/-! the machine: flow (printed by gen_flow.py) -/
section
variable {m : PImg} {A : Option Addr} {cf : Nat} {B : Option Addr} {cw : Nat} {C : Value} {mb T : Nat} {s : PMs} {v u : Value} {ps : List (Nat × Nat)} {p : Nat × Nat} {cs : List PFr} {x y : PFr} {w w' : World}
def FlPost (m : PImg) (A : Option Addr) (cf : Nat) (B : Option Addr) (cw : Nat) (C : Value) (mb T : Nat) (s' : PMs) (w : World) : Ending → World → Prop := fun e w' => e = .returned (.bool true) ∧ ∃ v' u' fbs', MaAt m A cf B cw C mb T s' v' u' fbs' w' ∧ Below mb w w'

set_option maxHeartbeats 2000000 in
set_option maxRecDepth 100000 in
theorem flow_tick (h : MaAt m A cf B cw C mb T s v u (ps ++ [p]) w) (hs : s.calls = cs ++ [x]) (hx : FrLen x) (hT : T ≤ 5000) (d a b imm : Int) :
    Calls Tryd.prog 42 #[.pointer (some ⟨mb, 0, none⟩), .pointer (some ⟨p.1, 0, none⟩), .agg #[.string ⟨#[116, 105, 99, 107]⟩, .int .i64 d, .int .i64 a, .int .i64 b, .int .i64 imm]] w
      (FlPost m A cf B cw C mb T (tickM T s) w) := by
  obtain ⟨bx, hbx⟩ : ∃ bx, w.alloc (.cells #[.string ⟨#[116, 105, 99, 107]⟩, .int .i64 d, .int .i64 a, .int .i64 b, .int .i64 imm] 76) = bx := ⟨_, rfl⟩
  have hb := (grow_alloc (grow_refl w) (.cells #[.string ⟨#[116, 105, 99, 107]⟩, .int .i64 d, .int .i64 a, .int .i64 b, .int .i64 imm] 76))
  have hn := heap_alloc_new w (.cells #[.string ⟨#[116, 105, 99, 107]⟩, .int .i64 d, .int .i64 a, .int .i64 b, .int .i64 imm] 76)
  rw [hbx] at hb hn
  have h2 := h.below hb
  have hlt := h.lt
  obtain ⟨ht, -⟩ := h2.top_at hs
  have HTK := Lib.hid (tick_any h2 hT)
  have HBS := Lib.hid hb
  have HB := Lib.hid (hb.mono (Nat.le_of_lt hlt))
  have HBX := Lib.hid hbx
  have HH := Lib.hid h2
  have HT := Lib.hid ht
  have HS := Lib.hid hs
  have HX := Lib.hid hx
  have e0 := cell_of_row _ _ 0 _ _ _ hn
  have e1 := cell_of_row _ _ 1 _ _ _ hn
  have e2 := cell_of_row _ _ 2 _ _ _ hn
  have e3 := cell_of_row _ _ 3 _ _ _ hn
  have e4 := cell_of_row _ _ 4 _ _ _ hn
  clear h h2 hb hbx hn ht hs hx
  go_enter Tryd.func42, Tryd.ntmps42
  go_upto_region 1 with fail
  change Code.wp _ _ _ _ (w.alloc (.cells #[.string ⟨#[116, 105, 99, 107]⟩, .int .i64 d, .int .i64 a, .int .i64 b, .int .i64 imm] 76))
  rw [HBX.out]
  go_wp2_with (go_at_call 41; (with_reducible refine HTK.out.mono ?_); rintro z w2 ⟨rfl, h3, hb3, ho3⟩; have H3 := Lib.hid (And.intro h3 hb3); clear h3 hb3 ho3)
  go_ret
  exact ⟨rfl, _, _, _, H3.out.1, HB.out.trans H3.out.2⟩

set_option maxHeartbeats 2000000 in
set_option maxRecDepth 100000 in
theorem flow_print (h : MaAt m A cf B cw C mb T s v u (ps ++ [p]) w) (hs : s.calls = cs ++ [x]) (hx : FrLen x) (ho : s.out.length ≤ 1000) (d : Int) (a : Nat) (ha : a < 8) (b imm : Int) :
    Calls Tryd.prog 42 #[.pointer (some ⟨mb, 0, none⟩), .pointer (some ⟨p.1, 0, none⟩), .agg #[.string ⟨#[112, 114, 105, 110, 116]⟩, .int .i64 d, .int .i64 a, .int .i64 b, .int .i64 imm]] w
      (FlPost m A cf B cw C mb T (printM (regM x a) s) w) := by
  obtain ⟨bx, hbx⟩ : ∃ bx, w.alloc (.cells #[.string ⟨#[112, 114, 105, 110, 116]⟩, .int .i64 d, .int .i64 a, .int .i64 b, .int .i64 imm] 76) = bx := ⟨_, rfl⟩
  have hb := (grow_alloc (grow_refl w) (.cells #[.string ⟨#[112, 114, 105, 110, 116]⟩, .int .i64 d, .int .i64 a, .int .i64 b, .int .i64 imm] 76))
  have hn := heap_alloc_new w (.cells #[.string ⟨#[112, 114, 105, 110, 116]⟩, .int .i64 d, .int .i64 a, .int .i64 b, .int .i64 imm] 76)
  rw [hbx] at hb hn
  have h2 := h.below hb
  have hlt := h.lt
  obtain ⟨ht, -⟩ := h2.top_at hs
  have ha0 : (0 : Int) ≤ a := by omega
  have ha1 : (a : Int) < 8 := by omega
  have r2 : bx.cell? ⟨p.1, 4 + a, none⟩ = some (.int .i64 (regM x a)) := ht.cell (frL_r hx ha)
  have HPR := Lib.hid (print_any (w := bx.drew) (h2.drewN 1) ho (regM x a))
  have HBS := Lib.hid hb
  have HB := Lib.hid (hb.mono (Nat.le_of_lt hlt))
  have HBX := Lib.hid hbx
  have HH := Lib.hid h2
  have HT := Lib.hid ht
  have HS := Lib.hid hs
  have HX := Lib.hid hx
  have e0 := cell_of_row _ _ 0 _ _ _ hn
  have e1 := cell_of_row _ _ 1 _ _ _ hn
  have e2 := cell_of_row _ _ 2 _ _ _ hn
  have e3 := cell_of_row _ _ 3 _ _ _ hn
  have e4 := cell_of_row _ _ 4 _ _ _ hn
  clear h h2 hb hbx hn ht hs hx
  go_enter Tryd.func42, Tryd.ntmps42
  go_upto_region 1 with fail
  change Code.wp _ _ _ _ (w.alloc (.cells #[.string ⟨#[112, 114, 105, 110, 116]⟩, .int .i64 d, .int .i64 a, .int .i64 b, .int .i64 imm] 76))
  rw [HBX.out]
  go_upto_region 6 with fail
  go_still_tail 8, (by kernel_rfl)
  change wpList _ _ _ _ _ bx.drew
  go_wp2_with (go_at_call 54; (with_reducible refine HPR.out.mono ?_); rintro z w2 ⟨rfl, v3, h3, hb3⟩; have H3 := Lib.hid (And.intro h3 hb3); clear h3 hb3)
  go_ret
  exact ⟨rfl, _, _, _, H3.out.1, HB.out.trans ((below_drewN (Below.refl _ _) 1).trans H3.out.2)⟩

set_option maxHeartbeats 2000000 in
set_option maxRecDepth 100000 in
theorem flow_jump (h : MaAt m A cf B cw C mb T s v u (ps ++ [p]) w) (hs : s.calls = cs ++ [x]) (hx : FrLen x) (d a b : Int) (k : Nat) :
    Calls Tryd.prog 42 #[.pointer (some ⟨mb, 0, none⟩), .pointer (some ⟨p.1, 0, none⟩), .agg #[.string ⟨#[106, 117, 109, 112]⟩, .int .i64 d, .int .i64 a, .int .i64 b, .int .i64 k]] w
      (FlPost m A cf B cw C mb T (topM { x with pc := k } s) w) := by
  obtain ⟨bx, hbx⟩ : ∃ bx, w.alloc (.cells #[.string ⟨#[106, 117, 109, 112]⟩, .int .i64 d, .int .i64 a, .int .i64 b, .int .i64 k] 76) = bx := ⟨_, rfl⟩
  have hb := (grow_alloc (grow_refl w) (.cells #[.string ⟨#[106, 117, 109, 112]⟩, .int .i64 d, .int .i64 a, .int .i64 b, .int .i64 k] 76))
  have hn := heap_alloc_new w (.cells #[.string ⟨#[106, 117, 109, 112]⟩, .int .i64 d, .int .i64 a, .int .i64 b, .int .i64 k] 76)
  rw [hbx] at hb hn
  have h2 := h.below hb
  have hlt := h.lt
  obtain ⟨ht, -⟩ := h2.top_at hs
  have HST := Lib.hid (h2.frStore hs (y := { x with pc := k }) (.int .i64 (k : Nat)) (frL_setPc hx k) rfl)
  have r1 := ht.cell (frL_pc hx).1
  have z1 := row_frozen ht.blk 21
  have HBS := Lib.hid hb
  have HB := Lib.hid (hb.mono (Nat.le_of_lt hlt))
  have HBX := Lib.hid hbx
  have HH := Lib.hid h2
  have HT := Lib.hid ht
  have HS := Lib.hid hs
  have HX := Lib.hid hx
  have e0 := cell_of_row _ _ 0 _ _ _ hn
  have e1 := cell_of_row _ _ 1 _ _ _ hn
  have e2 := cell_of_row _ _ 2 _ _ _ hn
  have e3 := cell_of_row _ _ 3 _ _ _ hn
  have e4 := cell_of_row _ _ 4 _ _ _ hn
  clear h h2 hb hbx hn ht hs hx
  go_enter Tryd.func42, Tryd.ntmps42
  go_upto_region 1 with fail
  change Code.wp _ _ _ _ (w.alloc (.cells #[.string ⟨#[106, 117, 109, 112]⟩, .int .i64 d, .int .i64 a, .int .i64 b, .int .i64 k] 76))
  rw [HBX.out]
  go_wp2_with fail
  go_ret
  exact ⟨rfl, _, _, _, HST.out.1, HB.out.trans HST.out.2⟩

set_option maxHeartbeats 2000000 in
set_option maxRecDepth 100000 in
theorem flow_if_no (h : MaAt m A cf B cw C mb T s v u (ps ++ [p]) w) (hs : s.calls = cs ++ [x]) (hx : FrLen x) (d : Int) (a : Nat) (ha : a < 8) (b imm : Int) (hz : regM x a = 0) :
    Calls Tryd.prog 42 #[.pointer (some ⟨mb, 0, none⟩), .pointer (some ⟨p.1, 0, none⟩), .agg #[.string ⟨#[105, 102]⟩, .int .i64 d, .int .i64 a, .int .i64 b, .int .i64 imm]] w
      (FlPost m A cf B cw C mb T (s) w) := by
  obtain ⟨bx, hbx⟩ : ∃ bx, w.alloc (.cells #[.string ⟨#[105, 102]⟩, .int .i64 d, .int .i64 a, .int .i64 b, .int .i64 imm] 76) = bx := ⟨_, rfl⟩
  have hb := (grow_alloc (grow_refl w) (.cells #[.string ⟨#[105, 102]⟩, .int .i64 d, .int .i64 a, .int .i64 b, .int .i64 imm] 76))
  have hn := heap_alloc_new w (.cells #[.string ⟨#[105, 102]⟩, .int .i64 d, .int .i64 a, .int .i64 b, .int .i64 imm] 76)
  rw [hbx] at hb hn
  have h2 := h.below hb
  have hlt := h.lt
  obtain ⟨ht, -⟩ := h2.top_at hs
  have ha0 : (0 : Int) ≤ a := by omega
  have ha1 : (a : Int) < 8 := by omega
  have r2 : bx.cell? ⟨p.1, 4 + a, none⟩ = some (.int .i64 (regM x a)) := ht.cell (frL_r hx ha)
  rw [hz] at r2
  clear hz
  have HBS := Lib.hid hb
  have HB := Lib.hid (hb.mono (Nat.le_of_lt hlt))
  have HBX := Lib.hid hbx
  have HH := Lib.hid h2
  have HT := Lib.hid ht
  have HS := Lib.hid hs
  have HX := Lib.hid hx
  have e0 := cell_of_row _ _ 0 _ _ _ hn
  have e1 := cell_of_row _ _ 1 _ _ _ hn
  have e2 := cell_of_row _ _ 2 _ _ _ hn
  have e3 := cell_of_row _ _ 3 _ _ _ hn
  have e4 := cell_of_row _ _ 4 _ _ _ hn
  clear h h2 hb hbx hn ht hs hx
  go_enter Tryd.func42, Tryd.ntmps42
  go_upto_region 1 with fail
  change Code.wp _ _ _ _ (w.alloc (.cells #[.string ⟨#[105, 102]⟩, .int .i64 d, .int .i64 a, .int .i64 b, .int .i64 imm] 76))
  rw [HBX.out]
  go_upto_region 10 with fail
  go_quiet (fail)
  go_wp2_with fail
  go_ret
  exact ⟨rfl, _, _, _, HH.out.drewN _, HB.out.trans (below_drewN (Below.refl _ _) _)⟩

set_option maxHeartbeats 2000000 in
set_option maxRecDepth 100000 in
theorem flow_if_yes (h : MaAt m A cf B cw C mb T s v u (ps ++ [p]) w) (hs : s.calls = cs ++ [x]) (hx : FrLen x) (d : Int) (a : Nat) (ha : a < 8) (b : Int) (k : Nat) (hz : regM x a ≠ 0) :
    Calls Tryd.prog 42 #[.pointer (some ⟨mb, 0, none⟩), .pointer (some ⟨p.1, 0, none⟩), .agg #[.string ⟨#[105, 102]⟩, .int .i64 d, .int .i64 a, .int .i64 b, .int .i64 k]] w
      (FlPost m A cf B cw C mb T (topM { x with pc := k } s) w) := by
  obtain ⟨bx, hbx⟩ : ∃ bx, w.alloc (.cells #[.string ⟨#[105, 102]⟩, .int .i64 d, .int .i64 a, .int .i64 b, .int .i64 k] 76) = bx := ⟨_, rfl⟩
  have hb := (grow_alloc (grow_refl w) (.cells #[.string ⟨#[105, 102]⟩, .int .i64 d, .int .i64 a, .int .i64 b, .int .i64 k] 76))
  have hn := heap_alloc_new w (.cells #[.string ⟨#[105, 102]⟩, .int .i64 d, .int .i64 a, .int .i64 b, .int .i64 k] 76)
  rw [hbx] at hb hn
  have h2 := h.below hb
  have hlt := h.lt
  obtain ⟨ht, -⟩ := h2.top_at hs
  have ha0 : (0 : Int) ≤ a := by omega
  have ha1 : (a : Int) < 8 := by omega
  have r2 : bx.cell? ⟨p.1, 4 + a, none⟩ = some (.int .i64 (regM x a)) := ht.cell (frL_r hx ha)
  have hz1 : (regM x a != 0) = true := by simpa using hz
  have HST := Lib.hid (fun n => (h2.drewN n).frStore hs (y := { x with pc := k }) (.int .i64 (k : Nat)) (frL_setPc hx k) rfl)
  have r1 := ht.cell (frL_pc hx).1
  have z1 := row_frozen ht.blk 21
  clear hz
  have HBS := Lib.hid hb
  have HB := Lib.hid (hb.mono (Nat.le_of_lt hlt))
  have HBX := Lib.hid hbx
  have HH := Lib.hid h2
  have HT := Lib.hid ht
  have HS := Lib.hid hs
  have HX := Lib.hid hx
  have e0 := cell_of_row _ _ 0 _ _ _ hn
  have e1 := cell_of_row _ _ 1 _ _ _ hn
  have e2 := cell_of_row _ _ 2 _ _ _ hn
  have e3 := cell_of_row _ _ 3 _ _ _ hn
  have e4 := cell_of_row _ _ 4 _ _ _ hn
  clear h h2 hb hbx hn ht hs hx
  go_enter Tryd.func42, Tryd.ntmps42
  go_upto_region 1 with fail
  change Code.wp _ _ _ _ (w.alloc (.cells #[.string ⟨#[105, 102]⟩, .int .i64 d, .int .i64 a, .int .i64 b, .int .i64 k] 76))
  rw [HBX.out]
  go_upto_region 10 with fail
  go_quiet (fail)
  go_wp2_with fail
  go_ret
  exact ⟨rfl, _, _, _, (HST.out _).1, HB.out.trans ((below_drewN (Below.refl _ _) _).trans (HST.out _).2)⟩

set_option maxHeartbeats 2000000 in
set_option maxRecDepth 100000 in
theorem flow_return (h : MaAt m A cf B cw C mb T s v u (ps ++ [p]) w) (hs : s.calls = cs ++ [x]) (hx : FrLen x) (hbk : ∀ w, MaAt m A cf B cw C mb T s v u (ps ++ [p]) w → ∀ n : Int, Calls Tryd.prog 55 #[.pointer (some ⟨mb, 0, none⟩), .int .i64 n] w fun e w' => e = .returned (.tuple #[]) ∧ ∃ u' fbs, MaAt m A cf B cw C mb T (backM n s) v u' fbs w' ∧ Below mb w w') (d : Int) (a : Nat) (ha : a < 8) (b imm : Int) :
    Calls Tryd.prog 42 #[.pointer (some ⟨mb, 0, none⟩), .pointer (some ⟨p.1, 0, none⟩), .agg #[.string ⟨#[114, 101, 116, 117, 114, 110]⟩, .int .i64 d, .int .i64 a, .int .i64 b, .int .i64 imm]] w
      (FlPost m A cf B cw C mb T (backM (regM x a) s) w) := by
  obtain ⟨bx, hbx⟩ : ∃ bx, w.alloc (.cells #[.string ⟨#[114, 101, 116, 117, 114, 110]⟩, .int .i64 d, .int .i64 a, .int .i64 b, .int .i64 imm] 76) = bx := ⟨_, rfl⟩
  have hb := (grow_alloc (grow_refl w) (.cells #[.string ⟨#[114, 101, 116, 117, 114, 110]⟩, .int .i64 d, .int .i64 a, .int .i64 b, .int .i64 imm] 76))
  have hn := heap_alloc_new w (.cells #[.string ⟨#[114, 101, 116, 117, 114, 110]⟩, .int .i64 d, .int .i64 a, .int .i64 b, .int .i64 imm] 76)
  rw [hbx] at hb hn
  have h2 := h.below hb
  have hlt := h.lt
  obtain ⟨ht, -⟩ := h2.top_at hs
  have ha0 : (0 : Int) ≤ a := by omega
  have ha1 : (a : Int) < 8 := by omega
  have r2 : bx.cell? ⟨p.1, 4 + a, none⟩ = some (.int .i64 (regM x a)) := ht.cell (frL_r hx ha)
  have HPR := Lib.hid (hbk bx.drew (h2.drewN 1) (regM x a))
  clear hbk
  have HBS := Lib.hid hb
  have HB := Lib.hid (hb.mono (Nat.le_of_lt hlt))
  have HBX := Lib.hid hbx
  have HH := Lib.hid h2
  have HT := Lib.hid ht
  have HS := Lib.hid hs
  have HX := Lib.hid hx
  have e0 := cell_of_row _ _ 0 _ _ _ hn
  have e1 := cell_of_row _ _ 1 _ _ _ hn
  have e2 := cell_of_row _ _ 2 _ _ _ hn
  have e3 := cell_of_row _ _ 3 _ _ _ hn
  have e4 := cell_of_row _ _ 4 _ _ _ hn
  clear h h2 hb hbx hn ht hs hx
  go_enter Tryd.func42, Tryd.ntmps42
  go_upto_region 1 with fail
  change Code.wp _ _ _ _ (w.alloc (.cells #[.string ⟨#[114, 101, 116, 117, 114, 110]⟩, .int .i64 d, .int .i64 a, .int .i64 b, .int .i64 imm] 76))
  rw [HBX.out]
  go_upto_region 13 with fail
  go_still_tail 8, (by kernel_rfl)
  change wpList _ _ _ _ _ bx.drew
  go_wp2_with (go_at_call 55; (with_reducible refine HPR.out.mono ?_); rintro z w2 ⟨rfl, u3, fb3, h3, hb3⟩; have H3 := Lib.hid (And.intro h3 hb3); clear h3 hb3)
  go_ret
  exact ⟨rfl, _, _, _, H3.out.1, HB.out.trans ((below_drewN (Below.refl _ _) 1).trans H3.out.2)⟩

set_option maxHeartbeats 2000000 in
set_option maxRecDepth 100000 in
theorem flow_const (h : MaAt m A cf B cw C mb T s v u (ps ++ [p]) w) (hs : s.calls = cs ++ [x]) (hx : FrLen x) (d a b imm : Int) :
    Calls Tryd.prog 42 #[.pointer (some ⟨mb, 0, none⟩), .pointer (some ⟨p.1, 0, none⟩), .agg #[.string ⟨#[99, 111, 110, 115, 116]⟩, .int .i64 d, .int .i64 a, .int .i64 b, .int .i64 imm]] w
      (Ret (.bool false) w) := by
  obtain ⟨bx, hbx⟩ : ∃ bx, w.alloc (.cells #[.string ⟨#[99, 111, 110, 115, 116]⟩, .int .i64 d, .int .i64 a, .int .i64 b, .int .i64 imm] 76) = bx := ⟨_, rfl⟩
  have hb := (grow_alloc (grow_refl w) (.cells #[.string ⟨#[99, 111, 110, 115, 116]⟩, .int .i64 d, .int .i64 a, .int .i64 b, .int .i64 imm] 76))
  have hn := heap_alloc_new w (.cells #[.string ⟨#[99, 111, 110, 115, 116]⟩, .int .i64 d, .int .i64 a, .int .i64 b, .int .i64 imm] 76)
  rw [hbx] at hb hn
  have h2 := h.below hb
  have hlt := h.lt
  obtain ⟨ht, -⟩ := h2.top_at hs
  have HBS := Lib.hid hb
  have HB := Lib.hid (hb.mono (Nat.le_of_lt hlt))
  have HBX := Lib.hid hbx
  have HH := Lib.hid h2
  have HT := Lib.hid ht
  have HS := Lib.hid hs
  have HX := Lib.hid hx
  have e0 := cell_of_row _ _ 0 _ _ _ hn
  have e1 := cell_of_row _ _ 1 _ _ _ hn
  have e2 := cell_of_row _ _ 2 _ _ _ hn
  have e3 := cell_of_row _ _ 3 _ _ _ hn
  have e4 := cell_of_row _ _ 4 _ _ _ hn
  clear h h2 hb hbx hn ht hs hx
  go_enter Tryd.func42, Tryd.ntmps42
  go_upto_region 1 with fail
  change Code.wp _ _ _ _ (w.alloc (.cells #[.string ⟨#[99, 111, 110, 115, 116]⟩, .int .i64 d, .int .i64 a, .int .i64 b, .int .i64 imm] 76))
  rw [HBX.out]
  go_wp2_with fail
  go_ret
  exact ⟨rfl, HBS.out⟩

set_option maxHeartbeats 2000000 in
set_option maxRecDepth 100000 in
theorem flow_high (h : MaAt m A cf B cw C mb T s v u (ps ++ [p]) w) (hs : s.calls = cs ++ [x]) (hx : FrLen x) (d a b imm : Int) :
    Calls Tryd.prog 42 #[.pointer (some ⟨mb, 0, none⟩), .pointer (some ⟨p.1, 0, none⟩), .agg #[.string ⟨#[104, 105, 103, 104]⟩, .int .i64 d, .int .i64 a, .int .i64 b, .int .i64 imm]] w
      (Ret (.bool false) w) := by
  obtain ⟨bx, hbx⟩ : ∃ bx, w.alloc (.cells #[.string ⟨#[104, 105, 103, 104]⟩, .int .i64 d, .int .i64 a, .int .i64 b, .int .i64 imm] 76) = bx := ⟨_, rfl⟩
  have hb := (grow_alloc (grow_refl w) (.cells #[.string ⟨#[104, 105, 103, 104]⟩, .int .i64 d, .int .i64 a, .int .i64 b, .int .i64 imm] 76))
  have hn := heap_alloc_new w (.cells #[.string ⟨#[104, 105, 103, 104]⟩, .int .i64 d, .int .i64 a, .int .i64 b, .int .i64 imm] 76)
  rw [hbx] at hb hn
  have h2 := h.below hb
  have hlt := h.lt
  obtain ⟨ht, -⟩ := h2.top_at hs
  have HBS := Lib.hid hb
  have HB := Lib.hid (hb.mono (Nat.le_of_lt hlt))
  have HBX := Lib.hid hbx
  have HH := Lib.hid h2
  have HT := Lib.hid ht
  have HS := Lib.hid hs
  have HX := Lib.hid hx
  have e0 := cell_of_row _ _ 0 _ _ _ hn
  have e1 := cell_of_row _ _ 1 _ _ _ hn
  have e2 := cell_of_row _ _ 2 _ _ _ hn
  have e3 := cell_of_row _ _ 3 _ _ _ hn
  have e4 := cell_of_row _ _ 4 _ _ _ hn
  clear h h2 hb hbx hn ht hs hx
  go_enter Tryd.func42, Tryd.ntmps42
  go_upto_region 1 with fail
  change Code.wp _ _ _ _ (w.alloc (.cells #[.string ⟨#[104, 105, 103, 104]⟩, .int .i64 d, .int .i64 a, .int .i64 b, .int .i64 imm] 76))
  rw [HBX.out]
  go_wp2_with fail
  go_ret
  exact ⟨rfl, HBS.out⟩

set_option maxHeartbeats 2000000 in
set_option maxRecDepth 100000 in
theorem flow_move (h : MaAt m A cf B cw C mb T s v u (ps ++ [p]) w) (hs : s.calls = cs ++ [x]) (hx : FrLen x) (d a b imm : Int) :
    Calls Tryd.prog 42 #[.pointer (some ⟨mb, 0, none⟩), .pointer (some ⟨p.1, 0, none⟩), .agg #[.string ⟨#[109, 111, 118, 101]⟩, .int .i64 d, .int .i64 a, .int .i64 b, .int .i64 imm]] w
      (Ret (.bool false) w) := by
  obtain ⟨bx, hbx⟩ : ∃ bx, w.alloc (.cells #[.string ⟨#[109, 111, 118, 101]⟩, .int .i64 d, .int .i64 a, .int .i64 b, .int .i64 imm] 76) = bx := ⟨_, rfl⟩
  have hb := (grow_alloc (grow_refl w) (.cells #[.string ⟨#[109, 111, 118, 101]⟩, .int .i64 d, .int .i64 a, .int .i64 b, .int .i64 imm] 76))
  have hn := heap_alloc_new w (.cells #[.string ⟨#[109, 111, 118, 101]⟩, .int .i64 d, .int .i64 a, .int .i64 b, .int .i64 imm] 76)
  rw [hbx] at hb hn
  have h2 := h.below hb
  have hlt := h.lt
  obtain ⟨ht, -⟩ := h2.top_at hs
  have HBS := Lib.hid hb
  have HB := Lib.hid (hb.mono (Nat.le_of_lt hlt))
  have HBX := Lib.hid hbx
  have HH := Lib.hid h2
  have HT := Lib.hid ht
  have HS := Lib.hid hs
  have HX := Lib.hid hx
  have e0 := cell_of_row _ _ 0 _ _ _ hn
  have e1 := cell_of_row _ _ 1 _ _ _ hn
  have e2 := cell_of_row _ _ 2 _ _ _ hn
  have e3 := cell_of_row _ _ 3 _ _ _ hn
  have e4 := cell_of_row _ _ 4 _ _ _ hn
  clear h h2 hb hbx hn ht hs hx
  go_enter Tryd.func42, Tryd.ntmps42
  go_upto_region 1 with fail
  change Code.wp _ _ _ _ (w.alloc (.cells #[.string ⟨#[109, 111, 118, 101]⟩, .int .i64 d, .int .i64 a, .int .i64 b, .int .i64 imm] 76))
  rw [HBX.out]
  go_wp2_with fail
  go_ret
  exact ⟨rfl, HBS.out⟩

set_option maxHeartbeats 2000000 in
set_option maxRecDepth 100000 in
theorem flow_load (h : MaAt m A cf B cw C mb T s v u (ps ++ [p]) w) (hs : s.calls = cs ++ [x]) (hx : FrLen x) (d a b imm : Int) :
    Calls Tryd.prog 42 #[.pointer (some ⟨mb, 0, none⟩), .pointer (some ⟨p.1, 0, none⟩), .agg #[.string ⟨#[108, 111, 97, 100]⟩, .int .i64 d, .int .i64 a, .int .i64 b, .int .i64 imm]] w
      (Ret (.bool false) w) := by
  obtain ⟨bx, hbx⟩ : ∃ bx, w.alloc (.cells #[.string ⟨#[108, 111, 97, 100]⟩, .int .i64 d, .int .i64 a, .int .i64 b, .int .i64 imm] 76) = bx := ⟨_, rfl⟩
  have hb := (grow_alloc (grow_refl w) (.cells #[.string ⟨#[108, 111, 97, 100]⟩, .int .i64 d, .int .i64 a, .int .i64 b, .int .i64 imm] 76))
  have hn := heap_alloc_new w (.cells #[.string ⟨#[108, 111, 97, 100]⟩, .int .i64 d, .int .i64 a, .int .i64 b, .int .i64 imm] 76)
  rw [hbx] at hb hn
  have h2 := h.below hb
  have hlt := h.lt
  obtain ⟨ht, -⟩ := h2.top_at hs
  have HBS := Lib.hid hb
  have HB := Lib.hid (hb.mono (Nat.le_of_lt hlt))
  have HBX := Lib.hid hbx
  have HH := Lib.hid h2
  have HT := Lib.hid ht
  have HS := Lib.hid hs
  have HX := Lib.hid hx
  have e0 := cell_of_row _ _ 0 _ _ _ hn
  have e1 := cell_of_row _ _ 1 _ _ _ hn
  have e2 := cell_of_row _ _ 2 _ _ _ hn
  have e3 := cell_of_row _ _ 3 _ _ _ hn
  have e4 := cell_of_row _ _ 4 _ _ _ hn
  clear h h2 hb hbx hn ht hs hx
  go_enter Tryd.func42, Tryd.ntmps42
  go_upto_region 1 with fail
  change Code.wp _ _ _ _ (w.alloc (.cells #[.string ⟨#[108, 111, 97, 100]⟩, .int .i64 d, .int .i64 a, .int .i64 b, .int .i64 imm] 76))
  rw [HBX.out]
  go_wp2_with fail
  go_ret
  exact ⟨rfl, HBS.out⟩

set_option maxHeartbeats 2000000 in
set_option maxRecDepth 100000 in
theorem flow_store (h : MaAt m A cf B cw C mb T s v u (ps ++ [p]) w) (hs : s.calls = cs ++ [x]) (hx : FrLen x) (d a b imm : Int) :
    Calls Tryd.prog 42 #[.pointer (some ⟨mb, 0, none⟩), .pointer (some ⟨p.1, 0, none⟩), .agg #[.string ⟨#[115, 116, 111, 114, 101]⟩, .int .i64 d, .int .i64 a, .int .i64 b, .int .i64 imm]] w
      (Ret (.bool false) w) := by
  obtain ⟨bx, hbx⟩ : ∃ bx, w.alloc (.cells #[.string ⟨#[115, 116, 111, 114, 101]⟩, .int .i64 d, .int .i64 a, .int .i64 b, .int .i64 imm] 76) = bx := ⟨_, rfl⟩
  have hb := (grow_alloc (grow_refl w) (.cells #[.string ⟨#[115, 116, 111, 114, 101]⟩, .int .i64 d, .int .i64 a, .int .i64 b, .int .i64 imm] 76))
  have hn := heap_alloc_new w (.cells #[.string ⟨#[115, 116, 111, 114, 101]⟩, .int .i64 d, .int .i64 a, .int .i64 b, .int .i64 imm] 76)
  rw [hbx] at hb hn
  have h2 := h.below hb
  have hlt := h.lt
  obtain ⟨ht, -⟩ := h2.top_at hs
  have HBS := Lib.hid hb
  have HB := Lib.hid (hb.mono (Nat.le_of_lt hlt))
  have HBX := Lib.hid hbx
  have HH := Lib.hid h2
  have HT := Lib.hid ht
  have HS := Lib.hid hs
  have HX := Lib.hid hx
  have e0 := cell_of_row _ _ 0 _ _ _ hn
  have e1 := cell_of_row _ _ 1 _ _ _ hn
  have e2 := cell_of_row _ _ 2 _ _ _ hn
  have e3 := cell_of_row _ _ 3 _ _ _ hn
  have e4 := cell_of_row _ _ 4 _ _ _ hn
  clear h h2 hb hbx hn ht hs hx
  go_enter Tryd.func42, Tryd.ntmps42
  go_upto_region 1 with fail
  change Code.wp _ _ _ _ (w.alloc (.cells #[.string ⟨#[115, 116, 111, 114, 101]⟩, .int .i64 d, .int .i64 a, .int .i64 b, .int .i64 imm] 76))
  rw [HBX.out]
  go_wp2_with fail
  go_ret
  exact ⟨rfl, HBS.out⟩

set_option maxHeartbeats 2000000 in
set_option maxRecDepth 100000 in
theorem flow_param (h : MaAt m A cf B cw C mb T s v u (ps ++ [p]) w) (hs : s.calls = cs ++ [x]) (hx : FrLen x) (d a b imm : Int) :
    Calls Tryd.prog 42 #[.pointer (some ⟨mb, 0, none⟩), .pointer (some ⟨p.1, 0, none⟩), .agg #[.string ⟨#[112, 97, 114, 97, 109]⟩, .int .i64 d, .int .i64 a, .int .i64 b, .int .i64 imm]] w
      (Ret (.bool false) w) := by
  obtain ⟨bx, hbx⟩ : ∃ bx, w.alloc (.cells #[.string ⟨#[112, 97, 114, 97, 109]⟩, .int .i64 d, .int .i64 a, .int .i64 b, .int .i64 imm] 76) = bx := ⟨_, rfl⟩
  have hb := (grow_alloc (grow_refl w) (.cells #[.string ⟨#[112, 97, 114, 97, 109]⟩, .int .i64 d, .int .i64 a, .int .i64 b, .int .i64 imm] 76))
  have hn := heap_alloc_new w (.cells #[.string ⟨#[112, 97, 114, 97, 109]⟩, .int .i64 d, .int .i64 a, .int .i64 b, .int .i64 imm] 76)
  rw [hbx] at hb hn
  have h2 := h.below hb
  have hlt := h.lt
  obtain ⟨ht, -⟩ := h2.top_at hs
  have HBS := Lib.hid hb
  have HB := Lib.hid (hb.mono (Nat.le_of_lt hlt))
  have HBX := Lib.hid hbx
  have HH := Lib.hid h2
  have HT := Lib.hid ht
  have HS := Lib.hid hs
  have HX := Lib.hid hx
  have e0 := cell_of_row _ _ 0 _ _ _ hn
  have e1 := cell_of_row _ _ 1 _ _ _ hn
  have e2 := cell_of_row _ _ 2 _ _ _ hn
  have e3 := cell_of_row _ _ 3 _ _ _ hn
  have e4 := cell_of_row _ _ 4 _ _ _ hn
  clear h h2 hb hbx hn ht hs hx
  go_enter Tryd.func42, Tryd.ntmps42
  go_upto_region 1 with fail
  change Code.wp _ _ _ _ (w.alloc (.cells #[.string ⟨#[112, 97, 114, 97, 109]⟩, .int .i64 d, .int .i64 a, .int .i64 b, .int .i64 imm] 76))
  rw [HBX.out]
  go_wp2_with fail
  go_ret
  exact ⟨rfl, HBS.out⟩

set_option maxHeartbeats 2000000 in
set_option maxRecDepth 100000 in
theorem flow_arg (h : MaAt m A cf B cw C mb T s v u (ps ++ [p]) w) (hs : s.calls = cs ++ [x]) (hx : FrLen x) (d a b imm : Int) :
    Calls Tryd.prog 42 #[.pointer (some ⟨mb, 0, none⟩), .pointer (some ⟨p.1, 0, none⟩), .agg #[.string ⟨#[97, 114, 103]⟩, .int .i64 d, .int .i64 a, .int .i64 b, .int .i64 imm]] w
      (Ret (.bool false) w) := by
  obtain ⟨bx, hbx⟩ : ∃ bx, w.alloc (.cells #[.string ⟨#[97, 114, 103]⟩, .int .i64 d, .int .i64 a, .int .i64 b, .int .i64 imm] 76) = bx := ⟨_, rfl⟩
  have hb := (grow_alloc (grow_refl w) (.cells #[.string ⟨#[97, 114, 103]⟩, .int .i64 d, .int .i64 a, .int .i64 b, .int .i64 imm] 76))
  have hn := heap_alloc_new w (.cells #[.string ⟨#[97, 114, 103]⟩, .int .i64 d, .int .i64 a, .int .i64 b, .int .i64 imm] 76)
  rw [hbx] at hb hn
  have h2 := h.below hb
  have hlt := h.lt
  obtain ⟨ht, -⟩ := h2.top_at hs
  have HBS := Lib.hid hb
  have HB := Lib.hid (hb.mono (Nat.le_of_lt hlt))
  have HBX := Lib.hid hbx
  have HH := Lib.hid h2
  have HT := Lib.hid ht
  have HS := Lib.hid hs
  have HX := Lib.hid hx
  have e0 := cell_of_row _ _ 0 _ _ _ hn
  have e1 := cell_of_row _ _ 1 _ _ _ hn
  have e2 := cell_of_row _ _ 2 _ _ _ hn
  have e3 := cell_of_row _ _ 3 _ _ _ hn
  have e4 := cell_of_row _ _ 4 _ _ _ hn
  clear h h2 hb hbx hn ht hs hx
  go_enter Tryd.func42, Tryd.ntmps42
  go_upto_region 1 with fail
  change Code.wp _ _ _ _ (w.alloc (.cells #[.string ⟨#[97, 114, 103]⟩, .int .i64 d, .int .i64 a, .int .i64 b, .int .i64 imm] 76))
  rw [HBX.out]
  go_wp2_with fail
  go_ret
  exact ⟨rfl, HBS.out⟩

set_option maxHeartbeats 2000000 in
set_option maxRecDepth 100000 in
theorem flow_neg (h : MaAt m A cf B cw C mb T s v u (ps ++ [p]) w) (hs : s.calls = cs ++ [x]) (hx : FrLen x) (d a b imm : Int) :
    Calls Tryd.prog 42 #[.pointer (some ⟨mb, 0, none⟩), .pointer (some ⟨p.1, 0, none⟩), .agg #[.string ⟨#[110, 101, 103]⟩, .int .i64 d, .int .i64 a, .int .i64 b, .int .i64 imm]] w
      (Ret (.bool false) w) := by
  obtain ⟨bx, hbx⟩ : ∃ bx, w.alloc (.cells #[.string ⟨#[110, 101, 103]⟩, .int .i64 d, .int .i64 a, .int .i64 b, .int .i64 imm] 76) = bx := ⟨_, rfl⟩
  have hb := (grow_alloc (grow_refl w) (.cells #[.string ⟨#[110, 101, 103]⟩, .int .i64 d, .int .i64 a, .int .i64 b, .int .i64 imm] 76))
  have hn := heap_alloc_new w (.cells #[.string ⟨#[110, 101, 103]⟩, .int .i64 d, .int .i64 a, .int .i64 b, .int .i64 imm] 76)
  rw [hbx] at hb hn
  have h2 := h.below hb
  have hlt := h.lt
  obtain ⟨ht, -⟩ := h2.top_at hs
  have HBS := Lib.hid hb
  have HB := Lib.hid (hb.mono (Nat.le_of_lt hlt))
  have HBX := Lib.hid hbx
  have HH := Lib.hid h2
  have HT := Lib.hid ht
  have HS := Lib.hid hs
  have HX := Lib.hid hx
  have e0 := cell_of_row _ _ 0 _ _ _ hn
  have e1 := cell_of_row _ _ 1 _ _ _ hn
  have e2 := cell_of_row _ _ 2 _ _ _ hn
  have e3 := cell_of_row _ _ 3 _ _ _ hn
  have e4 := cell_of_row _ _ 4 _ _ _ hn
  clear h h2 hb hbx hn ht hs hx
  go_enter Tryd.func42, Tryd.ntmps42
  go_upto_region 1 with fail
  change Code.wp _ _ _ _ (w.alloc (.cells #[.string ⟨#[110, 101, 103]⟩, .int .i64 d, .int .i64 a, .int .i64 b, .int .i64 imm] 76))
  rw [HBX.out]
  go_wp2_with fail
  go_ret
  exact ⟨rfl, HBS.out⟩

set_option maxHeartbeats 2000000 in
set_option maxRecDepth 100000 in
theorem flow_not (h : MaAt m A cf B cw C mb T s v u (ps ++ [p]) w) (hs : s.calls = cs ++ [x]) (hx : FrLen x) (d a b imm : Int) :
    Calls Tryd.prog 42 #[.pointer (some ⟨mb, 0, none⟩), .pointer (some ⟨p.1, 0, none⟩), .agg #[.string ⟨#[110, 111, 116]⟩, .int .i64 d, .int .i64 a, .int .i64 b, .int .i64 imm]] w
      (Ret (.bool false) w) := by
  obtain ⟨bx, hbx⟩ : ∃ bx, w.alloc (.cells #[.string ⟨#[110, 111, 116]⟩, .int .i64 d, .int .i64 a, .int .i64 b, .int .i64 imm] 76) = bx := ⟨_, rfl⟩
  have hb := (grow_alloc (grow_refl w) (.cells #[.string ⟨#[110, 111, 116]⟩, .int .i64 d, .int .i64 a, .int .i64 b, .int .i64 imm] 76))
  have hn := heap_alloc_new w (.cells #[.string ⟨#[110, 111, 116]⟩, .int .i64 d, .int .i64 a, .int .i64 b, .int .i64 imm] 76)
  rw [hbx] at hb hn
  have h2 := h.below hb
  have hlt := h.lt
  obtain ⟨ht, -⟩ := h2.top_at hs
  have HBS := Lib.hid hb
  have HB := Lib.hid (hb.mono (Nat.le_of_lt hlt))
  have HBX := Lib.hid hbx
  have HH := Lib.hid h2
  have HT := Lib.hid ht
  have HS := Lib.hid hs
  have HX := Lib.hid hx
  have e0 := cell_of_row _ _ 0 _ _ _ hn
  have e1 := cell_of_row _ _ 1 _ _ _ hn
  have e2 := cell_of_row _ _ 2 _ _ _ hn
  have e3 := cell_of_row _ _ 3 _ _ _ hn
  have e4 := cell_of_row _ _ 4 _ _ _ hn
  clear h h2 hb hbx hn ht hs hx
  go_enter Tryd.func42, Tryd.ntmps42
  go_upto_region 1 with fail
  change Code.wp _ _ _ _ (w.alloc (.cells #[.string ⟨#[110, 111, 116]⟩, .int .i64 d, .int .i64 a, .int .i64 b, .int .i64 imm] 76))
  rw [HBX.out]
  go_wp2_with fail
  go_ret
  exact ⟨rfl, HBS.out⟩

set_option maxHeartbeats 2000000 in
set_option maxRecDepth 100000 in
theorem flow_add (h : MaAt m A cf B cw C mb T s v u (ps ++ [p]) w) (hs : s.calls = cs ++ [x]) (hx : FrLen x) (d a b imm : Int) :
    Calls Tryd.prog 42 #[.pointer (some ⟨mb, 0, none⟩), .pointer (some ⟨p.1, 0, none⟩), .agg #[.string ⟨#[97, 100, 100]⟩, .int .i64 d, .int .i64 a, .int .i64 b, .int .i64 imm]] w
      (Ret (.bool false) w) := by
  obtain ⟨bx, hbx⟩ : ∃ bx, w.alloc (.cells #[.string ⟨#[97, 100, 100]⟩, .int .i64 d, .int .i64 a, .int .i64 b, .int .i64 imm] 76) = bx := ⟨_, rfl⟩
  have hb := (grow_alloc (grow_refl w) (.cells #[.string ⟨#[97, 100, 100]⟩, .int .i64 d, .int .i64 a, .int .i64 b, .int .i64 imm] 76))
  have hn := heap_alloc_new w (.cells #[.string ⟨#[97, 100, 100]⟩, .int .i64 d, .int .i64 a, .int .i64 b, .int .i64 imm] 76)
  rw [hbx] at hb hn
  have h2 := h.below hb
  have hlt := h.lt
  obtain ⟨ht, -⟩ := h2.top_at hs
  have HBS := Lib.hid hb
  have HB := Lib.hid (hb.mono (Nat.le_of_lt hlt))
  have HBX := Lib.hid hbx
  have HH := Lib.hid h2
  have HT := Lib.hid ht
  have HS := Lib.hid hs
  have HX := Lib.hid hx
  have e0 := cell_of_row _ _ 0 _ _ _ hn
  have e1 := cell_of_row _ _ 1 _ _ _ hn
  have e2 := cell_of_row _ _ 2 _ _ _ hn
  have e3 := cell_of_row _ _ 3 _ _ _ hn
  have e4 := cell_of_row _ _ 4 _ _ _ hn
  clear h h2 hb hbx hn ht hs hx
  go_enter Tryd.func42, Tryd.ntmps42
  go_upto_region 1 with fail
  change Code.wp _ _ _ _ (w.alloc (.cells #[.string ⟨#[97, 100, 100]⟩, .int .i64 d, .int .i64 a, .int .i64 b, .int .i64 imm] 76))
  rw [HBX.out]
  go_wp2_with fail
  go_ret
  exact ⟨rfl, HBS.out⟩

set_option maxHeartbeats 2000000 in
set_option maxRecDepth 100000 in
theorem flow_sub (h : MaAt m A cf B cw C mb T s v u (ps ++ [p]) w) (hs : s.calls = cs ++ [x]) (hx : FrLen x) (d a b imm : Int) :
    Calls Tryd.prog 42 #[.pointer (some ⟨mb, 0, none⟩), .pointer (some ⟨p.1, 0, none⟩), .agg #[.string ⟨#[115, 117, 98]⟩, .int .i64 d, .int .i64 a, .int .i64 b, .int .i64 imm]] w
      (Ret (.bool false) w) := by
  obtain ⟨bx, hbx⟩ : ∃ bx, w.alloc (.cells #[.string ⟨#[115, 117, 98]⟩, .int .i64 d, .int .i64 a, .int .i64 b, .int .i64 imm] 76) = bx := ⟨_, rfl⟩
  have hb := (grow_alloc (grow_refl w) (.cells #[.string ⟨#[115, 117, 98]⟩, .int .i64 d, .int .i64 a, .int .i64 b, .int .i64 imm] 76))
  have hn := heap_alloc_new w (.cells #[.string ⟨#[115, 117, 98]⟩, .int .i64 d, .int .i64 a, .int .i64 b, .int .i64 imm] 76)
  rw [hbx] at hb hn
  have h2 := h.below hb
  have hlt := h.lt
  obtain ⟨ht, -⟩ := h2.top_at hs
  have HBS := Lib.hid hb
  have HB := Lib.hid (hb.mono (Nat.le_of_lt hlt))
  have HBX := Lib.hid hbx
  have HH := Lib.hid h2
  have HT := Lib.hid ht
  have HS := Lib.hid hs
  have HX := Lib.hid hx
  have e0 := cell_of_row _ _ 0 _ _ _ hn
  have e1 := cell_of_row _ _ 1 _ _ _ hn
  have e2 := cell_of_row _ _ 2 _ _ _ hn
  have e3 := cell_of_row _ _ 3 _ _ _ hn
  have e4 := cell_of_row _ _ 4 _ _ _ hn
  clear h h2 hb hbx hn ht hs hx
  go_enter Tryd.func42, Tryd.ntmps42
  go_upto_region 1 with fail
  change Code.wp _ _ _ _ (w.alloc (.cells #[.string ⟨#[115, 117, 98]⟩, .int .i64 d, .int .i64 a, .int .i64 b, .int .i64 imm] 76))
  rw [HBX.out]
  go_wp2_with fail
  go_ret
  exact ⟨rfl, HBS.out⟩

set_option maxHeartbeats 2000000 in
set_option maxRecDepth 100000 in
theorem flow_mul (h : MaAt m A cf B cw C mb T s v u (ps ++ [p]) w) (hs : s.calls = cs ++ [x]) (hx : FrLen x) (d a b imm : Int) :
    Calls Tryd.prog 42 #[.pointer (some ⟨mb, 0, none⟩), .pointer (some ⟨p.1, 0, none⟩), .agg #[.string ⟨#[109, 117, 108]⟩, .int .i64 d, .int .i64 a, .int .i64 b, .int .i64 imm]] w
      (Ret (.bool false) w) := by
  obtain ⟨bx, hbx⟩ : ∃ bx, w.alloc (.cells #[.string ⟨#[109, 117, 108]⟩, .int .i64 d, .int .i64 a, .int .i64 b, .int .i64 imm] 76) = bx := ⟨_, rfl⟩
  have hb := (grow_alloc (grow_refl w) (.cells #[.string ⟨#[109, 117, 108]⟩, .int .i64 d, .int .i64 a, .int .i64 b, .int .i64 imm] 76))
  have hn := heap_alloc_new w (.cells #[.string ⟨#[109, 117, 108]⟩, .int .i64 d, .int .i64 a, .int .i64 b, .int .i64 imm] 76)
  rw [hbx] at hb hn
  have h2 := h.below hb
  have hlt := h.lt
  obtain ⟨ht, -⟩ := h2.top_at hs
  have HBS := Lib.hid hb
  have HB := Lib.hid (hb.mono (Nat.le_of_lt hlt))
  have HBX := Lib.hid hbx
  have HH := Lib.hid h2
  have HT := Lib.hid ht
  have HS := Lib.hid hs
  have HX := Lib.hid hx
  have e0 := cell_of_row _ _ 0 _ _ _ hn
  have e1 := cell_of_row _ _ 1 _ _ _ hn
  have e2 := cell_of_row _ _ 2 _ _ _ hn
  have e3 := cell_of_row _ _ 3 _ _ _ hn
  have e4 := cell_of_row _ _ 4 _ _ _ hn
  clear h h2 hb hbx hn ht hs hx
  go_enter Tryd.func42, Tryd.ntmps42
  go_upto_region 1 with fail
  change Code.wp _ _ _ _ (w.alloc (.cells #[.string ⟨#[109, 117, 108]⟩, .int .i64 d, .int .i64 a, .int .i64 b, .int .i64 imm] 76))
  rw [HBX.out]
  go_wp2_with fail
  go_ret
  exact ⟨rfl, HBS.out⟩

set_option maxHeartbeats 2000000 in
set_option maxRecDepth 100000 in
theorem flow_div (h : MaAt m A cf B cw C mb T s v u (ps ++ [p]) w) (hs : s.calls = cs ++ [x]) (hx : FrLen x) (d a b imm : Int) :
    Calls Tryd.prog 42 #[.pointer (some ⟨mb, 0, none⟩), .pointer (some ⟨p.1, 0, none⟩), .agg #[.string ⟨#[100, 105, 118]⟩, .int .i64 d, .int .i64 a, .int .i64 b, .int .i64 imm]] w
      (Ret (.bool false) w) := by
  obtain ⟨bx, hbx⟩ : ∃ bx, w.alloc (.cells #[.string ⟨#[100, 105, 118]⟩, .int .i64 d, .int .i64 a, .int .i64 b, .int .i64 imm] 76) = bx := ⟨_, rfl⟩
  have hb := (grow_alloc (grow_refl w) (.cells #[.string ⟨#[100, 105, 118]⟩, .int .i64 d, .int .i64 a, .int .i64 b, .int .i64 imm] 76))
  have hn := heap_alloc_new w (.cells #[.string ⟨#[100, 105, 118]⟩, .int .i64 d, .int .i64 a, .int .i64 b, .int .i64 imm] 76)
  rw [hbx] at hb hn
  have h2 := h.below hb
  have hlt := h.lt
  obtain ⟨ht, -⟩ := h2.top_at hs
  have HBS := Lib.hid hb
  have HB := Lib.hid (hb.mono (Nat.le_of_lt hlt))
  have HBX := Lib.hid hbx
  have HH := Lib.hid h2
  have HT := Lib.hid ht
  have HS := Lib.hid hs
  have HX := Lib.hid hx
  have e0 := cell_of_row _ _ 0 _ _ _ hn
  have e1 := cell_of_row _ _ 1 _ _ _ hn
  have e2 := cell_of_row _ _ 2 _ _ _ hn
  have e3 := cell_of_row _ _ 3 _ _ _ hn
  have e4 := cell_of_row _ _ 4 _ _ _ hn
  clear h h2 hb hbx hn ht hs hx
  go_enter Tryd.func42, Tryd.ntmps42
  go_upto_region 1 with fail
  change Code.wp _ _ _ _ (w.alloc (.cells #[.string ⟨#[100, 105, 118]⟩, .int .i64 d, .int .i64 a, .int .i64 b, .int .i64 imm] 76))
  rw [HBX.out]
  go_wp2_with fail
  go_ret
  exact ⟨rfl, HBS.out⟩

set_option maxHeartbeats 2000000 in
set_option maxRecDepth 100000 in
theorem flow_rem (h : MaAt m A cf B cw C mb T s v u (ps ++ [p]) w) (hs : s.calls = cs ++ [x]) (hx : FrLen x) (d a b imm : Int) :
    Calls Tryd.prog 42 #[.pointer (some ⟨mb, 0, none⟩), .pointer (some ⟨p.1, 0, none⟩), .agg #[.string ⟨#[114, 101, 109]⟩, .int .i64 d, .int .i64 a, .int .i64 b, .int .i64 imm]] w
      (Ret (.bool false) w) := by
  obtain ⟨bx, hbx⟩ : ∃ bx, w.alloc (.cells #[.string ⟨#[114, 101, 109]⟩, .int .i64 d, .int .i64 a, .int .i64 b, .int .i64 imm] 76) = bx := ⟨_, rfl⟩
  have hb := (grow_alloc (grow_refl w) (.cells #[.string ⟨#[114, 101, 109]⟩, .int .i64 d, .int .i64 a, .int .i64 b, .int .i64 imm] 76))
  have hn := heap_alloc_new w (.cells #[.string ⟨#[114, 101, 109]⟩, .int .i64 d, .int .i64 a, .int .i64 b, .int .i64 imm] 76)
  rw [hbx] at hb hn
  have h2 := h.below hb
  have hlt := h.lt
  obtain ⟨ht, -⟩ := h2.top_at hs
  have HBS := Lib.hid hb
  have HB := Lib.hid (hb.mono (Nat.le_of_lt hlt))
  have HBX := Lib.hid hbx
  have HH := Lib.hid h2
  have HT := Lib.hid ht
  have HS := Lib.hid hs
  have HX := Lib.hid hx
  have e0 := cell_of_row _ _ 0 _ _ _ hn
  have e1 := cell_of_row _ _ 1 _ _ _ hn
  have e2 := cell_of_row _ _ 2 _ _ _ hn
  have e3 := cell_of_row _ _ 3 _ _ _ hn
  have e4 := cell_of_row _ _ 4 _ _ _ hn
  clear h h2 hb hbx hn ht hs hx
  go_enter Tryd.func42, Tryd.ntmps42
  go_upto_region 1 with fail
  change Code.wp _ _ _ _ (w.alloc (.cells #[.string ⟨#[114, 101, 109]⟩, .int .i64 d, .int .i64 a, .int .i64 b, .int .i64 imm] 76))
  rw [HBX.out]
  go_wp2_with fail
  go_ret
  exact ⟨rfl, HBS.out⟩

set_option maxHeartbeats 2000000 in
set_option maxRecDepth 100000 in
theorem flow_and (h : MaAt m A cf B cw C mb T s v u (ps ++ [p]) w) (hs : s.calls = cs ++ [x]) (hx : FrLen x) (d a b imm : Int) :
    Calls Tryd.prog 42 #[.pointer (some ⟨mb, 0, none⟩), .pointer (some ⟨p.1, 0, none⟩), .agg #[.string ⟨#[97, 110, 100]⟩, .int .i64 d, .int .i64 a, .int .i64 b, .int .i64 imm]] w
      (Ret (.bool false) w) := by
  obtain ⟨bx, hbx⟩ : ∃ bx, w.alloc (.cells #[.string ⟨#[97, 110, 100]⟩, .int .i64 d, .int .i64 a, .int .i64 b, .int .i64 imm] 76) = bx := ⟨_, rfl⟩
  have hb := (grow_alloc (grow_refl w) (.cells #[.string ⟨#[97, 110, 100]⟩, .int .i64 d, .int .i64 a, .int .i64 b, .int .i64 imm] 76))
  have hn := heap_alloc_new w (.cells #[.string ⟨#[97, 110, 100]⟩, .int .i64 d, .int .i64 a, .int .i64 b, .int .i64 imm] 76)
  rw [hbx] at hb hn
  have h2 := h.below hb
  have hlt := h.lt
  obtain ⟨ht, -⟩ := h2.top_at hs
  have HBS := Lib.hid hb
  have HB := Lib.hid (hb.mono (Nat.le_of_lt hlt))
  have HBX := Lib.hid hbx
  have HH := Lib.hid h2
  have HT := Lib.hid ht
  have HS := Lib.hid hs
  have HX := Lib.hid hx
  have e0 := cell_of_row _ _ 0 _ _ _ hn
  have e1 := cell_of_row _ _ 1 _ _ _ hn
  have e2 := cell_of_row _ _ 2 _ _ _ hn
  have e3 := cell_of_row _ _ 3 _ _ _ hn
  have e4 := cell_of_row _ _ 4 _ _ _ hn
  clear h h2 hb hbx hn ht hs hx
  go_enter Tryd.func42, Tryd.ntmps42
  go_upto_region 1 with fail
  change Code.wp _ _ _ _ (w.alloc (.cells #[.string ⟨#[97, 110, 100]⟩, .int .i64 d, .int .i64 a, .int .i64 b, .int .i64 imm] 76))
  rw [HBX.out]
  go_wp2_with fail
  go_ret
  exact ⟨rfl, HBS.out⟩

set_option maxHeartbeats 2000000 in
set_option maxRecDepth 100000 in
theorem flow_or (h : MaAt m A cf B cw C mb T s v u (ps ++ [p]) w) (hs : s.calls = cs ++ [x]) (hx : FrLen x) (d a b imm : Int) :
    Calls Tryd.prog 42 #[.pointer (some ⟨mb, 0, none⟩), .pointer (some ⟨p.1, 0, none⟩), .agg #[.string ⟨#[111, 114]⟩, .int .i64 d, .int .i64 a, .int .i64 b, .int .i64 imm]] w
      (Ret (.bool false) w) := by
  obtain ⟨bx, hbx⟩ : ∃ bx, w.alloc (.cells #[.string ⟨#[111, 114]⟩, .int .i64 d, .int .i64 a, .int .i64 b, .int .i64 imm] 76) = bx := ⟨_, rfl⟩
  have hb := (grow_alloc (grow_refl w) (.cells #[.string ⟨#[111, 114]⟩, .int .i64 d, .int .i64 a, .int .i64 b, .int .i64 imm] 76))
  have hn := heap_alloc_new w (.cells #[.string ⟨#[111, 114]⟩, .int .i64 d, .int .i64 a, .int .i64 b, .int .i64 imm] 76)
  rw [hbx] at hb hn
  have h2 := h.below hb
  have hlt := h.lt
  obtain ⟨ht, -⟩ := h2.top_at hs
  have HBS := Lib.hid hb
  have HB := Lib.hid (hb.mono (Nat.le_of_lt hlt))
  have HBX := Lib.hid hbx
  have HH := Lib.hid h2
  have HT := Lib.hid ht
  have HS := Lib.hid hs
  have HX := Lib.hid hx
  have e0 := cell_of_row _ _ 0 _ _ _ hn
  have e1 := cell_of_row _ _ 1 _ _ _ hn
  have e2 := cell_of_row _ _ 2 _ _ _ hn
  have e3 := cell_of_row _ _ 3 _ _ _ hn
  have e4 := cell_of_row _ _ 4 _ _ _ hn
  clear h h2 hb hbx hn ht hs hx
  go_enter Tryd.func42, Tryd.ntmps42
  go_upto_region 1 with fail
  change Code.wp _ _ _ _ (w.alloc (.cells #[.string ⟨#[111, 114]⟩, .int .i64 d, .int .i64 a, .int .i64 b, .int .i64 imm] 76))
  rw [HBX.out]
  go_wp2_with fail
  go_ret
  exact ⟨rfl, HBS.out⟩

set_option maxHeartbeats 2000000 in
set_option maxRecDepth 100000 in
theorem flow_xor (h : MaAt m A cf B cw C mb T s v u (ps ++ [p]) w) (hs : s.calls = cs ++ [x]) (hx : FrLen x) (d a b imm : Int) :
    Calls Tryd.prog 42 #[.pointer (some ⟨mb, 0, none⟩), .pointer (some ⟨p.1, 0, none⟩), .agg #[.string ⟨#[120, 111, 114]⟩, .int .i64 d, .int .i64 a, .int .i64 b, .int .i64 imm]] w
      (Ret (.bool false) w) := by
  obtain ⟨bx, hbx⟩ : ∃ bx, w.alloc (.cells #[.string ⟨#[120, 111, 114]⟩, .int .i64 d, .int .i64 a, .int .i64 b, .int .i64 imm] 76) = bx := ⟨_, rfl⟩
  have hb := (grow_alloc (grow_refl w) (.cells #[.string ⟨#[120, 111, 114]⟩, .int .i64 d, .int .i64 a, .int .i64 b, .int .i64 imm] 76))
  have hn := heap_alloc_new w (.cells #[.string ⟨#[120, 111, 114]⟩, .int .i64 d, .int .i64 a, .int .i64 b, .int .i64 imm] 76)
  rw [hbx] at hb hn
  have h2 := h.below hb
  have hlt := h.lt
  obtain ⟨ht, -⟩ := h2.top_at hs
  have HBS := Lib.hid hb
  have HB := Lib.hid (hb.mono (Nat.le_of_lt hlt))
  have HBX := Lib.hid hbx
  have HH := Lib.hid h2
  have HT := Lib.hid ht
  have HS := Lib.hid hs
  have HX := Lib.hid hx
  have e0 := cell_of_row _ _ 0 _ _ _ hn
  have e1 := cell_of_row _ _ 1 _ _ _ hn
  have e2 := cell_of_row _ _ 2 _ _ _ hn
  have e3 := cell_of_row _ _ 3 _ _ _ hn
  have e4 := cell_of_row _ _ 4 _ _ _ hn
  clear h h2 hb hbx hn ht hs hx
  go_enter Tryd.func42, Tryd.ntmps42
  go_upto_region 1 with fail
  change Code.wp _ _ _ _ (w.alloc (.cells #[.string ⟨#[120, 111, 114]⟩, .int .i64 d, .int .i64 a, .int .i64 b, .int .i64 imm] 76))
  rw [HBX.out]
  go_wp2_with fail
  go_ret
  exact ⟨rfl, HBS.out⟩

set_option maxHeartbeats 2000000 in
set_option maxRecDepth 100000 in
theorem flow_shl (h : MaAt m A cf B cw C mb T s v u (ps ++ [p]) w) (hs : s.calls = cs ++ [x]) (hx : FrLen x) (d a b imm : Int) :
    Calls Tryd.prog 42 #[.pointer (some ⟨mb, 0, none⟩), .pointer (some ⟨p.1, 0, none⟩), .agg #[.string ⟨#[115, 104, 108]⟩, .int .i64 d, .int .i64 a, .int .i64 b, .int .i64 imm]] w
      (Ret (.bool false) w) := by
  obtain ⟨bx, hbx⟩ : ∃ bx, w.alloc (.cells #[.string ⟨#[115, 104, 108]⟩, .int .i64 d, .int .i64 a, .int .i64 b, .int .i64 imm] 76) = bx := ⟨_, rfl⟩
  have hb := (grow_alloc (grow_refl w) (.cells #[.string ⟨#[115, 104, 108]⟩, .int .i64 d, .int .i64 a, .int .i64 b, .int .i64 imm] 76))
  have hn := heap_alloc_new w (.cells #[.string ⟨#[115, 104, 108]⟩, .int .i64 d, .int .i64 a, .int .i64 b, .int .i64 imm] 76)
  rw [hbx] at hb hn
  have h2 := h.below hb
  have hlt := h.lt
  obtain ⟨ht, -⟩ := h2.top_at hs
  have HBS := Lib.hid hb
  have HB := Lib.hid (hb.mono (Nat.le_of_lt hlt))
  have HBX := Lib.hid hbx
  have HH := Lib.hid h2
  have HT := Lib.hid ht
  have HS := Lib.hid hs
  have HX := Lib.hid hx
  have e0 := cell_of_row _ _ 0 _ _ _ hn
  have e1 := cell_of_row _ _ 1 _ _ _ hn
  have e2 := cell_of_row _ _ 2 _ _ _ hn
  have e3 := cell_of_row _ _ 3 _ _ _ hn
  have e4 := cell_of_row _ _ 4 _ _ _ hn
  clear h h2 hb hbx hn ht hs hx
  go_enter Tryd.func42, Tryd.ntmps42
  go_upto_region 1 with fail
  change Code.wp _ _ _ _ (w.alloc (.cells #[.string ⟨#[115, 104, 108]⟩, .int .i64 d, .int .i64 a, .int .i64 b, .int .i64 imm] 76))
  rw [HBX.out]
  go_wp2_with fail
  go_ret
  exact ⟨rfl, HBS.out⟩

set_option maxHeartbeats 2000000 in
set_option maxRecDepth 100000 in
theorem flow_shr (h : MaAt m A cf B cw C mb T s v u (ps ++ [p]) w) (hs : s.calls = cs ++ [x]) (hx : FrLen x) (d a b imm : Int) :
    Calls Tryd.prog 42 #[.pointer (some ⟨mb, 0, none⟩), .pointer (some ⟨p.1, 0, none⟩), .agg #[.string ⟨#[115, 104, 114]⟩, .int .i64 d, .int .i64 a, .int .i64 b, .int .i64 imm]] w
      (Ret (.bool false) w) := by
  obtain ⟨bx, hbx⟩ : ∃ bx, w.alloc (.cells #[.string ⟨#[115, 104, 114]⟩, .int .i64 d, .int .i64 a, .int .i64 b, .int .i64 imm] 76) = bx := ⟨_, rfl⟩
  have hb := (grow_alloc (grow_refl w) (.cells #[.string ⟨#[115, 104, 114]⟩, .int .i64 d, .int .i64 a, .int .i64 b, .int .i64 imm] 76))
  have hn := heap_alloc_new w (.cells #[.string ⟨#[115, 104, 114]⟩, .int .i64 d, .int .i64 a, .int .i64 b, .int .i64 imm] 76)
  rw [hbx] at hb hn
  have h2 := h.below hb
  have hlt := h.lt
  obtain ⟨ht, -⟩ := h2.top_at hs
  have HBS := Lib.hid hb
  have HB := Lib.hid (hb.mono (Nat.le_of_lt hlt))
  have HBX := Lib.hid hbx
  have HH := Lib.hid h2
  have HT := Lib.hid ht
  have HS := Lib.hid hs
  have HX := Lib.hid hx
  have e0 := cell_of_row _ _ 0 _ _ _ hn
  have e1 := cell_of_row _ _ 1 _ _ _ hn
  have e2 := cell_of_row _ _ 2 _ _ _ hn
  have e3 := cell_of_row _ _ 3 _ _ _ hn
  have e4 := cell_of_row _ _ 4 _ _ _ hn
  clear h h2 hb hbx hn ht hs hx
  go_enter Tryd.func42, Tryd.ntmps42
  go_upto_region 1 with fail
  change Code.wp _ _ _ _ (w.alloc (.cells #[.string ⟨#[115, 104, 114]⟩, .int .i64 d, .int .i64 a, .int .i64 b, .int .i64 imm] 76))
  rw [HBX.out]
  go_wp2_with fail
  go_ret
  exact ⟨rfl, HBS.out⟩

set_option maxHeartbeats 2000000 in
set_option maxRecDepth 100000 in
theorem flow_less (h : MaAt m A cf B cw C mb T s v u (ps ++ [p]) w) (hs : s.calls = cs ++ [x]) (hx : FrLen x) (d a b imm : Int) :
    Calls Tryd.prog 42 #[.pointer (some ⟨mb, 0, none⟩), .pointer (some ⟨p.1, 0, none⟩), .agg #[.string ⟨#[108, 101, 115, 115]⟩, .int .i64 d, .int .i64 a, .int .i64 b, .int .i64 imm]] w
      (Ret (.bool false) w) := by
  obtain ⟨bx, hbx⟩ : ∃ bx, w.alloc (.cells #[.string ⟨#[108, 101, 115, 115]⟩, .int .i64 d, .int .i64 a, .int .i64 b, .int .i64 imm] 76) = bx := ⟨_, rfl⟩
  have hb := (grow_alloc (grow_refl w) (.cells #[.string ⟨#[108, 101, 115, 115]⟩, .int .i64 d, .int .i64 a, .int .i64 b, .int .i64 imm] 76))
  have hn := heap_alloc_new w (.cells #[.string ⟨#[108, 101, 115, 115]⟩, .int .i64 d, .int .i64 a, .int .i64 b, .int .i64 imm] 76)
  rw [hbx] at hb hn
  have h2 := h.below hb
  have hlt := h.lt
  obtain ⟨ht, -⟩ := h2.top_at hs
  have HBS := Lib.hid hb
  have HB := Lib.hid (hb.mono (Nat.le_of_lt hlt))
  have HBX := Lib.hid hbx
  have HH := Lib.hid h2
  have HT := Lib.hid ht
  have HS := Lib.hid hs
  have HX := Lib.hid hx
  have e0 := cell_of_row _ _ 0 _ _ _ hn
  have e1 := cell_of_row _ _ 1 _ _ _ hn
  have e2 := cell_of_row _ _ 2 _ _ _ hn
  have e3 := cell_of_row _ _ 3 _ _ _ hn
  have e4 := cell_of_row _ _ 4 _ _ _ hn
  clear h h2 hb hbx hn ht hs hx
  go_enter Tryd.func42, Tryd.ntmps42
  go_upto_region 1 with fail
  change Code.wp _ _ _ _ (w.alloc (.cells #[.string ⟨#[108, 101, 115, 115]⟩, .int .i64 d, .int .i64 a, .int .i64 b, .int .i64 imm] 76))
  rw [HBX.out]
  go_wp2_with fail
  go_ret
  exact ⟨rfl, HBS.out⟩

set_option maxHeartbeats 2000000 in
set_option maxRecDepth 100000 in
theorem flow_most (h : MaAt m A cf B cw C mb T s v u (ps ++ [p]) w) (hs : s.calls = cs ++ [x]) (hx : FrLen x) (d a b imm : Int) :
    Calls Tryd.prog 42 #[.pointer (some ⟨mb, 0, none⟩), .pointer (some ⟨p.1, 0, none⟩), .agg #[.string ⟨#[109, 111, 115, 116]⟩, .int .i64 d, .int .i64 a, .int .i64 b, .int .i64 imm]] w
      (Ret (.bool false) w) := by
  obtain ⟨bx, hbx⟩ : ∃ bx, w.alloc (.cells #[.string ⟨#[109, 111, 115, 116]⟩, .int .i64 d, .int .i64 a, .int .i64 b, .int .i64 imm] 76) = bx := ⟨_, rfl⟩
  have hb := (grow_alloc (grow_refl w) (.cells #[.string ⟨#[109, 111, 115, 116]⟩, .int .i64 d, .int .i64 a, .int .i64 b, .int .i64 imm] 76))
  have hn := heap_alloc_new w (.cells #[.string ⟨#[109, 111, 115, 116]⟩, .int .i64 d, .int .i64 a, .int .i64 b, .int .i64 imm] 76)
  rw [hbx] at hb hn
  have h2 := h.below hb
  have hlt := h.lt
  obtain ⟨ht, -⟩ := h2.top_at hs
  have HBS := Lib.hid hb
  have HB := Lib.hid (hb.mono (Nat.le_of_lt hlt))
  have HBX := Lib.hid hbx
  have HH := Lib.hid h2
  have HT := Lib.hid ht
  have HS := Lib.hid hs
  have HX := Lib.hid hx
  have e0 := cell_of_row _ _ 0 _ _ _ hn
  have e1 := cell_of_row _ _ 1 _ _ _ hn
  have e2 := cell_of_row _ _ 2 _ _ _ hn
  have e3 := cell_of_row _ _ 3 _ _ _ hn
  have e4 := cell_of_row _ _ 4 _ _ _ hn
  clear h h2 hb hbx hn ht hs hx
  go_enter Tryd.func42, Tryd.ntmps42
  go_upto_region 1 with fail
  change Code.wp _ _ _ _ (w.alloc (.cells #[.string ⟨#[109, 111, 115, 116]⟩, .int .i64 d, .int .i64 a, .int .i64 b, .int .i64 imm] 76))
  rw [HBX.out]
  go_wp2_with fail
  go_ret
  exact ⟨rfl, HBS.out⟩

set_option maxHeartbeats 2000000 in
set_option maxRecDepth 100000 in
theorem flow_same (h : MaAt m A cf B cw C mb T s v u (ps ++ [p]) w) (hs : s.calls = cs ++ [x]) (hx : FrLen x) (d a b imm : Int) :
    Calls Tryd.prog 42 #[.pointer (some ⟨mb, 0, none⟩), .pointer (some ⟨p.1, 0, none⟩), .agg #[.string ⟨#[115, 97, 109, 101]⟩, .int .i64 d, .int .i64 a, .int .i64 b, .int .i64 imm]] w
      (Ret (.bool false) w) := by
  obtain ⟨bx, hbx⟩ : ∃ bx, w.alloc (.cells #[.string ⟨#[115, 97, 109, 101]⟩, .int .i64 d, .int .i64 a, .int .i64 b, .int .i64 imm] 76) = bx := ⟨_, rfl⟩
  have hb := (grow_alloc (grow_refl w) (.cells #[.string ⟨#[115, 97, 109, 101]⟩, .int .i64 d, .int .i64 a, .int .i64 b, .int .i64 imm] 76))
  have hn := heap_alloc_new w (.cells #[.string ⟨#[115, 97, 109, 101]⟩, .int .i64 d, .int .i64 a, .int .i64 b, .int .i64 imm] 76)
  rw [hbx] at hb hn
  have h2 := h.below hb
  have hlt := h.lt
  obtain ⟨ht, -⟩ := h2.top_at hs
  have HBS := Lib.hid hb
  have HB := Lib.hid (hb.mono (Nat.le_of_lt hlt))
  have HBX := Lib.hid hbx
  have HH := Lib.hid h2
  have HT := Lib.hid ht
  have HS := Lib.hid hs
  have HX := Lib.hid hx
  have e0 := cell_of_row _ _ 0 _ _ _ hn
  have e1 := cell_of_row _ _ 1 _ _ _ hn
  have e2 := cell_of_row _ _ 2 _ _ _ hn
  have e3 := cell_of_row _ _ 3 _ _ _ hn
  have e4 := cell_of_row _ _ 4 _ _ _ hn
  clear h h2 hb hbx hn ht hs hx
  go_enter Tryd.func42, Tryd.ntmps42
  go_upto_region 1 with fail
  change Code.wp _ _ _ _ (w.alloc (.cells #[.string ⟨#[115, 97, 109, 101]⟩, .int .i64 d, .int .i64 a, .int .i64 b, .int .i64 imm] 76))
  rw [HBX.out]
  go_wp2_with fail
  go_ret
  exact ⟨rfl, HBS.out⟩

set_option maxHeartbeats 2000000 in
set_option maxRecDepth 100000 in
theorem flow_other (h : MaAt m A cf B cw C mb T s v u (ps ++ [p]) w) (hs : s.calls = cs ++ [x]) (hx : FrLen x) (d a b imm : Int) :
    Calls Tryd.prog 42 #[.pointer (some ⟨mb, 0, none⟩), .pointer (some ⟨p.1, 0, none⟩), .agg #[.string ⟨#[111, 116, 104, 101, 114]⟩, .int .i64 d, .int .i64 a, .int .i64 b, .int .i64 imm]] w
      (Ret (.bool false) w) := by
  obtain ⟨bx, hbx⟩ : ∃ bx, w.alloc (.cells #[.string ⟨#[111, 116, 104, 101, 114]⟩, .int .i64 d, .int .i64 a, .int .i64 b, .int .i64 imm] 76) = bx := ⟨_, rfl⟩
  have hb := (grow_alloc (grow_refl w) (.cells #[.string ⟨#[111, 116, 104, 101, 114]⟩, .int .i64 d, .int .i64 a, .int .i64 b, .int .i64 imm] 76))
  have hn := heap_alloc_new w (.cells #[.string ⟨#[111, 116, 104, 101, 114]⟩, .int .i64 d, .int .i64 a, .int .i64 b, .int .i64 imm] 76)
  rw [hbx] at hb hn
  have h2 := h.below hb
  have hlt := h.lt
  obtain ⟨ht, -⟩ := h2.top_at hs
  have HBS := Lib.hid hb
  have HB := Lib.hid (hb.mono (Nat.le_of_lt hlt))
  have HBX := Lib.hid hbx
  have HH := Lib.hid h2
  have HT := Lib.hid ht
  have HS := Lib.hid hs
  have HX := Lib.hid hx
  have e0 := cell_of_row _ _ 0 _ _ _ hn
  have e1 := cell_of_row _ _ 1 _ _ _ hn
  have e2 := cell_of_row _ _ 2 _ _ _ hn
  have e3 := cell_of_row _ _ 3 _ _ _ hn
  have e4 := cell_of_row _ _ 4 _ _ _ hn
  clear h h2 hb hbx hn ht hs hx
  go_enter Tryd.func42, Tryd.ntmps42
  go_upto_region 1 with fail
  change Code.wp _ _ _ _ (w.alloc (.cells #[.string ⟨#[111, 116, 104, 101, 114]⟩, .int .i64 d, .int .i64 a, .int .i64 b, .int .i64 imm] 76))
  rw [HBX.out]
  go_wp2_with fail
  go_ret
  exact ⟨rfl, HBS.out⟩

end
end Go.Proofs.YtgoifbkogboppaaDoor
