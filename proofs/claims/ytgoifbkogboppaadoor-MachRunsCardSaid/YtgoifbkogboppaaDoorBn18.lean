import Derived.Test.YtgoifbkogboppaaDoorBn17
import Derived.Test.YtgoifbkogboppaaDoorBn15
import Derived.Test.YtgoifbkogboppaaDoorBn4
set_option linter.unusedVariables false
set_option linter.unusedSimpArgs false
namespace Go.Proofs.YtgoifbkogboppaaDoor
open Go.RowKit

/-! the machine: flow at a call -/
section
variable {m : PImg} {A : Option Addr} {cf : Nat} {B : Option Addr} {cw : Nat} {C : Value} {mb T : Nat} {s : PMs} {v u : Value} {ps : List (Nat × Nat)} {p : Nat × Nat} {cs : List PFr} {x y : PFr} {w w' : World}
def zeroW (p : Nat) (w : World) : World := (((w.setCell ⟨p, 17, none⟩ (.int .i64 0)).setCell ⟨p, 18, none⟩ (.int .i64 0)).setCell ⟨p, 19, none⟩ (.int .i64 0)).setCell ⟨p, 20, none⟩ (.int .i64 0)
theorem zeroW_heap {q k : Nat} (hk : k ≠ q) : (zeroW q w).heap[k]? = w.heap[k]? := by
  unfold zeroW
  exact (Below.heap_setCell _ _ _ _ hk).trans ((Below.heap_setCell _ _ _ _ hk).trans ((Below.heap_setCell _ _ _ _ hk).trans (Below.heap_setCell _ _ _ _ hk)))
theorem MaAt.zero (h : MaAt m A cf B cw C mb T s v u (ps ++ [p]) w) (hs : s.calls = cs ++ [x]) (hx : FrLen x) : MaAt m A cf B cw C mb T (topM { x with next := zero4 } s) v u (ps ++ [p]) (zeroW p.1 w) ∧ Below mb w (zeroW p.1 w) := by
  obtain ⟨ht, hl⟩ := h.top_at hs
  have hb : Below mb w (zeroW p.1 w) := by
    have hle := Nat.le_of_lt ht.low.1
    exact ((((Below.refl mb w).setCell (p := ⟨p.1, 17, none⟩) hle _).setCell (p := ⟨p.1, 18, none⟩) hle _).setCell (p := ⟨p.1, 19, none⟩) hle _).setCell (p := ⟨p.1, 20, none⟩) hle _
  have hne : p.2 ≠ p.1 := fun e => by
    have := ht.slots
    rw [e, ht.blk] at this
    injection this with this; injection this with _ this _; exact absurd this (by decide)
  refine ⟨h.turn hs hb (fun k h1 _ => zeroW_heap h1) ⟨ht.low, ?_, (zeroW_heap hne).trans ht.slots⟩, hb⟩
  unfold zeroW
  refine row_set (j := 20) _ (row_set (j := 19) _ (row_set (j := 18) _ (row_set (j := 17) _ ht.blk rfl) rfl) rfl) ?_
  rw [← frL_zeroN hx]
  simp
set_option maxHeartbeats 4000000 in
set_option maxRecDepth 100000 in
theorem flow_call (hg : GoodI m) (h : MaAt m A cf B cw C mb T s v u (ps ++ [p]) w) (hs : s.calls = cs ++ [x]) (hx : FrLen x) (hT : T ≤ 5000) (ho : s.over = false) (hd40 : s.calls.length ≤ 40) (d : Nat) (a b : Int) (k : Nat) (hk : k < m.funs.length) (n0 n1 n2 n3 : Int) (hnx : x.next = [n0, n1, n2, n3]) (r : PMs)
    (hr : r = if b = m.funs[k].params then enterM m.funs T k d x.next (topM { x with next := zero4 } s) else endM stuckT (topM { x with next := zero4 } s)) :
    Calls Tryd.prog 42 #[.pointer (some ⟨mb, 0, none⟩), .pointer (some ⟨p.1, 0, none⟩), .agg #[.string ⟨#[99, 97, 108, 108]⟩, .int .i64 d, .int .i64 a, .int .i64 b, .int .i64 k]] w
      fun e w' => e = .returned (.bool true) ∧ ∃ v' u' fbs', MaAt m A cf B cw C mb T r v' u' fbs' w' ∧ Below mb w w' := by
  obtain ⟨bx, hbx⟩ : ∃ bx, w.alloc (.cells #[.string ⟨#[99, 97, 108, 108]⟩, .int .i64 d, .int .i64 a, .int .i64 b, .int .i64 k] 76) = bx := ⟨_, rfl⟩
  have hb := (grow_alloc (grow_refl w) (.cells #[.string ⟨#[99, 97, 108, 108]⟩, .int .i64 d, .int .i64 a, .int .i64 b, .int .i64 k] 76))
  have hn := heap_alloc_new w (.cells #[.string ⟨#[99, 97, 108, 108]⟩, .int .i64 d, .int .i64 a, .int .i64 b, .int .i64 k] 76)
  rw [hbx] at hb hn
  obtain ⟨ba, hba⟩ : ∃ ba, bx.alloc (.cells #[.int .i64 n0, .int .i64 n1, .int .i64 n2, .int .i64 n3] 60) = ba := ⟨_, rfl⟩
  have hb2 := (grow_alloc (grow_refl bx) (.cells #[.int .i64 n0, .int .i64 n1, .int .i64 n2, .int .i64 n3] 60))
  have hn2 := heap_alloc_new bx (.cells #[.int .i64 n0, .int .i64 n1, .int .i64 n2, .int .i64 n3] 60)
  rw [hba] at hb2 hn2
  have hlt := h.lt
  have h2 := h.below hb
  have h3 := h2.below hb2
  obtain ⟨ht, -⟩ := h2.top_at hs
  obtain ⟨ht3, -⟩ := h3.top_at hs
  have q0 : bx.cell? ⟨p.1, 17, none⟩ = some (.int .i64 n0) := by have := ht.cell (frL_next hx (j := 0) (by omega)); rw [hnx] at this; exact this
  have q1 : bx.cell? ⟨p.1, 18, none⟩ = some (.int .i64 n1) := by have := ht.cell (frL_next hx (j := 1) (by omega)); rw [hnx] at this; exact this
  have q2 : bx.cell? ⟨p.1, 19, none⟩ = some (.int .i64 n2) := by have := ht.cell (frL_next hx (j := 2) (by omega)); rw [hnx] at this; exact this
  have q3 : bx.cell? ⟨p.1, 20, none⟩ = some (.int .i64 n3) := by have := ht.cell (frL_next hx (j := 3) (by omega)); rw [hnx] at this; exact this
  have g0 := Keeps.of_below hb2 _ _ q0
  have g1 := Keeps.of_below hb2 _ _ q1
  have g2 := Keeps.of_below hb2 _ _ q2
  have g3 := Keeps.of_below hb2 _ _ q3
  have z0 := row_frozen ht3.blk 17
  have z1 := row_frozen ht3.blk 18
  have z2 := row_frozen ht3.blk 19
  have z3 := row_frozen ht3.blk 20
  have hz := h3.zero hs hx
  have hpl : p.1 < w.heap.size := (Array.getElem?_eq_some_iff.1 (h.top_at hs).1.blk).1
  obtain ⟨wz, hwz⟩ : ∃ wz, zeroW p.1 ba = wz := ⟨_, rfl⟩
  have hqw : wz.heap[w.heap.size]? = some (.cells #[.string ⟨#[99, 97, 108, 108]⟩, .int .i64 d, .int .i64 a, .int .i64 b, .int .i64 k] 76 (0, 0)) := by rw [← hwz]; exact (zeroW_heap (by omega)).trans ((hb2.block _ (Array.getElem?_eq_some_iff.1 hn).1).trans hn)
  have hqx : wz.heap[bx.heap.size]? = some (.cells #[.int .i64 n0, .int .i64 n1, .int .i64 n2, .int .i64 n3] 60 (0, 0)) := by rw [← hwz]; exact (zeroW_heap (by have := hb.size; omega)).trans hn2
  rw [hwz] at hz
  have HR := Lib.hid hr
  have HZ := Lib.hid hz
  have HB := Lib.hid ((hb.mono (Nat.le_of_lt hlt)).trans ((hb2.mono (by have := hb.size; omega)).trans hz.2))
  have HBX := Lib.hid hbx
  have HBA := Lib.hid hba
  have HWZ : Hid ((((ba.setCell ⟨p.1, 17, none⟩ (.int .i64 0)).setCell ⟨p.1, 18, none⟩ (.int .i64 0)).setCell ⟨p.1, 19, none⟩ (.int .i64 0)).setCell ⟨p.1, 20, none⟩ (.int .i64 0) = wz) := hwz
  have HQW := Lib.hid hqw
  have HQX := Lib.hid hqx
  have HNX := Lib.hid hnx
  have hso : (topM { x with next := zero4 } s).over = false := ho
  have HSO := Lib.hid hso
  have hsc : (topM { x with next := zero4 } s).calls.length ≤ 40 := by unfold topM; simp; have := congrArg List.length hs; simp at this; omega
  have HSC := Lib.hid hsc
  have HG := Lib.hid hg
  have e0 := cell_of_row _ _ 0 _ _ _ hn
  clear h h2 h3 hb hb2 hbx hba hn hn2 ht ht3 hs hx hz hwz hqw hqx hnx hr hso hsc hg ho hd40
  go_enter Tryd.func42, Tryd.ntmps42
  go_upto_region 1 with fail
  change Code.wp _ _ _ _ (w.alloc (.cells #[.string ⟨#[99, 97, 108, 108]⟩, .int .i64 d, .int .i64 a, .int .i64 b, .int .i64 k] 76))
  rw [HBX.out]
  go_upto_region 16 with fail
  change Code.wp _ _ _ _ (bx.alloc (.cells #[.int .i64 n0, .int .i64 n1, .int .i64 n2, .int .i64 n3] 60))
  rw [HBA.out]
  clear q0 q1 q2 q3 e0
  go_upto_region 17 with fail
  rw [HWZ.out]
  clear g0 g1 g2 g3 z0 z1 z2 z3
  obtain ⟨c0, c1, c2, c3, c4, c5, c6, c7, c8⟩ := row9m HZ.out.1.blk
  obtain ⟨b4, off4, rfl, f0, f1, f2, f3⟩ := fn_cells HZ.out.1.funs hk
  have hk0 : (0 : Int) ≤ k := by omega
  have hkn : (k : Int) < (m.funs.length : Int) := by omega
  have i1 := cell_of_row _ _ 1 _ _ _ HQW.out
  have i3 := cell_of_row _ _ 3 _ _ _ HQW.out
  have i4 := cell_of_row _ _ 4 _ _ _ HQW.out
  obtain ⟨j0, j1, j2, j3⟩ := (⟨cell_of_row _ _ 0 _ _ _ HQX.out, cell_of_row _ _ 1 _ _ _ HQX.out, cell_of_row _ _ 2 _ _ _ HQX.out, cell_of_row _ _ 3 _ _ _ HQX.out⟩ : wz.cell? ⟨bx.heap.size, 0, none⟩ = some (.int .i64 n0) ∧ wz.cell? ⟨bx.heap.size, 1, none⟩ = some (.int .i64 n1) ∧ wz.cell? ⟨bx.heap.size, 2, none⟩ = some (.int .i64 n2) ∧ wz.cell? ⟨bx.heap.size, 3, none⟩ = some (.int .i64 n3))
  by_cases hbp : b = m.funs[k].params
  · have hbe : (b != m.funs[k].params) = false := by simp [hbp]
    have HCA : Hid (∀ n, Calls Tryd.prog 26 #[.pointer (some ⟨mb, 0, none⟩), .int .i64 k, .int .i64 d, .agg #[.int .i64 n0, .int .i64 n1, .int .i64 n2, .int .i64 n3]] (wz.drewN n)
      fun en w' => en = .returned (.tuple #[]) ∧ ∃ u' fbs', MaAt m (some ⟨b4, off4, none⟩) cf B cw C mb T (enterM m.funs T k d [n0, n1, n2, n3] (topM { x with next := zero4 } s)) v u' fbs' w' ∧ Below mb (wz.drewN n) w') := fun n => call_any HG.out (HZ.out.1.drewN n) hT HSO.out HSC.out k hk d n0 n1 n2 n3
    have HBP := Lib.hid hbp
    clear hbp
    go_quiet (fail)
    go_wp2_with (go_at_call 26; (with_reducible refine (HCA.out _).mono ?_); rintro e w5 ⟨rfl, u5, fb5, h5, hb5⟩; have H5 := Lib.hid (And.intro h5 hb5); clear h5 hb5)
    go_ret
    have hr := HR.out
    rw [if_pos HBP.out, HNX.out] at hr
    exact ⟨rfl, _, _, _, by rw [hr]; exact H5.out.1, HB.out.trans ((below_drewN (Below.refl _ _) _).trans H5.out.2)⟩
  · have hbe : (b != m.funs[k].params) = true := by simpa using hbp
    have HEND : Hid (∀ n, Calls Tryd.prog 27 #[.pointer (some ⟨mb, 0, none⟩), .string ⟨#[115, 116, 117, 99, 107]⟩] (wz.drewN n) fun e w' => e = .returned (.tuple #[]) ∧ MaAt m (some ⟨b4, off4, none⟩) cf B cw C mb T (endM stuckT (topM { x with next := zero4 } s)) v u (ps ++ [p]) w' ∧ Below mb (wz.drewN n) w' ∧ Only mb (wz.drewN n) w') := fun n => end_any (HZ.out.1.drewN n) stuckT
    have HBP := Lib.hid hbp
    clear hbp
    go_quiet (fail)
    go_wp2_with (go_at_call 27; (with_reducible refine (HEND.out _).mono ?_); rintro e w5 ⟨rfl, h5, hb5, -⟩; have H5 := Lib.hid (And.intro h5 hb5); clear h5 hb5)
    go_ret
    have hr := HR.out
    rw [if_neg HBP.out] at hr
    exact ⟨rfl, _, _, _, by rw [hr]; exact H5.out.1, HB.out.trans ((below_drewN (Below.refl _ _) _).trans H5.out.2)⟩
end
end Go.Proofs.YtgoifbkogboppaaDoor

namespace Go.Proofs.YtgoifbkogboppaaDoor
open Go.RowKit

/-! the machine: flow, move and sum of any right instruction -/
section
variable {m : PImg} {A : Option Addr} {cf : Nat} {B : Option Addr} {cw : Nat} {C : Value} {mb T : Nat} {s : PMs} {v u : Value} {ps : List (Nat × Nat)} {p : Nat × Nat} {cs : List PFr} {x y : PFr} {w w' : World} {i : PIns}
def FlowTo (m : PImg) (A : Option Addr) (cf : Nat) (B : Option Addr) (cw : Nat) (C : Value) (mb T : Nat) (is : Bool) (s' : PMs) (w : World) : Ending → World → Prop := fun e w' => e = .returned (.bool is) ∧ (is = true → ∃ v' u' fbs', MaAt m A cf B cw C mb T s' v' u' fbs' w' ∧ Below mb w w') ∧ (is = false → Below w.heap.size w w')
theorem FlowTo.yes {s' : PMs} {e : Ending} (h : FlPost m A cf B cw C mb T s' w e w') : FlowTo m A cf B cw C mb T true s' w e w' := ⟨h.1, fun _ => h.2, fun q => by cases q⟩
theorem FlowTo.mv {s' : PMs} {e : Ending} {fbs : List (Nat × Nat)} (h : MvPost m A cf B cw C mb T s' v u fbs true w e w') : FlowTo m A cf B cw C mb T true s' w e w' := ⟨h.1, fun _ => ⟨_, _, _, h.2.1, h.2.2⟩, fun q => by cases q⟩
theorem FlowTo.no {s' : PMs} {e : Ending} (h : Ret (.bool false) w e w') : FlowTo m A cf B cw C mb T false s' w e w' := ⟨h.1, (fun q => by cases q), fun _ => h.2⟩
/-- back, of any number of frames. -/
theorem back_any (h : MaAt m A cf B cw C mb T s v u (ps ++ [p]) w) (hs : s.calls = cs ++ [x]) (hok : ∀ y ∈ s.calls, FrOk m y) (hd : s.calls.length ≤ 40) (n : Int) :
    Calls Tryd.prog 55 #[.pointer (some ⟨mb, 0, none⟩), .int .i64 n] w fun e w' => e = .returned (.tuple #[]) ∧ ∃ u' fbs, MaAt m A cf B cw C mb T (backM n s) v u' fbs w' ∧ Below mb w w' := by
  have hx : FrOk m x := hok x (by rw [hs]; simp)
  obtain ⟨-, hl⟩ := h.top_at hs
  rcases List.eq_nil_or_concat cs with rfl | ⟨cs', y, rfl⟩
  · have : ps = [] := List.length_eq_zero_iff.1 (by simpa using hl)
    subst this
    exact back_one h hs hx.len n
  · rcases List.eq_nil_or_concat ps with rfl | ⟨ps', q, rfl⟩
    · simp at hl
    · try rw [List.concat_eq_append] at hs h
      try rw [List.concat_eq_append] at hs
      have hy : FrOk m y := hok y (by rw [hs]; simp)
      exact back_two h hs hx.len hy.len hx.d hd n
set_option maxRecDepth 100000 in
theorem flow_any (hg : GoodI m) (h : MaAt m A cf B cw C mb T s v u (ps ++ [p]) w) (hs : s.calls = cs ++ [x]) (hok : MsOk m T s) (hx : FrOk m x) (hi : InsOk m i) (hT : T ≤ 5000) (ho : s.over = false) :
    Calls Tryd.prog 42 #[.pointer (some ⟨mb, 0, none⟩), .pointer (some ⟨p.1, 0, none⟩), insV i] w (FlowTo m A cf B cw C mb T (flowB i.op) (flowP m.funs T i x s) w) := by
  obtain ⟨op, d, a, b, imm⟩ := i
  obtain ⟨k, hk, hop⟩ := hi.op
  have hjump := hi.jump
  have hcall := hi.call
  have hd := hi.d
  have ha := hi.a
  have hb := hi.b
  clear hi
  simp only at hop hjump hcall hd ha hb
  subst hop
  obtain ⟨d, rfl⟩ : ∃ n : Nat, d = n := ⟨d.toNat, by omega⟩
  obtain ⟨a, rfl⟩ : ∃ n : Nat, a = n := ⟨a.toNat, by omega⟩
  obtain ⟨b, rfl⟩ : ∃ n : Nat, b = n := ⟨b.toNat, by omega⟩
  match k, hk with
  | 0, _ => exact (flow_const h hs hx.len d a b imm).mono fun e w' q => FlowTo.no q
  | 1, _ => exact (flow_high h hs hx.len d a b imm).mono fun e w' q => FlowTo.no q
  | 2, _ => exact (flow_move h hs hx.len d a b imm).mono fun e w' q => FlowTo.no q
  | 3, _ => exact (flow_load h hs hx.len d a b imm).mono fun e w' q => FlowTo.no q
  | 4, _ => exact (flow_store h hs hx.len d a b imm).mono fun e w' q => FlowTo.no q
  | 5, _ => exact (flow_param h hs hx.len d a b imm).mono fun e w' q => FlowTo.no q
  | 6, _ => exact (flow_arg h hs hx.len d a b imm).mono fun e w' q => FlowTo.no q
  | 7, _ =>
    have hj := hcall rfl
    obtain ⟨n, rfl⟩ : ∃ n : Nat, imm = n := ⟨imm.toNat, by omega⟩
    obtain ⟨n0, n1, n2, n3, hnx⟩ := len4 hx.next
    have hn : n < m.funs.length := by omega
    have e1 : flowP m.funs T ⟨nameOf 7, d, a, b, n⟩ x s = if (b : Int) = m.funs[n].params then enterM m.funs T n d x.next (topM { x with next := zero4 } s) else endM stuckT (topM { x with next := zero4 } s) := by
      unfold flowP
      rw [if_neg (show ¬ nameOf 7 = tickT by decide), if_neg (show ¬ nameOf 7 = printT by decide), if_neg (show ¬ nameOf 7 = jumpT by decide), if_neg (show ¬ nameOf 7 = ifT by decide), if_neg (show ¬ nameOf 7 = returnT by decide)]
      have hf : m.funs.getD ((n : Int)).toNat fn0 = m.funs[n] := by rw [List.getD_eq_getElem?_getD, Int.toNat_natCast, List.getElem?_eq_getElem hn]; rfl
      rw [hf]
      rfl
    rw [e1]
    exact (flow_call hg h hs hx.len hT ho hok.deep d a b n hn n0 n1 n2 n3 hnx _ rfl).mono fun e w' q => ⟨q.1, fun _ => q.2, fun q => by cases q⟩
  | 8, _ => exact (flow_tick h hs hx.len hT d a b imm).mono fun e w' q => FlowTo.yes q
  | 9, _ => exact (flow_print h hs hx.len hok.out d a (by omega) b imm).mono fun e w' q => FlowTo.yes q
  | 10, _ =>
    have hj := hjump (.inl rfl)
    obtain ⟨n, rfl⟩ : ∃ n : Nat, imm = n := ⟨imm.toNat, by omega⟩
    exact (flow_jump h hs hx.len d a b n).mono fun e w' q => FlowTo.yes q
  | 11, _ =>
    have hj := hjump (.inr rfl)
    obtain ⟨n, rfl⟩ : ∃ n : Nat, imm = n := ⟨imm.toNat, by omega⟩
    by_cases hz : regM x a = 0
    · have e1 : flowP m.funs T ⟨nameOf 11, d, a, b, n⟩ x s = s := by
        unfold flowP
        rw [if_neg (show ¬ nameOf 11 = tickT by decide), if_neg (show ¬ nameOf 11 = printT by decide), if_neg (show ¬ nameOf 11 = jumpT by decide), if_pos (show nameOf 11 = ifT from rfl), if_pos hz]
      rw [e1]
      exact (flow_if_no h hs hx.len d a (by omega) b n hz).mono fun e w' q => FlowTo.yes q
    · have e1 : flowP m.funs T ⟨nameOf 11, d, a, b, n⟩ x s = topM { x with pc := n } s := by
        unfold flowP
        rw [if_neg (show ¬ nameOf 11 = tickT by decide), if_neg (show ¬ nameOf 11 = printT by decide), if_neg (show ¬ nameOf 11 = jumpT by decide), if_pos (show nameOf 11 = ifT from rfl), if_neg hz]
        rfl
      rw [e1]
      exact (flow_if_yes h hs hx.len d a (by omega) b n hz).mono fun e w' q => FlowTo.yes q
  | 12, _ => exact (flow_return h hs hx.len (fun w1 h1 n => back_any h1 hs hok.calls hok.deep n) d a (by omega) b imm).mono fun e w' q => FlowTo.yes q
  | 13, _ => exact (flow_neg h hs hx.len d a b imm).mono fun e w' q => FlowTo.no q
  | 14, _ => exact (flow_not h hs hx.len d a b imm).mono fun e w' q => FlowTo.no q
  | 15, _ => exact (flow_add h hs hx.len d a b imm).mono fun e w' q => FlowTo.no q
  | 16, _ => exact (flow_sub h hs hx.len d a b imm).mono fun e w' q => FlowTo.no q
  | 17, _ => exact (flow_mul h hs hx.len d a b imm).mono fun e w' q => FlowTo.no q
  | 18, _ => exact (flow_div h hs hx.len d a b imm).mono fun e w' q => FlowTo.no q
  | 19, _ => exact (flow_rem h hs hx.len d a b imm).mono fun e w' q => FlowTo.no q
  | 20, _ => exact (flow_and h hs hx.len d a b imm).mono fun e w' q => FlowTo.no q
  | 21, _ => exact (flow_or h hs hx.len d a b imm).mono fun e w' q => FlowTo.no q
  | 22, _ => exact (flow_xor h hs hx.len d a b imm).mono fun e w' q => FlowTo.no q
  | 23, _ => exact (flow_shl h hs hx.len d a b imm).mono fun e w' q => FlowTo.no q
  | 24, _ => exact (flow_shr h hs hx.len d a b imm).mono fun e w' q => FlowTo.no q
  | 25, _ => exact (flow_less h hs hx.len d a b imm).mono fun e w' q => FlowTo.no q
  | 26, _ => exact (flow_most h hs hx.len d a b imm).mono fun e w' q => FlowTo.no q
  | 27, _ => exact (flow_same h hs hx.len d a b imm).mono fun e w' q => FlowTo.no q
  | 28, _ => exact (flow_other h hs hx.len d a b imm).mono fun e w' q => FlowTo.no q
  | n + 29, hk => exact absurd hk (by omega)
end
end Go.Proofs.YtgoifbkogboppaaDoor

namespace Go.Proofs.YtgoifbkogboppaaDoor
open Go.RowKit

/-! the upper half of a number, and the lower one -/
theorem or_high (r y : Int) (h0 : 0 ≤ y) (h1 : y < 4294967296) : bits .or .i64 (wrap64 (r * 4294967296)) y = wrap64 (wrap64 (r * 4294967296) + y) := by
  rw [or_toInt, w64_toInt (wrap64 (r * 4294967296) + y), BitVec.ofInt_add, ofInt_w64]
  congr 1
  symm
  apply BitVec.add_eq_or_of_and_eq_zero
  have e1 : BitVec.ofInt 64 (r * 4294967296) = BitVec.ofInt 64 r <<< 32 := by
    rw [BitVec.ofInt_mul, BitVec.shiftLeft_eq_mul_twoPow]
    rfl
  have hy : (BitVec.ofInt 64 y).toNat < 2 ^ 32 := by
    rw [BitVec.toNat_ofInt]
    have : (y % ((2 ^ 64 : Nat) : Int)).toNat = y.toNat := by
      rw [Int.emod_eq_of_lt h0 (by omega)]
    rw [this]
    omega
  rw [e1]
  ext i hi
  simp only [BitVec.getElem_and, BitVec.getElem_zero]
  by_cases h32 : i < 32
  · have : (BitVec.ofInt 64 r <<< 32)[i] = false := by
      rw [BitVec.getElem_shiftLeft]; simp [h32]
    rw [this]; rfl
  · have : (BitVec.ofInt 64 y)[i] = false := by
      rw [← BitVec.getLsbD_eq_getElem, BitVec.getLsbD, Nat.testBit_lt_two_pow]
      exact Nat.lt_of_lt_of_le hy (Nat.pow_le_pow_right (by decide) (by omega))
    rw [this, Bool.and_false]
theorem high_eq (r imm : Int) : bits .or .i64 (wrap64 (r * 4294967296)) (imm % 4294967296) = highP r imm := or_high r _ (by omega) (by omega)
end Go.Proofs.YtgoifbkogboppaaDoor
