import Derived.Test.YtgoifbkogboppaaDoorBn18
import Derived.Test.YtgoifbkogboppaaDoorBn21
import Derived.Test.YtgoifbkogboppaaDoorBn22
import Derived.Test.YtgoifbkogboppaaDoorBn20
import Derived.Test.YtgoifbkogboppaaDoorBn13
set_option linter.unusedVariables false
set_option linter.unusedSimpArgs false
namespace Go.Proofs.YtgoifbkogboppaaDoor
open Go.RowKit

/-! the machine: sum of any right instruction -/
section
variable {m : PImg} {A : Option Addr} {cf : Nat} {B : Option Addr} {cw : Nat} {C : Value} {mb T : Nat} {s : PMs} {v u : Value} {ps : List (Nat × Nat)} {p : Nat × Nat} {cs : List PFr} {x y : PFr} {w w' : World} {i : PIns}
set_option maxRecDepth 100000 in
theorem sum_any (h : MaAt m A cf B cw C mb T s v u (ps ++ [p]) w) (hs : s.calls = cs ++ [x]) (hx : FrOk m x) (hi : InsOk m i) (hf : flowB i.op = false) (hm : moveB i.op = false) (K : Value) (hK : ∀ w', Below w.heap.size w w' → w'.cell? ⟨4, 0, none⟩ = some K) :
    Calls Tryd.prog 44 #[.pointer (some ⟨p.1, 0, none⟩), insV i] w fun e w' => e = .returned (.tuple #[]) ∧ MaAt m A cf B cw C mb T (topM (putM x i.d (sumP i x)) s) v u (ps ++ [p]) w' ∧ Below mb w w' := by
  obtain ⟨op, d, a, b, imm⟩ := i
  obtain ⟨k, hk, hop⟩ := hi.op
  have hd := hi.d
  have ha := hi.a
  have hb := hi.b
  clear hi
  simp only at hop hd ha hb hf hm
  subst hop
  obtain ⟨d, rfl⟩ : ∃ n : Nat, d = n := ⟨d.toNat, by omega⟩
  obtain ⟨a, rfl⟩ : ∃ n : Nat, a = n := ⟨a.toNat, by omega⟩
  obtain ⟨b, rfl⟩ : ∃ n : Nat, b = n := ⟨b.toNat, by omega⟩
  match k, hk with
  | 0, _ => exact absurd hm (by decide)
  | 1, _ => exact absurd hm (by decide)
  | 2, _ => exact absurd hm (by decide)
  | 3, _ => exact absurd hm (by decide)
  | 4, _ => exact absurd hm (by decide)
  | 5, _ => exact absurd hm (by decide)
  | 6, _ => exact absurd hm (by decide)
  | 7, _ => exact absurd hf (by decide)
  | 8, _ => exact absurd hf (by decide)
  | 9, _ => exact absurd hf (by decide)
  | 10, _ => exact absurd hf (by decide)
  | 11, _ => exact absurd hf (by decide)
  | 12, _ => exact absurd hf (by decide)
  | 13, _ =>
    have e1 : sumP ⟨nameOf 13, d, a, b, imm⟩ x = wrap64 (-(regM x a)) := by unfold sumP; rw [if_pos (show nameOf 13 = negT from rfl)]
    rw [e1]
    exact sum_neg h hs hx.len K hK d (by omega) a (by omega) b imm
  | 14, _ =>
    have e1 : sumP ⟨nameOf 14, d, a, b, imm⟩ x = bitV (regM x a == 0) := by unfold sumP; rw [if_neg (show ¬ nameOf 14 = negT by decide), if_pos (show nameOf 14 = notT from rfl)]
    rw [e1]
    exact sum_not h hs hx.len K hK d (by omega) a (by omega) b imm
  | 15, _ =>
    have e1 : sumP ⟨nameOf 15, d, a, b, imm⟩ x = valOf (doV [43] (regM x a) (regM x b)) := by unfold sumP; rw [if_neg (show ¬ nameOf 15 = negT by decide), if_neg (show ¬ nameOf 15 = notT by decide), show threeP (nameOf 15) = [43] by decide]
    rw [e1]
    exact sum_add h hs hx.len K hK d (by omega) a (by omega) b (by omega) imm
  | 16, _ =>
    have e1 : sumP ⟨nameOf 16, d, a, b, imm⟩ x = valOf (doV [45] (regM x a) (regM x b)) := by unfold sumP; rw [if_neg (show ¬ nameOf 16 = negT by decide), if_neg (show ¬ nameOf 16 = notT by decide), show threeP (nameOf 16) = [45] by decide]
    rw [e1]
    exact sum_sub h hs hx.len K hK d (by omega) a (by omega) b (by omega) imm
  | 17, _ =>
    have e1 : sumP ⟨nameOf 17, d, a, b, imm⟩ x = valOf (doV [42] (regM x a) (regM x b)) := by unfold sumP; rw [if_neg (show ¬ nameOf 17 = negT by decide), if_neg (show ¬ nameOf 17 = notT by decide), show threeP (nameOf 17) = [42] by decide]
    rw [e1]
    exact sum_mul h hs hx.len K hK d (by omega) a (by omega) b (by omega) imm
  | 18, _ =>
    have e1 : sumP ⟨nameOf 18, d, a, b, imm⟩ x = valOf (doV [47] (regM x a) (regM x b)) := by unfold sumP; rw [if_neg (show ¬ nameOf 18 = negT by decide), if_neg (show ¬ nameOf 18 = notT by decide), show threeP (nameOf 18) = [47] by decide]
    rw [e1]
    exact sum_div h hs hx.len K hK d (by omega) a (by omega) b (by omega) imm
  | 19, _ =>
    have e1 : sumP ⟨nameOf 19, d, a, b, imm⟩ x = valOf (doV [37] (regM x a) (regM x b)) := by unfold sumP; rw [if_neg (show ¬ nameOf 19 = negT by decide), if_neg (show ¬ nameOf 19 = notT by decide), show threeP (nameOf 19) = [37] by decide]
    rw [e1]
    exact sum_rem h hs hx.len K hK d (by omega) a (by omega) b (by omega) imm
  | 20, _ =>
    have e1 : sumP ⟨nameOf 20, d, a, b, imm⟩ x = valOf (doV [38] (regM x a) (regM x b)) := by unfold sumP; rw [if_neg (show ¬ nameOf 20 = negT by decide), if_neg (show ¬ nameOf 20 = notT by decide), show threeP (nameOf 20) = [38] by decide]
    rw [e1]
    exact sum_and h hs hx.len K hK d (by omega) a (by omega) b (by omega) imm
  | 21, _ =>
    have e1 : sumP ⟨nameOf 21, d, a, b, imm⟩ x = valOf (doV [124] (regM x a) (regM x b)) := by unfold sumP; rw [if_neg (show ¬ nameOf 21 = negT by decide), if_neg (show ¬ nameOf 21 = notT by decide), show threeP (nameOf 21) = [124] by decide]
    rw [e1]
    exact sum_or h hs hx.len K hK d (by omega) a (by omega) b (by omega) imm
  | 22, _ =>
    have e1 : sumP ⟨nameOf 22, d, a, b, imm⟩ x = valOf (doV [94] (regM x a) (regM x b)) := by unfold sumP; rw [if_neg (show ¬ nameOf 22 = negT by decide), if_neg (show ¬ nameOf 22 = notT by decide), show threeP (nameOf 22) = [94] by decide]
    rw [e1]
    exact sum_xor h hs hx.len K hK d (by omega) a (by omega) b (by omega) imm
  | 23, _ =>
    have e1 : sumP ⟨nameOf 23, d, a, b, imm⟩ x = valOf (doV [60, 60] (regM x a) (regM x b)) := by unfold sumP; rw [if_neg (show ¬ nameOf 23 = negT by decide), if_neg (show ¬ nameOf 23 = notT by decide), show threeP (nameOf 23) = [60, 60] by decide]
    rw [e1]
    exact sum_shl h hs hx.len K hK d (by omega) a (by omega) b (by omega) imm
  | 24, _ =>
    have e1 : sumP ⟨nameOf 24, d, a, b, imm⟩ x = valOf (doV [62, 62] (regM x a) (regM x b)) := by unfold sumP; rw [if_neg (show ¬ nameOf 24 = negT by decide), if_neg (show ¬ nameOf 24 = notT by decide), show threeP (nameOf 24) = [62, 62] by decide]
    rw [e1]
    exact sum_shr h hs hx.len K hK d (by omega) a (by omega) b (by omega) imm
  | 25, _ =>
    have e1 : sumP ⟨nameOf 25, d, a, b, imm⟩ x = valOf (doV [60] (regM x a) (regM x b)) := by unfold sumP; rw [if_neg (show ¬ nameOf 25 = negT by decide), if_neg (show ¬ nameOf 25 = notT by decide), show threeP (nameOf 25) = [60] by decide]
    rw [e1]
    exact sum_less h hs hx.len K hK d (by omega) a (by omega) b (by omega) imm
  | 26, _ =>
    have e1 : sumP ⟨nameOf 26, d, a, b, imm⟩ x = valOf (doV [60, 61] (regM x a) (regM x b)) := by unfold sumP; rw [if_neg (show ¬ nameOf 26 = negT by decide), if_neg (show ¬ nameOf 26 = notT by decide), show threeP (nameOf 26) = [60, 61] by decide]
    rw [e1]
    exact sum_most h hs hx.len K hK d (by omega) a (by omega) b (by omega) imm
  | 27, _ =>
    have e1 : sumP ⟨nameOf 27, d, a, b, imm⟩ x = valOf (doV [61, 61] (regM x a) (regM x b)) := by unfold sumP; rw [if_neg (show ¬ nameOf 27 = negT by decide), if_neg (show ¬ nameOf 27 = notT by decide), show threeP (nameOf 27) = [61, 61] by decide]
    rw [e1]
    exact sum_same h hs hx.len K hK d (by omega) a (by omega) b (by omega) imm
  | 28, _ =>
    have e1 : sumP ⟨nameOf 28, d, a, b, imm⟩ x = valOf (doV [33, 61] (regM x a) (regM x b)) := by unfold sumP; rw [if_neg (show ¬ nameOf 28 = negT by decide), if_neg (show ¬ nameOf 28 = notT by decide), show threeP (nameOf 28) = [33, 61] by decide]
    rw [e1]
    exact sum_other h hs hx.len K hK d (by omega) a (by omega) b (by omega) imm
  | n + 29, hk => exact absurd hk (by omega)
end
end Go.Proofs.YtgoifbkogboppaaDoor

namespace Go.Proofs.YtgoifbkogboppaaDoor
open Go.RowKit

/-! the machine: a step -/
theorem ins_get : ∀ (l : List Int) (k : Nat) (h : k < l.length) (i : Nat), i < 5 → (codeVs l)[k * 5 + i]? = (insL (insP l[k]))[i]? := by
  intro l
  induction l with
  | nil => intro k h; simp at h
  | cons f fs ih =>
    intro k h i hi
    unfold codeVs
    rw [List.flatMap_cons]
    cases k with
    | zero =>
      rw [Nat.zero_mul, Nat.zero_add, List.getElem?_append_left (by simpa [insL] using hi)]
      rfl
    | succ k =>
      rw [List.getElem?_append_right (by simp [insL]; omega)]
      have e : (k + 1) * 5 + i - (insL (insP f)).length = k * 5 + i := by simp [insL]; omega
      rw [e]
      exact ih k (by simpa using h) i hi
theorem calls_split {s : PMs} (h : s.calls ≠ []) : ∃ cs x, s.calls = cs ++ [x] ∧ s.top = x := by
  refine ⟨s.calls.dropLast, s.calls.getLast h, (List.dropLast_concat_getLast h).symm, ?_⟩
  unfold PMs.top
  rw [List.getLastD_eq_getLast?, List.getLast?_eq_some_getLast h]
  rfl
section
variable {m : PImg} {A : Option Addr} {cf : Nat} {B : Option Addr} {cw : Nat} {C : Value} {mb T : Nat} {s : PMs} {v u : Value} {fbs ps : List (Nat × Nat)} {p : Nat × Nat} {cs : List PFr} {x y : PFr} {w w' : World} {i : PIns}
theorem MaAt.split (h : MaAt m A cf B cw C mb T s v u fbs w) (hs : s.calls = cs ++ [x]) : ∃ ps p, fbs = ps ++ [p] := by
  have hl := h.len
  rw [hs] at hl
  have : fbs ≠ [] := fun e => by rw [e] at hl; simp at hl
  exact ⟨fbs.dropLast, fbs.getLast this, (List.dropLast_concat_getLast this).symm⟩
set_option maxHeartbeats 2000000 in
set_option maxRecDepth 100000 in
theorem step_stuck (h : MaAt m A cf B cw C mb T s v u (ps ++ [p]) w) (hs : s.calls = cs ++ [x]) (hx : FrLen x) (hd : s.calls.length ≤ 40) (hpc : m.words.length ≤ x.pc) (hnw : m.words.length ≤ 8000) :
    Calls Tryd.prog 28 #[.pointer (some ⟨mb, 0, none⟩)] w fun e w' => e = .returned (.tuple #[]) ∧ ∃ v' u' fbs', MaAt m A cf B cw C mb T (endM stuckT s) v' u' fbs' w' ∧ Below mb w w' := by
  obtain ⟨g, cap, rfl, hle, hp⟩ := h.ptr hs
  obtain ⟨ht, hl⟩ := h.top_at hs
  have r1 := ht.cell (frL_pc hx).1
  obtain ⟨c0, c1, c2, c3, c4, c5, c6, c7, c8⟩ := row9m h.blk
  obtain ⟨Ac, cc, rfl⟩ := own_slice h.code
  have HEND : Hid (∀ n, Calls Tryd.prog 27 #[.pointer (some ⟨mb, 0, none⟩), .string ⟨#[115, 116, 117, 99, 107]⟩] (w.drewN n) fun e w' => e = .returned (.tuple #[]) ∧ MaAt m A cf B cw (.slice Ac m.words.length cc) mb T (endM stuckT s) v (.slice (some ⟨g, 0, none⟩) (cs.length + 1) cap) (ps ++ [p]) w' ∧ Below mb (w.drewN n) w' ∧ Only mb (w.drewN n) w') := fun n => end_any (h.drewN n) stuckT
  have hge : decide ((m.words.length : Int) ≤ (x.pc : Int)) = true := decide_eq_true (by omega)
  have hcl : cs.length ≤ 40 := by rw [hs] at hd; simp at hd; omega
  have hpc' : (m.words.length : Int) ≤ (x.pc : Int) := by omega
  clear h hs ht hx hd hpc hl
  go_enter Tryd.func28, Tryd.ntmps28
  go_wp2_with fail
  go_quiet (fail)
  go_wp2_with fail
  go_quiet (fail)
  go_wp2_with (go_at_call 27; (with_reducible refine (HEND.out _).mono ?_); rintro e w5 ⟨rfl, h5, hb5, -⟩; have H5 := Lib.hid (And.intro h5 hb5); clear h5 hb5)
  go_returns
  exact ⟨rfl, _, _, _, H5.out.1, (below_drewN (Below.refl _ _) _).trans H5.out.2⟩
theorem code_cells {w : World} {Ac : Option Addr} {cc : Nat} {l : List Int} (h : w.ownsRow mb 76 5 (.slice Ac l.length cc) l.length (codeVs l)) {k : Nat} (hk : k < l.length) : ∃ g, Ac = some ⟨g, 0, none⟩ ∧
    w.cell? ⟨g, k * 5, none⟩ = some (.string (mkB (insP l[k]).op)) ∧ w.cell? ⟨g, k * 5 + 1, none⟩ = some (.int .i64 (insP l[k]).d) ∧ w.cell? ⟨g, k * 5 + 2, none⟩ = some (.int .i64 (insP l[k]).a) ∧ w.cell? ⟨g, k * 5 + 3, none⟩ = some (.int .i64 (insP l[k]).b) ∧ w.cell? ⟨g, k * 5 + 4, none⟩ = some (.int .i64 (insP l[k]).imm) := by
  rcases h.2 with ⟨_, q⟩ | ⟨g, cap, cur, q1, q2, q3, q4, q5, q6, q7⟩
  · omega
  · injection q1 with q1 _ _
    subst q1
    have get : ∀ i u, i < 5 → (insL (insP l[k]))[i]? = some u → w.cell? ⟨g, k * 5 + i, none⟩ = some u := fun i u hi hu => by
      have hg := (ins_get l k hk i hi).trans hu
      rw [← q7, List.getElem?_take] at hg
      split at hg
      · rw [cell_of_row _ _ (k * 5 + i) _ _ _ q3, ← Array.getElem?_toList]; exact hg
      · cases hg
    exact ⟨g, rfl, get 0 _ (by omega) rfl, get 1 _ (by omega) rfl, get 2 _ (by omega) rfl, get 3 _ (by omega) rfl, get 4 _ (by omega) rfl⟩
set_option maxHeartbeats 4000000 in
set_option maxRecDepth 100000 in
theorem step_go (hg : GoodI m) (h : MaAt m A cf B cw C mb T s v u (ps ++ [p]) w) (hs : s.calls = cs ++ [x]) (hok : MsOk m T s) (hT : T ≤ 5000) (ho : s.over = false) (hpc : x.pc < m.words.length) (K : Value) (hK : ∀ w', Below mb w w' → w'.cell? ⟨4, 0, none⟩ = some K) :
    Calls Tryd.prog 28 #[.pointer (some ⟨mb, 0, none⟩)] w fun e w' => e = .returned (.tuple #[]) ∧ ∃ v' u' fbs', MaAt m A cf B cw C mb T (stepI m.funs T (insP m.words[x.pc]) { x with pc := x.pc + 1 } (topM { x with pc := x.pc + 1 } s)) v' u' fbs' w' ∧ Below mb w w' := by
  have hx : FrOk m x := hok.calls x (by rw [hs]; simp)
  have hd := hok.deep
  obtain ⟨g, cap, rfl, hle, hp⟩ := h.ptr hs
  obtain ⟨ht, hl⟩ := h.top_at hs
  have r1 := ht.cell (frL_pc hx.len).1
  obtain ⟨c0, c1, c2, c3, c4, c5, c6, c7, c8⟩ := row9m h.blk
  obtain ⟨Ac, cc, rfl⟩ := own_slice h.code
  obtain ⟨gc, rfl, k0, k1, k2, k3, k4⟩ := code_cells h.code hpc
  have hnw := hg.nw
  have hcl : cs.length ≤ 40 := by rw [hs] at hd; simp at hd; omega
  have hpc' : (x.pc : Int) < (m.words.length : Int) := by omega
  have hpc0 : (0 : Int) ≤ x.pc := by omega
  have hge : decide ((m.words.length : Int) ≤ (x.pc : Int)) = false := decide_eq_false (by omega)
  obtain ⟨i, hi⟩ : ∃ i, insP m.words[x.pc] = i := ⟨_, rfl⟩
  rw [hi] at k0 k1 k2 k3 k4
  rw [hi]
  have HH := Lib.hid h
  have hltw := h.lt
  have HS := Lib.hid hs
  have HX := Lib.hid hx
  have HOK := Lib.hid hok
  have HI := Lib.hid (hi ▸ ins_ok hg hpc)
  have HKK := Lib.hid hK
  clear h hs ht hd hl hi hx hok hK
  go_enter Tryd.func28, Tryd.ntmps28
  go_wp2_with fail
  go_quiet (fail)
  go_wp2_with fail
  go_quiet (fail)
  go_upto_region 3 with fail
  generalize hw1 : World.drewN (World.drewN w _) _ = w1
  have hm1 : MaAt m A cf B cw (.slice (some ⟨gc, 0, none⟩) m.words.length cc) mb T s v (.slice (some ⟨g, 0, none⟩) (cs.length + 1) cap) (ps ++ [p]) w1 := by rw [← hw1]; exact (HH.out.drewN _).drewN _
  have hb1 : Below w.heap.size w w1 := by rw [← hw1]; exact below_drewN (below_drewN (Below.refl _ _) _) _
  have q1 : w1.cell? ⟨p.1, 21, none⟩ = some (.int .i64 (x.pc : Nat)) := by rw [← hw1]; exact r1
  have q2 : w1.cell? ⟨mb, 2, none⟩ = some (.slice (some ⟨gc, 0, none⟩) m.words.length cc) := by rw [← hw1]; exact c2
  have j0 : w1.cell? ⟨gc, x.pc * 5, none⟩ = some (.string (mkB i.op)) := by rw [← hw1]; exact k0
  have j1 : w1.cell? ⟨gc, x.pc * 5 + 1, none⟩ = some (.int .i64 i.d) := by rw [← hw1]; exact k1
  have j2 : w1.cell? ⟨gc, x.pc * 5 + 2, none⟩ = some (.int .i64 i.a) := by rw [← hw1]; exact k2
  have j3 : w1.cell? ⟨gc, x.pc * 5 + 3, none⟩ = some (.int .i64 i.b) := by rw [← hw1]; exact k3
  have j4 : w1.cell? ⟨gc, x.pc * 5 + 4, none⟩ = some (.int .i64 i.imm) := by rw [← hw1]; exact k4
  have a1 := Keeps.alloc w1 (.cells #[.string ⟨#[]⟩, .int .i64 0, .int .i64 0, .int .i64 0, .int .i64 0] 76) _ _ q1
  have a2 := Keeps.alloc w1 (.cells #[.string ⟨#[]⟩, .int .i64 0, .int .i64 0, .int .i64 0, .int .i64 0] 76) _ _ q2
  have b0 := Keeps.alloc w1 (.cells #[.string ⟨#[]⟩, .int .i64 0, .int .i64 0, .int .i64 0, .int .i64 0] 76) _ _ j0
  have b1 := Keeps.alloc w1 (.cells #[.string ⟨#[]⟩, .int .i64 0, .int .i64 0, .int .i64 0, .int .i64 0] 76) _ _ j1
  have b2 := Keeps.alloc w1 (.cells #[.string ⟨#[]⟩, .int .i64 0, .int .i64 0, .int .i64 0, .int .i64 0] 76) _ _ j2
  have b3 := Keeps.alloc w1 (.cells #[.string ⟨#[]⟩, .int .i64 0, .int .i64 0, .int .i64 0, .int .i64 0] 76) _ _ j3
  have b4 := Keeps.alloc w1 (.cells #[.string ⟨#[]⟩, .int .i64 0, .int .i64 0, .int .i64 0, .int .i64 0] 76) _ _ j4
  have HM1 := Lib.hid hm1
  have HB1 := Lib.hid hb1
  clear hm1 hb1 hw1 r1 c2 k0 k1 k2 k3 k4 HH hp c0 c1 c3 c4 c5 c6 c7 c8
  go_region
  go_upto_region 4 with fail
  obtain ⟨wA, hwA⟩ : ∃ wA, (w1.alloc (.cells #[.string (mkB i.op), .int .i64 i.d, .int .i64 i.a, .int .i64 i.b, .int .i64 i.imm] 76)).drew = wA := ⟨_, rfl⟩
  have hbA : Below w1.heap.size w1 wA := by rw [← hwA]; exact grow_drew (grow_alloc (grow_refl _) _) 1
  have hnA : wA.heap[w1.heap.size]? = some (.cells #[.string (mkB i.op), .int .i64 i.d, .int .i64 i.a, .int .i64 i.b, .int .i64 i.imm] 76 (0, 0)) := by rw [← hwA]; exact heap_alloc_new w1 _
  have hmA := HM1.out.below hbA
  obtain ⟨tA, -⟩ := hmA.top_at HS.out
  have s1 := tA.cell (frL_pc HX.out.len).1
  have z1 := row_frozen tA.blk 21
  have hst := hmA.frStore HS.out (y := { x with pc := x.pc + 1 }) (.int .i64 ((x.pc + 1 : Nat) : Int)) (frL_setPc HX.out.len (x.pc + 1)) rfl
  rw [hwA]
  have HST := Lib.hid hst
  have HBA := Lib.hid hbA
  have HNA := Lib.hid hnA
  clear hbA hnA hmA tA hst hwA a1 a2 b0 b1 b2 b3 b4 q1 q2 j0 j1 j2 j3 j4
  go_upto_region 5 with fail
  obtain ⟨wB, hwB⟩ : ∃ wB, wA.setCell ⟨p.1, 21, none⟩ (.int .i64 ((x.pc : Nat) + 1 : Int)) = wB := ⟨_, rfl⟩
  have hbB : Below mb w wB := (HB1.out.mono (by omega)).trans ((HBA.out.mono (by have := HB1.out.size; omega)).trans (by rw [← hwB]; exact HST.out.2))
  have hmB : MaAt m A cf B cw (.slice (some ⟨gc, 0, none⟩) m.words.length cc) mb T (topM { x with pc := x.pc + 1 } s) v (.slice (some ⟨g, 0, none⟩) (cs.length + 1) cap) (ps ++ [p]) wB := by rw [← hwB]; exact HST.out.1
  have hsB : (topM { x with pc := x.pc + 1 } s).calls = cs ++ [{ x with pc := x.pc + 1 }] := by unfold topM; rw [HS.out]; simp
  have hxB : FrOk m { x with pc := x.pc + 1 } := ⟨HX.out.r, HX.out.slots, HX.out.args, HX.out.next, by simp; omega, HX.out.d, HX.out.r6, HX.out.s6, HX.out.a6, HX.out.n6, HX.out.f⟩
  have hokB : MsOk m T (topM { x with pc := x.pc + 1 } s) := HOK.out.top hxB (by rw [HS.out]; simp)
  have hfl := flow_any hg hmB hsB hokB hxB HI.out hT ho
  have hpl : p.1 < w1.heap.size := (Array.getElem?_eq_some_iff.1 (HM1.out.top_at HS.out).1.blk).1
  have hnB : wB.heap[w1.heap.size]? = some (.cells #[.string (mkB i.op), .int .i64 i.d, .int .i64 i.a, .int .i64 i.b, .int .i64 i.imm] 76 (0, 0)) := by rw [← hwB]; exact (Below.heap_setCell _ _ _ _ (by simp only; omega)).trans HNA.out
  have e0 := cell_of_row _ _ 0 _ _ _ hnB
  have e1 := cell_of_row _ _ 1 _ _ _ hnB
  have e2 := cell_of_row _ _ 2 _ _ _ hnB
  have e3 := cell_of_row _ _ 3 _ _ _ hnB
  have e4 := cell_of_row _ _ 4 _ _ _ hnB
  change Code.wp _ _ _ _ (wA.setCell ⟨p.1, 21, none⟩ (.int .i64 ((x.pc : Nat) + 1 : Int)))
  rw [hwB]
  have HBB := Lib.hid hbB
  have HNB := Lib.hid hnB
  have HMB := Lib.hid hmB
  have HSB := Lib.hid hsB
  have HXB := Lib.hid hxB
  unfold insV at hfl
  cases hf : flowB i.op
  · have HMV : Hid (∀ w', Below wB.heap.size wB w' → Calls Tryd.prog 43 #[.pointer (some ⟨mb, 0, none⟩), .pointer (some ⟨p.1, 0, none⟩), .agg #[.string (mkB i.op), .int .i64 i.d, .int .i64 i.a, .int .i64 i.b, .int .i64 i.imm]] w' (FlowTo m A cf B cw (.slice (some ⟨gc, 0, none⟩) m.words.length cc) mb T (moveB i.op) (moveP i { x with pc := x.pc + 1 } (topM { x with pc := x.pc + 1 } s)) w')) := fun w' hb => move_any (hmB.below hb) hsB hxB HI.out hf
    rw [hf] at hfl
    have HFL := Lib.hid hfl
    have hltB := hmB.lt
    cases hm : moveB i.op
    · have hstep : stepI m.funs T i { x with pc := x.pc + 1 } (topM { x with pc := x.pc + 1 } s) = topM (putM { x with pc := x.pc + 1 } i.d (sumP i { x with pc := x.pc + 1 })) (topM { x with pc := x.pc + 1 } s) := by unfold stepI; rw [if_neg (by rw [hf]; decide), if_neg (by rw [hm]; decide)]
      have HSU : Hid (∀ w', Below wB.heap.size wB w' → Calls Tryd.prog 44 #[.pointer (some ⟨p.1, 0, none⟩), .agg #[.string (mkB i.op), .int .i64 i.d, .int .i64 i.a, .int .i64 i.b, .int .i64 i.imm]] w' fun e w'' => e = .returned (.tuple #[]) ∧ MaAt m A cf B cw (.slice (some ⟨gc, 0, none⟩) m.words.length cc) mb T (topM (putM { x with pc := x.pc + 1 } i.d (sumP i { x with pc := x.pc + 1 })) (topM { x with pc := x.pc + 1 } s)) v (.slice (some ⟨g, 0, none⟩) (cs.length + 1) cap) (ps ++ [p]) w'' ∧ Below mb w' w'') := fun w' hb => sum_any (hmB.below hb) hsB hxB HI.out hf hm K fun w'' hb2 => HKK.out _ (hbB.trans ((hb.mono (by omega)).trans (hb2.mono (by have := hb.size; omega))))
      rw [hm] at HMV
      have HST2 := Lib.hid hstep
      clear hfl hstep hf hm hbB hnB hmB hsB hxB hokB hwB
      go_wp2_with (first
        | (go_at_call 42; (with_reducible refine HFL.out.mono ?_); rintro e w5 ⟨rfl, -, hn⟩; have hb5 := hn rfl; clear hn; have e0 := Keeps.of_below hb5 _ _ e0; have e1 := Keeps.of_below hb5 _ _ e1; have e2 := Keeps.of_below hb5 _ _ e2; have e3 := Keeps.of_below hb5 _ _ e3; have e4 := Keeps.of_below hb5 _ _ e4)
        | (go_at_call 43; (with_reducible refine (HMV.out _ hb5).mono ?_); rintro e w6 ⟨rfl, -, hn⟩; have hb6 := grow_trans hb5 (hn rfl); have hb7 := hn rfl; clear hn; have e0 := Keeps.of_below hb7 _ _ e0; have e1 := Keeps.of_below hb7 _ _ e1; have e2 := Keeps.of_below hb7 _ _ e2; have e3 := Keeps.of_below hb7 _ _ e3; have e4 := Keeps.of_below hb7 _ _ e4)
        | (go_at_call 44; (with_reducible refine (HSU.out _ hb6).mono ?_); rintro e w7 ⟨rfl, h7, hb8⟩; have H7 := Lib.hid (And.intro h7 hb8); clear h7 hb8))
      go_end0
      exact ⟨rfl, _, _, _, by rw [HST2.out]; exact H7.out.1, HBB.out.trans ((hb6.mono (by omega)).trans H7.out.2)⟩
    · have hstep : stepI m.funs T i { x with pc := x.pc + 1 } (topM { x with pc := x.pc + 1 } s) = moveP i { x with pc := x.pc + 1 } (topM { x with pc := x.pc + 1 } s) := by unfold stepI; rw [if_neg (by rw [hf]; decide), if_pos hm]
      rw [hm] at HMV
      have HST2 := Lib.hid hstep
      clear hfl hstep hf hm hbB hnB hmB hsB hxB hokB hwB
      go_wp2_with (first
        | (go_at_call 42; (with_reducible refine HFL.out.mono ?_); rintro e w5 ⟨rfl, -, hn⟩; have hb5 := hn rfl; clear hn; have e0 := Keeps.of_below hb5 _ _ e0; have e1 := Keeps.of_below hb5 _ _ e1; have e2 := Keeps.of_below hb5 _ _ e2; have e3 := Keeps.of_below hb5 _ _ e3; have e4 := Keeps.of_below hb5 _ _ e4)
        | (go_at_call 43; (with_reducible refine (HMV.out _ hb5).mono ?_); rintro e w6 ⟨rfl, hy, -⟩; have HY := Lib.hid (hy rfl); clear hy))
      go_end0
      obtain ⟨v6, u6, fb6, h6, hb6⟩ := HY.out
      exact ⟨rfl, v6, u6, fb6, by rw [HST2.out]; exact h6, HBB.out.trans ((hb5.mono (by omega)).trans hb6)⟩
  · have hstep : stepI m.funs T i { x with pc := x.pc + 1 } (topM { x with pc := x.pc + 1 } s) = flowP m.funs T i { x with pc := x.pc + 1 } (topM { x with pc := x.pc + 1 } s) := by unfold stepI; rw [if_pos hf]
    rw [hf] at hfl
    have HFL := Lib.hid hfl
    have HST2 := Lib.hid hstep
    clear hfl hstep hf hbB hnB hmB hsB hxB hokB hwB
    go_wp2_with (go_at_call 42; (with_reducible refine HFL.out.mono ?_); rintro e w5 ⟨rfl, hy, -⟩; have HY := Lib.hid (hy rfl); clear hy)
    go_end0
    obtain ⟨v5, u5, fb5, h5, hb5⟩ := HY.out
    exact ⟨rfl, v5, u5, fb5, by rw [HST2.out]; exact h5, HBB.out.trans hb5⟩
end
end Go.Proofs.YtgoifbkogboppaaDoor

namespace Go.Proofs.YtgoifbkogboppaaDoor
open Go.RowKit

/-! mach.Run: its faults -/
abbrev Oc4 := Txt × Int × List Int × Nat
def oc0M : Oc4 := ([], 0, [], 0)
def ocM (o : Oc4) (A : Option Addr) (c : Nat) : Value := .agg #[.string (mkB o.1), .int .i64 o.2.1, .slice A o.2.2.1.length c, .int .i64 o.2.2.2]
def mrunC (m : PImg) (name : Txt) (n : Nat) (ticks : Int) : Int × Int :=
  if (imgC m).1 ≠ 0 then (((imgC m).1 : Nat), (imgC m).2) else if firstPF name m.funs 0 < 0 then (6, -1) else if (m.funs.getD (firstPF name m.funs 0).toNat fn0).params ≠ n then (9, -1) else if ticks < 0 ∨ 5000 < ticks then (2, -1) else (0, -1)
def mrunO (m : PImg) (name : Txt) (args : List Int) (ticks : Int) : Oc4 := match machP m (firstPF name m.funs 0).toNat args ticks.toNat 20000 with
  | some s => (s.how, s.val, s.out, s.ticks)
  | none => ([], 0, [], 0)
/-- A row whose block is not below n. -/
def RowUp (n : Nat) (w : World) (A : Option Addr) (xs : List Value) : Prop := Row w A xs ∧ ∀ a, A = some a → n ≤ a.block
theorem RowUp.nil (n : Nat) (w : World) : RowUp n w none [] := ⟨Row.nil _ _, fun _ h => by cases h⟩
def MRunPost (E : Nat → Addr) (m : PImg) (name : Txt) (args : List Int) (ticks : Int) (w : World) : Ending → World → Prop := fun en w' =>
  ∃ v A c o, en = .returned (.tuple #[ocM o A c, v]) ∧ ErrIs E w' v (mrunC m name args.length ticks).1 (mrunC m name args.length ticks).2 ∧ (v = .nilIface ↔ (mrunC m name args.length ticks).1 = 0) ∧
    o = (if (mrunC m name args.length ticks).1 = 0 then mrunO m name args ticks else oc0M) ∧ RowUp w.heap.size w' A (intVs o.2.2.1) ∧ o.2.2.1.length ≤ c ∧ Below w.heap.size w w'
theorem firstPF_find (n : Txt) : ∀ (gs : List PFn) (k0 : Nat), firstPF n gs k0 = -1 ∨ ∃ i, ∃ hi : i < gs.length, firstPF n gs k0 = ((k0 + i : Nat) : Int) ∧ gs[i].name = n := by
  intro gs
  induction gs with
  | nil => intro k0; exact .inl rfl
  | cons g gs ih =>
    intro k0
    unfold firstPF
    by_cases h : (g.name == n) = true
    · rw [if_pos h]
      exact .inr ⟨0, by simp, by simp, by simpa using h⟩
    · rw [if_neg h]
      rcases ih (k0 + 1) with h2 | ⟨i, hi, h1, h3⟩
      · exact .inl h2
      · exact .inr ⟨i + 1, by simpa using hi, by rw [h1]; congr 1; omega, by simpa using h3⟩
theorem set4m {w : World} {q : Nat} {a0 a1 a2 a3 v0 v1 v2 v3 : Value} {T : TypeId} {fz : Nat × Nat} (h : w.heap[q]? = some (.cells #[a0, a1, a2, a3] T fz)) :
    ((((w.setCell ⟨q, 0, none⟩ v0).setCell ⟨q, 1, none⟩ v1).setCell ⟨q, 2, none⟩ v2).setCell ⟨q, 3, none⟩ v3).heap[q]? = some (.cells #[v0, v1, v2, v3] T fz) :=
  row_set (j := 3) v3 (row_set (j := 2) v2 (row_set (j := 1) v1 (row_set (j := 0) v0 h rfl) rfl) rfl) (by simp)
theorem below4m {w0 w : World} {q : Nat} {v0 v1 v2 v3 : Value} (h : Below w0.heap.size w0 w) (hq : w0.heap.size ≤ q) : Below w0.heap.size w0 ((((w.setCell ⟨q, 0, none⟩ v0).setCell ⟨q, 1, none⟩ v1).setCell ⟨q, 2, none⟩ v2).setCell ⟨q, 3, none⟩ v3) :=
  (((h.setCell hq _).setCell hq _).setCell hq _).setCell hq _
theorem row1m {w : World} {q : Nat} {v0 : Value} {T : TypeId} {fz : Nat × Nat} (hrow : w.heap[q]? = some (.cells #[v0] T fz)) : w.cell? ⟨q, 0, none⟩ = some v0 := cell_of_row _ _ 0 _ _ _ hrow
theorem errIs_farm {E : Nat → Addr} {w w' : World} {v : Value} {c a : Int} {q : Nat} {cs : Array Value} {T : TypeId} {fz : Nat × Nat} (h : ErrIs E w v c a) (hq : w.heap[q]? = some (.cells cs T fz)) (hno : ∀ (j : Nat) (u : Value), cs[j]? = some u → ∀ t x, u ≠ Value.iface t x) (hs : ∀ k, k ≠ q → w'.heap[k]? = w.heap[k]?) : ErrIs E w' v c a := by
  rcases h with h | h | ⟨i, fb, fo, h1, h2, h3, h4, h5⟩
  · exact .inl h
  · exact .inr (.inl h)
  · have hne : fb ≠ q := by
      intro e
      subst e
      rw [cell_of_row w fb (fo + 1) _ _ _ hq] at h4
      exact hno _ _ h4 _ _ rfl
    have e := hs fb hne
    exact .inr (.inr ⟨i, fb, fo, h1, h2, (World.cell?_of_block e).trans h3, (World.cell?_of_block e).trans h4, h5⟩)
theorem far4m {w : World} {q : Nat} {v0 v1 v2 v3 : Value} (k : Nat) (hk : k ≠ q) : ((((w.setCell ⟨q, 0, none⟩ v0).setCell ⟨q, 1, none⟩ v1).setCell ⟨q, 2, none⟩ v2).setCell ⟨q, 3, none⟩ v3).heap[k]? = w.heap[k]? :=
  (Below.heap_setCell _ _ _ _ hk).trans ((Below.heap_setCell _ _ _ _ hk).trans ((Below.heap_setCell _ _ _ _ hk).trans (Below.heap_setCell _ _ _ _ hk)))
theorem noIface4m {a b : Int} {s : ByteArray} {A : Option Addr} {n c : Nat} : ∀ (j : Nat) (u : Value), (#[Value.string s, .int .i64 a, .slice A n c, .int .i64 b] : Array Value)[j]? = some u → ∀ t x, u ≠ Value.iface t x := by
  intro j u h t x
  rcases j with _ | _ | _ | _ | j
  · simp at h; subst h; simp
  · simp at h; subst h; simp
  · simp at h; subst h; simp
  · simp at h; subst h; simp
  · simp at h
theorem cell_samem {w w' : World} {p : Addr} {v : Value} (h : w.cell? p = some v) (e : w'.heap[p.block]? = w.heap[p.block]?) : w'.cell? p = some v := (World.cell?_of_block e).trans h
theorem err_if2m {E : Nat → Addr} {w : World} {v : Value} {c a : Int} (h : ErrIs E w v c a) (hc : c ≠ 0) : ∃ t x, v = .iface t x := by
  rcases h with ⟨_, h, _⟩ | ⟨i, _, h, _, _⟩ | ⟨i, fb, fo, _, h, _, _, _⟩
  · exact absurd h hc
  · exact ⟨_, _, h⟩
  · exact ⟨_, _, h⟩
set_option maxHeartbeats 4000000 in
set_option maxRecDepth 100000 in
theorem mrun_fault (E : Nat → Addr) (m : PImg) (hnf : m.funs.length ≤ 100) (hnw : m.words.length ≤ 100000) (A B : Option Addr) (cf cw : Nat) (hcf : m.funs.length ≤ cf) (h64 : ∀ n ∈ m.words, 0 ≤ n ∧ n < 18446744073709551616) (name : Txt) (args : List Int) (ha : args.length ≤ 1000) (X : Option Addr) (xc : Nat) (ticks : Int) (w : World) (hE : Laid7 E w) (hA : Row w A (m.funs.flatMap fnL)) (hB : Row w B (u64Vs m.words)) (hp : (imgC m).1 ≠ 0) :
    Calls Tryd.prog 11 #[.agg #[.slice A m.funs.length cf, .slice B m.words.length cw], .string (mkB name), .slice X args.length xc, .int .i64 ticks] w (MRunPost E m name args ticks w) := by
  have HC : Hid (mrunC m name args.length ticks = ((((imgC m).1 : Nat) : Int), (imgC m).2)) := show _ = _ by unfold mrunC; rw [if_pos hp]
  have HP := Lib.hid hp
  obtain ⟨wA, hwA⟩ : ∃ wA, (((w.alloc (.cells #[.slice A m.funs.length cf, .slice B m.words.length cw] 39)).alloc (.cells #[.string (mkB name)] 9)).alloc (.cells #[.string ⟨#[]⟩, .int .i64 0, .slice none 0 0, .int .i64 0] 35)) = wA := ⟨_, rfl⟩
  have hbA : Below w.heap.size w wA := by rw [← hwA]; exact grow_alloc (grow_alloc (grow_alloc (grow_refl _) _) _) _
  have hzA : wA.heap.size = w.heap.size + 3 := by rw [← hwA]; simp
  have hm0 : wA.heap[w.heap.size]? = some (.cells #[.slice A m.funs.length cf, .slice B m.words.length cw] 39 (0, 0)) := by rw [← hwA]; exact (old_block _ _ (by simp; omega)).trans ((old_block _ _ (by simp)).trans (heap_alloc_new w _))
  have hm1 : wA.heap[w.heap.size + 1]? = some (.cells #[.string (mkB name)] 9 (0, 0)) := by rw [← hwA]; exact (old_block _ _ (by simp)).trans (new_block _ _ (by simp))
  have hm2 : wA.heap[w.heap.size + 2]? = some (.cells #[.string ⟨#[]⟩, .int .i64 0, .slice none 0 0, .int .i64 0] 35 (0, 0)) := by rw [← hwA]; exact new_block _ _ (by simp)
  have HG8 : Hid (1 < w.heap.size) := World.block_lt_of_cell? w _ hE.c8
  have HG1 : Hid (2 < w.heap.size) := World.block_lt_of_cell? w _ hE.c1
  have HG5 : Hid (0 < w.heap.size) := World.block_lt_of_cell? w _ hE.c5
  have HX : Hid (∀ w', Below wA.heap.size wA w' → ((w'.cell? ⟨w.heap.size, 0, none⟩ = some (.slice A m.funs.length cf) ∧ w'.cell? ⟨w.heap.size, 1, none⟩ = some (.slice B m.words.length cw)) ∧ w'.cell? ⟨w.heap.size + 1, 0, none⟩ = some (.string (mkB name)) ∧ w'.heap[w.heap.size + 2]? = some (.cells #[.string ⟨#[]⟩, .int .i64 0, .slice none 0 0, .int .i64 0] 35 (0, 0))) ∧ Laid7 E w' ∧ Row w' A (m.funs.flatMap fnL) ∧ Row w' B (u64Vs m.words) ∧ Below w.heap.size w w') := fun w' hb =>
    ⟨⟨row2m ((hb.block _ (by omega)).trans hm0), row1m ((hb.block _ (by omega)).trans hm1), (hb.block _ (by omega)).trans hm2⟩, (hE.keep hbA).keep hb, (hA.keep (Keeps.of_below hbA)).keep (Keeps.of_below hb), (hB.keep (Keeps.of_below hbA)).keep (Keeps.of_below hb), grow_trans hbA hb⟩
  have HC0 : Hid (Calls Tryd.prog 22 #[.agg #[.slice A m.funs.length cf, .slice B m.words.length cw]] wA (ImgPost E m wA)) := echeck_any E m hnf hnw A B cf cw hcf h64 wA (hE.keep hbA) (hA.keep (Keeps.of_below hbA)) (hB.keep (Keeps.of_below hbA))
  have HIX : Hid (∀ w', Below wA.heap.size wA w' → Calls Tryd.prog 23 #[.slice A m.funs.length cf, .func (.func 24) #[] #[.pointer (some ⟨w.heap.size + 1, 0, none⟩)]] w' (Ret (.int .i64 (firstPF name m.funs 0)) w')) := fun w' hb =>
    erun_idx name m.funs (by omega) (w.heap.size + 1) A cf w' (HX.out w' hb).2.2.1 (HX.out w' hb).1.2.1
  have HWA := Lib.hid hwA
  obtain ⟨⟨i0, i1⟩, i2, hi3⟩ := (HX.out wA (grow_refl _)).1
  clear hbA hm0 hm1 hm2 hwA hzA hi3
  clear hp hE hA hB h64
  go_enter Tryd.func11, Tryd.ntmps11
  go_upto_region 1 with fail
  change Code.wp _ _ _ _ (((w.alloc (.cells #[.slice A m.funs.length cf, .slice B m.words.length cw] 39)).alloc (.cells #[.string (mkB name)] 9)).alloc (.cells #[.string ⟨#[]⟩, .int .i64 0, .slice none 0 0, .int .i64 0] 35))
  rw [HWA.out]
  go_wp2_with (go_at_call 22; (with_reducible refine HC0.out.mono ?_); rintro y w3 ⟨v3, rfl, he3, hb3, hn3⟩; obtain ⟨ty, vx, rfl⟩ := err_if2m he3 (by have := HP.out; omega); have hk3 := (HX.out _ hb3).1.2.2; obtain ⟨e0, e1, e2, e3⟩ := row4e hk3; have y0 := row_frozen hk3 0; have y1 := row_frozen hk3 1; have y2 := row_frozen hk3 2; have y3 := row_frozen hk3 3; have HK3 := Lib.hid hk3; have HE3 := Lib.hid he3; have HN3 := Lib.hid hn3; have HB3 := Lib.hid hb3; clear he3 hn3 hb3 hk3)
  obtain ⟨z0, z1, z2, z3⟩ := row4e (set4m (v0 := .string ⟨#[]⟩) (v1 := .int .i64 0) (v2 := .slice none 0 0) (v3 := .int .i64 0) HK3.out)
  refine bodyPost_ret (v := .tuple #[.agg #[.string ⟨#[]⟩, .int .i64 0, .slice none 0 0, .int .i64 0], .iface ty vx]) (by simp [results, Tryd.results11, go_sem, z0, z1, z2, z3]; try rfl) rfl ?_
  unfold MRunPost
  rw [HC.out]
  have hp := HP.out
  refine ⟨.iface ty vx, none, 0, oc0M, rfl, ?_, ⟨fun e => (by cases e), fun e => absurd e (by simp only; omega)⟩, by rw [if_neg (by simp only; omega)], RowUp.nil _ _, Nat.le_refl _, below4m (HX.out _ HB3.out).2.2.2.2 (by omega)⟩
  exact errIs_farm HE3.out HK3.out noIface4m far4m
set_option maxHeartbeats 4000000 in
set_option maxRecDepth 100000 in
theorem mrun_none (E : Nat → Addr) (m : PImg) (hnf : m.funs.length ≤ 100) (hnw : m.words.length ≤ 100000) (A B : Option Addr) (cf cw : Nat) (hcf : m.funs.length ≤ cf) (h64 : ∀ n ∈ m.words, 0 ≤ n ∧ n < 18446744073709551616) (name : Txt) (args : List Int) (ha : args.length ≤ 1000) (X : Option Addr) (xc : Nat) (ticks : Int) (w : World) (hE : Laid7 E w) (hA : Row w A (m.funs.flatMap fnL)) (hB : Row w B (u64Vs m.words)) (hp : (imgC m).1 = 0) (hf : firstPF name m.funs 0 = -1) :
    Calls Tryd.prog 11 #[.agg #[.slice A m.funs.length cf, .slice B m.words.length cw], .string (mkB name), .slice X args.length xc, .int .i64 ticks] w (MRunPost E m name args ticks w) := by
  have HP := Lib.hid hp
  have HC : Hid (mrunC m name args.length ticks = (6, -1)) := show _ = _ by unfold mrunC; rw [if_neg (by rw [hp]; decide), hf]; rfl
  obtain ⟨wA, hwA⟩ : ∃ wA, (((w.alloc (.cells #[.slice A m.funs.length cf, .slice B m.words.length cw] 39)).alloc (.cells #[.string (mkB name)] 9)).alloc (.cells #[.string ⟨#[]⟩, .int .i64 0, .slice none 0 0, .int .i64 0] 35)) = wA := ⟨_, rfl⟩
  have hbA : Below w.heap.size w wA := by rw [← hwA]; exact grow_alloc (grow_alloc (grow_alloc (grow_refl _) _) _) _
  have hzA : wA.heap.size = w.heap.size + 3 := by rw [← hwA]; simp
  have hm0 : wA.heap[w.heap.size]? = some (.cells #[.slice A m.funs.length cf, .slice B m.words.length cw] 39 (0, 0)) := by rw [← hwA]; exact (old_block _ _ (by simp; omega)).trans ((old_block _ _ (by simp)).trans (heap_alloc_new w _))
  have hm1 : wA.heap[w.heap.size + 1]? = some (.cells #[.string (mkB name)] 9 (0, 0)) := by rw [← hwA]; exact (old_block _ _ (by simp)).trans (new_block _ _ (by simp))
  have hm2 : wA.heap[w.heap.size + 2]? = some (.cells #[.string ⟨#[]⟩, .int .i64 0, .slice none 0 0, .int .i64 0] 35 (0, 0)) := by rw [← hwA]; exact new_block _ _ (by simp)
  have HG8 : Hid (1 < w.heap.size) := World.block_lt_of_cell? w _ hE.c8
  have HG1 : Hid (2 < w.heap.size) := World.block_lt_of_cell? w _ hE.c1
  have HG5 : Hid (0 < w.heap.size) := World.block_lt_of_cell? w _ hE.c5
  have HX : Hid (∀ w', Below wA.heap.size wA w' → ((w'.cell? ⟨w.heap.size, 0, none⟩ = some (.slice A m.funs.length cf) ∧ w'.cell? ⟨w.heap.size, 1, none⟩ = some (.slice B m.words.length cw)) ∧ w'.cell? ⟨w.heap.size + 1, 0, none⟩ = some (.string (mkB name)) ∧ w'.heap[w.heap.size + 2]? = some (.cells #[.string ⟨#[]⟩, .int .i64 0, .slice none 0 0, .int .i64 0] 35 (0, 0))) ∧ Laid7 E w' ∧ Row w' A (m.funs.flatMap fnL) ∧ Row w' B (u64Vs m.words) ∧ Below w.heap.size w w') := fun w' hb =>
    ⟨⟨row2m ((hb.block _ (by omega)).trans hm0), row1m ((hb.block _ (by omega)).trans hm1), (hb.block _ (by omega)).trans hm2⟩, (hE.keep hbA).keep hb, (hA.keep (Keeps.of_below hbA)).keep (Keeps.of_below hb), (hB.keep (Keeps.of_below hbA)).keep (Keeps.of_below hb), grow_trans hbA hb⟩
  have HC0 : Hid (Calls Tryd.prog 22 #[.agg #[.slice A m.funs.length cf, .slice B m.words.length cw]] wA (ImgPost E m wA)) := echeck_any E m hnf hnw A B cf cw hcf h64 wA (hE.keep hbA) (hA.keep (Keeps.of_below hbA)) (hB.keep (Keeps.of_below hbA))
  have HIX : Hid (∀ w', Below wA.heap.size wA w' → Calls Tryd.prog 23 #[.slice A m.funs.length cf, .func (.func 24) #[] #[.pointer (some ⟨w.heap.size + 1, 0, none⟩)]] w' (Ret (.int .i64 (firstPF name m.funs 0)) w')) := fun w' hb =>
    erun_idx name m.funs (by omega) (w.heap.size + 1) A cf w' (HX.out w' hb).2.2.1 (HX.out w' hb).1.2.1
  have HWA := Lib.hid hwA
  obtain ⟨⟨i0, i1⟩, i2, hi3⟩ := (HX.out wA (grow_refl _)).1
  clear hbA hm0 hm1 hm2 hwA hzA hi3
  clear hp hE hA hB h64
  rw [hf] at HIX
  clear hf
  all_goals
    go_enter Tryd.func11, Tryd.ntmps11
    go_upto_region 1 with fail
    change Code.wp _ _ _ _ (((w.alloc (.cells #[.slice A m.funs.length cf, .slice B m.words.length cw] 39)).alloc (.cells #[.string (mkB name)] 9)).alloc (.cells #[.string ⟨#[]⟩, .int .i64 0, .slice none 0 0, .int .i64 0] 35))
    rw [HWA.out]
    go_wp2_with (first
      | (go_at_call 22; (with_reducible refine HC0.out.mono ?_); rintro y w3 ⟨v3, rfl, he3, hb3, hn3⟩; obtain rfl := hn3.2 HP.out; obtain ⟨⟨i0, i1⟩, i2, -⟩ := (HX.out w3 hb3).1; have HI3 := Lib.hid (HIX.out w3 hb3); have HB3 := Lib.hid hb3; clear he3 hn3 hb3)
      | (go_at_call 23; (with_reducible refine HI3.out.mono ?_); rintro y w4 ⟨rfl, hb4⟩; have hb04 := grow_trans HB3.out hb4; obtain ⟨⟨i0, i1⟩, i2, hk4⟩ := (HX.out w4 hb04).1; obtain ⟨e0, e1, e2, e3⟩ := row4e hk4; have y0 := row_frozen hk4 0; have y1 := row_frozen hk4 1; have y2 := row_frozen hk4 2; have y3 := row_frozen hk4 3; have ld := (HX.out w4 hb04).2.1; have g5 := ld.c5; have g8 := ld.c8; have g1 := ld.c1; have g8x := cell_samem g8 (far4m (w := w4) (q := w.heap.size + 2) (v0 := .string ⟨#[]⟩) (v1 := .int .i64 0) (v2 := .slice none 0 0) (v3 := .int .i64 0) _ (by have := HG8.out; simp only; omega)); have g1x := cell_samem g1 (far4m (w := w4) (q := w.heap.size + 2) (v0 := .string ⟨#[]⟩) (v1 := .int .i64 0) (v2 := .slice none 0 0) (v3 := .int .i64 0) _ (by have := HG1.out; simp only; omega)); have g5x := cell_samem g5 (far4m (w := w4) (q := w.heap.size + 2) (v0 := .string ⟨#[]⟩) (v1 := .int .i64 0) (v2 := .slice none 0 0) (v3 := .int .i64 0) _ (by have := HG5.out; simp only; omega)); have HK4 := Lib.hid hk4; have HB4 := Lib.hid (HX.out w4 hb04).2.2.2.2; clear hb4 hk4 hb04 ld))
    go_region
    all_goals go_wp2_with fail
    all_goals
      have hk5 := set4m (w := w4) (v0 := .string ⟨#[]⟩) (v1 := .int .i64 0) (v2 := .slice none 0 0) (v3 := .int .i64 0) HK4.out
      have hb5 := below4m (w := w4) (q := w.heap.size + 2) (v0 := .string ⟨#[]⟩) (v1 := .int .i64 0) (v2 := .slice none 0 0) (v3 := .int .i64 0) HB4.out (by omega)
      obtain ⟨wf, hwf⟩ : ∃ wf, (((w4.setCell ⟨w.heap.size + 2, 0, none⟩ (.string ⟨#[]⟩)).setCell ⟨w.heap.size + 2, 1, none⟩ (.int .i64 0)).setCell ⟨w.heap.size + 2, 2, none⟩ (.slice none 0 0)).setCell ⟨w.heap.size + 2, 3, none⟩ (.int .i64 0) = wf := ⟨_, rfl⟩
      rw [hwf] at hk5 hb5
      rw [hwf]
      obtain ⟨z0, z1, z2, z3⟩ := row4e hk5
      refine bodyPost_ret (v := .tuple #[.agg #[.string ⟨#[]⟩, .int .i64 0, .slice none 0 0, .int .i64 0], esV (E 5)]) (by simp [results, Tryd.results11, go_sem, z0, z1, z2, z3]; try rfl) rfl ?_
      unfold MRunPost
      rw [HC.out]
      exact ⟨esV (E 5), none, 0, oc0M, rfl, ErrIs.es (by omega), ⟨fun e => (by cases e), fun e => absurd e (by decide)⟩, by rw [if_neg (by decide)], RowUp.nil _ _, Nat.le_refl _, hb5.drew⟩
set_option maxHeartbeats 4000000 in
set_option maxRecDepth 100000 in
theorem mrun_args (E : Nat → Addr) (m : PImg) (hnf : m.funs.length ≤ 100) (hnw : m.words.length ≤ 100000) (A B : Option Addr) (cf cw : Nat) (hcf : m.funs.length ≤ cf) (h64 : ∀ n ∈ m.words, 0 ≤ n ∧ n < 18446744073709551616) (name : Txt) (args : List Int) (ha : args.length ≤ 1000) (X : Option Addr) (xc : Nat) (ticks : Int) (w : World) (hE : Laid7 E w) (hA : Row w A (m.funs.flatMap fnL)) (hB : Row w B (u64Vs m.words)) (hp : (imgC m).1 = 0) (i : Nat) (hi : i < m.funs.length) (hf : firstPF name m.funs 0 = i) (hn : m.funs[i].params ≠ args.length) :
    Calls Tryd.prog 11 #[.agg #[.slice A m.funs.length cf, .slice B m.words.length cw], .string (mkB name), .slice X args.length xc, .int .i64 ticks] w (MRunPost E m name args ticks w) := by
  have HP := Lib.hid hp
  have hfe : m.funs.getD i fn0 = m.funs[i] := by rw [List.getD_eq_getElem?_getD, List.getElem?_eq_getElem hi]; rfl
  obtain ⟨f, hff⟩ : ∃ f, m.funs[i] = f := ⟨_, rfl⟩
  rw [hff] at hfe
  rw [hff] at hn
  have HC : Hid (mrunC m name args.length ticks = (9, -1)) := show _ = _ by
    unfold mrunC
    rw [if_neg (by rw [hp]; decide), hf, if_neg (by omega), Int.toNat_natCast, hfe, if_pos hn]
  obtain ⟨wA, hwA⟩ : ∃ wA, (((w.alloc (.cells #[.slice A m.funs.length cf, .slice B m.words.length cw] 39)).alloc (.cells #[.string (mkB name)] 9)).alloc (.cells #[.string ⟨#[]⟩, .int .i64 0, .slice none 0 0, .int .i64 0] 35)) = wA := ⟨_, rfl⟩
  have hbA : Below w.heap.size w wA := by rw [← hwA]; exact grow_alloc (grow_alloc (grow_alloc (grow_refl _) _) _) _
  have hzA : wA.heap.size = w.heap.size + 3 := by rw [← hwA]; simp
  have hm0 : wA.heap[w.heap.size]? = some (.cells #[.slice A m.funs.length cf, .slice B m.words.length cw] 39 (0, 0)) := by rw [← hwA]; exact (old_block _ _ (by simp; omega)).trans ((old_block _ _ (by simp)).trans (heap_alloc_new w _))
  have hm1 : wA.heap[w.heap.size + 1]? = some (.cells #[.string (mkB name)] 9 (0, 0)) := by rw [← hwA]; exact (old_block _ _ (by simp)).trans (new_block _ _ (by simp))
  have hm2 : wA.heap[w.heap.size + 2]? = some (.cells #[.string ⟨#[]⟩, .int .i64 0, .slice none 0 0, .int .i64 0] 35 (0, 0)) := by rw [← hwA]; exact new_block _ _ (by simp)
  have HG8 : Hid (1 < w.heap.size) := World.block_lt_of_cell? w _ hE.c8
  have HG1 : Hid (2 < w.heap.size) := World.block_lt_of_cell? w _ hE.c1
  have HG5 : Hid (0 < w.heap.size) := World.block_lt_of_cell? w _ hE.c5
  have HX : Hid (∀ w', Below wA.heap.size wA w' → ((w'.cell? ⟨w.heap.size, 0, none⟩ = some (.slice A m.funs.length cf) ∧ w'.cell? ⟨w.heap.size, 1, none⟩ = some (.slice B m.words.length cw)) ∧ w'.cell? ⟨w.heap.size + 1, 0, none⟩ = some (.string (mkB name)) ∧ w'.heap[w.heap.size + 2]? = some (.cells #[.string ⟨#[]⟩, .int .i64 0, .slice none 0 0, .int .i64 0] 35 (0, 0))) ∧ Laid7 E w' ∧ Row w' A (m.funs.flatMap fnL) ∧ Row w' B (u64Vs m.words) ∧ Below w.heap.size w w') := fun w' hb =>
    ⟨⟨row2m ((hb.block _ (by omega)).trans hm0), row1m ((hb.block _ (by omega)).trans hm1), (hb.block _ (by omega)).trans hm2⟩, (hE.keep hbA).keep hb, (hA.keep (Keeps.of_below hbA)).keep (Keeps.of_below hb), (hB.keep (Keeps.of_below hbA)).keep (Keeps.of_below hb), grow_trans hbA hb⟩
  have HC0 : Hid (Calls Tryd.prog 22 #[.agg #[.slice A m.funs.length cf, .slice B m.words.length cw]] wA (ImgPost E m wA)) := echeck_any E m hnf hnw A B cf cw hcf h64 wA (hE.keep hbA) (hA.keep (Keeps.of_below hbA)) (hB.keep (Keeps.of_below hbA))
  have HIX : Hid (∀ w', Below wA.heap.size wA w' → Calls Tryd.prog 23 #[.slice A m.funs.length cf, .func (.func 24) #[] #[.pointer (some ⟨w.heap.size + 1, 0, none⟩)]] w' (Ret (.int .i64 (firstPF name m.funs 0)) w')) := fun w' hb =>
    erun_idx name m.funs (by omega) (w.heap.size + 1) A cf w' (HX.out w' hb).2.2.1 (HX.out w' hb).1.2.1
  have HWA := Lib.hid hwA
  obtain ⟨⟨i0, i1⟩, i2, hi3⟩ := (HX.out wA (grow_refl _)).1
  clear hbA hm0 hm1 hm2 hwA hzA hi3
  clear hp hE hA hB h64
  have HFE := Lib.hid hff
  rw [hf] at HIX
  have hi1 : (i : Int) < (m.funs.length : Int) := by omega
  have hi2 : (0 : Int) ≤ (i : Int) := by omega
  have hi3 : ¬ ((i : Int) < 0) := by omega
  clear hf hfe hff
  have hnn : ((f.params : Int) != (args.length : Int)) = true := by simpa using hn
  clear hn
  all_goals
    go_enter Tryd.func11, Tryd.ntmps11
    go_upto_region 1 with fail
    change Code.wp _ _ _ _ (((w.alloc (.cells #[.slice A m.funs.length cf, .slice B m.words.length cw] 39)).alloc (.cells #[.string (mkB name)] 9)).alloc (.cells #[.string ⟨#[]⟩, .int .i64 0, .slice none 0 0, .int .i64 0] 35))
    rw [HWA.out]
    go_wp2_with (first
      | (go_at_call 22; (with_reducible refine HC0.out.mono ?_); rintro y w3 ⟨v3, rfl, he3, hb3, hn3⟩; obtain rfl := hn3.2 HP.out; obtain ⟨⟨i0, i1⟩, i2, -⟩ := (HX.out w3 hb3).1; have HI3 := Lib.hid (HIX.out w3 hb3); have HB3 := Lib.hid hb3; clear he3 hn3 hb3)
      | (go_at_call 23; (with_reducible refine HI3.out.mono ?_); rintro y w4 ⟨rfl, hb4⟩; have hb04 := grow_trans HB3.out hb4; obtain ⟨⟨i0, i1⟩, i2, hk4⟩ := (HX.out w4 hb04).1; obtain ⟨e0, e1, e2, e3⟩ := row4e hk4; have y0 := row_frozen hk4 0; have y1 := row_frozen hk4 1; have y2 := row_frozen hk4 2; have y3 := row_frozen hk4 3; have ld := (HX.out w4 hb04).2.1; have g5 := ld.c5; have g8 := ld.c8; have g1 := ld.c1; have g8x := cell_samem g8 (far4m (w := w4) (q := w.heap.size + 2) (v0 := .string ⟨#[]⟩) (v1 := .int .i64 0) (v2 := .slice none 0 0) (v3 := .int .i64 0) _ (by have := HG8.out; simp only; omega)); have g1x := cell_samem g1 (far4m (w := w4) (q := w.heap.size + 2) (v0 := .string ⟨#[]⟩) (v1 := .int .i64 0) (v2 := .slice none 0 0) (v3 := .int .i64 0) _ (by have := HG1.out; simp only; omega)); have g5x := cell_samem g5 (far4m (w := w4) (q := w.heap.size + 2) (v0 := .string ⟨#[]⟩) (v1 := .int .i64 0) (v2 := .slice none 0 0) (v3 := .int .i64 0) _ (by have := HG5.out; simp only; omega)); have HK4 := Lib.hid hk4; have HB4 := Lib.hid (HX.out w4 hb04).2.2.2.2; obtain ⟨bq, oq, rfl, q0, q1, q2, q3⟩ := fn_cells (HX.out w4 hb04).2.2.1 hi; rw [HFE.out] at q0 q1 q2 q3; clear hb4 hk4 hb04 ld))
    go_region
    all_goals go_wp2_with fail
    all_goals
      have hk5 := set4m (w := w4) (v0 := .string ⟨#[]⟩) (v1 := .int .i64 0) (v2 := .slice none 0 0) (v3 := .int .i64 0) HK4.out
      have hb5 := below4m (w := w4) (q := w.heap.size + 2) (v0 := .string ⟨#[]⟩) (v1 := .int .i64 0) (v2 := .slice none 0 0) (v3 := .int .i64 0) HB4.out (by omega)
      obtain ⟨wf, hwf⟩ : ∃ wf, (((w4.setCell ⟨w.heap.size + 2, 0, none⟩ (.string ⟨#[]⟩)).setCell ⟨w.heap.size + 2, 1, none⟩ (.int .i64 0)).setCell ⟨w.heap.size + 2, 2, none⟩ (.slice none 0 0)).setCell ⟨w.heap.size + 2, 3, none⟩ (.int .i64 0) = wf := ⟨_, rfl⟩
      rw [hwf] at hk5 hb5
      rw [hwf]
      obtain ⟨z0, z1, z2, z3⟩ := row4e hk5
      refine bodyPost_ret (v := .tuple #[.agg #[.string ⟨#[]⟩, .int .i64 0, .slice none 0 0, .int .i64 0], esV (E 8)]) (by simp [results, Tryd.results11, go_sem, z0, z1, z2, z3]; try rfl) rfl ?_
      unfold MRunPost
      rw [HC.out]
      exact ⟨esV (E 8), none, 0, oc0M, rfl, ErrIs.es (by omega), ⟨fun e => (by cases e), fun e => absurd e (by decide)⟩, by rw [if_neg (by decide)], RowUp.nil _ _, Nat.le_refl _, hb5.drew⟩
set_option maxHeartbeats 4000000 in
set_option maxRecDepth 100000 in
theorem mrun_ticks (E : Nat → Addr) (m : PImg) (hnf : m.funs.length ≤ 100) (hnw : m.words.length ≤ 100000) (A B : Option Addr) (cf cw : Nat) (hcf : m.funs.length ≤ cf) (h64 : ∀ n ∈ m.words, 0 ≤ n ∧ n < 18446744073709551616) (name : Txt) (args : List Int) (ha : args.length ≤ 1000) (X : Option Addr) (xc : Nat) (ticks : Int) (w : World) (hE : Laid7 E w) (hA : Row w A (m.funs.flatMap fnL)) (hB : Row w B (u64Vs m.words)) (hp : (imgC m).1 = 0) (i : Nat) (hi : i < m.funs.length) (hf : firstPF name m.funs 0 = i) (hn : m.funs[i].params = args.length) (ht : ticks < 0 ∨ 5000 < ticks) :
    Calls Tryd.prog 11 #[.agg #[.slice A m.funs.length cf, .slice B m.words.length cw], .string (mkB name), .slice X args.length xc, .int .i64 ticks] w (MRunPost E m name args ticks w) := by
  have HP := Lib.hid hp
  have hfe : m.funs.getD i fn0 = m.funs[i] := by rw [List.getD_eq_getElem?_getD, List.getElem?_eq_getElem hi]; rfl
  obtain ⟨f, hff⟩ : ∃ f, m.funs[i] = f := ⟨_, rfl⟩
  rw [hff] at hfe
  rw [hff] at hn
  have HC : Hid (mrunC m name args.length ticks = (2, -1)) := show _ = _ by
    unfold mrunC
    rw [if_neg (by rw [hp]; decide), hf, if_neg (by omega), Int.toNat_natCast, hfe, if_neg (by simp [hn]), if_pos ht]
  obtain ⟨wA, hwA⟩ : ∃ wA, (((w.alloc (.cells #[.slice A m.funs.length cf, .slice B m.words.length cw] 39)).alloc (.cells #[.string (mkB name)] 9)).alloc (.cells #[.string ⟨#[]⟩, .int .i64 0, .slice none 0 0, .int .i64 0] 35)) = wA := ⟨_, rfl⟩
  have hbA : Below w.heap.size w wA := by rw [← hwA]; exact grow_alloc (grow_alloc (grow_alloc (grow_refl _) _) _) _
  have hzA : wA.heap.size = w.heap.size + 3 := by rw [← hwA]; simp
  have hm0 : wA.heap[w.heap.size]? = some (.cells #[.slice A m.funs.length cf, .slice B m.words.length cw] 39 (0, 0)) := by rw [← hwA]; exact (old_block _ _ (by simp; omega)).trans ((old_block _ _ (by simp)).trans (heap_alloc_new w _))
  have hm1 : wA.heap[w.heap.size + 1]? = some (.cells #[.string (mkB name)] 9 (0, 0)) := by rw [← hwA]; exact (old_block _ _ (by simp)).trans (new_block _ _ (by simp))
  have hm2 : wA.heap[w.heap.size + 2]? = some (.cells #[.string ⟨#[]⟩, .int .i64 0, .slice none 0 0, .int .i64 0] 35 (0, 0)) := by rw [← hwA]; exact new_block _ _ (by simp)
  have HG8 : Hid (1 < w.heap.size) := World.block_lt_of_cell? w _ hE.c8
  have HG1 : Hid (2 < w.heap.size) := World.block_lt_of_cell? w _ hE.c1
  have HG5 : Hid (0 < w.heap.size) := World.block_lt_of_cell? w _ hE.c5
  have HX : Hid (∀ w', Below wA.heap.size wA w' → ((w'.cell? ⟨w.heap.size, 0, none⟩ = some (.slice A m.funs.length cf) ∧ w'.cell? ⟨w.heap.size, 1, none⟩ = some (.slice B m.words.length cw)) ∧ w'.cell? ⟨w.heap.size + 1, 0, none⟩ = some (.string (mkB name)) ∧ w'.heap[w.heap.size + 2]? = some (.cells #[.string ⟨#[]⟩, .int .i64 0, .slice none 0 0, .int .i64 0] 35 (0, 0))) ∧ Laid7 E w' ∧ Row w' A (m.funs.flatMap fnL) ∧ Row w' B (u64Vs m.words) ∧ Below w.heap.size w w') := fun w' hb =>
    ⟨⟨row2m ((hb.block _ (by omega)).trans hm0), row1m ((hb.block _ (by omega)).trans hm1), (hb.block _ (by omega)).trans hm2⟩, (hE.keep hbA).keep hb, (hA.keep (Keeps.of_below hbA)).keep (Keeps.of_below hb), (hB.keep (Keeps.of_below hbA)).keep (Keeps.of_below hb), grow_trans hbA hb⟩
  have HC0 : Hid (Calls Tryd.prog 22 #[.agg #[.slice A m.funs.length cf, .slice B m.words.length cw]] wA (ImgPost E m wA)) := echeck_any E m hnf hnw A B cf cw hcf h64 wA (hE.keep hbA) (hA.keep (Keeps.of_below hbA)) (hB.keep (Keeps.of_below hbA))
  have HIX : Hid (∀ w', Below wA.heap.size wA w' → Calls Tryd.prog 23 #[.slice A m.funs.length cf, .func (.func 24) #[] #[.pointer (some ⟨w.heap.size + 1, 0, none⟩)]] w' (Ret (.int .i64 (firstPF name m.funs 0)) w')) := fun w' hb =>
    erun_idx name m.funs (by omega) (w.heap.size + 1) A cf w' (HX.out w' hb).2.2.1 (HX.out w' hb).1.2.1
  have HWA := Lib.hid hwA
  obtain ⟨⟨i0, i1⟩, i2, hi3⟩ := (HX.out wA (grow_refl _)).1
  clear hbA hm0 hm1 hm2 hwA hzA hi3
  clear hp hE hA hB h64
  have HFE := Lib.hid hff
  rw [hf] at HIX
  have hi1 : (i : Int) < (m.funs.length : Int) := by omega
  have hi2 : (0 : Int) ≤ (i : Int) := by omega
  have hi3 : ¬ ((i : Int) < 0) := by omega
  clear hf hfe hff
  have hnn : ((f.params : Int) != (args.length : Int)) = false := by simpa using hn
  clear hn
  rcases ht with ht | ht
  all_goals
    go_enter Tryd.func11, Tryd.ntmps11
    go_upto_region 1 with fail
    change Code.wp _ _ _ _ (((w.alloc (.cells #[.slice A m.funs.length cf, .slice B m.words.length cw] 39)).alloc (.cells #[.string (mkB name)] 9)).alloc (.cells #[.string ⟨#[]⟩, .int .i64 0, .slice none 0 0, .int .i64 0] 35))
    rw [HWA.out]
    go_wp2_with (first
      | (go_at_call 22; (with_reducible refine HC0.out.mono ?_); rintro y w3 ⟨v3, rfl, he3, hb3, hn3⟩; obtain rfl := hn3.2 HP.out; obtain ⟨⟨i0, i1⟩, i2, -⟩ := (HX.out w3 hb3).1; have HI3 := Lib.hid (HIX.out w3 hb3); have HB3 := Lib.hid hb3; clear he3 hn3 hb3)
      | (go_at_call 23; (with_reducible refine HI3.out.mono ?_); rintro y w4 ⟨rfl, hb4⟩; have hb04 := grow_trans HB3.out hb4; obtain ⟨⟨i0, i1⟩, i2, hk4⟩ := (HX.out w4 hb04).1; obtain ⟨e0, e1, e2, e3⟩ := row4e hk4; have y0 := row_frozen hk4 0; have y1 := row_frozen hk4 1; have y2 := row_frozen hk4 2; have y3 := row_frozen hk4 3; have ld := (HX.out w4 hb04).2.1; have g5 := ld.c5; have g8 := ld.c8; have g1 := ld.c1; have g8x := cell_samem g8 (far4m (w := w4) (q := w.heap.size + 2) (v0 := .string ⟨#[]⟩) (v1 := .int .i64 0) (v2 := .slice none 0 0) (v3 := .int .i64 0) _ (by have := HG8.out; simp only; omega)); have g1x := cell_samem g1 (far4m (w := w4) (q := w.heap.size + 2) (v0 := .string ⟨#[]⟩) (v1 := .int .i64 0) (v2 := .slice none 0 0) (v3 := .int .i64 0) _ (by have := HG1.out; simp only; omega)); have g5x := cell_samem g5 (far4m (w := w4) (q := w.heap.size + 2) (v0 := .string ⟨#[]⟩) (v1 := .int .i64 0) (v2 := .slice none 0 0) (v3 := .int .i64 0) _ (by have := HG5.out; simp only; omega)); have HK4 := Lib.hid hk4; have HB4 := Lib.hid (HX.out w4 hb04).2.2.2.2; obtain ⟨bq, oq, rfl, q0, q1, q2, q3⟩ := fn_cells (HX.out w4 hb04).2.2.1 hi; rw [HFE.out] at q0 q1 q2 q3; clear hb4 hk4 hb04 ld))
    go_region
    all_goals go_wp2_with fail
    all_goals
      have hk5 := set4m (w := w4) (v0 := .string ⟨#[]⟩) (v1 := .int .i64 0) (v2 := .slice none 0 0) (v3 := .int .i64 0) HK4.out
      have hb5 := below4m (w := w4) (q := w.heap.size + 2) (v0 := .string ⟨#[]⟩) (v1 := .int .i64 0) (v2 := .slice none 0 0) (v3 := .int .i64 0) HB4.out (by omega)
      obtain ⟨wf, hwf⟩ : ∃ wf, (((w4.setCell ⟨w.heap.size + 2, 0, none⟩ (.string ⟨#[]⟩)).setCell ⟨w.heap.size + 2, 1, none⟩ (.int .i64 0)).setCell ⟨w.heap.size + 2, 2, none⟩ (.slice none 0 0)).setCell ⟨w.heap.size + 2, 3, none⟩ (.int .i64 0) = wf := ⟨_, rfl⟩
      rw [hwf] at hk5 hb5
      rw [hwf]
      obtain ⟨z0, z1, z2, z3⟩ := row4e hk5
      refine bodyPost_ret (v := .tuple #[.agg #[.string ⟨#[]⟩, .int .i64 0, .slice none 0 0, .int .i64 0], esV (E 1)]) (by simp [results, Tryd.results11, go_sem, z0, z1, z2, z3]; try rfl) rfl ?_
      unfold MRunPost
      rw [HC.out]
      exact ⟨esV (E 1), none, 0, oc0M, rfl, ErrIs.es (by omega), ⟨fun e => (by cases e), fun e => absurd e (by decide)⟩, by rw [if_neg (by decide)], RowUp.nil _ _, Nat.le_refl _, hb5.drew⟩
end Go.Proofs.YtgoifbkogboppaaDoor
