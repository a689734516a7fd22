import Derived.Test.YtdilakpipbkokaaDoorBn11
set_option linter.unusedVariables false
set_option linter.unusedSimpArgs false
namespace Go.Proofs.YtdilakpipbkokaaDoor
open Go.ChangeShapes Go.WideShapes Go.ChangeAt Go.RowKit Go.Joins Go.Deep

/-! a code of values that came in -/
theorem pcStr : Tryd.prog.cellsOf 9 = 1 := by kernel_rfl
theorem pcInt : Tryd.prog.cellsOf 3 = 1 := by kernel_rfl
theorem pcInts : Tryd.prog.cellsOf 25 = 1 := by kernel_rfl
theorem pcIn : Tryd.prog.cellsOf 61 = 5 := by kernel_rfl
theorem pcIns : Tryd.prog.cellsOf 58 = 1 := by kernel_rfl
theorem pcWth : Tryd.prog.cellsOf 54 = 1 := by kernel_rfl
theorem pcBk : Tryd.prog.cellsOf 60 = 6 := by kernel_rfl
theorem pcBks : Tryd.prog.cellsOf 22 = 1 := by kernel_rfl
theorem pcCo : Tryd.prog.cellsOf 24 = 4 := by kernel_rfl
theorem pidB (s : ByteArray) : mkB s.toList = s := by
  rw [Lib.toList_data]; cases s; rfl
theorem pwf {n : Int} (h : (Lit.int .i64 n).wf = true) : I64 n := by
  simp [Lit.wf] at h
  exact ⟨h.1, h.2⟩
theorem pspot {W : World} {base n : Nat} {a : Addr} {cs : List Value} (hn : 0 < n) (h : W.cells? base (a.add (0 * n)) n = some cs) : a.spot = none := by
  obtain ⟨_, hl, hcell⟩ := World.cells?_some h
  have h0 := hcell 0 hn
  rw [List.getElem?_eq_getElem (by omega)] at h0
  have := World.cell?_spot h0
  simpa [Addr.add] using this
theorem ppick {α : Type} {n : Nat} {p : Nat → α → Prop} (h : ∀ i, i < n → ∃ y, p i y) : ∃ l : List α, l.length = n ∧ ∀ i (hi : i < l.length), p i l[i] := by
  induction n with
  | zero => exact ⟨[], rfl, fun i hi => by simp at hi⟩
  | succ n ih =>
    obtain ⟨l, hl, hp⟩ := ih fun i hi => h i (by omega)
    obtain ⟨y, hy⟩ := h n (by omega)
    refine ⟨l ++ [y], by simp [hl], fun i hi => ?_⟩
    by_cases hin : i < l.length
    · rw [List.getElem_append_left hin]; exact hp i hin
    · have e : i = l.length := by simp at hi; omega
      subst e
      simp [hl, hy]
/-- The numbers are within 64 bits. -/
structure InN (x : PIn) : Prop where
  d : I64 x.d
  num : I64 x.num
  args : ∀ n ∈ x.args, I64 n
structure BkN (b : PBk) : Prop where
  params : ∀ n ∈ b.params, I64 n
  ins : ∀ x ∈ b.ins, InN x
  v : I64 b.v
  nx : ∀ n ∈ b.nx, I64 n
  wth : ∀ l ∈ b.wth, ∀ n ∈ l, I64 n
section
variable {H : Type} {enc : TypeId × Value → H} {W : World} {base : Nat} {sp : Nat → Bool} {hd : Bool}
/-- A slice of anything that can be opened. -/
theorem open_list {α : Type} {T t : TypeId} {sz : Nat} {good : World → α → List Value → Prop} {N : α → Prop} (hT : Tryd.prog.underlying T = some (.slice t)) (hc : Tryd.prog.cellsOf t = sz) (h0 : 0 < sz)
    (one : ∀ n cs (x : DataW H × List MemPlace), DataW.trod enc Tryd.prog W base sp hd n t cs = some x → ∃ y : α, good W y cs ∧ N y)
    {n : Nat} {v : Value} {x : DataW H × List MemPlace} (h : DataW.trod enc Tryd.prog W base sp hd n T [v] = some x) :
    ∃ (l : List α) (A : Option Addr) (c : Nat), v = .slice A l.length c ∧ l.length ≤ maxLen ∧ RdL sz good W l A ∧ ∀ y ∈ l, N y := by
  rcases DataW.trod_slice hT h with ⟨hc', _⟩ | ⟨a, len, cap, elems, rest, m, hm, hc', _, _, hlc, hcm, hel, hall, _⟩
  · simp only [List.cons.injEq, and_true] at hc'
    exact ⟨[], none, 0, hc', by simp, fun k hk => by simp at hk, fun y hy => by cases hy⟩
  · simp only [List.cons.injEq, and_true] at hc'
    rw [hc] at hall
    have hspot : 0 < len → a.spot = none := fun h1 => by
      have hb := hall 0 h1
      rw [List.getElem?_eq_getElem (by omega)] at hb
      obtain ⟨cs', h1, _⟩ := Option.bind_eq_some_iff.1 hb
      exact pspot (n := sz) h0 h1
    have each : ∀ i, i < len → ∃ y : α, a.spot = none ∧ N y ∧ ∃ cs, good W y cs ∧ ∀ (j : Nat) (u : Value), cs[j]? = some u → W.cell? ⟨a.block, a.off + i * sz + j, none⟩ = some u := fun i hi => by
      have hb := hall i hi
      rw [List.getElem?_eq_getElem (by omega)] at hb
      obtain ⟨cs', h1, h2⟩ := Option.bind_eq_some_iff.1 hb
      obtain ⟨y, hy, hn⟩ := one _ _ _ h2
      obtain ⟨_, hl, hcell⟩ := World.cells?_some h1
      have hs : a.spot = none := hspot (by omega)
      refine ⟨y, hs, hn, cs', hy, fun j u hj => ?_⟩
      have hj4 : j < sz := by have := (List.getElem?_eq_some_iff.1 hj).1; omega
      have := (hcell j hj4).trans hj
      rw [add_add] at this
      obtain ⟨ab, ao, sx⟩ := a
      simp only at hs
      subst hs
      have e2 : (⟨ab, ao, none⟩ : Addr).add (i * sz + j) = ⟨ab, ao + (i * sz + j), none⟩ := by
        unfold Addr.add; split <;> simp_all
      rw [e2, ← Nat.add_assoc] at this
      exact this
    obtain ⟨ys, hyl, hy⟩ := ppick each
    subst hyl
    refine ⟨ys, some a, cap, hc', by omega, fun k hk => ?_, fun y hm => ?_⟩
    · obtain ⟨hs, -, cs, hg, hcell⟩ := hy k hk
      obtain ⟨ab, ao, sx⟩ := a
      simp only at hs
      subst hs
      exact ⟨ab, ao, cs, rfl, hg, hcell⟩
    · obtain ⟨i, hi, rfl⟩ := List.mem_iff_getElem.1 hm
      exact (hy i hi).2.1
set_option maxRecDepth 100000 in
theorem open_nums2 {n : Nat} {v : Value} {x : DataW H × List MemPlace} (h : DataW.trod enc Tryd.prog W base sp hd n 25 [v] = some x) : ∃ l A c, v = .slice A (l : List Int).length c ∧ l.length ≤ maxLen ∧ Row W A (intVs l) ∧ ∀ n ∈ l, I64 n := by
  obtain ⟨l, A, c, e, hm, hr, hn⟩ := open_list (α := Int) (good := fun _ k cs => cs = [.int .i64 k]) (N := I64) Tryd.underlying25 pcInt (by decide) (fun n cs x h => by
    obtain ⟨k, e, _, w⟩ := DataW.trod_int Tryd.underlying3 h
    exact ⟨k, e, pwf w⟩) h
  refine ⟨l, A, c, e, hm, fun j u hj => ?_, hn⟩
  have hjl : j < l.length := by have := (List.getElem?_eq_some_iff.1 hj).1; rwa [intVs_len] at this
  obtain ⟨b, off, cs, e2, e3, hc⟩ := hr j hjl
  rw [intVs_get hjl] at hj
  have := hc 0 u (by rw [e3]; exact hj)
  rw [Nat.mul_one] at this
  exact ⟨b, off, e2, this⟩
set_option maxRecDepth 100000 in
theorem open_in {n : Nat} {cs : List Value} {x : DataW H × List MemPlace} (h : DataW.trod enc Tryd.prog W base sp hd n 61 cs = some x) : ∃ y : PIn, GoodI W y cs ∧ InN y := by
  obtain ⟨xs, m, hm, _, hl, hlen, hg⟩ := DataW.trod_struct Tryd.underlying61 h
  have hl5 : cs.length = 5 := hl.trans pcIn
  match cs, hl5 with
  | [c0, c1, c2, c3, c4], _ =>
    match xs, hlen with
    | [z0, z1, z2, z3, z4], _ =>
      have g0 : DataW.trod enc Tryd.prog W base sp hd m 9 (([c0, c1, c2, c3, c4].drop 0).take (Tryd.prog.cellsOf 9)) = some z0 := hg 0 _ rfl
      rw [pcStr, show ([c0, c1, c2, c3, c4].drop 0).take 1 = [c0] from rfl] at g0
      have g1 : DataW.trod enc Tryd.prog W base sp hd m 3 (([c0, c1, c2, c3, c4].drop 1).take (Tryd.prog.cellsOf 3)) = some z1 := hg 1 _ rfl
      rw [pcInt, show ([c0, c1, c2, c3, c4].drop 1).take 1 = [c1] from rfl] at g1
      have g2 : DataW.trod enc Tryd.prog W base sp hd m 25 (([c0, c1, c2, c3, c4].drop 2).take (Tryd.prog.cellsOf 25)) = some z2 := hg 2 _ rfl
      rw [pcInts, show ([c0, c1, c2, c3, c4].drop 2).take 1 = [c2] from rfl] at g2
      have g3 : DataW.trod enc Tryd.prog W base sp hd m 3 (([c0, c1, c2, c3, c4].drop 3).take (Tryd.prog.cellsOf 3)) = some z3 := hg 3 _ rfl
      rw [pcInt, show ([c0, c1, c2, c3, c4].drop 3).take 1 = [c3] from rfl] at g3
      have g4 : DataW.trod enc Tryd.prog W base sp hd m 9 (([c0, c1, c2, c3, c4].drop 4).take (Tryd.prog.cellsOf 9)) = some z4 := hg 4 _ rfl
      rw [pcStr, show ([c0, c1, c2, c3, c4].drop 4).take 1 = [c4] from rfl] at g4
      obtain ⟨s0, e0, _, _⟩ := DataW.trod_string Tryd.underlying9 g0
      obtain ⟨k1, e1, _, w1⟩ := DataW.trod_int Tryd.underlying3 g1
      obtain ⟨l2, A2, q2, e2, m2, r2, n2⟩ := open_nums2 g2
      obtain ⟨k3, e3, _, w3⟩ := DataW.trod_int Tryd.underlying3 g3
      obtain ⟨s4, e4, _, _⟩ := DataW.trod_string Tryd.underlying9 g4
      simp only [List.cons.injEq, and_true] at e0 e1 e3 e4
      subst e0; subst e1; subst e2; subst e3; subst e4
      exact ⟨⟨s0.toList, k1, l2, k3, s4.toList⟩, ⟨A2, q2, by simp [inL, pidB], r2⟩, ⟨pwf w1, pwf w3, n2⟩⟩
set_option maxRecDepth 100000 in
theorem open_bk {n : Nat} {cs : List Value} {x : DataW H × List MemPlace} (h : DataW.trod enc Tryd.prog W base sp hd n 60 cs = some x) : ∃ y : PBk, GoodB W y cs ∧ BkN y := by
  obtain ⟨xs, m, hm, _, hl, hlen, hg⟩ := DataW.trod_struct Tryd.underlying60 h
  have hl6 : cs.length = 6 := hl.trans pcBk
  match cs, hl6 with
  | [c0, c1, c2, c3, c4, c5], _ =>
    match xs, hlen with
    | [z0, z1, z2, z3, z4, z5], _ =>
      have g0 : DataW.trod enc Tryd.prog W base sp hd m 25 (([c0, c1, c2, c3, c4, c5].drop 0).take (Tryd.prog.cellsOf 25)) = some z0 := hg 0 _ rfl
      rw [pcInts, show ([c0, c1, c2, c3, c4, c5].drop 0).take 1 = [c0] from rfl] at g0
      have g1 : DataW.trod enc Tryd.prog W base sp hd m 58 (([c0, c1, c2, c3, c4, c5].drop 1).take (Tryd.prog.cellsOf 58)) = some z1 := hg 1 _ rfl
      rw [pcIns, show ([c0, c1, c2, c3, c4, c5].drop 1).take 1 = [c1] from rfl] at g1
      have g2 : DataW.trod enc Tryd.prog W base sp hd m 9 (([c0, c1, c2, c3, c4, c5].drop 2).take (Tryd.prog.cellsOf 9)) = some z2 := hg 2 _ rfl
      rw [pcStr, show ([c0, c1, c2, c3, c4, c5].drop 2).take 1 = [c2] from rfl] at g2
      have g3 : DataW.trod enc Tryd.prog W base sp hd m 3 (([c0, c1, c2, c3, c4, c5].drop 3).take (Tryd.prog.cellsOf 3)) = some z3 := hg 3 _ rfl
      rw [pcInt, show ([c0, c1, c2, c3, c4, c5].drop 3).take 1 = [c3] from rfl] at g3
      have g4 : DataW.trod enc Tryd.prog W base sp hd m 25 (([c0, c1, c2, c3, c4, c5].drop 4).take (Tryd.prog.cellsOf 25)) = some z4 := hg 4 _ rfl
      rw [pcInts, show ([c0, c1, c2, c3, c4, c5].drop 4).take 1 = [c4] from rfl] at g4
      have g5 : DataW.trod enc Tryd.prog W base sp hd m 54 (([c0, c1, c2, c3, c4, c5].drop 5).take (Tryd.prog.cellsOf 54)) = some z5 := hg 5 _ rfl
      rw [pcWth, show ([c0, c1, c2, c3, c4, c5].drop 5).take 1 = [c5] from rfl] at g5
      obtain ⟨l0, A0, q0, e0, m0, r0, n0⟩ := open_nums2 g0
      obtain ⟨l1, A1, q1, e1, m1, r1, n1⟩ := open_list (good := GoodI) (N := InN) Tryd.underlying58 pcIn (by decide) (fun n cs x h => open_in h) g1
      obtain ⟨s2, e2, _, _⟩ := DataW.trod_string Tryd.underlying9 g2
      obtain ⟨k3, e3, _, w3⟩ := DataW.trod_int Tryd.underlying3 g3
      obtain ⟨l4, A4, q4, e4, m4, r4, n4⟩ := open_nums2 g4
      obtain ⟨l5, A5, q5, e5, m5, r5, n5⟩ := open_list (α := List Int) (good := GoodL) (N := fun l => ∀ n ∈ l, I64 n) Tryd.underlying54 pcInts (by decide) (fun n cs x h => by
        match cs, x, h with
        | cs, x, h =>
          have hl1 : cs.length = 1 := by
            rcases DataW.trod_slice Tryd.underlying25 h with ⟨hc', _⟩ | ⟨a, len, cap, elems, rest, m, hm, hc', _⟩
            · rw [hc']; rfl
            · rw [hc']; rfl
          match cs, hl1 with
          | [v], _ =>
            obtain ⟨l, A, c, rfl, -, hr, hn⟩ := open_nums2 h
            exact ⟨l, ⟨A, c, rfl, hr⟩, hn⟩) g5
      simp only [List.cons.injEq, and_true] at e2 e3
      subst e0; subst e1; subst e2; subst e3; subst e4; subst e5
      exact ⟨⟨l0, l1, s2.toList, k3, l4, l5⟩, ⟨A0, q0, A1, q1, A4, q4, A5, q5, by simp [bkL, pidB], r0, r1, r4, r5⟩, ⟨n0, n1, pwf w3, n4, n5⟩⟩
set_option maxRecDepth 100000 in
/-- A code that came in. -/
theorem open_co {r : Reach} {b0 : Nat} {v : Value} {d : DataW H} {p : List MemPlace} (hv : Value.okWide Tryd.prog W r b0 24 v) (h : DataW.Trod enc Tryd.prog W base sp hd 24 v d p) :
    ∃ (c : PCo) (A : Option Addr) (ca : Nat), v = .agg #[.string (mkB c.name), .int .i64 c.params, .int .i64 c.values, .slice A c.blocks.length ca] ∧ c.blocks.length ≤ maxLen ∧ RdP W c.blocks A ∧ (∀ b ∈ c.blocks, BkN b) ∧ I64 c.params ∧ I64 c.values := by
  obtain ⟨cs, rfl, hsz⟩ := okWide_struct Tryd.underlying24 hv
  obtain ⟨l⟩ := cs
  have hl4 : l.length = 4 := hsz.trans pcCo
  clear hsz
  match l, hl4 with
  | [c0, c1, c2, c3], _ =>
    obtain ⟨fuel, hf⟩ := h
    obtain ⟨xs, m, _, hx, hl, hlen, hg⟩ := DataW.trod_struct Tryd.underlying24 hf
    match xs, hlen with
    | [z0, z1, z2, z3], _ =>
      have g0 : DataW.trod enc Tryd.prog W base sp hd m 9 (([c0, c1, c2, c3].drop 0).take (Tryd.prog.cellsOf 9)) = some z0 := hg 0 _ rfl
      rw [pcStr, show ([c0, c1, c2, c3].drop 0).take 1 = [c0] from rfl] at g0
      have g1 : DataW.trod enc Tryd.prog W base sp hd m 3 (([c0, c1, c2, c3].drop 1).take (Tryd.prog.cellsOf 3)) = some z1 := hg 1 _ rfl
      rw [pcInt, show ([c0, c1, c2, c3].drop 1).take 1 = [c1] from rfl] at g1
      have g2 : DataW.trod enc Tryd.prog W base sp hd m 3 (([c0, c1, c2, c3].drop 2).take (Tryd.prog.cellsOf 3)) = some z2 := hg 2 _ rfl
      rw [pcInt, show ([c0, c1, c2, c3].drop 2).take 1 = [c2] from rfl] at g2
      have g3 : DataW.trod enc Tryd.prog W base sp hd m 22 (([c0, c1, c2, c3].drop 3).take (Tryd.prog.cellsOf 22)) = some z3 := hg 3 _ rfl
      rw [pcBks, show ([c0, c1, c2, c3].drop 3).take 1 = [c3] from rfl] at g3
      obtain ⟨s0, e0, _, _⟩ := DataW.trod_string Tryd.underlying9 g0
      obtain ⟨k1, e1, _, w1⟩ := DataW.trod_int Tryd.underlying3 g1
      obtain ⟨k2, e2, _, w2⟩ := DataW.trod_int Tryd.underlying3 g2
      obtain ⟨l3, A3, q3, e3, m3, r3, n3⟩ := open_list (good := GoodB) (N := BkN) Tryd.underlying22 pcBk (by decide) (fun n cs x h => open_bk h) g3
      simp only [List.cons.injEq, and_true] at e0 e1 e2
      subst e0; subst e1; subst e2; subst e3
      exact ⟨⟨s0.toList, k1, k2, l3⟩, A3, q3, by simp [pidB], m3, r3, n3, pwf w1, pwf w2⟩
end
end Go.Proofs.YtdilakpipbkokaaDoor
