import Derived.Lib.SmallJoins
import Derived.Lib.Strings
import Derived.Test.YteifmgcbafemeaaDoorBn14
namespace Go.Proofs.YteifmgcbafemeaaDoor
open Go.ChangeShapes Go.WideShapes Go.ChangeAt Go.RowKit Go.Joins Go.Deep

theorem tcStr : Tryd.prog.cellsOf 9 = 1 := by kernel_rfl
theorem tcInt : Tryd.prog.cellsOf 3 = 1 := by kernel_rfl
theorem tcEs : Tryd.prog.cellsOf 67 = 1 := by kernel_rfl
theorem tcSs : Tryd.prog.cellsOf 38 = 1 := by kernel_rfl
theorem tcTs : Tryd.prog.cellsOf 37 = 1 := by kernel_rfl
theorem tcE : Tryd.prog.cellsOf 69 = 4 := by kernel_rfl
theorem tcS : Tryd.prog.cellsOf 71 = 8 := by kernel_rfl
theorem tcF : Tryd.prog.cellsOf 40 = 3 := by kernel_rfl
theorem bytes_idL (s : ByteArray) : mkB s.toList = s := by
  rw [Lib.toList_data]; cases s; rfl
theorem okN_wf {n : Int} (h : (Lit.int .i64 n).wf = true) : okN n := by
  simp [Lit.wf, IntKind.min, IntKind.max, IntKind.signed, IntKind.bits] at h
  unfold okN; omega
section
theorem spot_none {W : World} {base n : Nat} {a : Addr} {cs : List Value} (hn : 0 < n) (h : W.cells? base (a.add (0 * n)) n = some cs) : a.spot = none := by
  obtain ⟨_, hl, hcell⟩ := World.cells?_some h
  have h0 := hcell 0 hn
  rw [List.getElem?_eq_getElem (by omega)] at h0
  have := World.cell?_spot h0
  simpa [Addr.add] using this
variable {H : Type} {enc : TypeId × Value → H} {W : World} {base : Nat} {sp : Nat → Bool} {hd : Bool}
set_option maxRecDepth 100000 in
theorem opened (n : Nat) :
    (∀ (v : Value) (x : DataW H × List MemPlace), DataW.trod enc Tryd.prog W base sp hd n 67 [v] = some x → ∃ ks A c, v = .slice A ks.length c ∧ ks.length ≤ maxLen ∧ RdE W (fun _ => True) ks A) ∧
    (∀ (cs : List Value) (x : DataW H × List MemPlace), DataW.trod enc Tryd.prog W base sp hd n 69 cs = some x → ∃ e A c, cs = exprL e A c ∧ okN e.num ∧ RdE W (fun _ => True) e.kids A) := by
  induction n with
  | zero => exact ⟨fun v x h => by simp [DataW.trod] at h, fun v x h => by simp [DataW.trod] at h⟩
  | succ n ih =>
    refine ⟨fun v x h => ?_, fun cs x h => ?_⟩
    · rcases DataW.trod_slice Tryd.underlying67 h with ⟨hc, _⟩ | ⟨a, len, cap, elems, rest, m, hm, hc, _, _, hlc, hcm, hel, hall, _⟩
      · simp only [List.cons.injEq, and_true] at hc
        exact ⟨[], none, 0, hc, by simp, RdE.nil _ _ _⟩
      · obtain rfl : m = n := by omega
        simp only [List.cons.injEq, and_true] at hc
        rw [tcE] at hall
        have hspot : 0 < len → a.spot = none := fun h0 => by
          have hb := hall 0 h0
          rw [List.getElem?_eq_getElem (by omega)] at hb
          obtain ⟨cs', h1, _⟩ := Option.bind_eq_some_iff.1 hb
          exact spot_none (n := 4) (by omega) h1
        have one : ∀ i, i < len → ∃ y : PExpr × Option Addr × Nat, a.spot = none ∧ CellsAt W a.block (a.off + i * 4) (exprL y.1 y.2.1 y.2.2) ∧ okN y.1.num ∧ RdE W (fun _ => True) y.1.kids y.2.1 := fun i hi => by
          have hb := hall i hi
          rw [List.getElem?_eq_getElem (by omega)] at hb
          obtain ⟨cs', h1, h2⟩ := Option.bind_eq_some_iff.1 hb
          obtain ⟨e, A, c, rfl, hn, hr⟩ := ih.2 _ _ h2
          obtain ⟨_, _, hcell⟩ := World.cells?_some h1
          have hs : a.spot = none := hspot (by omega)
          refine ⟨⟨e, A, c⟩, hs, fun j u hj => ?_, hn, hr⟩
          have hj4 : j < 4 := (List.getElem?_eq_some_iff.1 hj).1
          have := (hcell j hj4).trans hj
          rw [add_add] at this
          obtain ⟨ab, ao, sx⟩ := a
          simp only at hs
          subst hs
          have e2 : (⟨ab, ao, none⟩ : Addr).add (i * 4 + j) = ⟨ab, ao + i * 4 + j, none⟩ := by
            unfold Addr.add; split <;> simp_all [Nat.add_assoc]
          rw [e2] at this
          exact this
        obtain ⟨f, hf⟩ := choose_lt one
        refine ⟨(List.range len).map fun i => (f i).1, some a, cap, by simp [hc], by simp; omega, ⟨_, _, a.block, a.off, fun i => (f i).2.1, fun i => (f i).2.2, fun h0 => ?_, fun i hi => ?_, fun i hi => ?_, fun i hi => ?_⟩⟩
        · have h0' : 0 < len := by simpa using h0
          have := (hf 0 h0').1
          obtain ⟨ab, ao, sx⟩ := a
          simp only at this
          subst this
          exact ⟨rfl, trivial⟩
        · have hi' : i < len := by simpa using hi
          simpa using (hf i hi').2.1
        · have hi' : i < len := by simpa using hi
          simpa using (hf i hi').2.2.1
        · have hi' : i < len := by simpa using hi
          simpa using (hf i hi').2.2.2
    · obtain ⟨xs, m, hm, _, hl, hlen, hg⟩ := DataW.trod_struct Tryd.underlying69 h
      obtain rfl : m = n := by omega
      have hl4 : cs.length = 4 := hl.trans tcE
      match cs, hl4 with
      | [c0, c1, c2, c3], _ =>
        match xs, hlen with
        | [z0, z1, z2, z3], _ =>
          have g0 : DataW.trod enc Tryd.prog W base sp hd m 9 (([c0, c1, c2, c3].drop 0).take (Tryd.prog.cellsOf 9)) = some z0 := hg 0 _ rfl
          rw [tcStr, show ([c0, c1, c2, c3].drop 0).take 1 = [c0] from rfl] at g0
          have g1 : DataW.trod enc Tryd.prog W base sp hd m 3 (([c0, c1, c2, c3].drop 1).take (Tryd.prog.cellsOf 3)) = some z1 := hg 1 _ rfl
          rw [tcInt, show ([c0, c1, c2, c3].drop 1).take 1 = [c1] from rfl] at g1
          have g2 : DataW.trod enc Tryd.prog W base sp hd m 9 (([c0, c1, c2, c3].drop 2).take (Tryd.prog.cellsOf 9)) = some z2 := hg 2 _ rfl
          rw [tcStr, show ([c0, c1, c2, c3].drop 2).take 1 = [c2] from rfl] at g2
          have g3 : DataW.trod enc Tryd.prog W base sp hd m 67 (([c0, c1, c2, c3].drop 3).take (Tryd.prog.cellsOf 67)) = some z3 := hg 3 _ rfl
          rw [tcEs, show ([c0, c1, c2, c3].drop 3).take 1 = [c3] from rfl] at g3
          obtain ⟨s, e0, _, _⟩ := DataW.trod_string Tryd.underlying9 g0
          obtain ⟨k, e1, _, w1⟩ := DataW.trod_int Tryd.underlying3 g1
          obtain ⟨s2, e2, _, _⟩ := DataW.trod_string Tryd.underlying9 g2
          obtain ⟨ks, A, c, e3, _, hr⟩ := ih.1 _ _ g3
          simp only [List.cons.injEq, and_true] at e0 e1 e2
          subst e0; subst e1; subst e2; subst e3
          exact ⟨⟨s.toList, k, s2.toList, ks⟩, A, c, by simp [exprL, bytes_idL], okN_wf w1, hr⟩
set_option maxRecDepth 100000 in
theorem openedS (n : Nat) : ∀ m, m ≤ n →
    (∀ (v : Value) (x : DataW H × List MemPlace), DataW.trod enc Tryd.prog W base sp hd m 38 [v] = some x → ∃ ss A c, v = .slice A ss.length c ∧ ss.length ≤ maxLen ∧ RdS W (fun _ => True) ss A) ∧
    (∀ (cs : List Value) (x : DataW H × List MemPlace), DataW.trod enc Tryd.prog W base sp hd m 71 cs = some x → ∃ s X x T t L l, cs = stmtL s X x T t L l ∧ okN s.e.num ∧ RdE W (fun _ => True) s.e.kids X ∧ RdS W (fun _ => True) s.th T ∧ RdS W (fun _ => True) s.el L) := by
  induction n with
  | zero => intro m hm; obtain rfl : m = 0 := by omega
            exact ⟨fun v x h => by simp [DataW.trod] at h, fun v x h => by simp [DataW.trod] at h⟩
  | succ n ih =>
    intro m hmn
    refine ⟨fun v x h => ?_, fun cs x h => ?_⟩
    · rcases DataW.trod_slice Tryd.underlying38 h with ⟨hc, _⟩ | ⟨a, len, cap, elems, rest, m', hm, hc, _, _, hlc, hcm, hel, hall, _⟩
      · simp only [List.cons.injEq, and_true] at hc
        exact ⟨[], none, 0, hc, by simp, RdS.nil _ _ _⟩
      · simp only [List.cons.injEq, and_true] at hc
        rw [tcS] at hall
        have hspot : 0 < len → a.spot = none := fun h0 => by
          have hb := hall 0 h0
          rw [List.getElem?_eq_getElem (by omega)] at hb
          obtain ⟨cs', h1, _⟩ := Option.bind_eq_some_iff.1 hb
          exact spot_none (n := 8) (by omega) h1
        have one : ∀ i, i < len → ∃ y : PStmt × (Option Addr × Nat) × (Option Addr × Nat) × (Option Addr × Nat), a.spot = none ∧ CellsAt W a.block (a.off + i * 8) (stmtL y.1 y.2.1.1 y.2.1.2 y.2.2.1.1 y.2.2.1.2 y.2.2.2.1 y.2.2.2.2) ∧ okN y.1.e.num ∧
            RdE W (fun _ => True) y.1.e.kids y.2.1.1 ∧ RdS W (fun _ => True) y.1.th y.2.2.1.1 ∧ RdS W (fun _ => True) y.1.el y.2.2.2.1 := fun i hi => by
          have hb := hall i hi
          rw [List.getElem?_eq_getElem (by omega)] at hb
          obtain ⟨cs', h1, h2⟩ := Option.bind_eq_some_iff.1 hb
          obtain ⟨s, X, x, T, t, L, l, rfl, hn, hr⟩ := (ih m' (by omega)).2 _ _ h2
          obtain ⟨_, _, hcell⟩ := World.cells?_some h1
          have hs : a.spot = none := hspot (by omega)
          refine ⟨⟨s, (X, x), (T, t), (L, l)⟩, hs, fun j u hj => ?_, hn, hr⟩
          have hj4 : j < 8 := (List.getElem?_eq_some_iff.1 hj).1
          have := (hcell j hj4).trans hj
          rw [add_add] at this
          obtain ⟨ab, ao, sx⟩ := a
          simp only at hs
          subst hs
          have e2 : (⟨ab, ao, none⟩ : Addr).add (i * 8 + j) = ⟨ab, ao + i * 8 + j, none⟩ := by
            unfold Addr.add; split <;> simp_all [Nat.add_assoc]
          rw [e2] at this
          exact this
        obtain ⟨f, hf⟩ := choose_lt one
        refine ⟨(List.range len).map fun i => (f i).1, some a, cap, by simp [hc], by simp; omega,
          ⟨_, _, a.block, a.off, fun i => (f i).2.1.1, fun i => (f i).2.2.1.1, fun i => (f i).2.2.2.1, fun i => (f i).2.1.2, fun i => (f i).2.2.1.2, fun i => (f i).2.2.2.2, fun h0 => ?_, fun i hi => ?_, fun i hi => ?_, fun i hi => ?_, fun i hi => ?_, fun i hi => ?_⟩⟩
        · have h0' : 0 < len := by simpa using h0
          have := (hf 0 h0').1
          obtain ⟨ab, ao, sx⟩ := a
          simp only at this
          subst this
          exact ⟨rfl, trivial⟩
        · have hi' : i < len := by simpa using hi
          simpa using (hf i hi').2.1
        · have hi' : i < len := by simpa using hi
          simpa using (hf i hi').2.2.1
        · have hi' : i < len := by simpa using hi
          simpa using (hf i hi').2.2.2.1
        · have hi' : i < len := by simpa using hi
          simpa using (hf i hi').2.2.2.2.1
        · have hi' : i < len := by simpa using hi
          simpa using (hf i hi').2.2.2.2.2
    · obtain ⟨xs, m', hm, _, hl, hlen, hg⟩ := DataW.trod_struct Tryd.underlying71 h
      have hl4 : cs.length = 8 := hl.trans tcS
      match cs, hl4 with
      | [c0, c1, c2, c3, c4, c5, c6, c7], _ =>
        match xs, hlen with
        | [z0, z1, z2, z3, z4], _ =>
          have g0 : DataW.trod enc Tryd.prog W base sp hd m' 9 (([c0, c1, c2, c3, c4, c5, c6, c7].drop 0).take (Tryd.prog.cellsOf 9)) = some z0 := hg 0 _ rfl
          rw [tcStr, show ([c0, c1, c2, c3, c4, c5, c6, c7].drop 0).take 1 = [c0] from rfl] at g0
          have g1 : DataW.trod enc Tryd.prog W base sp hd m' 9 (([c0, c1, c2, c3, c4, c5, c6, c7].drop 1).take (Tryd.prog.cellsOf 9)) = some z1 := hg 1 _ rfl
          rw [tcStr, show ([c0, c1, c2, c3, c4, c5, c6, c7].drop 1).take 1 = [c1] from rfl] at g1
          have g2 : DataW.trod enc Tryd.prog W base sp hd m' 69 (([c0, c1, c2, c3, c4, c5, c6, c7].drop 2).take (Tryd.prog.cellsOf 69)) = some z2 := hg 2 _ rfl
          rw [tcE, show ([c0, c1, c2, c3, c4, c5, c6, c7].drop 2).take 4 = [c2, c3, c4, c5] from rfl] at g2
          have g3 : DataW.trod enc Tryd.prog W base sp hd m' 38 (([c0, c1, c2, c3, c4, c5, c6, c7].drop 6).take (Tryd.prog.cellsOf 38)) = some z3 := hg 3 _ rfl
          rw [tcSs, show ([c0, c1, c2, c3, c4, c5, c6, c7].drop 6).take 1 = [c6] from rfl] at g3
          have g4 : DataW.trod enc Tryd.prog W base sp hd m' 38 (([c0, c1, c2, c3, c4, c5, c6, c7].drop 7).take (Tryd.prog.cellsOf 38)) = some z4 := hg 4 _ rfl
          rw [tcSs, show ([c0, c1, c2, c3, c4, c5, c6, c7].drop 7).take 1 = [c7] from rfl] at g4
          obtain ⟨s, e0, _, _⟩ := DataW.trod_string Tryd.underlying9 g0
          obtain ⟨s1, e1, _, _⟩ := DataW.trod_string Tryd.underlying9 g1
          obtain ⟨e, X, x, e2, hn, hrx⟩ := (opened m').2 _ _ g2
          obtain ⟨th, T, t, e3, _, hrt⟩ := (ih m' (by omega)).1 _ _ g3
          obtain ⟨el, L, l, e4, _, hrl⟩ := (ih m' (by omega)).1 _ _ g4
          simp only [exprL, List.cons.injEq, and_true] at e0 e1 e2
          obtain ⟨q0, q1, q2, q3⟩ := e2
          subst e0; subst e1; subst q0; subst q1; subst q2; subst q3; subst e3; subst e4
          exact ⟨⟨s.toList, s1.toList, e, th, el⟩, X, x, T, t, L, l, by simp [stmtL, bytes_idL], hn, hrx, hrt, hrl⟩
set_option maxRecDepth 100000 in
theorem openedT {n : Nat} {v : Value} {x : DataW H × List MemPlace} (h : DataW.trod enc Tryd.prog W base sp hd n 37 [v] = some x) :
    ∃ xs A c, v = .slice A xs.length c ∧ xs.length ≤ maxLen ∧ RdT W (fun _ => True) xs A := by
  rcases DataW.trod_slice Tryd.underlying37 h with ⟨hc, _⟩ | ⟨a, len, cap, elems, rest, m, hm, hc, _, _, hlc, hcm, hel, hall, _⟩
  · simp only [List.cons.injEq, and_true] at hc
    exact ⟨[], none, 0, hc, by simp, fun i hi => by simp at hi⟩
  · simp only [List.cons.injEq, and_true] at hc
    rw [tcStr] at hall
    have hspot : 0 < len → a.spot = none := fun h0 => by
      have hb := hall 0 h0
      rw [List.getElem?_eq_getElem (by omega)] at hb
      obtain ⟨cs', h1, _⟩ := Option.bind_eq_some_iff.1 hb
      exact spot_none (n := 1) (by omega) h1
    have one : ∀ i, i < len → ∃ y : List UInt8, a.spot = none ∧ W.cell? ⟨a.block, a.off + i, none⟩ = some (.string (mkB y)) := fun i hi => by
      have hb := hall i hi
      rw [List.getElem?_eq_getElem (by omega)] at hb
      obtain ⟨cs', h1, h2⟩ := Option.bind_eq_some_iff.1 hb
      obtain ⟨s, rfl, _, _⟩ := DataW.trod_string Tryd.underlying9 h2
      obtain ⟨_, _, hcell⟩ := World.cells?_some h1
      have h0 := (hcell 0 (by omega)).trans (rfl : [Value.string s][0]? = some (.string s))
      rw [add_add] at h0
      have hs : a.spot = none := hspot (by omega)
      obtain ⟨ab, ao, sx⟩ := a
      simp only at hs
      subst hs
      refine ⟨s.toList, rfl, ?_⟩
      have e2 : (⟨ab, ao, none⟩ : Addr).add (i * 1 + 0) = ⟨ab, ao + i, none⟩ := by
        unfold Addr.add; split <;> simp_all
      rw [e2] at h0
      rw [bytes_idL]
      exact h0
    obtain ⟨f, hf⟩ := choose_lt one
    refine ⟨(List.range len).map f, some a, cap, by simp [hc], by simp; omega, fun i hi => ?_⟩
    have hi' : i < len := by simpa using hi
    obtain ⟨hs, hcell⟩ := hf i hi'
    obtain ⟨ab, ao, sx⟩ := a
    simp only at hs
    subst hs
    exact ⟨ab, ao, rfl, trivial, by simpa using hcell⟩
set_option maxRecDepth 100000 in
theorem openedF {n : Nat} {v : Value} {x : DataW H × List MemPlace} (h : DataW.trod enc Tryd.prog W base sp hd n 22 [v] = some x) :
    ∃ fs A c, v = .slice A fs.length c ∧ fs.length ≤ maxLen ∧ RdF W (fun _ => True) fs A := by
  rcases DataW.trod_slice Tryd.underlying22 h with ⟨hc, _⟩ | ⟨a, len, cap, elems, rest, m, hm, hc, _, _, hlc, hcm, hel, hall, _⟩
  · simp only [List.cons.injEq, and_true] at hc
    exact ⟨[], none, 0, hc, by simp, fun i hi => by simp at hi⟩
  · simp only [List.cons.injEq, and_true] at hc
    rw [tcF] at hall
    have hspot : 0 < len → a.spot = none := fun h0 => by
      have hb := hall 0 h0
      rw [List.getElem?_eq_getElem (by omega)] at hb
      obtain ⟨cs', h1, _⟩ := Option.bind_eq_some_iff.1 hb
      exact spot_none (n := 3) (by omega) h1
    have one : ∀ i, i < len → ∃ f : PFun, ∃ P p B c, a.spot = none ∧ CellsAt W a.block (a.off + i * 3) (funL f P p B c) ∧ RdT W (fun _ => True) f.params P ∧ RdS W (fun _ => True) f.body B := fun i hi => by
      have hb := hall i hi
      rw [List.getElem?_eq_getElem (by omega)] at hb
      obtain ⟨cs', h1, h2⟩ := Option.bind_eq_some_iff.1 hb
      obtain ⟨xs, m', hm', _, hl, hlen, hg⟩ := DataW.trod_struct Tryd.underlying40 h2
      obtain ⟨_, _, hcell⟩ := World.cells?_some h1
      have hl4 : cs'.length = 3 := hl.trans tcF
      match cs', hl4 with
      | [c0, c1, c2], _ =>
        match xs, hlen with
        | [z0, z1, z2], _ =>
          have g0 : DataW.trod enc Tryd.prog W base sp hd m' 9 (([c0, c1, c2].drop 0).take (Tryd.prog.cellsOf 9)) = some z0 := hg 0 _ rfl
          rw [tcStr, show ([c0, c1, c2].drop 0).take 1 = [c0] from rfl] at g0
          have g1 : DataW.trod enc Tryd.prog W base sp hd m' 37 (([c0, c1, c2].drop 1).take (Tryd.prog.cellsOf 37)) = some z1 := hg 1 _ rfl
          rw [tcTs, show ([c0, c1, c2].drop 1).take 1 = [c1] from rfl] at g1
          have g2 : DataW.trod enc Tryd.prog W base sp hd m' 38 (([c0, c1, c2].drop 2).take (Tryd.prog.cellsOf 38)) = some z2 := hg 2 _ rfl
          rw [tcSs, show ([c0, c1, c2].drop 2).take 1 = [c2] from rfl] at g2
          obtain ⟨s, e0, _, _⟩ := DataW.trod_string Tryd.underlying9 g0
          obtain ⟨ps, P, p, e1, _, hp⟩ := openedT g1
          obtain ⟨ss, B, c, e2, _, hs⟩ := (openedS m' m' (Nat.le_refl _)).1 _ _ g2
          simp only [List.cons.injEq, and_true] at e0
          subst e0; subst e1; subst e2
          have hspot : a.spot = none := hspot (by omega)
          refine ⟨⟨s.toList, ps, ss⟩, P, p, B, c, hspot, fun j u hj => ?_, hp, hs⟩
          have hj4 : j < 3 := (List.getElem?_eq_some_iff.1 hj).1
          have hj' : [Value.string s, .slice P ps.length p, .slice B ss.length c][j]? = some u := by
            simpa [funL, bytes_idL] using hj
          have := (hcell j hj4).trans hj'
          rw [add_add] at this
          obtain ⟨ab, ao, sx⟩ := a
          simp only at hspot
          subst hspot
          have e2 : (⟨ab, ao, none⟩ : Addr).add (i * 3 + j) = ⟨ab, ao + i * 3 + j, none⟩ := by
            unfold Addr.add; split <;> simp_all [Nat.add_assoc]
          rw [e2] at this
          exact this
    obtain ⟨f, hf⟩ := choose_lt one
    refine ⟨(List.range len).map f, some a, cap, by simp [hc], by simp; omega, fun i hi => ?_⟩
    have hi' : i < len := by simpa using hi
    obtain ⟨P, p, B, c, hs, hcell, hp, hb⟩ := hf i hi'
    obtain ⟨ab, ao, sx⟩ := a
    simp only at hs
    subst hs
    exact ⟨ab, ao, P, p, B, c, rfl, trivial, by simpa using hcell, by simpa using hp, by simpa using hb⟩
set_option maxRecDepth 100000 in
/-- The argument: functions. -/
theorem open_funs {v : Value} {d : DataW H} {p : List MemPlace} {r : Reach} {b0 : Nat} (hv : Value.okWide Tryd.prog W r b0 22 v) (h : DataW.Trod enc Tryd.prog W base sp hd 22 v d p) :
    ∃ fs A c, v = .slice A fs.length c ∧ fs.length ≤ maxLen ∧ RdF W (fun _ => True) fs A := by
  obtain ⟨fuel, hf⟩ := h
  obtain ⟨a, l, c, rfl⟩ := okWide_slice Tryd.underlying22 hv
  exact openedF hf
theorem cap_funs {A : Option Addr} {l c : Nat} {d : DataW H} {p : List MemPlace} (h : DataW.Trod enc Tryd.prog W base sp hd 22 (.slice A l c) d p) : l ≤ c := by
  obtain ⟨fuel, hf⟩ := h
  rcases DataW.trod_slice Tryd.underlying22 hf with ⟨hc, _⟩ | ⟨a, len, cap, elems, rest, m, hm, hc, _, _, hlc, hcm, hel, hall, _⟩
  · rw [show (Value.slice A l c).cells.toList = [Value.slice A l c] from rfl] at hc
    simp only [List.cons.injEq, and_true, Value.slice.injEq] at hc
    omega
  · rw [show (Value.slice A l c).cells.toList = [Value.slice A l c] from rfl] at hc
    simp only [List.cons.injEq, and_true, Value.slice.injEq] at hc
    omega
end
end Go.Proofs.YteifmgcbafemeaaDoor

namespace Go.Proofs.YteifmgcbafemeaaDoor
open Go.ChangeShapes Go.WideShapes Go.ChangeAt Go.RowKit Go.Joins Go.Deep

section
variable {H : Type} {enc : TypeId × Value → H} {W : World} {base : Nat} {sp : Nat → Bool} {hd : Bool}
set_option maxRecDepth 100000 in
/-- The argument: numbers. -/
theorem open_nums {v : Value} {d : DataW H} {p : List MemPlace} {r : Reach} {b0 : Nat} (hv : Value.okWide Tryd.prog W r b0 23 v) (h : DataW.Trod enc Tryd.prog W base sp hd 23 v d p) :
    ∃ xs A c, v = .slice A xs.length c ∧ xs.length ≤ maxLen ∧ Row W A (intVs xs) := by
  obtain ⟨fuel, hf⟩ := h
  obtain ⟨a0, l0, c0, rfl⟩ := okWide_slice Tryd.underlying23 hv
  rw [show (Value.slice a0 l0 c0).cells.toList = [Value.slice a0 l0 c0] from rfl] at hf
  rcases open_ints Tryd.underlying23 Tryd.underlying3 tcInt hf with ⟨hc, _⟩ | ⟨a, len, cap, zs, hc, _, hlc, hcm, hz, _, hcell, _⟩
  · simp only [List.cons.injEq, and_true] at hc
    exact ⟨[], none, 0, hc, by simp, Row.nil _ _⟩
  · simp only [List.cons.injEq, and_true] at hc
    have hle : len ≤ zs.length := by rw [hz]; split <;> omega
    refine ⟨zs.take len, some a, cap, by rw [hc, List.length_take, Nat.min_eq_left hle], by rw [List.length_take]; omega, fun j u hj => ?_⟩
    have hjl : j < len := by
      have := (List.getElem?_eq_some_iff.1 hj).1
      simp [intVs] at this
      omega
    have hg := hcell j (by omega)
    have hs := World.cell?_spot (hcell 0 (by omega))
    obtain ⟨ab, ao, asp⟩ := a
    have hs' : asp = none := by simpa [Addr.add] using hs
    subst hs'
    refine ⟨ab, ao, rfl, ?_⟩
    have e2 : (⟨ab, ao, none⟩ : Addr).add j = ⟨ab, ao + j, none⟩ := by unfold Addr.add; split <;> simp_all
    rw [e2] at hg
    rw [hg]
    unfold intVs at hj
    rw [List.getElem?_map, List.getElem?_take, if_pos hjl] at hj
    rw [List.getD_eq_getElem?_getD]
    cases hq : zs[j]? with
    | none => rw [hq] at hj; cases hj
    | some z => rw [hq] at hj; simpa using hj
end
end Go.Proofs.YteifmgcbafemeaaDoor
