import Derived.Lib.SmallJoins
import Derived.Lib.Strings
import Derived.Test.YtnpdjncgilekhaaGreatDoorBn18
namespace Go.Proofs.YtnpdjncgilekhaaGreatDoor
open Go.ChangeShapes Go.WideShapes Go.ChangeAt Go.RowKit Go.Joins Go.Deep

theorem tcStr : Tryz.prog.cellsOf 9 = 1 := by kernel_rfl
theorem tcInt : Tryz.prog.cellsOf 3 = 1 := by kernel_rfl
theorem tcEs : Tryz.prog.cellsOf 93 = 1 := by kernel_rfl
theorem tcSs : Tryz.prog.cellsOf 41 = 1 := by kernel_rfl
theorem tcTs : Tryz.prog.cellsOf 35 = 1 := by kernel_rfl
theorem tcE : Tryz.prog.cellsOf 95 = 4 := by kernel_rfl
theorem tcS : Tryz.prog.cellsOf 97 = 8 := by kernel_rfl
theorem tcF : Tryz.prog.cellsOf 43 = 3 := by kernel_rfl
theorem bytes_idL (s : ByteArray) : mkB s.toList = s := by
  rw [Lib.toList_data]; cases s; rfl
theorem okN_wf {n : Int} (h : (Lit.int .i64 n).wf = true) : okN n := by
  simp [Lit.wf, IntKind.min, IntKind.max, IntKind.signed, IntKind.bits] at h
  unfold okN; omega
section
theorem spot_none {W : World} {base n : Nat} {a : Addr} {cs : List Value} (hn : 0 < n) (h : W.cells? base (a.add (0 * n)) n = some cs) : a.spot = none := by
  obtain ⟨_, hl, hcell⟩ := World.cells?_some h
  have h0 := hcell 0 hn
  rw [List.getElem?_eq_getElem (by omega)] at h0
  have := World.cell?_spot h0
  simpa [Addr.add] using this
variable {H : Type} {enc : TypeId × Value → H} {W : World} {base : Nat} {sp : Nat → Bool} {hd : Bool}
set_option maxRecDepth 100000 in
theorem opened (n : Nat) :
    (∀ (v : Value) (x : DataW H × List MemPlace), DataW.trod enc Tryz.prog W base sp hd n 93 [v] = some x → ∃ ks A c, v = .slice A ks.length c ∧ ks.length ≤ maxLen ∧ RdE W (fun _ => True) ks A) ∧
    (∀ (cs : List Value) (x : DataW H × List MemPlace), DataW.trod enc Tryz.prog W base sp hd n 95 cs = some x → ∃ e A c, cs = exprL e A c ∧ okN e.num ∧ RdE W (fun _ => True) e.kids A) := by
  induction n with
  | zero => exact ⟨fun v x h => by simp [DataW.trod] at h, fun v x h => by simp [DataW.trod] at h⟩
  | succ n ih =>
    refine ⟨fun v x h => ?_, fun cs x h => ?_⟩
    · rcases DataW.trod_slice Tryz.underlying93 h with ⟨hc, _⟩ | ⟨a, len, cap, elems, rest, m, hm, hc, _, _, hlc, hcm, hel, hall, _⟩
      · simp only [List.cons.injEq, and_true] at hc
        exact ⟨[], none, 0, hc, by simp, RdE.nil _ _ _⟩
      · obtain rfl : m = n := by omega
        simp only [List.cons.injEq, and_true] at hc
        rw [tcE] at hall
        have hspot : 0 < len → a.spot = none := fun h0 => by
          have hb := hall 0 h0
          rw [List.getElem?_eq_getElem (by omega)] at hb
          obtain ⟨cs', h1, _⟩ := Option.bind_eq_some_iff.1 hb
          exact spot_none (n := 4) (by omega) h1
        have one : ∀ i, i < len → ∃ y : PExpr × Option Addr × Nat, a.spot = none ∧ CellsAt W a.block (a.off + i * 4) (exprL y.1 y.2.1 y.2.2) ∧ okN y.1.num ∧ RdE W (fun _ => True) y.1.kids y.2.1 := fun i hi => by
          have hb := hall i hi
          rw [List.getElem?_eq_getElem (by omega)] at hb
          obtain ⟨cs', h1, h2⟩ := Option.bind_eq_some_iff.1 hb
          obtain ⟨e, A, c, rfl, hn, hr⟩ := ih.2 _ _ h2
          obtain ⟨_, _, hcell⟩ := World.cells?_some h1
          have hs : a.spot = none := hspot (by omega)
          refine ⟨⟨e, A, c⟩, hs, fun j u hj => ?_, hn, hr⟩
          have hj4 : j < 4 := (List.getElem?_eq_some_iff.1 hj).1
          have := (hcell j hj4).trans hj
          rw [add_add] at this
          obtain ⟨ab, ao, sx⟩ := a
          simp only at hs
          subst hs
          have e2 : (⟨ab, ao, none⟩ : Addr).add (i * 4 + j) = ⟨ab, ao + i * 4 + j, none⟩ := by
            unfold Addr.add; split <;> simp_all [Nat.add_assoc]
          rw [e2] at this
          exact this
        obtain ⟨f, hf⟩ := choose_lt one
        refine ⟨(List.range len).map fun i => (f i).1, some a, cap, by simp [hc], by simp; omega, ⟨_, _, a.block, a.off, fun i => (f i).2.1, fun i => (f i).2.2, fun h0 => ?_, fun i hi => ?_, fun i hi => ?_, fun i hi => ?_⟩⟩
        · have h0' : 0 < len := by simpa using h0
          have := (hf 0 h0').1
          obtain ⟨ab, ao, sx⟩ := a
          simp only at this
          subst this
          exact ⟨rfl, trivial⟩
        · have hi' : i < len := by simpa using hi
          simpa using (hf i hi').2.1
        · have hi' : i < len := by simpa using hi
          simpa using (hf i hi').2.2.1
        · have hi' : i < len := by simpa using hi
          simpa using (hf i hi').2.2.2
    · obtain ⟨xs, m, hm, _, hl, hlen, hg⟩ := DataW.trod_struct Tryz.underlying95 h
      obtain rfl : m = n := by omega
      have hl4 : cs.length = 4 := hl.trans tcE
      match cs, hl4 with
      | [c0, c1, c2, c3], _ =>
        match xs, hlen with
        | [z0, z1, z2, z3], _ =>
          have g0 : DataW.trod enc Tryz.prog W base sp hd m 9 (([c0, c1, c2, c3].drop 0).take (Tryz.prog.cellsOf 9)) = some z0 := hg 0 _ rfl
          rw [tcStr, show ([c0, c1, c2, c3].drop 0).take 1 = [c0] from rfl] at g0
          have g1 : DataW.trod enc Tryz.prog W base sp hd m 3 (([c0, c1, c2, c3].drop 1).take (Tryz.prog.cellsOf 3)) = some z1 := hg 1 _ rfl
          rw [tcInt, show ([c0, c1, c2, c3].drop 1).take 1 = [c1] from rfl] at g1
          have g2 : DataW.trod enc Tryz.prog W base sp hd m 9 (([c0, c1, c2, c3].drop 2).take (Tryz.prog.cellsOf 9)) = some z2 := hg 2 _ rfl
          rw [tcStr, show ([c0, c1, c2, c3].drop 2).take 1 = [c2] from rfl] at g2
          have g3 : DataW.trod enc Tryz.prog W base sp hd m 93 (([c0, c1, c2, c3].drop 3).take (Tryz.prog.cellsOf 93)) = some z3 := hg 3 _ rfl
          rw [tcEs, show ([c0, c1, c2, c3].drop 3).take 1 = [c3] from rfl] at g3
          obtain ⟨s, e0, _, _⟩ := DataW.trod_string Tryz.underlying9 g0
          obtain ⟨k, e1, _, w1⟩ := DataW.trod_int Tryz.underlying3 g1
          obtain ⟨s2, e2, _, _⟩ := DataW.trod_string Tryz.underlying9 g2
          obtain ⟨ks, A, c, e3, _, hr⟩ := ih.1 _ _ g3
          simp only [List.cons.injEq, and_true] at e0 e1 e2
          subst e0; subst e1; subst e2; subst e3
          exact ⟨⟨s.toList, k, s2.toList, ks⟩, A, c, by simp [exprL, bytes_idL], okN_wf w1, hr⟩
set_option maxRecDepth 100000 in
theorem openedS (n : Nat) : ∀ m, m ≤ n →
    (∀ (v : Value) (x : DataW H × List MemPlace), DataW.trod enc Tryz.prog W base sp hd m 41 [v] = some x → ∃ ss A c, v = .slice A ss.length c ∧ ss.length ≤ maxLen ∧ RdS W (fun _ => True) ss A) ∧
    (∀ (cs : List Value) (x : DataW H × List MemPlace), DataW.trod enc Tryz.prog W base sp hd m 97 cs = some x → ∃ s X x T t L l, cs = stmtL s X x T t L l ∧ okN s.e.num ∧ RdE W (fun _ => True) s.e.kids X ∧ RdS W (fun _ => True) s.th T ∧ RdS W (fun _ => True) s.el L) := by
  induction n with
  | zero => intro m hm; obtain rfl : m = 0 := by omega
            exact ⟨fun v x h => by simp [DataW.trod] at h, fun v x h => by simp [DataW.trod] at h⟩
  | succ n ih =>
    intro m hmn
    refine ⟨fun v x h => ?_, fun cs x h => ?_⟩
    · rcases DataW.trod_slice Tryz.underlying41 h with ⟨hc, _⟩ | ⟨a, len, cap, elems, rest, m', hm, hc, _, _, hlc, hcm, hel, hall, _⟩
      · simp only [List.cons.injEq, and_true] at hc
        exact ⟨[], none, 0, hc, by simp, RdS.nil _ _ _⟩
      · simp only [List.cons.injEq, and_true] at hc
        rw [tcS] at hall
        have hspot : 0 < len → a.spot = none := fun h0 => by
          have hb := hall 0 h0
          rw [List.getElem?_eq_getElem (by omega)] at hb
          obtain ⟨cs', h1, _⟩ := Option.bind_eq_some_iff.1 hb
          exact spot_none (n := 8) (by omega) h1
        have one : ∀ i, i < len → ∃ y : PStmt × (Option Addr × Nat) × (Option Addr × Nat) × (Option Addr × Nat), a.spot = none ∧ CellsAt W a.block (a.off + i * 8) (stmtL y.1 y.2.1.1 y.2.1.2 y.2.2.1.1 y.2.2.1.2 y.2.2.2.1 y.2.2.2.2) ∧ okN y.1.e.num ∧
            RdE W (fun _ => True) y.1.e.kids y.2.1.1 ∧ RdS W (fun _ => True) y.1.th y.2.2.1.1 ∧ RdS W (fun _ => True) y.1.el y.2.2.2.1 := fun i hi => by
          have hb := hall i hi
          rw [List.getElem?_eq_getElem (by omega)] at hb
          obtain ⟨cs', h1, h2⟩ := Option.bind_eq_some_iff.1 hb
          obtain ⟨s, X, x, T, t, L, l, rfl, hn, hr⟩ := (ih m' (by omega)).2 _ _ h2
          obtain ⟨_, _, hcell⟩ := World.cells?_some h1
          have hs : a.spot = none := hspot (by omega)
          refine ⟨⟨s, (X, x), (T, t), (L, l)⟩, hs, fun j u hj => ?_, hn, hr⟩
          have hj4 : j < 8 := (List.getElem?_eq_some_iff.1 hj).1
          have := (hcell j hj4).trans hj
          rw [add_add] at this
          obtain ⟨ab, ao, sx⟩ := a
          simp only at hs
          subst hs
          have e2 : (⟨ab, ao, none⟩ : Addr).add (i * 8 + j) = ⟨ab, ao + i * 8 + j, none⟩ := by
            unfold Addr.add; split <;> simp_all [Nat.add_assoc]
          rw [e2] at this
          exact this
        obtain ⟨f, hf⟩ := choose_lt one
        refine ⟨(List.range len).map fun i => (f i).1, some a, cap, by simp [hc], by simp; omega,
          ⟨_, _, a.block, a.off, fun i => (f i).2.1.1, fun i => (f i).2.2.1.1, fun i => (f i).2.2.2.1, fun i => (f i).2.1.2, fun i => (f i).2.2.1.2, fun i => (f i).2.2.2.2, fun h0 => ?_, fun i hi => ?_, fun i hi => ?_, fun i hi => ?_, fun i hi => ?_, fun i hi => ?_⟩⟩
        · have h0' : 0 < len := by simpa using h0
          have := (hf 0 h0').1
          obtain ⟨ab, ao, sx⟩ := a
          simp only at this
          subst this
          exact ⟨rfl, trivial⟩
        · have hi' : i < len := by simpa using hi
          simpa using (hf i hi').2.1
        · have hi' : i < len := by simpa using hi
          simpa using (hf i hi').2.2.1
        · have hi' : i < len := by simpa using hi
          simpa using (hf i hi').2.2.2.1
        · have hi' : i < len := by simpa using hi
          simpa using (hf i hi').2.2.2.2.1
        · have hi' : i < len := by simpa using hi
          simpa using (hf i hi').2.2.2.2.2
    · obtain ⟨xs, m', hm, _, hl, hlen, hg⟩ := DataW.trod_struct Tryz.underlying97 h
      have hl4 : cs.length = 8 := hl.trans tcS
      match cs, hl4 with
      | [c0, c1, c2, c3, c4, c5, c6, c7], _ =>
        match xs, hlen with
        | [z0, z1, z2, z3, z4], _ =>
          have g0 : DataW.trod enc Tryz.prog W base sp hd m' 9 (([c0, c1, c2, c3, c4, c5, c6, c7].drop 0).take (Tryz.prog.cellsOf 9)) = some z0 := hg 0 _ rfl
          rw [tcStr, show ([c0, c1, c2, c3, c4, c5, c6, c7].drop 0).take 1 = [c0] from rfl] at g0
          have g1 : DataW.trod enc Tryz.prog W base sp hd m' 9 (([c0, c1, c2, c3, c4, c5, c6, c7].drop 1).take (Tryz.prog.cellsOf 9)) = some z1 := hg 1 _ rfl
          rw [tcStr, show ([c0, c1, c2, c3, c4, c5, c6, c7].drop 1).take 1 = [c1] from rfl] at g1
          have g2 : DataW.trod enc Tryz.prog W base sp hd m' 95 (([c0, c1, c2, c3, c4, c5, c6, c7].drop 2).take (Tryz.prog.cellsOf 95)) = some z2 := hg 2 _ rfl
          rw [tcE, show ([c0, c1, c2, c3, c4, c5, c6, c7].drop 2).take 4 = [c2, c3, c4, c5] from rfl] at g2
          have g3 : DataW.trod enc Tryz.prog W base sp hd m' 41 (([c0, c1, c2, c3, c4, c5, c6, c7].drop 6).take (Tryz.prog.cellsOf 41)) = some z3 := hg 3 _ rfl
          rw [tcSs, show ([c0, c1, c2, c3, c4, c5, c6, c7].drop 6).take 1 = [c6] from rfl] at g3
          have g4 : DataW.trod enc Tryz.prog W base sp hd m' 41 (([c0, c1, c2, c3, c4, c5, c6, c7].drop 7).take (Tryz.prog.cellsOf 41)) = some z4 := hg 4 _ rfl
          rw [tcSs, show ([c0, c1, c2, c3, c4, c5, c6, c7].drop 7).take 1 = [c7] from rfl] at g4
          obtain ⟨s, e0, _, _⟩ := DataW.trod_string Tryz.underlying9 g0
          obtain ⟨s1, e1, _, _⟩ := DataW.trod_string Tryz.underlying9 g1
          obtain ⟨e, X, x, e2, hn, hrx⟩ := (opened m').2 _ _ g2
          obtain ⟨th, T, t, e3, _, hrt⟩ := (ih m' (by omega)).1 _ _ g3
          obtain ⟨el, L, l, e4, _, hrl⟩ := (ih m' (by omega)).1 _ _ g4
          simp only [exprL, List.cons.injEq, and_true] at e0 e1 e2
          obtain ⟨q0, q1, q2, q3⟩ := e2
          subst e0; subst e1; subst q0; subst q1; subst q2; subst q3; subst e3; subst e4
          exact ⟨⟨s.toList, s1.toList, e, th, el⟩, X, x, T, t, L, l, by simp [stmtL, bytes_idL], hn, hrx, hrt, hrl⟩
set_option maxRecDepth 100000 in
theorem openedT {n : Nat} {v : Value} {x : DataW H × List MemPlace} (h : DataW.trod enc Tryz.prog W base sp hd n 35 [v] = some x) :
    ∃ xs A c, v = .slice A xs.length c ∧ xs.length ≤ maxLen ∧ RdT W (fun _ => True) xs A := by
  rcases DataW.trod_slice Tryz.underlying35 h with ⟨hc, _⟩ | ⟨a, len, cap, elems, rest, m, hm, hc, _, _, hlc, hcm, hel, hall, _⟩
  · simp only [List.cons.injEq, and_true] at hc
    exact ⟨[], none, 0, hc, by simp, fun i hi => by simp at hi⟩
  · simp only [List.cons.injEq, and_true] at hc
    rw [tcStr] at hall
    have hspot : 0 < len → a.spot = none := fun h0 => by
      have hb := hall 0 h0
      rw [List.getElem?_eq_getElem (by omega)] at hb
      obtain ⟨cs', h1, _⟩ := Option.bind_eq_some_iff.1 hb
      exact spot_none (n := 1) (by omega) h1
    have one : ∀ i, i < len → ∃ y : List UInt8, a.spot = none ∧ W.cell? ⟨a.block, a.off + i, none⟩ = some (.string (mkB y)) := fun i hi => by
      have hb := hall i hi
      rw [List.getElem?_eq_getElem (by omega)] at hb
      obtain ⟨cs', h1, h2⟩ := Option.bind_eq_some_iff.1 hb
      obtain ⟨s, rfl, _, _⟩ := DataW.trod_string Tryz.underlying9 h2
      obtain ⟨_, _, hcell⟩ := World.cells?_some h1
      have h0 := (hcell 0 (by omega)).trans (rfl : [Value.string s][0]? = some (.string s))
      rw [add_add] at h0
      have hs : a.spot = none := hspot (by omega)
      obtain ⟨ab, ao, sx⟩ := a
      simp only at hs
      subst hs
      refine ⟨s.toList, rfl, ?_⟩
      have e2 : (⟨ab, ao, none⟩ : Addr).add (i * 1 + 0) = ⟨ab, ao + i, none⟩ := by
        unfold Addr.add; split <;> simp_all
      rw [e2] at h0
      rw [bytes_idL]
      exact h0
    obtain ⟨f, hf⟩ := choose_lt one
    refine ⟨(List.range len).map f, some a, cap, by simp [hc], by simp; omega, fun i hi => ?_⟩
    have hi' : i < len := by simpa using hi
    obtain ⟨hs, hcell⟩ := hf i hi'
    obtain ⟨ab, ao, sx⟩ := a
    simp only at hs
    subst hs
    exact ⟨ab, ao, rfl, trivial, by simpa using hcell⟩
set_option maxRecDepth 100000 in
theorem openedF {n : Nat} {v : Value} {x : DataW H × List MemPlace} (h : DataW.trod enc Tryz.prog W base sp hd n 22 [v] = some x) :
    ∃ fs A c, v = .slice A fs.length c ∧ fs.length ≤ maxLen ∧ RdF W (fun _ => True) fs A := by
  rcases DataW.trod_slice Tryz.underlying22 h with ⟨hc, _⟩ | ⟨a, len, cap, elems, rest, m, hm, hc, _, _, hlc, hcm, hel, hall, _⟩
  · simp only [List.cons.injEq, and_true] at hc
    exact ⟨[], none, 0, hc, by simp, fun i hi => by simp at hi⟩
  · simp only [List.cons.injEq, and_true] at hc
    rw [tcF] at hall
    have hspot : 0 < len → a.spot = none := fun h0 => by
      have hb := hall 0 h0
      rw [List.getElem?_eq_getElem (by omega)] at hb
      obtain ⟨cs', h1, _⟩ := Option.bind_eq_some_iff.1 hb
      exact spot_none (n := 3) (by omega) h1
    have one : ∀ i, i < len → ∃ f : PFun, ∃ P p B c, a.spot = none ∧ CellsAt W a.block (a.off + i * 3) (funL f P p B c) ∧ RdT W (fun _ => True) f.params P ∧ RdS W (fun _ => True) f.body B := fun i hi => by
      have hb := hall i hi
      rw [List.getElem?_eq_getElem (by omega)] at hb
      obtain ⟨cs', h1, h2⟩ := Option.bind_eq_some_iff.1 hb
      obtain ⟨xs, m', hm', _, hl, hlen, hg⟩ := DataW.trod_struct Tryz.underlying43 h2
      obtain ⟨_, _, hcell⟩ := World.cells?_some h1
      have hl4 : cs'.length = 3 := hl.trans tcF
      match cs', hl4 with
      | [c0, c1, c2], _ =>
        match xs, hlen with
        | [z0, z1, z2], _ =>
          have g0 : DataW.trod enc Tryz.prog W base sp hd m' 9 (([c0, c1, c2].drop 0).take (Tryz.prog.cellsOf 9)) = some z0 := hg 0 _ rfl
          rw [tcStr, show ([c0, c1, c2].drop 0).take 1 = [c0] from rfl] at g0
          have g1 : DataW.trod enc Tryz.prog W base sp hd m' 35 (([c0, c1, c2].drop 1).take (Tryz.prog.cellsOf 35)) = some z1 := hg 1 _ rfl
          rw [tcTs, show ([c0, c1, c2].drop 1).take 1 = [c1] from rfl] at g1
          have g2 : DataW.trod enc Tryz.prog W base sp hd m' 41 (([c0, c1, c2].drop 2).take (Tryz.prog.cellsOf 41)) = some z2 := hg 2 _ rfl
          rw [tcSs, show ([c0, c1, c2].drop 2).take 1 = [c2] from rfl] at g2
          obtain ⟨s, e0, _, _⟩ := DataW.trod_string Tryz.underlying9 g0
          obtain ⟨ps, P, p, e1, _, hp⟩ := openedT g1
          obtain ⟨ss, B, c, e2, _, hs⟩ := (openedS m' m' (Nat.le_refl _)).1 _ _ g2
          simp only [List.cons.injEq, and_true] at e0
          subst e0; subst e1; subst e2
          have hspot : a.spot = none := hspot (by omega)
          refine ⟨⟨s.toList, ps, ss⟩, P, p, B, c, hspot, fun j u hj => ?_, hp, hs⟩
          have hj4 : j < 3 := (List.getElem?_eq_some_iff.1 hj).1
          have hj' : [Value.string s, .slice P ps.length p, .slice B ss.length c][j]? = some u := by
            simpa [funL, bytes_idL] using hj
          have := (hcell j hj4).trans hj'
          rw [add_add] at this
          obtain ⟨ab, ao, sx⟩ := a
          simp only at hspot
          subst hspot
          have e2 : (⟨ab, ao, none⟩ : Addr).add (i * 3 + j) = ⟨ab, ao + i * 3 + j, none⟩ := by
            unfold Addr.add; split <;> simp_all [Nat.add_assoc]
          rw [e2] at this
          exact this
    obtain ⟨f, hf⟩ := choose_lt one
    refine ⟨(List.range len).map f, some a, cap, by simp [hc], by simp; omega, fun i hi => ?_⟩
    have hi' : i < len := by simpa using hi
    obtain ⟨P, p, B, c, hs, hcell, hp, hb⟩ := hf i hi'
    obtain ⟨ab, ao, sx⟩ := a
    simp only at hs
    subst hs
    exact ⟨ab, ao, P, p, B, c, rfl, trivial, by simpa using hcell, by simpa using hp, by simpa using hb⟩
set_option maxRecDepth 100000 in
/-- The argument: functions. -/
theorem open_funs {v : Value} {d : DataW H} {p : List MemPlace} {r : Reach} {b0 : Nat} (hv : Value.okWide Tryz.prog W r b0 22 v) (h : DataW.Trod enc Tryz.prog W base sp hd 22 v d p) :
    ∃ fs A c, v = .slice A fs.length c ∧ fs.length ≤ maxLen ∧ RdF W (fun _ => True) fs A := by
  obtain ⟨fuel, hf⟩ := h
  obtain ⟨a, l, c, rfl⟩ := okWide_slice Tryz.underlying22 hv
  exact openedF hf
theorem cap_funs {A : Option Addr} {l c : Nat} {d : DataW H} {p : List MemPlace} (h : DataW.Trod enc Tryz.prog W base sp hd 22 (.slice A l c) d p) : l ≤ c := by
  obtain ⟨fuel, hf⟩ := h
  rcases DataW.trod_slice Tryz.underlying22 hf with ⟨hc, _⟩ | ⟨a, len, cap, elems, rest, m, hm, hc, _, _, hlc, hcm, hel, hall, _⟩
  · rw [show (Value.slice A l c).cells.toList = [Value.slice A l c] from rfl] at hc
    simp only [List.cons.injEq, and_true, Value.slice.injEq] at hc
    omega
  · rw [show (Value.slice A l c).cells.toList = [Value.slice A l c] from rfl] at hc
    simp only [List.cons.injEq, and_true, Value.slice.injEq] at hc
    omega
end
end Go.Proofs.YtnpdjncgilekhaaGreatDoor

namespace Go.Proofs.YtnpdjncgilekhaaGreatDoor
open Go.ChangeShapes Go.WideShapes Go.ChangeAt Go.RowKit Go.Joins Go.Deep

section
variable {H : Type} {enc : TypeId × Value → H} {W : World} {base : Nat} {sp : Nat → Bool} {hd : Bool}
set_option maxRecDepth 100000 in
/-- The argument: numbers. -/
theorem open_nums {v : Value} {d : DataW H} {p : List MemPlace} {r : Reach} {b0 : Nat} (hv : Value.okWide Tryz.prog W r b0 45 v) (h : DataW.Trod enc Tryz.prog W base sp hd 45 v d p) :
    ∃ xs A c, v = .slice A xs.length c ∧ xs.length ≤ maxLen ∧ Row W A (intVs xs) := by
  obtain ⟨fuel, hf⟩ := h
  obtain ⟨a0, l0, c0, rfl⟩ := okWide_slice Tryz.underlying45 hv
  rw [show (Value.slice a0 l0 c0).cells.toList = [Value.slice a0 l0 c0] from rfl] at hf
  rcases open_ints Tryz.underlying45 Tryz.underlying3 tcInt hf with ⟨hc, _⟩ | ⟨a, len, cap, zs, hc, _, hlc, hcm, hz, _, hcell, _⟩
  · simp only [List.cons.injEq, and_true] at hc
    exact ⟨[], none, 0, hc, by simp, Row.nil _ _⟩
  · simp only [List.cons.injEq, and_true] at hc
    have hle : len ≤ zs.length := by rw [hz]; split <;> omega
    refine ⟨zs.take len, some a, cap, by rw [hc, List.length_take, Nat.min_eq_left hle], by rw [List.length_take]; omega, fun j u hj => ?_⟩
    have hjl : j < len := by
      have := (List.getElem?_eq_some_iff.1 hj).1
      simp [intVs] at this
      omega
    have hg := hcell j (by omega)
    have hs := World.cell?_spot (hcell 0 (by omega))
    obtain ⟨ab, ao, asp⟩ := a
    have hs' : asp = none := by simpa [Addr.add] using hs
    subst hs'
    refine ⟨ab, ao, rfl, ?_⟩
    have e2 : (⟨ab, ao, none⟩ : Addr).add j = ⟨ab, ao + j, none⟩ := by unfold Addr.add; split <;> simp_all
    rw [e2] at hg
    rw [hg]
    unfold intVs at hj
    rw [List.getElem?_map, List.getElem?_take, if_pos hjl] at hj
    rw [List.getD_eq_getElem?_getD]
    cases hq : zs[j]? with
    | none => rw [hq] at hj; cases hj
    | some z => rw [hq] at hj; simpa using hj
end
end Go.Proofs.YtnpdjncgilekhaaGreatDoor

namespace Go.Proofs.YtnpdjncgilekhaaGreatDoor
open Go.ChangeShapes Go.WideShapes Go.ChangeAt Go.RowKit Go.Joins Go.Deep

section
variable {H : Type} {enc : TypeId × Value → H} {W : World} {base : Nat} {sp : Nat → Bool} {hd : Bool}
/-- A row that holds something lies in the heap. -/
theorem row_there {w : World} {X : Option Addr} {l : List Int} (h : Row w X (intVs l)) (hne : l ≠ []) (a : Addr) (ha : X = some a) : a.block < w.heap.size := by
  cases l with
  | nil => exact absurd rfl hne
  | cons x xs =>
    obtain ⟨b, off, e, hc⟩ := h 0 _ rfl
    rw [ha] at e
    injection e with e
    subst e
    unfold World.cell? at hc
    cases hb : w.heap[b]? with
    | none => simp [hb] at hc
    | some o => exact (Array.getElem?_eq_some_iff.1 hb).1
set_option maxRecDepth 100000 in
/-- The argument: numbers, each within 64 bits. -/
theorem open_nums6 {v : Value} {d : DataW H} {p : List MemPlace} {r : Reach} {b0 : Nat} (hv : Value.okWide Tryz.prog W r b0 45 v) (h : DataW.Trod enc Tryz.prog W base sp hd 45 v d p) :
    ∃ xs A c, v = .slice A xs.length c ∧ xs.length ≤ maxLen ∧ Row W A (intVs xs) ∧ ∀ n ∈ xs, I64 n := by
  obtain ⟨xs, A, c, hv', hm, hr⟩ := open_nums hv h
  refine ⟨xs, A, c, hv', hm, hr, ?_⟩
  obtain ⟨fuel, hf⟩ := h
  subst hv'
  rw [show (Value.slice A xs.length c).cells.toList = [Value.slice A xs.length c] from rfl] at hf
  rcases open_ints Tryz.underlying45 Tryz.underlying3 tcInt hf with ⟨hc, _⟩ | ⟨a, len, cap, zs, hc, _, hlc, hcm, hz, _, hcell, hwf⟩
  · simp only [List.cons.injEq, and_true, Value.slice.injEq] at hc
    have : xs = [] := List.length_eq_zero_iff.1 hc.2.1
    subst this
    intro n hn; cases hn
  · simp only [List.cons.injEq, and_true, Value.slice.injEq] at hc
    obtain ⟨rfl, hlen, rfl⟩ := hc
    have hle : len ≤ zs.length := by rw [hz]; split <;> omega
    intro n hn
    obtain ⟨j, hj, rfl⟩ := List.mem_iff_getElem.1 hn
    have hg := hcell j (by omega)
    obtain ⟨b, off, e, hc⟩ := hr j (.int .i64 xs[j]) (by simp [intVs, hj])
    injection e with e
    subst e
    have e2 : (⟨b, off, none⟩ : Addr).add j = ⟨b, off + j, none⟩ := by unfold Addr.add; split <;> simp_all
    rw [e2, hc] at hg
    have hjz : j < zs.length := by omega
    have e3 : xs[j] = zs[j] := by
      injection hg with hg
      injection hg with _ hg
      rw [List.getD_eq_getElem?_getD, List.getElem?_eq_getElem hjz] at hg
      simpa using hg
    rw [e3]
    have := hwf _ (List.getElem_mem hjz)
    simp [Lit.wf] at this
    exact ⟨this.1, this.2⟩
end
end Go.Proofs.YtnpdjncgilekhaaGreatDoor

namespace Go.Proofs.YtnpdjncgilekhaaGreatDoor
open Go.RowKit

theorem runC_zero {fs : List PFun} {name : Nm} {n : Nat} {t : Int} (h : (runC fs name n t).1 = 0) : (progC fs).1 = 0 ∧ ∃ f, findF fs name = some f ∧ f.params.length = n := by
  unfold runC at h
  by_cases hp : (progC fs).1 = 0
  · refine ⟨hp, ?_⟩
    rw [if_neg (by simp [hp])] at h
    cases hf : findF fs name with
    | none => rw [hf] at h; simp at h
    | some f =>
      rw [hf] at h
      refine ⟨f, rfl, ?_⟩
      simp only at h
      by_cases hn : f.params.length = n
      · exact hn
      · rw [if_pos hn] at h; simp at h
  · rw [if_pos hp] at h; simp at h; exact absurd h hp
theorem find_uniq {fs : List PFun} (h : (progC fs).1 = 0) {k : Nat} (hk : k < fs.length) {name : Nm} (hn : fs[k].name = name) : findF fs name = some fs[k] := by
  have h1 := (namesC_ok.1 (funC_ok.1 ((progC_ok.1 h).2 k hk)).1).2.1
  unfold findF
  have e : fs = fs.take k ++ fs[k] :: fs.drop (k + 1) := by rw [← List.drop_eq_getElem_cons hk, List.take_append_drop]
  have h2 : (fs.take k).find? (fun f => f.name == name) = none := by
    rw [List.find?_eq_none]
    intro g hg
    rw [List.any_eq_false] at h1
    rw [← hn]
    exact h1 g hg
  conv => lhs; rw [e]
  rw [List.find?_append, h2, List.find?_cons]
  simp only [hn, beq_self_eq_true, Option.none_or]
/-! RunDoes: the parameters of the last function of a name -/
def parN (name : Nm) : List PFun → Int → Int
  | [], p => p
  | f :: fs, p => parN name fs (if f.name = name then (f.params.length : Int) else p)
theorem parN_snoc (name : Nm) (g : PFun) : ∀ (fs : List PFun) (p : Int), parN name (fs ++ [g]) p = if g.name = name then (g.params.length : Int) else parN name fs p := by
  intro fs
  induction fs with
  | nil => intro p; rfl
  | cons f fs ih => intro p; exact ih _
theorem parN_take {name : Nm} {fs : List PFun} {k : Nat} (h : k < fs.length) (p : Int) : parN name (fs.take (k + 1)) p = if fs[k].name = name then (fs[k].params.length : Int) else parN name (fs.take k) p := by
  rw [List.take_succ_eq_append_getElem h, parN_snoc]
theorem parN_no {name : Nm} : ∀ (fs : List PFun) (p : Int), (∀ f ∈ fs, f.name ≠ name) → parN name fs p = p := by
  intro fs
  induction fs with
  | nil => intro p _; rfl
  | cons f fs ih =>
    intro p h
    unfold parN
    rw [if_neg (h f (by simp))]
    exact ih p fun g hg => h g (by simp [hg])
theorem parN_some {name : Nm} {f : PFun} : ∀ (fs : List PFun) (p : Int), (∃ g ∈ fs, g.name = name) → (∀ g ∈ fs, g.name = name → g = f) → parN name fs p = f.params.length := by
  intro fs
  induction fs with
  | nil => intro p ⟨g, hg, _⟩; cases hg
  | cons g fs ih =>
    intro p hex hall
    unfold parN
    by_cases hin : ∃ g ∈ fs, g.name = name
    · exact ih _ hin fun x hx => hall x (by simp [hx])
    · rw [parN_no fs _ fun x hx hn => hin ⟨x, hx, hn⟩]
      obtain ⟨x, hx, hn⟩ := hex
      rcases List.mem_cons.1 hx with rfl | hx
      · rw [if_pos hn, hall x (by simp) hn]
      · exact absurd ⟨x, hx, hn⟩ hin
theorem parN_none {fs : List PFun} {name : Nm} (hf : findF fs name = none) : parN name fs (-1) = -1 :=
  parN_no fs _ fun f hm hn => by
    unfold findF at hf
    have := List.find?_eq_none.1 hf f hm
    simp [hn] at this
theorem parN_find {fs : List PFun} {name : Nm} {f : PFun} (hp : (progC fs).1 = 0) (hf : findF fs name = some f) : parN name fs (-1) = f.params.length := by
  refine parN_some fs _ ?_ fun g hg hn => ?_
  · unfold findF at hf
    exact ⟨f, List.mem_of_find?_eq_some hf, by simpa using List.find?_some hf⟩
  · obtain ⟨k, hk, rfl⟩ := List.mem_iff_getElem.1 hg
    have := find_uniq hp hk hn
    rw [this] at hf
    exact Option.some.inj hf
theorem parN_low {name : Nm} : ∀ (fs : List PFun) (p : Int), -1 ≤ p → p ≤ 8 → (∀ f ∈ fs, f.params.length ≤ 8) → -1 ≤ parN name fs p ∧ parN name fs p ≤ 8 := by
  intro fs
  induction fs with
  | nil => intro p h h' _; exact ⟨h, h'⟩
  | cons f fs ih =>
    intro p h h' hall
    unfold parN
    have := hall f (by simp)
    split
    · exact ih _ (by omega) (by omega) fun g hg => hall g (by simp [hg])
    · exact ih _ h h' fun g hg => hall g (by simp [hg])
theorem runC_range2 {fs : List PFun} {name : Nm} {n : Nat} {t : Int} (ht : 0 ≤ t ∧ t ≤ 5000) : runC fs name n 0 = runC fs name n t := by
  unfold runC
  rw [if_neg (show ¬ ((0 : Int) < 0 ∨ 5000 < (0 : Int)) by omega), if_neg (show ¬ (t < 0 ∨ 5000 < t) by omega)]
theorem runP_thousand (fs : List PFun) (name : Nm) (args : List Int) (T : Nat) : (runP fs name args T).2.2.1.length ≤ 1000 := by
  have h := (go_call fs T 40 name args St0).thousand (by simp [St0])
  unfold runP
  split
  · exact h
  · exact h
theorem runC_par (fs : List PFun) (name : Nm) (n : Nat) (ticks : Int) : ((progC fs).1 ≠ 0 → runC fs name n ticks = (((progC fs).1 : Int), (progC fs).2)) ∧ ((progC fs).1 = 0 → (parN name fs (-1) < 0 → runC fs name n ticks = (6, -1)) ∧ (¬ parN name fs (-1) < 0 → parN name fs (-1) ≠ n → runC fs name n ticks = (9, -1)) ∧ (¬ parN name fs (-1) < 0 → parN name fs (-1) = n → (ticks < 0 ∨ 5000 < ticks) → runC fs name n ticks = (2, -1)) ∧ (¬ parN name fs (-1) < 0 → parN name fs (-1) = n → ¬ (ticks < 0 ∨ 5000 < ticks) → runC fs name n ticks = (0, -1))) := by
  refine ⟨fun h => by unfold runC; rw [if_pos h], fun h => ?_⟩
  unfold runC
  rw [if_neg (by simp [h])]
  cases hf : findF fs name with
  | none =>
    rw [parN_none hf]
    exact ⟨fun _ => rfl, fun q => absurd (by decide) q, fun q => absurd (by decide) q, fun q => absurd (by decide) q⟩
  | some f =>
    rw [parN_find h hf]
    simp only
    refine ⟨fun q => absurd q (by omega), fun _ q => ?_, fun _ q r => ?_, fun _ q r => ?_⟩
    · rw [if_pos (by omega)]
    · rw [if_neg (by omega), if_pos r]
    · rw [if_neg (by omega), if_neg r]
/-- No call of run.Run is reached. -/
def doesOut (fs : List PFun) (n nm : Nat) (ticks : Int) : Bool := largeP fs 300 || decide (8 < n) || decide (20 < nm) || (decide (300 < ticks) && decide (ticks ≤ 5000))
set_option maxHeartbeats 4000000 in
set_option maxRecDepth 100000 in
theorem does_early (E : Nat → Addr) (fs : List PFun) (A : Option Addr) (c : Nat) (name : Nm) (args : List Int) (X : Option Addr) (xc : Nat) (ticks : Int) (w : World) (hE : Laid E w) (hr : RdF w (fun _ => True) fs A) (h : doesOut fs args.length name.length ticks = true) :
    Calls Tryz.prog 4 #[.slice A fs.length c, .string (mkB name), .slice X args.length xc, .int .i64 ticks] w (Ret (.bool true) w) := by
  have HS := Lib.hid (ran_any E w hE)
  have HLG : Hid (∀ w', Below w.heap.size w w' → Calls Tryz.prog 6 #[.slice A fs.length c, .int .i64 300] w' (Ret (.int .i64 (if largeP fs 300 then 1 else 0)) w')) := fun w' hb =>
    Large_any fs 300 (by omega) (fun _ => True) A c w' (hr.keep ((Keeps.of_below hb).in _) (fun _ h => h))
  clear hE hr
  have hsz : (mkB name).size = name.length := rfl
  unfold doesOut at h
  cases h1 : largeP fs 300
  · rw [h1] at HLG h
    by_cases h2 : 8 < args.length
    · have g2 : (8 : Int) < (args.length : Int) := by omega
      clear h h1
      go_enter Tryz.func4, Tryz.ntmps4
      go_wp2_with (first
        | (go_at_call 16; (with_reducible refine HS.out.mono ?_); rintro x w1 ⟨rfl, hb1⟩)
        | (go_at_call 6; (with_reducible refine (HLG.out _ hb1).mono ?_); rintro x w2 ⟨rfl, hb2⟩))
      go_ret
      exact ⟨rfl, grow_trans hb1 hb2⟩
    · have g2 : ¬ (8 : Int) < (args.length : Int) := by omega
      by_cases h3 : 20 < name.length
      · have g3 : (20 : Int) < (name.length : Int) := by omega
        clear h h1 h2
        go_enter Tryz.func4, Tryz.ntmps4
        go_wp2_with (first
          | (go_at_call 16; (with_reducible refine HS.out.mono ?_); rintro x w1 ⟨rfl, hb1⟩)
          | (go_at_call 6; (with_reducible refine (HLG.out _ hb1).mono ?_); rintro x w2 ⟨rfl, hb2⟩))
        go_ret
        exact ⟨rfl, grow_trans hb1 hb2⟩
      · have g3 : ¬ (20 : Int) < (name.length : Int) := by omega
        have g4 : 300 < ticks ∧ ticks ≤ 5000 := by simpa [h2, h3] using h
        obtain ⟨g4, g5⟩ := g4
        clear h h1 h2 h3
        go_enter Tryz.func4, Tryz.ntmps4
        go_wp2_with (first
          | (go_at_call 16; (with_reducible refine HS.out.mono ?_); rintro x w1 ⟨rfl, hb1⟩)
          | (go_at_call 6; (with_reducible refine (HLG.out _ hb1).mono ?_); rintro x w2 ⟨rfl, hb2⟩))
        go_ret
        exact ⟨rfl, grow_trans hb1 hb2⟩
  · rw [h1] at HLG
    clear h h1
    go_enter Tryz.func4, Tryz.ntmps4
    go_wp2_with (first
      | (go_at_call 16; (with_reducible refine HS.out.mono ?_); rintro x w1 ⟨rfl, hb1⟩)
      | (go_at_call 6; (with_reducible refine (HLG.out _ hb1).mono ?_); rintro x w2 ⟨rfl, hb2⟩))
    go_ret
    exact ⟨rfl, grow_trans hb1 hb2⟩
theorem does_in {fs : List PFun} {n nm : Nat} {ticks : Int} (h : doesOut fs n nm ticks = false) : largeP fs 300 = false ∧ ¬ 8 < n ∧ ¬ 20 < nm ∧ (ticks ≤ 300 ∨ 5000 < ticks) := by
  unfold doesOut at h
  simp at h
  obtain ⟨⟨⟨h1, h2⟩, h3⟩, h4⟩ := h
  refine ⟨h1, by omega, by omega, ?_⟩
  by_cases h5 : 300 < ticks
  · exact .inr (h4 h5)
  · exact .inl (by omega)
end Go.Proofs.YtnpdjncgilekhaaGreatDoor

namespace Go.Proofs.YtnpdjncgilekhaaGreatDoor
open Go.RowKit

set_option maxHeartbeats 16000000 in
set_option maxRecDepth 100000 in
theorem does_main (E : Nat → Addr) (fs : List PFun) (A : Option Addr) (c : Nat) (hc : fs.length ≤ c) (name : Nm) (args : List Int) (X : Option Addr) (xc : Nat) (ticks : Int) (w : World) (hE : Laid E w) (hr : RdF w (fun _ => True) fs A) (hX : Row w X (intVs args)) (h64 : ∀ n ∈ args, I64 n) (h : doesOut fs args.length name.length ticks = false) :
    Calls Tryz.prog 4 #[.slice A fs.length c, .string (mkB name), .slice X args.length xc, .int .i64 ticks] w (Ret (.bool true) w) := by
  obtain ⟨hlg, h2, h3, h4⟩ := does_in h
  obtain ⟨h10, hsm, -, -⟩ := largeP_small (by omega) hlg
  have HS := Lib.hid (ran_any E w hE)
  have HLG : Hid (∀ w', Below w.heap.size w w' → Calls Tryz.prog 6 #[.slice A fs.length c, .int .i64 300] w' (Ret (.int .i64 0) w')) := fun w' hb => by
    have := Large_any fs 300 (by omega) (fun _ => True) A c w' (hr.keep ((Keeps.of_below hb).in _) (fun _ h => h))
    rwa [hlg] at this
  have HAS : Hid (∀ w', Below w.heap.size w w' → Calls Tryz.prog 7 #[.slice A fs.length c] w' fun x w'' => ∃ B d, x = .returned (.slice B fs.length d) ∧ fs.length ≤ d ∧ RdG w'' (newAt w') fs B ∧ Below w'.heap.size w' w'') := fun w' hb =>
    AsFuns_cap fs h10 hsm (fun _ => True) A c w' (hr.keep ((Keeps.of_below hb).in _) (fun _ h => h))
  obtain ⟨rc, hrc⟩ : ∃ rc, runC fs name args.length ticks = rc := ⟨_, rfl⟩
  have HRN : Hid (∀ w' B d A' c', Below w.heap.size w w' → fs.length ≤ d → RdG w' (fun _ => True) fs B → Row w' A' (intVs args) → (∀ a, A' = some a → a.block < w'.heap.size) → Calls Tryz.prog 17 #[.slice B fs.length d, .string (mkB name), .slice A' args.length c', .int .i64 ticks] w' fun en w'' =>
      ∃ v A c o, en = .returned (.tuple #[ocV o A c, v]) ∧ ErrIs E w'' v rc.1 rc.2 ∧ (v = .nilIface ↔ rc.1 = 0) ∧ o = (if rc.1 = 0 then runP fs name args ticks.toNat else oc0) ∧ Row w'' A (intVs o.2.2.1) ∧ o.2.2.1.length ≤ c ∧ Below w'.heap.size w' w'') := fun w' B d A' c' hb hd hg hX hXl => by
    have := Run_any E fs hsm _ B d (by omega) hd name args (by omega) A' c' ticks w' (hE.keep hb) hg hX hXl
    unfold RunPost at this
    rw [hrc] at this
    exact this
  have HPF : Hid (∀ w', Below w.heap.size w w' → Calls Tryz.prog 10 #[.slice A fs.length c] w' (Ret (.agg #[.int .i64 ((progC fs).1 : Nat), .int .i64 (progC fs).2]) w')) := fun w' hb =>
    ProgramFault_any fs h10 hsm (fun _ => True) A c hc w' (hr.keep ((Keeps.of_below hb).in _) (fun _ h => h))
  have HFT : Hid (∀ w' v, Below w.heap.size w w' → ErrIs E w' v rc.1 rc.2 → Calls Tryz.prog 8 #[v, .agg #[.int .i64 rc.1, .int .i64 rc.2]] w' (Ret (.bool true) w')) := fun w' v hb hv =>
    faulted_same E w' (hE.keep hb) v _ _ hv
  have HRO : Hid (rc.1 = 0 → ∀ w', Below w.heap.size w w' → Calls Tryz.prog 20 #[.slice A fs.length c, .string (mkB name), .slice X args.length xc, .int .i64 ticks] w' fun en w'' => ∃ B b, en = .returned (ocV (runP fs name args ticks.toNat) B b) ∧ Row w'' B (intVs (runP fs name args ticks.toNat).2.2.1) ∧ (runP fs name args ticks.toNat).2.2.1.length ≤ b ∧ Below w'.heap.size w' w'') := fun hz w' hb => by
    have hT : 0 ≤ ticks ∧ ticks ≤ 5000 := by
      rw [← hrc] at hz
      unfold runC at hz
      by_cases hp : (progC fs).1 = 0
      · rw [if_neg (by simp [hp])] at hz
        cases hf : findF fs name with
        | none => rw [hf] at hz; simp at hz
        | some f =>
          rw [hf] at hz
          simp only at hz
          by_cases hn : f.params.length = args.length
          · rw [if_neg (by simp [hn])] at hz
            by_cases ht : ticks < 0 ∨ 5000 < ticks
            · rw [if_pos ht] at hz; simp at hz
            · omega
          · rw [if_pos hn] at hz; simp at hz
      · rw [if_pos hp] at hz; simp at hz; exact absurd hz hp
    obtain ⟨T, rfl⟩ : ∃ T : Nat, ticks = T := ⟨ticks.toNat, by omega⟩
    have hXb : Row w' X (intVs args) := hX.keep (Keeps.of_below hb)
    exact RunOf_any fs hsm A c (by omega) name (by omega) args X xc T (by omega) w' (hr.keep ((Keeps.of_below hb).in _) (fun _ h => h)) hXb h64 (by rw [runC_range2 (show 0 ≤ (T : Int) ∧ (T : Int) ≤ 5000 by omega), hrc]; exact hz) (row_there hXb)
  have HPN : Hid (((progC fs).1 ≠ 0 → rc = (((progC fs).1 : Int), (progC fs).2)) ∧ ((progC fs).1 = 0 → (parN name fs (-1) < 0 → rc = (6, -1)) ∧ (¬ parN name fs (-1) < 0 → parN name fs (-1) ≠ args.length → rc = (9, -1)) ∧ (¬ parN name fs (-1) < 0 → parN name fs (-1) = args.length → (ticks < 0 ∨ 5000 < ticks) → rc = (2, -1)) ∧ (¬ parN name fs (-1) < 0 → parN name fs (-1) = args.length → ¬ (ticks < 0 ∨ 5000 < ticks) → rc = (0, -1)))) := by
    rw [← hrc]
    exact runC_par fs name args.length ticks
  have HLP := Lib.hid (fun f (hf : f ∈ fs) => (hsm f hf).params)
  have hsz : (mkB name).size = name.length := rfl
  have g2 : ¬ (8 : Int) < (args.length : Int) := by omega
  have g3 : ¬ (20 : Int) < (name.length : Int) := by omega
  have HX := Lib.hid hX
  have HR := Lib.hid hr
  have HTK := Lib.hid h4
  obtain ⟨pc, hpc⟩ : ∃ pc, (progC fs).1 = pc := ⟨_, rfl⟩
  obtain ⟨pa, hpa⟩ : ∃ pa, (progC fs).2 = pa := ⟨_, rfl⟩
  rw [hpc, hpa] at HPF HPN
  obtain ⟨rp, hrp⟩ : ∃ rp, runP fs name args ticks.toNat = rp := ⟨_, rfl⟩
  rw [hrp] at HRN HRO
  have h10' : fs.length ≤ 10 := h10
  have hrl : rc.1 = 0 → rp.2.2.1.length ≤ 1000 := fun _ => by rw [← hrp]; exact runP_thousand fs name args _
  have HRL := Lib.hid hrl
  clear hr hE hlg hsm hX h2 h3 h h10 h64 hrc hpc hpa hrp hc hrl
  rcases h4 with h4 | h4
  all_goals
    clear HTK
    go_enter Tryz.func4, Tryz.ntmps4
    go_wp2_with (first
      | (go_at_call 16; (with_reducible refine HS.out.mono ?_); rintro x w1 ⟨rfl, hb1⟩)
      | (go_at_call 6; (with_reducible refine (HLG.out _ hb1).mono ?_); rintro x w2 ⟨rfl, hb2⟩)
      | (go_at_call 7; (with_reducible refine (HAS.out _ (grow_trans hb1 hb2)).mono ?_); rintro x w3 ⟨B, d, rfl, hd, hg, hb3⟩; have HG := Lib.hid (hg.keep ((Keeps.refl _).in _) (S' := fun _ => True) (fun _ _ => trivial)); have HB3 := Lib.hid (grow_trans (grow_trans hb1 hb2) hb3); clear hg)
      | (at_builtin; refine wpList_append_ints0 rfl (.tmp 47) (.tmp 48) rfl args rfl X xc rfl (HX.out.keep (Keeps.of_below HB3.out)) (by omega) ?_; intro A4 c4 w4 hr4 hl4 hb4; have HR4 := Lib.hid hr4; have HL4 := Lib.hid hl4; have HB4 := Lib.hid (grow_trans HB3.out hb4); have HG4 := Lib.hid (HG.out.keep ((Keeps.of_below hb4).in _) (fun _ h => h)); clear hr4 hl4 hb4)
      | (go_at_call 17; (with_reducible refine (HRN.out _ _ _ _ _ HB4.out hd HG4.out HR4.out HL4.out).mono ?_); rintro x w5 ⟨v5, A5, c5, o5, rfl, he5, hv5, ho5, hr5, hc5, hb5⟩; have HB5 := Lib.hid (grow_alloc (grow_trans HB4.out hb5) (.cells #[.string (mkB o5.1), .int .i64 o5.2.1, .slice A5 o5.2.2.1.length c5, .int .i64 o5.2.2.2] 47)); have HE5 := Lib.hid (he5.keep (Keeps.alloc _ (.cells #[.string (mkB o5.1), .int .i64 o5.2.1, .slice A5 o5.2.2.1.length c5, .int .i64 o5.2.2.2] 47))); have HV5 := Lib.hid hv5; have HO5 := Lib.hid ho5; have HR5 := Lib.hid (hr5.keep (Keeps.alloc _ (.cells #[.string (mkB o5.1), .int .i64 o5.2.1, .slice A5 o5.2.2.1.length c5, .int .i64 o5.2.2.2] 47))); have HK5 := Lib.hid (heap_alloc_new w5 (.cells #[.string (mkB o5.1), .int .i64 o5.2.1, .slice A5 o5.2.2.1.length c5, .int .i64 o5.2.2.2] 47)); clear he5 hv5 ho5 hr5 hc5 hb5; unfold ocV)
      | (go_at_call 10; (with_reducible refine (HPF.out _ HB5.out).mono ?_); rintro x w6 ⟨rfl, hb6⟩))
    obtain ⟨h1, v1, l1, t1⟩ := o5
    have hBL := (HB5.out.trans (hb6.mono (by have := HB5.out.size; omega))).alloc (by have := HB5.out.size; have := hb6.size; omega) (.cells #[.int .i64 pc, .int .i64 pa] 32)
    have hb6' := grow_alloc hb6 (.cells #[.int .i64 pc, .int .i64 pa] 32)
    have hkO := (hb6'.block _ (Array.getElem?_eq_some_iff.1 HK5.out).1).trans HK5.out
    have hkF := heap_alloc_new w6 (.cells #[.int .i64 pc, .int .i64 pa] 32)
    have hEL := HE5.out.keep (Keeps.of_below hb6')
    have hRL := HR5.out.keep (Keeps.of_below hb6')
    have hpq : w5.heap.size < w6.heap.size := by have := hb6.size; simp at this; omega
    have hwp : w.heap.size ≤ w6.heap.size := by have := HB5.out.size; have := hb6.size; omega
    obtain ⟨p, hp⟩ : ∃ p, w5.heap.size = p := ⟨_, rfl⟩
    obtain ⟨q, hq⟩ : ∃ q, w6.heap.size = q := ⟨_, rfl⟩
    obtain ⟨wL, hwL⟩ : ∃ wL, w6.alloc (.cells #[.int .i64 pc, .int .i64 pa] 32) = wL := ⟨_, rfl⟩
    try dsimp only at hkO
    try dsimp only at hRL
    try dsimp only at hEL
    try dsimp only
    rw [hwL] at hBL hkO hkF hEL hRL
    rw [hp] at hkO hpq
    rw [hq] at hkF hpq hwp
    rw [hwL, hp, hq]
    have hpl : p < wL.heap.size := (Array.getElem?_eq_some_iff.1 hkO).1
    have hql : q < wL.heap.size := (Array.getElem?_eq_some_iff.1 hkF).1
    have HBL := Lib.hid hBL
    have HKO := Lib.hid hkO
    have HKF := Lib.hid hkF
    have HEL := Lib.hid hEL
    have HRL2 := Lib.hid hRL
    have HPQ := Lib.hid (And.intro hpq (And.intro hwp (And.intro hpl hql)))
    clear hBL hb6' hkO hkF hEL hRL hpq hwp hp hq hwL HB5 HE5 HR5 HK5 hb6 HB4 HG4 HR4 HL4 HB3 HG hb1 hb2 hb3 hd hpl hql HS HLG HAS HRN HPF
    go_loopw [14, 15] (fun v i wr => ∃ k : Nat, k ≤ fs.length ∧ i = .int .i64 k ∧ v = .int .i64 (parN name (fs.take k) (-1)) ∧ wL = wr) (fun _ i _ => fs.length - (intOf i).toNat)
    case atStart => exact ⟨0, Nat.zero_le _, rfl, rfl, rfl⟩
    case round =>
      obtain ⟨k, hk, rfl, rfl, rfl⟩ := hrel
      by_cases hlt : k < fs.length
      · obtain ⟨b8, off8, P8, p8, B8, d8, e8, -, hcells8, -⟩ := (HR.out.keep ((Keeps.of_below HBL.out).in _) (fun _ h => h)) k hlt
        subst e8
        obtain ⟨c0, c1, -⟩ := cells_fun hcells8
        have hlt' : (k : Int) < (fs.length : Int) := by omega
        have HPT := Lib.hid (parN_take (name := name) hlt (-1))
        clear hcells8
        by_cases hn8 : fs[k].name = name
        · have q1 : ((mkB fs[k].name).toList == (mkB name).toList) = true := by rw [mkB_toList, mkB_toList, hn8]; exact beq_self_eq_true _
          have HN8 := Lib.hid hn8
          clear hn8
          go_wp2_with fail
          go_roundw
          case rel => exact ⟨k + 1, by omega, by go_num, by rw [HPT.out, if_pos HN8.out], (by trivial)⟩
          case measure => simp [intOf]; omega
        · have q1 : ((mkB fs[k].name).toList == (mkB name).toList) = false := by rw [mkB_toList, mkB_toList]; exact beq_eq_false_iff_ne.2 hn8
          have HN8 := Lib.hid hn8
          clear hn8
          go_wp2_with fail
          go_roundw
          case rel => exact ⟨k + 1, by omega, by go_num, by rw [HPT.out, if_neg HN8.out], (by trivial)⟩
          case measure => simp [intOf]; omega
      · have hk' : k = fs.length := by omega
        have hnl : ¬ ((k : Int) < (fs.length : Int)) := by omega
        rw [show fs.take k = fs by rw [hk', List.take_length]]
        obtain ⟨N, hN⟩ : ∃ N, parN name fs (-1) = N := ⟨_, rfl⟩
        rw [hN] at HPN
        rw [hN]
        clear hk' hlt hk hN
        obtain ⟨hpf, hpn⟩ := HPN.out
        have HPF := Lib.hid hpf
        have HPM := Lib.hid hpn
        clear hpf hpn HPN
        have HSO : Hid (∀ (w8 : World) (A8 : Option Addr) (c8 : Nat), Below wL.heap.size wL w8 → Row w8 A8 (intVs l1) → l1.length ≤ 1000 → Calls Tryz.prog 19 #[.agg #[.string (mkB h1), .int .i64 v1, .slice A5 l1.length c5, .int .i64 t1], .agg #[.string (mkB h1), .int .i64 v1, .slice A8 l1.length c8, .int .i64 t1]] w8 (Ret (.bool true) w8)) := fun w8 A8 c8 hb8 hr8 hl =>
          SameOutcome_eq (h1, v1, l1, t1) A5 A8 c5 c8 w8 (HRL2.out.keep (Keeps.of_below hb8)) hr8 (by simp only; omega)
        have HK : Hid (∀ w', Below wL.heap.size wL w' → (w'.cell? ⟨p, 0, none⟩ = some (.string (mkB h1)) ∧ w'.cell? ⟨p, 1, none⟩ = some (.int .i64 v1) ∧ w'.cell? ⟨p, 2, none⟩ = some (.slice A5 l1.length c5) ∧ w'.cell? ⟨p, 3, none⟩ = some (.int .i64 t1)) ∧ w'.heap[q]? = some (.cells #[.int .i64 pc, .int .i64 pa] 32 (0, 0))) := fun w' hb =>
          ⟨row4 ((hb.block p HPQ.out.2.2.1).trans HKO.out), (hb.block q HPQ.out.2.2.2).trans HKF.out⟩
        obtain ⟨⟨e0, e1, e2, e3⟩, hkq⟩ := HK.out wL (grow_refl _)
        obtain ⟨k0, k1⟩ := row2 hkq
        clear hkq
        by_cases hp0 : pc = 0
        · subst hp0
          have hpn := HPM.out rfl
          clear HPF HPM
          by_cases hN0 : N < 0
          · have hrc := hpn.1 hN0
            subst hrc
            have hO := HO5.out
            rw [if_neg (by decide)] at hO
            unfold oc0 at hO
            simp only [Prod.mk.injEq] at hO
            obtain ⟨rfl, rfl, rfl, rfl⟩ := hO
            have HBR : Hid (Calls Tryz.prog 18 #[.int .i64 6] wL (Ret (.agg #[.int .i64 6, .int .i64 (-1)]) wL)) := bare_r 6 wL
            have HF8 : Hid (∀ w7, Below wL.heap.size wL w7 → Calls Tryz.prog 8 #[v5, .agg #[.int .i64 6, .int .i64 (-1)]] ((w7.setCell ⟨q, 0, none⟩ (.int .i64 6)).setCell ⟨q, 1, none⟩ (.int .i64 (-1))) (Ret (.bool true) ((w7.setCell ⟨q, 0, none⟩ (.int .i64 6)).setCell ⟨q, 1, none⟩ (.int .i64 (-1))))) := fun w7 hb7 =>
              HFT.out _ _ (((grow_trans HBL.out hb7).setCell (p := ⟨q, 0, none⟩) HPQ.out.2.1 _).setCell (p := ⟨q, 1, none⟩) HPQ.out.2.1 _) (errIs_far (HEL.out.keep (Keeps.of_below hb7)) ((HK.out _ hb7).2) (fun j u hj t x => by
                rcases j with _ | _ | j
                · injection hj with hj; subst hj; exact fun e => by cases e
                · injection hj with hj; subst hj; exact fun e => by cases e
                · simp at hj) (fun k hk => (Below.heap_setCell _ _ _ _ (by simp only; omega)).trans (Below.heap_setCell _ _ _ _ (by simp only; omega))))
            have HPK : Hid (∀ w7 w8, Below wL.heap.size wL w7 → Below ((w7.setCell ⟨q, 0, none⟩ (.int .i64 6)).setCell ⟨q, 1, none⟩ (.int .i64 (-1))).heap.size ((w7.setCell ⟨q, 0, none⟩ (.int .i64 6)).setCell ⟨q, 1, none⟩ (.int .i64 (-1))) w8 → (w8.cell? ⟨p, 0, none⟩ = some (.string ⟨#[]⟩) ∧ w8.cell? ⟨p, 1, none⟩ = some (.int .i64 0) ∧ w8.cell? ⟨p, 2, none⟩ = some (.slice A5 0 c5) ∧ w8.cell? ⟨p, 3, none⟩ = some (.int .i64 0)) ∧ Row w8 A5 (intVs []) ∧ Below w.heap.size w w8) := fun w7 w8 hb7 hb8 => by
              obtain ⟨⟨a0, a1, a2, a3⟩, -⟩ := HK.out _ hb7
              have hne : ∀ (j i : Nat) (u v : Value), w7.cell? ⟨p, j, none⟩ = some v → ((w7.setCell ⟨q, 0, none⟩ (.int .i64 6)).setCell ⟨q, 1, none⟩ (.int .i64 (-1))).cell? ⟨p, j, none⟩ = some v := fun j i u v h =>
                cell_same h ((Below.heap_setCell _ _ _ _ (by have := HPQ.out.1; simp only; omega)).trans (Below.heap_setCell _ _ _ _ (by have := HPQ.out.1; simp only; omega)))
              exact ⟨⟨Keeps.of_below hb8 _ _ (hne 0 0 .nilIface _ a0), Keeps.of_below hb8 _ _ (hne 1 0 .nilIface _ a1), Keeps.of_below hb8 _ _ (hne 2 0 .nilIface _ a2), Keeps.of_below hb8 _ _ (hne 3 0 .nilIface _ a3)⟩, Row.nil _ _, (((grow_trans HBL.out hb7).setCell (p := ⟨q, 0, none⟩) HPQ.out.2.1 _).setCell (p := ⟨q, 1, none⟩) HPQ.out.2.1 _).trans (hb8.mono (by have := HPQ.out; have := hb7.size; simp; omega))⟩
            have HS0 : Hid (∀ w8, Calls Tryz.prog 19 #[.agg #[.string ⟨#[]⟩, .int .i64 0, .slice A5 0 c5, .int .i64 0], .agg #[.string ⟨#[]⟩, .int .i64 0, .slice none 0 0, .int .i64 0]] w8 (Ret (.bool true) w8)) := fun w8 =>
              SameOutcome_eq ([], 0, [], 0) A5 none c5 0 w8 (Row.nil _ _) (Row.nil _ _) (by simp)
            have hx : True := trivial
            clear hpn HRO HFT HV5 HO5 HRL HSO HEL HRL2
            go_wp2_with (first
              | (go_at_call 18; (with_reducible refine HBR.out.mono ?_); rintro x w7 ⟨rfl, hb7⟩; obtain ⟨-, hkq⟩ := HK.out _ hb7; obtain ⟨k0, k1⟩ := row2 hkq; have z0 := row_frozen hkq 0; have z1 := row_frozen hkq 1; have HF9 := Lib.hid (HF8.out _ hb7); have HPK9 := Lib.hid (fun w8 => HPK.out w7 w8 hb7); clear hkq hb7)
              | (go_at_call 8; (with_reducible refine HF9.out.mono ?_); rintro x w8 ⟨rfl, hb8⟩; obtain ⟨⟨e0, e1, e2, e3⟩, -, hbw⟩ := HPK9.out _ hb8; have HBW := Lib.hid hbw; clear hbw hb8)
              | (go_at_call 19; (with_reducible refine (HS0.out _).mono ?_); rintro x w9 ⟨rfl, hb9⟩))
            go_ret
            exact ⟨rfl, grow_trans HBW.out hb9⟩
          · by_cases hNa : N = (args.length : Int)
            · by_cases ht : ticks < 0 ∨ 5000 < ticks
              · have hrc := hpn.2.2.1 (by omega) hNa ht
                subst hrc
                have hO := HO5.out
                rw [if_neg (by decide)] at hO
                unfold oc0 at hO
                simp only [Prod.mk.injEq] at hO
                obtain ⟨rfl, rfl, rfl, rfl⟩ := hO
                have HBR : Hid (Calls Tryz.prog 18 #[.int .i64 2] wL (Ret (.agg #[.int .i64 2, .int .i64 (-1)]) wL)) := bare_r 2 wL
                have HF8 : Hid (∀ w7, Below wL.heap.size wL w7 → Calls Tryz.prog 8 #[v5, .agg #[.int .i64 2, .int .i64 (-1)]] ((w7.setCell ⟨q, 0, none⟩ (.int .i64 2)).setCell ⟨q, 1, none⟩ (.int .i64 (-1))) (Ret (.bool true) ((w7.setCell ⟨q, 0, none⟩ (.int .i64 2)).setCell ⟨q, 1, none⟩ (.int .i64 (-1))))) := fun w7 hb7 =>
                  HFT.out _ _ (((grow_trans HBL.out hb7).setCell (p := ⟨q, 0, none⟩) HPQ.out.2.1 _).setCell (p := ⟨q, 1, none⟩) HPQ.out.2.1 _) (errIs_far (HEL.out.keep (Keeps.of_below hb7)) ((HK.out _ hb7).2) (fun j u hj t x => by
                    rcases j with _ | _ | j
                    · injection hj with hj; subst hj; exact fun e => by cases e
                    · injection hj with hj; subst hj; exact fun e => by cases e
                    · simp at hj) (fun k hk => (Below.heap_setCell _ _ _ _ (by simp only; omega)).trans (Below.heap_setCell _ _ _ _ (by simp only; omega))))
                have HPK : Hid (∀ w7 w8, Below wL.heap.size wL w7 → Below ((w7.setCell ⟨q, 0, none⟩ (.int .i64 2)).setCell ⟨q, 1, none⟩ (.int .i64 (-1))).heap.size ((w7.setCell ⟨q, 0, none⟩ (.int .i64 2)).setCell ⟨q, 1, none⟩ (.int .i64 (-1))) w8 → (w8.cell? ⟨p, 0, none⟩ = some (.string ⟨#[]⟩) ∧ w8.cell? ⟨p, 1, none⟩ = some (.int .i64 0) ∧ w8.cell? ⟨p, 2, none⟩ = some (.slice A5 0 c5) ∧ w8.cell? ⟨p, 3, none⟩ = some (.int .i64 0)) ∧ Row w8 A5 (intVs []) ∧ Below w.heap.size w w8) := fun w7 w8 hb7 hb8 => by
                  obtain ⟨⟨a0, a1, a2, a3⟩, -⟩ := HK.out _ hb7
                  have hne : ∀ (j i : Nat) (u v : Value), w7.cell? ⟨p, j, none⟩ = some v → ((w7.setCell ⟨q, 0, none⟩ (.int .i64 2)).setCell ⟨q, 1, none⟩ (.int .i64 (-1))).cell? ⟨p, j, none⟩ = some v := fun j i u v h =>
                    cell_same h ((Below.heap_setCell _ _ _ _ (by have := HPQ.out.1; simp only; omega)).trans (Below.heap_setCell _ _ _ _ (by have := HPQ.out.1; simp only; omega)))
                  exact ⟨⟨Keeps.of_below hb8 _ _ (hne 0 0 .nilIface _ a0), Keeps.of_below hb8 _ _ (hne 1 0 .nilIface _ a1), Keeps.of_below hb8 _ _ (hne 2 0 .nilIface _ a2), Keeps.of_below hb8 _ _ (hne 3 0 .nilIface _ a3)⟩, Row.nil _ _, (((grow_trans HBL.out hb7).setCell (p := ⟨q, 0, none⟩) HPQ.out.2.1 _).setCell (p := ⟨q, 1, none⟩) HPQ.out.2.1 _).trans (hb8.mono (by have := HPQ.out; have := hb7.size; simp; omega))⟩
                have HS0 : Hid (∀ w8, Calls Tryz.prog 19 #[.agg #[.string ⟨#[]⟩, .int .i64 0, .slice A5 0 c5, .int .i64 0], .agg #[.string ⟨#[]⟩, .int .i64 0, .slice none 0 0, .int .i64 0]] w8 (Ret (.bool true) w8)) := fun w8 =>
                  SameOutcome_eq ([], 0, [], 0) A5 none c5 0 w8 (Row.nil _ _) (Row.nil _ _) (by simp)
                have hNb : ((N : Int) != (args.length : Int)) = false := by simp [hNa]
                have HNA := Lib.hid hNa
                clear hNa
                rcases ht with ht1 | ht1
                · have ht2 : True := trivial
                  first
                    | (exfalso; omega)
                    | (clear h4
                       clear hpn HRO HFT HV5 HO5 HRL HSO HEL HRL2
                       go_wp2_with (first
                         | (go_at_call 18; (with_reducible refine HBR.out.mono ?_); rintro x w7 ⟨rfl, hb7⟩; obtain ⟨-, hkq⟩ := HK.out _ hb7; obtain ⟨k0, k1⟩ := row2 hkq; have z0 := row_frozen hkq 0; have z1 := row_frozen hkq 1; have HF9 := Lib.hid (HF8.out _ hb7); have HPK9 := Lib.hid (fun w8 => HPK.out w7 w8 hb7); clear hkq hb7)
                         | (go_at_call 8; (with_reducible refine HF9.out.mono ?_); rintro x w8 ⟨rfl, hb8⟩; obtain ⟨⟨e0, e1, e2, e3⟩, -, hbw⟩ := HPK9.out _ hb8; have HBW := Lib.hid hbw; clear hbw hb8)
                         | (go_at_call 19; (with_reducible refine (HS0.out _).mono ?_); rintro x w9 ⟨rfl, hb9⟩))
                       go_ret
                       exact ⟨rfl, grow_trans HBW.out hb9⟩)
                · have ht2 : ¬ ticks < 0 := by omega
                  first
                    | (exfalso; omega)
                    | (clear h4
                       clear hpn HRO HFT HV5 HO5 HRL HSO HEL HRL2
                       go_wp2_with (first
                         | (go_at_call 18; (with_reducible refine HBR.out.mono ?_); rintro x w7 ⟨rfl, hb7⟩; obtain ⟨-, hkq⟩ := HK.out _ hb7; obtain ⟨k0, k1⟩ := row2 hkq; have z0 := row_frozen hkq 0; have z1 := row_frozen hkq 1; have HF9 := Lib.hid (HF8.out _ hb7); have HPK9 := Lib.hid (fun w8 => HPK.out w7 w8 hb7); clear hkq hb7)
                         | (go_at_call 8; (with_reducible refine HF9.out.mono ?_); rintro x w8 ⟨rfl, hb8⟩; obtain ⟨⟨e0, e1, e2, e3⟩, -, hbw⟩ := HPK9.out _ hb8; have HBW := Lib.hid hbw; clear hbw hb8)
                         | (go_at_call 19; (with_reducible refine (HS0.out _).mono ?_); rintro x w9 ⟨rfl, hb9⟩))
                       go_ret
                       exact ⟨rfl, grow_trans HBW.out hb9⟩)
              · have hrc := hpn.2.2.2 (by omega) hNa ht
                have ht1 : ¬ ticks < 0 := fun h => ht (.inl h)
                have ht2 : ¬ 5000 < ticks := fun h => ht (.inr h)
                first
                  | (exfalso; omega)
                  | (clear h4
                     subst hrc
                     have hO := HO5.out
                     rw [if_pos rfl] at hO
                     obtain rfl := HV5.out.2 rfl
                     have hll : l1.length ≤ 1000 := by have := HRL.out rfl; rw [← hO] at this; exact this
                     have HRO2 : Hid (∀ w', Below wL.heap.size wL w' → Calls Tryz.prog 20 #[.slice A fs.length c, .string (mkB name), .slice X args.length xc, .int .i64 ticks] w' fun en w'' => ∃ B b, en = .returned (.agg #[.string (mkB h1), .int .i64 v1, .slice B l1.length b, .int .i64 t1]) ∧ Row w'' B (intVs l1) ∧ Below w'.heap.size w' w'') := fun w' hb => by
                       have := HRO.out rfl w' (grow_trans HBL.out hb)
                       rw [← hO] at this
                       exact this.mono fun en w'' ⟨B, b, q1, q2, _, q4⟩ => ⟨B, b, q1, q2, q4⟩
                     have HLL := Lib.hid hll
                     have hnN : ¬ ((N : Int) ≠ (args.length : Int)) := fun h => h hNa
                     have hNb : ((N : Int) != (args.length : Int)) = false := by simp [hNa]
                     have HNA := Lib.hid hNa
                     clear hpn hO hll hNa ht hnN HRO HO5 HV5 HRL
                     go_upto_region 12 with fail
                     have hb00 : Below wL.heap.size wL wL.drew := (Below.refl wL.heap.size wL).drew
                     go_region_held3 (fun w' => Below wL.heap.size wL w' ∧ w'.cell? ⟨p, 0, none⟩ = some (.string (mkB h1)) ∧ w'.cell? ⟨p, 1, none⟩ = some (.int .i64 v1) ∧ w'.cell? ⟨p, 2, none⟩ = some (.slice A5 l1.length c5) ∧ w'.cell? ⟨p, 3, none⟩ = some (.int .i64 t1))
                       (first
                         | exact ⟨hb00, e0, e1, e2, e3⟩
                         | (go_split_ands
                            refine ⟨?_, ?_, ?_, ?_, ?_⟩
                            all_goals (first | assumption | exact Keeps.of_below hbT _ _ (by assumption) | exact grow_trans (by assumption) hbT)))
                       (first
                         | (go_at_call 20; (with_reducible refine (HRO2.out _ (by first | assumption | (go_split_ands; assumption))).mono ?_); rintro y w11 ⟨B9, b9, rfl, hr9, hbT⟩; have HR9 := Lib.hid hr9; clear hr9)
                         | (go_at_call 19; (with_reducible refine (HSO.out _ _ _ (by first | assumption | (go_split_ands; assumption)) HR9.out HLL.out).mono ?_); rintro y w15 ⟨rfl, hbT⟩))
                     go_wp2_with fail
                     go_ret
                     go_split_ands
                     exact ⟨rfl, grow_trans HBL.out (by assumption)⟩)
            · have hrc := hpn.2.1 (by omega) hNa
              subst hrc
              have hO := HO5.out
              rw [if_neg (by decide)] at hO
              unfold oc0 at hO
              simp only [Prod.mk.injEq] at hO
              obtain ⟨rfl, rfl, rfl, rfl⟩ := hO
              have HBR : Hid (Calls Tryz.prog 18 #[.int .i64 9] wL (Ret (.agg #[.int .i64 9, .int .i64 (-1)]) wL)) := bare_r 9 wL
              have HF8 : Hid (∀ w7, Below wL.heap.size wL w7 → Calls Tryz.prog 8 #[v5, .agg #[.int .i64 9, .int .i64 (-1)]] ((w7.setCell ⟨q, 0, none⟩ (.int .i64 9)).setCell ⟨q, 1, none⟩ (.int .i64 (-1))) (Ret (.bool true) ((w7.setCell ⟨q, 0, none⟩ (.int .i64 9)).setCell ⟨q, 1, none⟩ (.int .i64 (-1))))) := fun w7 hb7 =>
                HFT.out _ _ (((grow_trans HBL.out hb7).setCell (p := ⟨q, 0, none⟩) HPQ.out.2.1 _).setCell (p := ⟨q, 1, none⟩) HPQ.out.2.1 _) (errIs_far (HEL.out.keep (Keeps.of_below hb7)) ((HK.out _ hb7).2) (fun j u hj t x => by
                  rcases j with _ | _ | j
                  · injection hj with hj; subst hj; exact fun e => by cases e
                  · injection hj with hj; subst hj; exact fun e => by cases e
                  · simp at hj) (fun k hk => (Below.heap_setCell _ _ _ _ (by simp only; omega)).trans (Below.heap_setCell _ _ _ _ (by simp only; omega))))
              have HPK : Hid (∀ w7 w8, Below wL.heap.size wL w7 → Below ((w7.setCell ⟨q, 0, none⟩ (.int .i64 9)).setCell ⟨q, 1, none⟩ (.int .i64 (-1))).heap.size ((w7.setCell ⟨q, 0, none⟩ (.int .i64 9)).setCell ⟨q, 1, none⟩ (.int .i64 (-1))) w8 → (w8.cell? ⟨p, 0, none⟩ = some (.string ⟨#[]⟩) ∧ w8.cell? ⟨p, 1, none⟩ = some (.int .i64 0) ∧ w8.cell? ⟨p, 2, none⟩ = some (.slice A5 0 c5) ∧ w8.cell? ⟨p, 3, none⟩ = some (.int .i64 0)) ∧ Row w8 A5 (intVs []) ∧ Below w.heap.size w w8) := fun w7 w8 hb7 hb8 => by
                obtain ⟨⟨a0, a1, a2, a3⟩, -⟩ := HK.out _ hb7
                have hne : ∀ (j i : Nat) (u v : Value), w7.cell? ⟨p, j, none⟩ = some v → ((w7.setCell ⟨q, 0, none⟩ (.int .i64 9)).setCell ⟨q, 1, none⟩ (.int .i64 (-1))).cell? ⟨p, j, none⟩ = some v := fun j i u v h =>
                  cell_same h ((Below.heap_setCell _ _ _ _ (by have := HPQ.out.1; simp only; omega)).trans (Below.heap_setCell _ _ _ _ (by have := HPQ.out.1; simp only; omega)))
                exact ⟨⟨Keeps.of_below hb8 _ _ (hne 0 0 .nilIface _ a0), Keeps.of_below hb8 _ _ (hne 1 0 .nilIface _ a1), Keeps.of_below hb8 _ _ (hne 2 0 .nilIface _ a2), Keeps.of_below hb8 _ _ (hne 3 0 .nilIface _ a3)⟩, Row.nil _ _, (((grow_trans HBL.out hb7).setCell (p := ⟨q, 0, none⟩) HPQ.out.2.1 _).setCell (p := ⟨q, 1, none⟩) HPQ.out.2.1 _).trans (hb8.mono (by have := HPQ.out; have := hb7.size; simp; omega))⟩
              have HS0 : Hid (∀ w8, Calls Tryz.prog 19 #[.agg #[.string ⟨#[]⟩, .int .i64 0, .slice A5 0 c5, .int .i64 0], .agg #[.string ⟨#[]⟩, .int .i64 0, .slice none 0 0, .int .i64 0]] w8 (Ret (.bool true) w8)) := fun w8 =>
                SameOutcome_eq ([], 0, [], 0) A5 none c5 0 w8 (Row.nil _ _) (Row.nil _ _) (by simp)
              have hNb : ((N : Int) != (args.length : Int)) = true := by simpa using hNa
              clear hNa
              clear hpn HRO HFT HV5 HO5 HRL HSO HEL HRL2
              go_wp2_with (first
                | (go_at_call 18; (with_reducible refine HBR.out.mono ?_); rintro x w7 ⟨rfl, hb7⟩; obtain ⟨-, hkq⟩ := HK.out _ hb7; obtain ⟨k0, k1⟩ := row2 hkq; have z0 := row_frozen hkq 0; have z1 := row_frozen hkq 1; have HF9 := Lib.hid (HF8.out _ hb7); have HPK9 := Lib.hid (fun w8 => HPK.out w7 w8 hb7); clear hkq hb7)
                | (go_at_call 8; (with_reducible refine HF9.out.mono ?_); rintro x w8 ⟨rfl, hb8⟩; obtain ⟨⟨e0, e1, e2, e3⟩, -, hbw⟩ := HPK9.out _ hb8; have HBW := Lib.hid hbw; clear hbw hb8)
                | (go_at_call 19; (with_reducible refine (HS0.out _).mono ?_); rintro x w9 ⟨rfl, hb9⟩))
              go_ret
              exact ⟨rfl, grow_trans HBW.out hb9⟩
        · have hrc := HPF.out hp0
          subst hrc
          have hO := HO5.out
          rw [if_neg (by simp; omega)] at hO
          unfold oc0 at hO
          simp only [Prod.mk.injEq] at hO
          obtain ⟨rfl, rfl, rfl, rfl⟩ := hO
          have hpb : ((pc : Int) == 0) = false := beq_eq_false_iff_ne.2 (by omega)
          have hpp : (0 : Int) < (pc : Int) := by omega
          have HF7 : Hid (Calls Tryz.prog 8 #[v5, .agg #[.int .i64 pc, .int .i64 pa]] wL (Ret (.bool true) wL)) := HFT.out _ _ HBL.out HEL.out
          have HKN : Hid (∀ w', Below wL.heap.size wL w' → (w'.cell? ⟨p, 0, none⟩ = some (.string ⟨#[]⟩) ∧ w'.cell? ⟨p, 1, none⟩ = some (.int .i64 0) ∧ w'.cell? ⟨p, 2, none⟩ = some (.slice A5 0 c5) ∧ w'.cell? ⟨p, 3, none⟩ = some (.int .i64 0))) := fun w' hb => (HK.out w' hb).1
          have HS0 : Hid (∀ w8, Calls Tryz.prog 19 #[.agg #[.string ⟨#[]⟩, .int .i64 0, .slice A5 0 c5, .int .i64 0], .agg #[.string ⟨#[]⟩, .int .i64 0, .slice none 0 0, .int .i64 0]] w8 (Ret (.bool true) w8)) := fun w8 =>
            SameOutcome_eq ([], 0, [], 0) A5 none c5 0 w8 (Row.nil _ _) (Row.nil _ _) (by simp)
          clear hp0 HPF HPM HRO HFT HV5 HO5 HRL
          go_wp2_with (first
            | (go_at_call 8; (with_reducible refine HF7.out.mono ?_); rintro x w7 ⟨rfl, hb7⟩; obtain ⟨e0, e1, e2, e3⟩ := HKN.out _ hb7)
            | (go_at_call 19; (with_reducible refine (HS0.out _).mono ?_); rintro x w8 ⟨rfl, hb8⟩))
          go_ret
          exact ⟨rfl, grow_trans HBL.out (grow_trans hb7 hb8)⟩
theorem RunDoes_walk (E : Nat → Addr) (fs : List PFun) (A : Option Addr) (c : Nat) (hc : fs.length ≤ c) (name : Nm) (args : List Int) (X : Option Addr) (xc : Nat) (ticks : Int) (w : World) (hE : Laid E w) (hr : RdF w (fun _ => True) fs A) (hX : Row w X (intVs args)) (h64 : ∀ n ∈ args, I64 n) :
    Calls Tryz.prog 4 #[.slice A fs.length c, .string (mkB name), .slice X args.length xc, .int .i64 ticks] w (Ret (.bool true) w) := by
  cases h : doesOut fs args.length name.length ticks
  · exact does_main E fs A c hc name args X xc ticks w hE hr hX h64 h
  · exact does_early E fs A c name args X xc ticks w hE hr h
end Go.Proofs.YtnpdjncgilekhaaGreatDoor
