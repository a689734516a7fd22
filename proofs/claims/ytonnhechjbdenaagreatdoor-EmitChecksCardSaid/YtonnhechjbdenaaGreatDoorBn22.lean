import Derived.Lib.SmallJoins
import Derived.Deep.Slices
import Derived.Test.YtonnhechjbdenaaGreatDoorBn5
import Derived.Test.YtonnhechjbdenaaGreatDoorBn1
import Derived.Test.YtonnhechjbdenaaGreatDoorBn7
import Derived.Test.YtonnhechjbdenaaGreatDoorBn2
set_option linter.unusedVariables false
set_option linter.unusedSimpArgs false
namespace Go.Proofs.YtonnhechjbdenaaGreatDoor
open Go.ChangeShapes Go.WideShapes Go.ChangeAt Go.RowKit Go.Joins Go.Deep

/-! an image that came in -/
def fnL (f : PFn) : List Value := [.string (mkB f.name), .int .i64 f.params, .int .i64 f.slots, .int .i64 f.entry]
def u64Vs (l : List Int) : List Value := l.map (.int .u64)
theorem fn_get : ∀ (fs : List PFn) (k : Nat) (h : k < fs.length) (i : Nat), i < 4 → (fs.flatMap fnL)[k * 4 + i]? = (fnL fs[k])[i]? := by
  intro fs
  induction fs with
  | nil => intro k h; simp at h
  | cons f fs ih =>
    intro k h i hi
    rw [List.flatMap_cons]
    cases k with
    | zero =>
      rw [Nat.zero_mul, Nat.zero_add, List.getElem?_append_left (by simpa [fnL] using hi)]
      rfl
    | succ k =>
      rw [List.getElem?_append_right (by simp [fnL]; omega)]
      have e : (k + 1) * 4 + i - (fnL f).length = k * 4 + i := by simp [fnL]; omega
      rw [e]
      exact ih k (by simpa using h) i hi
theorem fn_len (fs : List PFn) : (fs.flatMap fnL).length = fs.length * 4 := by
  induction fs with
  | nil => rfl
  | cons f fs ih => rw [List.flatMap_cons, List.length_append, ih]; simp [fnL]; omega
/-- The cells of function k. -/
theorem fn_cells {w : World} {A : Option Addr} {fs : List PFn} (h : Row w A (fs.flatMap fnL)) {k : Nat} (hk : k < fs.length) : ∃ b off, A = some ⟨b, off, none⟩ ∧
    w.cell? ⟨b, off + k * 4, none⟩ = some (.string (mkB fs[k].name)) ∧ w.cell? ⟨b, off + k * 4 + 1, none⟩ = some (.int .i64 fs[k].params) ∧ w.cell? ⟨b, off + k * 4 + 2, none⟩ = some (.int .i64 fs[k].slots) ∧ w.cell? ⟨b, off + k * 4 + 3, none⟩ = some (.int .i64 fs[k].entry) := by
  have g := fn_get fs k hk
  obtain ⟨b, off, e, c0⟩ := h (k * 4 + 0) _ (g 0 (by omega))
  refine ⟨b, off, e, c0, ?_, ?_, ?_⟩
  · obtain ⟨b', off', e', c1⟩ := h (k * 4 + 1) _ (g 1 (by omega))
    rw [e] at e'; injection e' with e'; injection e' with e1 e2 _
    subst e1; subst e2
    rw [Nat.add_assoc]; exact c1
  · obtain ⟨b', off', e', c1⟩ := h (k * 4 + 2) _ (g 2 (by omega))
    rw [e] at e'; injection e' with e'; injection e' with e1 e2 _
    subst e1; subst e2
    rw [Nat.add_assoc]; exact c1
  · obtain ⟨b', off', e', c1⟩ := h (k * 4 + 3) _ (g 3 (by omega))
    rw [e] at e'; injection e' with e'; injection e' with e1 e2 _
    subst e1; subst e2
    rw [Nat.add_assoc]; exact c1
theorem u64_get {l : List Int} {k : Nat} (h : k < l.length) : (u64Vs l)[k]? = some (.int .u64 l[k]) := by unfold u64Vs; simp [h]
theorem icStr : Tryz.prog.cellsOf 9 = 1 := by kernel_rfl
theorem icInt : Tryz.prog.cellsOf 3 = 1 := by kernel_rfl
theorem icU64 : Tryz.prog.cellsOf 68 = 1 := by kernel_rfl
theorem icFun : Tryz.prog.cellsOf 98 = 4 := by kernel_rfl
theorem icImg : Tryz.prog.cellsOf 48 = 2 := by kernel_rfl
theorem icFuns : Tryz.prog.cellsOf 46 = 1 := by kernel_rfl
theorem icWords : Tryz.prog.cellsOf 35 = 1 := by kernel_rfl
theorem idB (s : ByteArray) : mkB s.toList = s := by
  rw [toList_data]; cases s; rfl
theorem spot_no {W : World} {base n : Nat} {a : Addr} {cs : List Value} (hn : 0 < n) (h : W.cells? base (a.add (0 * n)) n = some cs) : a.spot = none := by
  obtain ⟨_, hl, hcell⟩ := World.cells?_some h
  have h0 := hcell 0 hn
  rw [List.getElem?_eq_getElem (by omega)] at h0
  have := World.cell?_spot h0
  simpa [Addr.add] using this
theorem pick_lt {α : Type} {n : Nat} {p : Nat → α → Prop} (h : ∀ i, i < n → ∃ y, p i y) : ∃ l : List α, l.length = n ∧ ∀ i (hi : i < l.length), p i l[i] := by
  induction n with
  | zero => exact ⟨[], rfl, fun i hi => by simp at hi⟩
  | succ n ih =>
    obtain ⟨l, hl, hp⟩ := ih fun i hi => h i (by omega)
    obtain ⟨y, hy⟩ := h n (by omega)
    refine ⟨l ++ [y], by simp [hl], fun i hi => ?_⟩
    by_cases hin : i < l.length
    · rw [List.getElem_append_left hin]; exact hp i hin
    · have e : i = l.length := by simp at hi; omega
      subst e
      simp [hl, hy]
section
variable {H : Type} {enc : TypeId × Value → H} {W : World} {base : Nat} {sp : Nat → Bool} {hd : Bool}
set_option maxRecDepth 100000 in
theorem open_fn {n : Nat} {cs : List Value} {x : DataW H × List MemPlace} (h : DataW.trod enc Tryz.prog W base sp hd n 98 cs = some x) : ∃ f : PFn, cs = fnL f := by
  obtain ⟨xs, m, hm, _, hl, hlen, hg⟩ := DataW.trod_struct Tryz.underlying98 h
  have hl4 : cs.length = 4 := hl.trans icFun
  match cs, hl4 with
  | [c0, c1, c2, c3], _ =>
    match xs, hlen with
    | [z0, z1, z2, z3], _ =>
      have g0 : DataW.trod enc Tryz.prog W base sp hd m 9 (([c0, c1, c2, c3].drop 0).take (Tryz.prog.cellsOf 9)) = some z0 := hg 0 _ rfl
      rw [icStr, show ([c0, c1, c2, c3].drop 0).take 1 = [c0] from rfl] at g0
      have g1 : DataW.trod enc Tryz.prog W base sp hd m 3 (([c0, c1, c2, c3].drop 1).take (Tryz.prog.cellsOf 3)) = some z1 := hg 1 _ rfl
      rw [icInt, show ([c0, c1, c2, c3].drop 1).take 1 = [c1] from rfl] at g1
      have g2 : DataW.trod enc Tryz.prog W base sp hd m 3 (([c0, c1, c2, c3].drop 2).take (Tryz.prog.cellsOf 3)) = some z2 := hg 2 _ rfl
      rw [icInt, show ([c0, c1, c2, c3].drop 2).take 1 = [c2] from rfl] at g2
      have g3 : DataW.trod enc Tryz.prog W base sp hd m 3 (([c0, c1, c2, c3].drop 3).take (Tryz.prog.cellsOf 3)) = some z3 := hg 3 _ rfl
      rw [icInt, show ([c0, c1, c2, c3].drop 3).take 1 = [c3] from rfl] at g3
      obtain ⟨s, e0, _, _⟩ := DataW.trod_string Tryz.underlying9 g0
      obtain ⟨k1, e1, _, w1⟩ := DataW.trod_int Tryz.underlying3 g1
      obtain ⟨k2, e2, _, w2⟩ := DataW.trod_int Tryz.underlying3 g2
      obtain ⟨k3, e3, _, w3⟩ := DataW.trod_int Tryz.underlying3 g3
      simp only [List.cons.injEq, and_true] at e0 e1 e2 e3
      subst e0; subst e1; subst e2; subst e3
      exact ⟨⟨s.toList, k1, k2, k3⟩, by simp [fnL, idB]⟩
set_option maxRecDepth 100000 in
theorem open_fns {n : Nat} {v : Value} {x : DataW H × List MemPlace} (h : DataW.trod enc Tryz.prog W base sp hd n 46 [v] = some x) : ∃ fs A c, v = .slice A (fs : List PFn).length c ∧ fs.length ≤ maxLen ∧ Row W A (fs.flatMap fnL) := by
  rcases DataW.trod_slice Tryz.underlying46 h with ⟨hc, _⟩ | ⟨a, len, cap, elems, rest, m, hm, hc, _, _, hlc, hcm, hel, hall, _⟩
  · simp only [List.cons.injEq, and_true] at hc
    exact ⟨[], none, 0, hc, by simp, Row.nil _ _⟩
  · simp only [List.cons.injEq, and_true] at hc
    rw [icFun] at hall
    have hspot : 0 < len → a.spot = none := fun h0 => by
      have hb := hall 0 h0
      rw [List.getElem?_eq_getElem (by omega)] at hb
      obtain ⟨cs', h1, _⟩ := Option.bind_eq_some_iff.1 hb
      exact spot_no (n := 4) (by omega) h1
    have one : ∀ i, i < len → ∃ f : PFn, a.spot = none ∧ ∀ j u, (fnL f)[j]? = some u → W.cell? ⟨a.block, a.off + (i * 4 + j), none⟩ = some u := fun i hi => by
      have hb := hall i hi
      rw [List.getElem?_eq_getElem (by omega)] at hb
      obtain ⟨cs', h1, h2⟩ := Option.bind_eq_some_iff.1 hb
      obtain ⟨f, rfl⟩ := open_fn h2
      obtain ⟨_, _, hcell⟩ := World.cells?_some h1
      have hs : a.spot = none := hspot (by omega)
      refine ⟨f, hs, fun j u hj => ?_⟩
      have hj4 : j < 4 := (List.getElem?_eq_some_iff.1 hj).1
      have := (hcell j hj4).trans hj
      rw [add_add] at this
      obtain ⟨ab, ao, sx⟩ := a
      simp only at hs
      subst hs
      have e2 : (⟨ab, ao, none⟩ : Addr).add (i * 4 + j) = ⟨ab, ao + (i * 4 + j), none⟩ := by
        unfold Addr.add; split <;> simp_all
      rw [e2] at this
      exact this
    obtain ⟨fs, hfl, hf⟩ := pick_lt one
    subst hfl
    refine ⟨fs, some a, cap, hc, by omega, fun j u hj => ?_⟩
    have hjl : j < fs.length * 4 := by
      have := (List.getElem?_eq_some_iff.1 hj).1
      rwa [fn_len] at this
    have hk : j / 4 < fs.length := by omega
    have he : j / 4 * 4 + j % 4 = j := by omega
    have hg := fn_get fs (j / 4) hk (j % 4) (by omega)
    rw [he, hj] at hg
    obtain ⟨hs, hcell⟩ := hf (j / 4) hk
    have := hcell (j % 4) u hg.symm
    rw [he] at this
    obtain ⟨ab, ao, sx⟩ := a
    simp only at hs
    subst hs
    exact ⟨ab, ao, rfl, this⟩
set_option maxRecDepth 100000 in
theorem open_words {n : Nat} {v : Value} {x : DataW H × List MemPlace} (h : DataW.trod enc Tryz.prog W base sp hd n 35 [v] = some x) : ∃ l A c, v = .slice A (l : List Int).length c ∧ l.length ≤ maxLen ∧ Row W A (u64Vs l) ∧ ∀ n ∈ l, 0 ≤ n ∧ n < 18446744073709551616 := by
  rcases open_ints Tryz.underlying35 Tryz.underlying68 icU64 h with ⟨hc, _⟩ | ⟨a, len, cap, zs, hc, _, hlc, hcm, hz, _, hcell, hwf⟩
  · simp only [List.cons.injEq, and_true] at hc
    exact ⟨[], none, 0, hc, by simp, Row.nil _ _, fun n hn => by cases hn⟩
  · simp only [List.cons.injEq, and_true] at hc
    have hle : len ≤ zs.length := by rw [hz]; split <;> omega
    refine ⟨zs.take len, some a, cap, by rw [hc, List.length_take, Nat.min_eq_left hle], by rw [List.length_take]; omega, fun j u hj => ?_, fun n hn => ?_⟩
    · have hjl : j < len := by
        have := (List.getElem?_eq_some_iff.1 hj).1
        simp [u64Vs] at this
        omega
      have hg := hcell j (by omega)
      have hs := World.cell?_spot (hcell 0 (by omega))
      obtain ⟨ab, ao, asp⟩ := a
      have hs' : asp = none := by simpa [Addr.add] using hs
      subst hs'
      refine ⟨ab, ao, rfl, ?_⟩
      have e2 : (⟨ab, ao, none⟩ : Addr).add j = ⟨ab, ao + j, none⟩ := by unfold Addr.add; split <;> simp_all
      rw [e2] at hg
      rw [hg]
      unfold u64Vs at hj
      rw [List.getElem?_map, List.getElem?_take, if_pos hjl] at hj
      rw [List.getD_eq_getElem?_getD]
      cases hq : zs[j]? with
      | none => rw [hq] at hj; cases hj
      | some z => rw [hq] at hj; simpa using hj
    · have := hwf n (List.mem_of_mem_take hn)
      simp [Lit.wf, IntKind.min, IntKind.max, IntKind.signed, IntKind.bits] at this
      omega
set_option maxRecDepth 100000 in
/-- An image that came in. -/
theorem open_img {r : Reach} {b0 : Nat} {v : Value} {d : DataW H} {p : List MemPlace} (hv : Value.okWide Tryz.prog W r b0 48 v) (h : DataW.Trod enc Tryz.prog W base sp hd 48 v d p) :
    ∃ (m : PImg) (A B : Option Addr) (ca cb : Nat), v = .agg #[.slice A m.funs.length ca, .slice B m.words.length cb] ∧ m.funs.length ≤ maxLen ∧ m.words.length ≤ maxLen ∧ Row W A (m.funs.flatMap fnL) ∧ Row W B (u64Vs m.words) ∧ ∀ n ∈ m.words, 0 ≤ n ∧ n < 18446744073709551616 := by
  obtain ⟨cs, rfl, hsz⟩ := okWide_struct Tryz.underlying48 hv
  obtain ⟨l⟩ := cs
  have hl2 : l.length = 2 := hsz.trans icImg
  clear hsz
  match l, hl2 with
  | [c0, c1], _ =>
    obtain ⟨fuel, hf⟩ := h
    obtain ⟨xs, n, _, hx, hl, hlen, hg⟩ := DataW.trod_struct Tryz.underlying48 hf
    match xs, hlen with
    | [z0, z1], _ =>
      have g0 : DataW.trod enc Tryz.prog W base sp hd n 46 (([c0, c1].drop 0).take (Tryz.prog.cellsOf 46)) = some z0 := hg 0 _ rfl
      rw [icFuns, show ([c0, c1].drop 0).take 1 = [c0] from rfl] at g0
      have g1 : DataW.trod enc Tryz.prog W base sp hd n 35 (([c0, c1].drop 1).take (Tryz.prog.cellsOf 35)) = some z1 := hg 1 _ rfl
      rw [icWords, show ([c0, c1].drop 1).take 1 = [c1] from rfl] at g1
      obtain ⟨fs, A, ca, rfl, hl1, hr1⟩ := open_fns g0
      obtain ⟨ws, B, cb, rfl, hl2, hr2, h64⟩ := open_words g1
      exact ⟨⟨fs, ws⟩, A, B, ca, cb, rfl, hl1, hl2, hr1, hr2, h64⟩
end
end Go.Proofs.YtonnhechjbdenaaGreatDoor

namespace Go.Proofs.YtonnhechjbdenaaGreatDoor
open Go.RowKit

/-- What a world holds of the errors that the machine tells of. -/
structure Laid7 (E : Nat → Addr) (w : World) : Prop where
  c1 : w.cell? ⟨7, 0, none⟩ = some (esV (E 1))
  c2 : w.cell? ⟨8, 0, none⟩ = some (esV (E 2))
  c3 : w.cell? ⟨5, 0, none⟩ = some (esV (E 3))
  c4 : w.cell? ⟨2, 0, none⟩ = some (esV (E 4))
  c5 : w.cell? ⟨3, 0, none⟩ = some (esV (E 5))
  c7 : w.cell? ⟨0, 0, none⟩ = some (esV (E 7))
  c8 : w.cell? ⟨4, 0, none⟩ = some (esV (E 8))
theorem Laid7.keep {E : Nat → Addr} {w w' : World} (h : Laid7 E w) (hb : Below w.heap.size w w') : Laid7 E w' :=
  have k := Keeps.of_below hb
  ⟨k _ _ h.c1, k _ _ h.c2, k _ _ h.c3, k _ _ h.c4, k _ _ h.c5, k _ _ h.c7, k _ _ h.c8⟩
theorem Laid.seven {E : Nat → Addr} {w : World} (h : Laid E w) : Laid7 E w := ⟨h.c1, h.c2, h.c3, h.c4, h.c5, h.c7, h.c8⟩
end Go.Proofs.YtonnhechjbdenaaGreatDoor
