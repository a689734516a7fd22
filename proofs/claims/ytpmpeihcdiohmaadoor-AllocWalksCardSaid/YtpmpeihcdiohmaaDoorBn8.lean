import Derived.Lib.SmallJoins
import Derived.Lib.Strings
import Derived.Deep.Slices
import Derived.Test.YtpmpeihcdiohmaaDoorBn6
import Derived.Test.YtpmpeihcdiohmaaDoorBn2
import Derived.Test.YtpmpeihcdiohmaaDoorBn7
import Derived.Test.YtpmpeihcdiohmaaDoorBn3
import Derived.Test.YtpmpeihcdiohmaaDoorBn4
set_option linter.unusedVariables false
set_option linter.unusedSimpArgs false
namespace Go.Proofs.YtpmpeihcdiohmaaDoor
open Go.ChangeShapes Go.WideShapes Go.ChangeAt Go.RowKit Go.Joins Go.Deep

/-! a code that came in (printed by gen_alopen.py) -/
def lowL (x : PLow) : List Value := [.string (mkB x.kind), .int .i64 x.d, .int .i64 x.a, .int .i64 x.b, .int .i64 x.num, .string (mkB x.name)]
def blkL (b : PBlk) (I : Option Addr) (ic : Nat) (N : Option Addr) (nc : Nat) : List Value := [.slice I b.ins.length ic, .string (mkB b.fin), .int .i64 b.a, .slice N b.nx.length nc]
/-- The numbers of an instruction are within 64 bits. -/
structure LowN (x : PLow) : Prop where
  d : I64 x.d
  a : I64 x.a
  b : I64 x.b
  num : I64 x.num
structure BlkN (b : PBlk) : Prop where
  a : I64 b.a
  nx : ∀ k ∈ b.nx, I64 k
  ins : ∀ x ∈ b.ins, LowN x
/-- Block k of a row of blocks. -/
structure BlkAt (w : World) (b off : Nat) (x : PBlk) (I : Option Addr) (ic : Nat) (N : Option Addr) (nc : Nat) : Prop where
  c0 : w.cell? ⟨b, off, none⟩ = some (.slice I x.ins.length ic)
  c1 : w.cell? ⟨b, off + 1, none⟩ = some (.string (mkB x.fin))
  c2 : w.cell? ⟨b, off + 2, none⟩ = some (.int .i64 x.a)
  c3 : w.cell? ⟨b, off + 3, none⟩ = some (.slice N x.nx.length nc)
  ins : Row w I (x.ins.flatMap lowL)
  nx : Row w N (intVs x.nx)
theorem BlkAt.keep {w w' : World} {b off : Nat} {x : PBlk} {I N : Option Addr} {ic nc : Nat} (h : BlkAt w b off x I ic N nc) (k : Keeps w w') : BlkAt w' b off x I ic N nc :=
  ⟨k _ _ h.c0, k _ _ h.c1, k _ _ h.c2, k _ _ h.c3, h.ins.keep k, h.nx.keep k⟩
def RdC (w : World) (A : Option Addr) (bs : List PBlk) : Prop := ∀ k (hk : k < bs.length), ∃ b off I ic N nc, A = some ⟨b, off, none⟩ ∧ BlkAt w b (off + k * 4) bs[k] I ic N nc
theorem RdC.keep {w w' : World} {A : Option Addr} {bs : List PBlk} (h : RdC w A bs) (k : Keeps w w') : RdC w' A bs := fun j hj => by
  obtain ⟨b, off, I, ic, N, nc, e, hb⟩ := h j hj
  exact ⟨b, off, I, ic, N, nc, e, hb.keep k⟩
theorem low_get : ∀ (l : List PLow) (k : Nat) (h : k < l.length) (i : Nat), i < 6 → (l.flatMap lowL)[k * 6 + i]? = (lowL l[k])[i]? := by
  intro l
  induction l with
  | nil => intro k h; simp at h
  | cons f l ih =>
    intro k h i hi
    rw [List.flatMap_cons]
    cases k with
    | zero =>
      rw [Nat.zero_mul, Nat.zero_add, List.getElem?_append_left (by simpa [lowL] using hi)]
      rfl
    | succ k =>
      rw [List.getElem?_append_right (by simp [lowL]; omega)]
      have e : (k + 1) * 6 + i - (lowL f).length = k * 6 + i := by simp [lowL]; omega
      rw [e]
      exact ih k (by simpa using h) i hi
theorem low_len (l : List PLow) : (l.flatMap lowL).length = l.length * 6 := by
  induction l with
  | nil => rfl
  | cons f l ih => rw [List.flatMap_cons, List.length_append, ih]; simp [lowL]; omega
/-- The cells of instruction k. -/
structure LowAt' (w : World) (b off : Nat) (x : PLow) : Prop where
  c0 : w.cell? ⟨b, off, none⟩ = some (.string (mkB x.kind))
  c1 : w.cell? ⟨b, off + 1, none⟩ = some (.int .i64 x.d)
  c2 : w.cell? ⟨b, off + 2, none⟩ = some (.int .i64 x.a)
  c3 : w.cell? ⟨b, off + 3, none⟩ = some (.int .i64 x.b)
  c4 : w.cell? ⟨b, off + 4, none⟩ = some (.int .i64 x.num)
  c5 : w.cell? ⟨b, off + 5, none⟩ = some (.string (mkB x.name))
theorem low_cells {w : World} {A : Option Addr} {l : List PLow} (h : Row w A (l.flatMap lowL)) {k : Nat} (hk : k < l.length) : ∃ b off, A = some ⟨b, off, none⟩ ∧ LowAt' w b (off + k * 6) l[k] := by
  have g := low_get l k hk
  obtain ⟨b, off, e, c0⟩ := h (k * 6 + 0) _ (g 0 (by omega))
  refine ⟨b, off, e, c0, ?_, ?_, ?_, ?_, ?_⟩
  · obtain ⟨b', off', e', c1⟩ := h (k * 6 + 1) _ (g 1 (by omega))
    rw [e] at e'; injection e' with e'; injection e' with e1 e2 _
    subst e1; subst e2
    rw [Nat.add_assoc]; exact c1
  · obtain ⟨b', off', e', c1⟩ := h (k * 6 + 2) _ (g 2 (by omega))
    rw [e] at e'; injection e' with e'; injection e' with e1 e2 _
    subst e1; subst e2
    rw [Nat.add_assoc]; exact c1
  · obtain ⟨b', off', e', c1⟩ := h (k * 6 + 3) _ (g 3 (by omega))
    rw [e] at e'; injection e' with e'; injection e' with e1 e2 _
    subst e1; subst e2
    rw [Nat.add_assoc]; exact c1
  · obtain ⟨b', off', e', c1⟩ := h (k * 6 + 4) _ (g 4 (by omega))
    rw [e] at e'; injection e' with e'; injection e' with e1 e2 _
    subst e1; subst e2
    rw [Nat.add_assoc]; exact c1
  · obtain ⟨b', off', e', c1⟩ := h (k * 6 + 5) _ (g 5 (by omega))
    rw [e] at e'; injection e' with e'; injection e' with e1 e2 _
    subst e1; subst e2
    rw [Nat.add_assoc]; exact c1
theorem acStr : Tryd.prog.cellsOf 9 = 1 := by kernel_rfl
theorem acInt : Tryd.prog.cellsOf 3 = 1 := by kernel_rfl
theorem acInts : Tryd.prog.cellsOf 25 = 1 := by kernel_rfl
theorem acLow : Tryd.prog.cellsOf 60 = 6 := by kernel_rfl
theorem acLows : Tryd.prog.cellsOf 57 = 1 := by kernel_rfl
theorem acBlk : Tryd.prog.cellsOf 59 = 4 := by kernel_rfl
theorem acBlks : Tryd.prog.cellsOf 22 = 1 := by kernel_rfl
theorem acCd : Tryd.prog.cellsOf 24 = 4 := by kernel_rfl
theorem aidB (s : ByteArray) : mkB s.toList = s := by
  rw [Lib.toList_data]; cases s; rfl
theorem awf {n : Int} (h : (Lit.int .i64 n).wf = true) : I64 n := by
  simp [Lit.wf] at h
  exact ⟨h.1, h.2⟩
theorem aspot {W : World} {base n : Nat} {a : Addr} {cs : List Value} (hn : 0 < n) (h : W.cells? base (a.add (0 * n)) n = some cs) : a.spot = none := by
  obtain ⟨_, hl, hcell⟩ := World.cells?_some h
  have h0 := hcell 0 hn
  rw [List.getElem?_eq_getElem (by omega)] at h0
  have := World.cell?_spot h0
  simpa [Addr.add] using this
theorem apick {α : Type} {n : Nat} {p : Nat → α → Prop} (h : ∀ i, i < n → ∃ y, p i y) : ∃ l : List α, l.length = n ∧ ∀ i (hi : i < l.length), p i l[i] := by
  induction n with
  | zero => exact ⟨[], rfl, fun i hi => by simp at hi⟩
  | succ n ih =>
    obtain ⟨l, hl, hp⟩ := ih fun i hi => h i (by omega)
    obtain ⟨y, hy⟩ := h n (by omega)
    refine ⟨l ++ [y], by simp [hl], fun i hi => ?_⟩
    by_cases hin : i < l.length
    · rw [List.getElem_append_left hin]; exact hp i hin
    · have e : i = l.length := by simp at hi; omega
      subst e
      simp [hl, hy]
section
variable {H : Type} {enc : TypeId × Value → H} {W : World} {base : Nat} {sp : Nat → Bool} {hd : Bool}
set_option maxRecDepth 100000 in
theorem open_low {n : Nat} {cs : List Value} {x : DataW H × List MemPlace} (h : DataW.trod enc Tryd.prog W base sp hd n 60 cs = some x) : ∃ f : PLow, cs = lowL f ∧ LowN f := by
  obtain ⟨xs, m, hm, _, hl, hlen, hg⟩ := DataW.trod_struct Tryd.underlying60 h
  have hl6 : cs.length = 6 := hl.trans acLow
  match cs, hl6 with
  | [c0, c1, c2, c3, c4, c5], _ =>
    match xs, hlen with
    | [z0, z1, z2, z3, z4, z5], _ =>
      have g0 : DataW.trod enc Tryd.prog W base sp hd m 9 (([c0, c1, c2, c3, c4, c5].drop 0).take (Tryd.prog.cellsOf 9)) = some z0 := hg 0 _ rfl
      rw [acStr, show ([c0, c1, c2, c3, c4, c5].drop 0).take 1 = [c0] from rfl] at g0
      have g1 : DataW.trod enc Tryd.prog W base sp hd m 3 (([c0, c1, c2, c3, c4, c5].drop 1).take (Tryd.prog.cellsOf 3)) = some z1 := hg 1 _ rfl
      rw [acInt, show ([c0, c1, c2, c3, c4, c5].drop 1).take 1 = [c1] from rfl] at g1
      have g2 : DataW.trod enc Tryd.prog W base sp hd m 3 (([c0, c1, c2, c3, c4, c5].drop 2).take (Tryd.prog.cellsOf 3)) = some z2 := hg 2 _ rfl
      rw [acInt, show ([c0, c1, c2, c3, c4, c5].drop 2).take 1 = [c2] from rfl] at g2
      have g3 : DataW.trod enc Tryd.prog W base sp hd m 3 (([c0, c1, c2, c3, c4, c5].drop 3).take (Tryd.prog.cellsOf 3)) = some z3 := hg 3 _ rfl
      rw [acInt, show ([c0, c1, c2, c3, c4, c5].drop 3).take 1 = [c3] from rfl] at g3
      have g4 : DataW.trod enc Tryd.prog W base sp hd m 3 (([c0, c1, c2, c3, c4, c5].drop 4).take (Tryd.prog.cellsOf 3)) = some z4 := hg 4 _ rfl
      rw [acInt, show ([c0, c1, c2, c3, c4, c5].drop 4).take 1 = [c4] from rfl] at g4
      have g5 : DataW.trod enc Tryd.prog W base sp hd m 9 (([c0, c1, c2, c3, c4, c5].drop 5).take (Tryd.prog.cellsOf 9)) = some z5 := hg 5 _ rfl
      rw [acStr, show ([c0, c1, c2, c3, c4, c5].drop 5).take 1 = [c5] from rfl] at g5
      obtain ⟨s0, e0, _, _⟩ := DataW.trod_string Tryd.underlying9 g0
      obtain ⟨k1, e1, _, w1⟩ := DataW.trod_int Tryd.underlying3 g1
      obtain ⟨k2, e2, _, w2⟩ := DataW.trod_int Tryd.underlying3 g2
      obtain ⟨k3, e3, _, w3⟩ := DataW.trod_int Tryd.underlying3 g3
      obtain ⟨k4, e4, _, w4⟩ := DataW.trod_int Tryd.underlying3 g4
      obtain ⟨s5, e5, _, _⟩ := DataW.trod_string Tryd.underlying9 g5
      simp only [List.cons.injEq, and_true] at e0 e1 e2 e3 e4 e5
      subst e0; subst e1; subst e2; subst e3; subst e4; subst e5
      exact ⟨⟨s0.toList, k1, k2, k3, k4, s5.toList⟩, by simp [lowL, aidB], ⟨awf w1, awf w2, awf w3, awf w4⟩⟩
set_option maxRecDepth 100000 in
theorem open_lows {n : Nat} {v : Value} {x : DataW H × List MemPlace} (h : DataW.trod enc Tryd.prog W base sp hd n 57 [v] = some x) : ∃ fs A c, v = .slice A (fs : List PLow).length c ∧ fs.length ≤ maxLen ∧ Row W A (fs.flatMap lowL) ∧ ∀ f ∈ fs, LowN f := by
  rcases DataW.trod_slice Tryd.underlying57 h with ⟨hc, _⟩ | ⟨a, len, cap, elems, rest, m, hm, hc, _, _, hlc, hcm, hel, hall, _⟩
  · simp only [List.cons.injEq, and_true] at hc
    exact ⟨[], none, 0, hc, by simp, Row.nil _ _, fun f hf => by cases hf⟩
  · simp only [List.cons.injEq, and_true] at hc
    rw [acLow] at hall
    have hspot : 0 < len → a.spot = none := fun h0 => by
      have hb := hall 0 h0
      rw [List.getElem?_eq_getElem (by omega)] at hb
      obtain ⟨cs', h1, _⟩ := Option.bind_eq_some_iff.1 hb
      exact aspot (n := 6) (by omega) h1
    have one : ∀ i, i < len → ∃ y : PLow, a.spot = none ∧ (∀ j u, (lowL y)[j]? = some u → W.cell? ⟨a.block, a.off + (i * 6 + j), none⟩ = some u) ∧ LowN y := fun i hi => by
      have hb := hall i hi
      rw [List.getElem?_eq_getElem (by omega)] at hb
      obtain ⟨cs', h1, h2⟩ := Option.bind_eq_some_iff.1 hb
      obtain ⟨f, rfl, hn⟩ := open_low h2
      obtain ⟨_, _, hcell⟩ := World.cells?_some h1
      have hs : a.spot = none := hspot (by omega)
      refine ⟨f, hs, fun j u hj => ?_, hn⟩
      have hj4 : j < 6 := (List.getElem?_eq_some_iff.1 hj).1
      have := (hcell j hj4).trans hj
      rw [add_add] at this
      obtain ⟨ab, ao, sx⟩ := a
      simp only at hs
      subst hs
      have e2 : (⟨ab, ao, none⟩ : Addr).add (i * 6 + j) = ⟨ab, ao + (i * 6 + j), none⟩ := by
        unfold Addr.add; split <;> simp_all
      rw [e2] at this
      exact this
    obtain ⟨fs, hfl, hf⟩ := apick one
    subst hfl
    refine ⟨fs, some a, cap, hc, by omega, fun j u hj => ?_, fun f hm => ?_⟩
    · have hjl : j < fs.length * 6 := by
        have := (List.getElem?_eq_some_iff.1 hj).1
        rwa [low_len] at this
      have hk : j / 6 < fs.length := by omega
      have he : j / 6 * 6 + j % 6 = j := by omega
      have hg := low_get fs (j / 6) hk (j % 6) (by omega)
      rw [he, hj] at hg
      obtain ⟨hs, hcell, -⟩ := hf (j / 6) hk
      have := hcell (j % 6) u hg.symm
      rw [he] at this
      obtain ⟨ab, ao, sx⟩ := a
      simp only at hs
      subst hs
      exact ⟨ab, ao, rfl, this⟩
    · obtain ⟨i, hi, rfl⟩ := List.mem_iff_getElem.1 hm
      exact (hf i hi).2.2
set_option maxRecDepth 100000 in
theorem open_nx {n : Nat} {v : Value} {x : DataW H × List MemPlace} (h : DataW.trod enc Tryd.prog W base sp hd n 25 [v] = some x) : ∃ l A c, v = .slice A (l : List Int).length c ∧ l.length ≤ maxLen ∧ Row W A (intVs l) ∧ ∀ n ∈ l, I64 n := by
  rcases open_ints Tryd.underlying25 Tryd.underlying3 acInt h with ⟨hc, _⟩ | ⟨a, len, cap, zs, hc, _, hlc, hcm, hz, _, hcell, hwf⟩
  · simp only [List.cons.injEq, and_true] at hc
    exact ⟨[], none, 0, hc, by simp, Row.nil _ _, fun n hn => by cases hn⟩
  · simp only [List.cons.injEq, and_true] at hc
    have hle : len ≤ zs.length := by rw [hz]; split <;> omega
    refine ⟨zs.take len, some a, cap, by rw [hc, List.length_take, Nat.min_eq_left hle], by rw [List.length_take]; omega, fun j u hj => ?_, fun n hn => ?_⟩
    · have hjl : j < len := by
        have := (List.getElem?_eq_some_iff.1 hj).1
        simp [intVs] at this
        omega
      have hg := hcell j (by omega)
      have hs := World.cell?_spot (hcell 0 (by omega))
      obtain ⟨ab, ao, asp⟩ := a
      have hs' : asp = none := by simpa [Addr.add] using hs
      subst hs'
      refine ⟨ab, ao, rfl, ?_⟩
      have e2 : (⟨ab, ao, none⟩ : Addr).add j = ⟨ab, ao + j, none⟩ := by unfold Addr.add; split <;> simp_all
      rw [e2] at hg
      rw [hg]
      unfold intVs at hj
      rw [List.getElem?_map, List.getElem?_take, if_pos hjl] at hj
      rw [List.getD_eq_getElem?_getD]
      cases hq : zs[j]? with
      | none => rw [hq] at hj; cases hj
      | some z => rw [hq] at hj; simpa using hj
    · exact awf (hwf n (List.mem_of_mem_take hn))
set_option maxRecDepth 100000 in
theorem open_blk {n : Nat} {cs : List Value} {x : DataW H × List MemPlace} (h : DataW.trod enc Tryd.prog W base sp hd n 59 cs = some x) : ∃ (b : PBlk) (I : Option Addr) (ic : Nat) (N : Option Addr) (nc : Nat), cs = blkL b I ic N nc ∧ BlkN b ∧ Row W I (b.ins.flatMap lowL) ∧ Row W N (intVs b.nx) := by
  obtain ⟨xs, m, hm, _, hl, hlen, hg⟩ := DataW.trod_struct Tryd.underlying59 h
  have hl4 : cs.length = 4 := hl.trans acBlk
  match cs, hl4 with
  | [c0, c1, c2, c3], _ =>
    match xs, hlen with
    | [z0, z1, z2, z3], _ =>
      have g0 : DataW.trod enc Tryd.prog W base sp hd m 57 (([c0, c1, c2, c3].drop 0).take (Tryd.prog.cellsOf 57)) = some z0 := hg 0 _ rfl
      rw [acLows, show ([c0, c1, c2, c3].drop 0).take 1 = [c0] from rfl] at g0
      have g1 : DataW.trod enc Tryd.prog W base sp hd m 9 (([c0, c1, c2, c3].drop 1).take (Tryd.prog.cellsOf 9)) = some z1 := hg 1 _ rfl
      rw [acStr, show ([c0, c1, c2, c3].drop 1).take 1 = [c1] from rfl] at g1
      have g2 : DataW.trod enc Tryd.prog W base sp hd m 3 (([c0, c1, c2, c3].drop 2).take (Tryd.prog.cellsOf 3)) = some z2 := hg 2 _ rfl
      rw [acInt, show ([c0, c1, c2, c3].drop 2).take 1 = [c2] from rfl] at g2
      have g3 : DataW.trod enc Tryd.prog W base sp hd m 25 (([c0, c1, c2, c3].drop 3).take (Tryd.prog.cellsOf 25)) = some z3 := hg 3 _ rfl
      rw [acInts, show ([c0, c1, c2, c3].drop 3).take 1 = [c3] from rfl] at g3
      obtain ⟨l0, A0, q0, e0, m0, r0, n0⟩ := open_lows g0
      obtain ⟨s1, e1, _, _⟩ := DataW.trod_string Tryd.underlying9 g1
      obtain ⟨k2, e2, _, w2⟩ := DataW.trod_int Tryd.underlying3 g2
      obtain ⟨l3, A3, q3, e3, m3, r3, n3⟩ := open_nx g3
      simp only [List.cons.injEq, and_true] at e1 e2
      subst e0; subst e1; subst e2; subst e3
      exact ⟨⟨l0, s1.toList, k2, l3⟩, A0, q0, A3, q3, by simp [blkL, aidB], ⟨awf w2, n3, n0⟩, r0, r3⟩
set_option maxRecDepth 100000 in
theorem open_blks {n : Nat} {v : Value} {x : DataW H × List MemPlace} (h : DataW.trod enc Tryd.prog W base sp hd n 22 [v] = some x) : ∃ bs A c, v = .slice A (bs : List PBlk).length c ∧ bs.length ≤ maxLen ∧ RdC W A bs ∧ ∀ b ∈ bs, BlkN b := by
  rcases DataW.trod_slice Tryd.underlying22 h with ⟨hc, _⟩ | ⟨a, len, cap, elems, rest, m, hm, hc, _, _, hlc, hcm, hel, hall, _⟩
  · simp only [List.cons.injEq, and_true] at hc
    exact ⟨[], none, 0, hc, by simp, fun k hk => by simp at hk, fun b hb => by cases hb⟩
  · simp only [List.cons.injEq, and_true] at hc
    rw [acBlk] at hall
    have hspot : 0 < len → a.spot = none := fun h0 => by
      have hb := hall 0 h0
      rw [List.getElem?_eq_getElem (by omega)] at hb
      obtain ⟨cs', h1, _⟩ := Option.bind_eq_some_iff.1 hb
      exact aspot (n := 4) (by omega) h1
    have one : ∀ i, i < len → ∃ y : PBlk × (Option Addr × Nat) × (Option Addr × Nat), a.spot = none ∧ (∀ j u, (blkL y.1 y.2.1.1 y.2.1.2 y.2.2.1 y.2.2.2)[j]? = some u → W.cell? ⟨a.block, a.off + (i * 4 + j), none⟩ = some u) ∧ BlkN y.1 ∧ Row W y.2.1.1 (y.1.ins.flatMap lowL) ∧ Row W y.2.2.1 (intVs y.1.nx) := fun i hi => by
      have hb := hall i hi
      rw [List.getElem?_eq_getElem (by omega)] at hb
      obtain ⟨cs', h1, h2⟩ := Option.bind_eq_some_iff.1 hb
      obtain ⟨f, I, ic, N, nc, rfl, hn, hr1, hr2⟩ := open_blk h2
      obtain ⟨_, _, hcell⟩ := World.cells?_some h1
      have hs : a.spot = none := hspot (by omega)
      refine ⟨⟨f, (I, ic), (N, nc)⟩, hs, fun j u hj => ?_, hn, hr1, hr2⟩
      have hj4 : j < 4 := (List.getElem?_eq_some_iff.1 hj).1
      have := (hcell j hj4).trans hj
      rw [add_add] at this
      obtain ⟨ab, ao, sx⟩ := a
      simp only at hs
      subst hs
      have e2 : (⟨ab, ao, none⟩ : Addr).add (i * 4 + j) = ⟨ab, ao + (i * 4 + j), none⟩ := by
        unfold Addr.add; split <;> simp_all
      rw [e2] at this
      exact this
    obtain ⟨ys, hyl, hy⟩ := apick one
    subst hyl
    refine ⟨ys.map (·.1), some a, cap, by rw [hc, List.length_map], by rw [List.length_map]; omega, fun k hk => ?_, fun b hb => ?_⟩
    · have hk' : k < ys.length := by simpa using hk
      obtain ⟨hs, hcell, -, hr1, hr2⟩ := hy k hk'
      have hx : (ys.map (·.1))[k] = ys[k].1 := by simp
      obtain ⟨ab, ao, sx⟩ := a
      simp only at hs
      subst hs
      refine ⟨ab, ao, ys[k].2.1.1, ys[k].2.1.2, ys[k].2.2.1, ys[k].2.2.2, rfl, ?_⟩
      rw [hx]
      refine ⟨hcell 0 _ rfl, ?_, ?_, ?_, hr1, hr2⟩
      · rw [Nat.add_assoc]; exact hcell 1 _ rfl
      · rw [Nat.add_assoc]; exact hcell 2 _ rfl
      · rw [Nat.add_assoc]; exact hcell 3 _ rfl
    · obtain ⟨y, hy2, rfl⟩ := List.mem_map.1 hb
      obtain ⟨i, hi, rfl⟩ := List.mem_iff_getElem.1 hy2
      exact (hy i hi).2.2.1
set_option maxRecDepth 100000 in
/-- A code that came in. -/
theorem open_cd {r : Reach} {b0 : Nat} {v : Value} {d : DataW H} {p : List MemPlace} (hv : Value.okWide Tryd.prog W r b0 24 v) (h : DataW.Trod enc Tryd.prog W base sp hd 24 v d p) :
    ∃ (c : PCd) (A : Option Addr) (ca : Nat), v = .agg #[.string (mkB c.name), .int .i64 c.params, .int .i64 c.slots, .slice A c.blocks.length ca] ∧ c.blocks.length ≤ maxLen ∧ RdC W A c.blocks ∧ (∀ b ∈ c.blocks, BlkN b) ∧ I64 c.params ∧ I64 c.slots := by
  obtain ⟨cs, rfl, hsz⟩ := okWide_struct Tryd.underlying24 hv
  obtain ⟨l⟩ := cs
  have hl4 : l.length = 4 := hsz.trans acCd
  clear hsz
  match l, hl4 with
  | [c0, c1, c2, c3], _ =>
    obtain ⟨fuel, hf⟩ := h
    obtain ⟨xs, m, _, hx, hl, hlen, hg⟩ := DataW.trod_struct Tryd.underlying24 hf
    match xs, hlen with
    | [z0, z1, z2, z3], _ =>
      have g0 : DataW.trod enc Tryd.prog W base sp hd m 9 (([c0, c1, c2, c3].drop 0).take (Tryd.prog.cellsOf 9)) = some z0 := hg 0 _ rfl
      rw [acStr, show ([c0, c1, c2, c3].drop 0).take 1 = [c0] from rfl] at g0
      have g1 : DataW.trod enc Tryd.prog W base sp hd m 3 (([c0, c1, c2, c3].drop 1).take (Tryd.prog.cellsOf 3)) = some z1 := hg 1 _ rfl
      rw [acInt, show ([c0, c1, c2, c3].drop 1).take 1 = [c1] from rfl] at g1
      have g2 : DataW.trod enc Tryd.prog W base sp hd m 3 (([c0, c1, c2, c3].drop 2).take (Tryd.prog.cellsOf 3)) = some z2 := hg 2 _ rfl
      rw [acInt, show ([c0, c1, c2, c3].drop 2).take 1 = [c2] from rfl] at g2
      have g3 : DataW.trod enc Tryd.prog W base sp hd m 22 (([c0, c1, c2, c3].drop 3).take (Tryd.prog.cellsOf 22)) = some z3 := hg 3 _ rfl
      rw [acBlks, show ([c0, c1, c2, c3].drop 3).take 1 = [c3] from rfl] at g3
      obtain ⟨s0, e0, _, _⟩ := DataW.trod_string Tryd.underlying9 g0
      obtain ⟨k1, e1, _, w1⟩ := DataW.trod_int Tryd.underlying3 g1
      obtain ⟨k2, e2, _, w2⟩ := DataW.trod_int Tryd.underlying3 g2
      obtain ⟨l3, A3, q3, e3, m3, r3, n3⟩ := open_blks g3
      simp only [List.cons.injEq, and_true] at e0 e1 e2
      subst e0; subst e1; subst e2; subst e3
      exact ⟨⟨s0.toList, k1, k2, l3⟩, A3, q3, by simp [aidB], m3, r3, n3, awf w1, awf w2⟩
end
end Go.Proofs.YtpmpeihcdiohmaaDoor

namespace Go.Proofs.YtpmpeihcdiohmaaDoor
open Go.RowKit

/-! blocks and rows that are one's own -/
theorem old_block (w : World) (o : Obj) {k : Nat} (hk : k < w.heap.size) : (w.alloc o).heap[k]? = w.heap[k]? := by
  show (w.heap.push o)[k]? = _
  rw [Array.getElem?_push_lt hk, Array.getElem?_eq_getElem hk]
theorem new_block (w : World) (o : Obj) {k : Nat} (hk : k = w.heap.size) : (w.alloc o).heap[k]? = some o := by
  subst hk; exact heap_alloc_new w o
theorem row_set {w : World} {b j : Nat} {cs cs' : Array Value} {T : TypeId} {fz : Nat × Nat} (u : Value) (hb : w.heap[b]? = some (.cells cs T fz)) (he : cs' = cs.setIfInBounds j u) : (w.setCell ⟨b, j, none⟩ u).heap[b]? = some (.cells cs' T fz) := by
  subst he
  simp [World.setCell, Array.getElem?_modify, hb]
theorem row_frozen {w : World} {b : Nat} {cs : Array Value} {T : TypeId} (hb : w.heap[b]? = some (.cells cs T (0, 0))) (j : Nat) : w.frozen? ⟨b, j, none⟩ = false := by
  simp [World.frozen?, hb]
theorem own_else {w : World} {base : Nat} {e : TypeId} {size : Nat} {v : Value} {n : Nat} {xs : List Value} {x : Nat} {o : Obj} (h : w.ownsRow base e size v n xs) (hx : w.heap[x]? = some o) (hT : ∀ cs, o ≠ .cells cs e (0, 0)) : v.ownBlock ≠ some x := by
  rcases h.2 with ⟨q, _⟩ | ⟨g, cap, cur, q, _, q4, _⟩
  · rw [q]; simp [Value.ownBlock]
  · rw [q]
    intro e
    simp only [Value.ownBlock, Option.some.injEq] at e
    subst e
    rw [hx] at q4
    exact hT _ (Option.some.inj q4)
theorem own_same {w w' : World} {base : Nat} {e : TypeId} {size : Nat} {v : Value} {n : Nat} {xs : List Value} (h : w.ownsRow base e size v n xs) (hs : ∀ k, v.ownBlock = some k → w'.heap[k]? = w.heap[k]?) : w'.ownsRow base e size v n xs := by
  refine ⟨h.1, ?_⟩
  rcases h.2 with q | ⟨g, cap, cur, q1, q2, q3, q4⟩
  · exact .inl q
  · exact .inr ⟨g, cap, cur, q1, q2, (hs g (by rw [q1]; rfl)).trans q3, q4⟩
theorem own_lt {w : World} {base : Nat} {e : TypeId} {size : Nat} {v : Value} {n : Nat} {xs : List Value} (h : w.ownsRow base e size v n xs) {k : Nat} (hk : v.ownBlock = some k) : base ≤ k ∧ k < w.heap.size := by
  rcases h.2 with ⟨q, _⟩ | ⟨g, cap, cur, q1, q2, q3, q4⟩
  · rw [q] at hk; cases hk
  · rw [q1] at hk
    simp only [Value.ownBlock, Option.some.injEq] at hk
    subst hk
    exact ⟨q2, (Array.getElem?_eq_some_iff.1 q3).1⟩
theorem own_blk {w : World} {base : Nat} {e : TypeId} {size : Nat} {v : Value} {n : Nat} {xs : List Value} (h : w.ownsRow base e size v n xs) {k : Nat} (hk : v.ownBlock = some k) : ∃ cs, w.heap[k]? = some (.cells cs e (0, 0)) := by
  rcases h.2 with ⟨q, _⟩ | ⟨g, cap, cur, q1, q2, q3, q4⟩
  · rw [q] at hk; cases hk
  · rw [q1] at hk
    simp only [Value.ownBlock, Option.some.injEq] at hk
    subst hk
    exact ⟨_, q3⟩
theorem own_ne {w : World} {b1 b2 s1 s2 : Nat} {e1 e2 : TypeId} {v1 v2 : Value} {n1 n2 : Nat} {l1 l2 : List Value} (h1 : w.ownsRow b1 e1 s1 v1 n1 l1) (h2 : w.ownsRow b2 e2 s2 v2 n2 l2) (hT : e1 ≠ e2) {k : Nat} (hk : v1.ownBlock = some k) : v2.ownBlock ≠ some k := by
  obtain ⟨cs, hc⟩ := own_blk h1 hk
  exact own_else h2 hc fun cs' e => by injection e with _ e _; exact hT e
end Go.Proofs.YtpmpeihcdiohmaaDoor
