import Derived.Lib.SmallJoins
import Derived.Lib.Strings
import Derived.Deep.Slices
import Derived.Test.YtdilakpipbkokaaDoorBn6
import Derived.Test.YtdilakpipbkokaaDoorBn2
import Derived.Test.YtdilakpipbkokaaDoorBn7
set_option linter.unusedVariables false
set_option linter.unusedSimpArgs false
namespace Go.Proofs.YtdilakpipbkokaaDoor
open Go.ChangeShapes Go.WideShapes Go.ChangeAt Go.RowKit Go.Joins Go.Deep

/-! codes of values in memory -/
/-- Elements that lie side by side, sz cells each. -/
def RdL {α : Type} (sz : Nat) (good : World → α → List Value → Prop) (w : World) (l : List α) (A : Option Addr) : Prop := ∀ k (hk : k < l.length), ∃ b off cs, A = some ⟨b, off, none⟩ ∧ good w l[k] cs ∧ ∀ (j : Nat) (u : Value), cs[j]? = some u → w.cell? ⟨b, off + k * sz + j, none⟩ = some u
theorem RdL.keep {α : Type} {sz : Nat} {good : World → α → List Value → Prop} {w w' : World} {l : List α} {A : Option Addr} (h : RdL sz good w l A) (k : Keeps w w') (hg : ∀ x cs, good w x cs → good w' x cs) : RdL sz good w' l A := fun i hi => by
  obtain ⟨b, off, cs, e, g, hc⟩ := h i hi
  exact ⟨b, off, cs, e, hg _ _ g, fun j u hj => k _ _ (hc j u hj)⟩
def inL (x : PIn) (A : Option Addr) (c : Nat) : List Value := [.string (mkB x.kind), .int .i64 x.d, .slice A x.args.length c, .int .i64 x.num, .string (mkB x.name)]
def bkL (b : PBk) (P : Option Addr) (p : Nat) (I : Option Addr) (i : Nat) (T : Option Addr) (t : Nat) (W : Option Addr) (c : Nat) : List Value := [.slice P b.params.length p, .slice I b.ins.length i, .string (mkB b.fin), .int .i64 b.v, .slice T b.nx.length t, .slice W b.wth.length c]
def GoodL (w : World) (l : List Int) (cs : List Value) : Prop := ∃ A c, cs = [.slice A l.length c] ∧ Row w A (intVs l)
def GoodI (w : World) (x : PIn) (cs : List Value) : Prop := ∃ A c, cs = inL x A c ∧ Row w A (intVs x.args)
def GoodB (w : World) (b : PBk) (cs : List Value) : Prop := ∃ P p I i T t W c, cs = bkL b P p I i T t W c ∧ Row w P (intVs b.params) ∧ RdL 5 GoodI w b.ins I ∧ Row w T (intVs b.nx) ∧ RdL 1 GoodL w b.wth W
abbrev RdP (w : World) (bs : List PBk) (A : Option Addr) : Prop := RdL 6 GoodB w bs A
theorem GoodL.keep {w w' : World} (k : Keeps w w') {l : List Int} {cs : List Value} (h : GoodL w l cs) : GoodL w' l cs := by
  obtain ⟨A, c, e, hr⟩ := h
  exact ⟨A, c, e, hr.keep k⟩
theorem GoodI.keep {w w' : World} (k : Keeps w w') {x : PIn} {cs : List Value} (h : GoodI w x cs) : GoodI w' x cs := by
  obtain ⟨A, c, e, hr⟩ := h
  exact ⟨A, c, e, hr.keep k⟩
theorem GoodB.keep {w w' : World} (k : Keeps w w') {b : PBk} {cs : List Value} (h : GoodB w b cs) : GoodB w' b cs := by
  obtain ⟨P, p, I, i, T, t, W, c, e, h1, h2, h3, h4⟩ := h
  exact ⟨P, p, I, i, T, t, W, c, e, h1.keep k, h2.keep k fun _ _ => GoodI.keep k, h3.keep k, h4.keep k fun _ _ => GoodL.keep k⟩
theorem RdP.keep {w w' : World} (k : Keeps w w') {bs : List PBk} {A : Option Addr} (h : RdP w bs A) : RdP w' bs A := RdL.keep h k fun _ _ => GoodB.keep k
/-- The cells of an Ins. -/
structure InAt (w : World) (b off : Nat) (x : PIn) (A : Option Addr) (c : Nat) : Prop where
  c0 : w.cell? ⟨b, off, none⟩ = some (.string (mkB x.kind))
  c1 : w.cell? ⟨b, off + 1, none⟩ = some (.int .i64 x.d)
  c2 : w.cell? ⟨b, off + 2, none⟩ = some (.slice A x.args.length c)
  c3 : w.cell? ⟨b, off + 3, none⟩ = some (.int .i64 x.num)
  c4 : w.cell? ⟨b, off + 4, none⟩ = some (.string (mkB x.name))
  row : Row w A (intVs x.args)
theorem ins_at {w : World} {l : List PIn} {A : Option Addr} (h : RdL 5 GoodI w l A) {k : Nat} (hk : k < l.length) : ∃ b off B c, A = some ⟨b, off, none⟩ ∧ InAt w b (off + k * 5) l[k] B c := by
  obtain ⟨b, off, cs, e, ⟨B, c, rfl, hr⟩, hc⟩ := h k hk
  exact ⟨b, off, B, c, e, hc 0 _ rfl, hc 1 _ rfl, hc 2 _ rfl, hc 3 _ rfl, hc 4 _ rfl, hr⟩
theorem wth_at {w : World} {l : List (List Int)} {A : Option Addr} (h : RdL 1 GoodL w l A) {k : Nat} (hk : k < l.length) : ∃ b off B c, A = some ⟨b, off, none⟩ ∧ w.cell? ⟨b, off + k, none⟩ = some (.slice B l[k].length c) ∧ Row w B (intVs l[k]) := by
  obtain ⟨b, off, cs, e, ⟨B, c, rfl, hr⟩, hc⟩ := h k hk
  have := hc 0 _ rfl
  rw [Nat.mul_one] at this
  exact ⟨b, off, B, c, e, this, hr⟩
/-- The cells of a block. -/
structure BkAt (w : World) (b off : Nat) (x : PBk) (P : Option Addr) (p : Nat) (I : Option Addr) (i : Nat) (T : Option Addr) (t : Nat) (W : Option Addr) (c : Nat) : Prop where
  c0 : w.cell? ⟨b, off, none⟩ = some (.slice P x.params.length p)
  c1 : w.cell? ⟨b, off + 1, none⟩ = some (.slice I x.ins.length i)
  c2 : w.cell? ⟨b, off + 2, none⟩ = some (.string (mkB x.fin))
  c3 : w.cell? ⟨b, off + 3, none⟩ = some (.int .i64 x.v)
  c4 : w.cell? ⟨b, off + 4, none⟩ = some (.slice T x.nx.length t)
  c5 : w.cell? ⟨b, off + 5, none⟩ = some (.slice W x.wth.length c)
  params : Row w P (intVs x.params)
  ins : RdL 5 GoodI w x.ins I
  nx : Row w T (intVs x.nx)
  wth : RdL 1 GoodL w x.wth W
theorem bks_at {w : World} {l : List PBk} {A : Option Addr} (h : RdP w l A) {k : Nat} (hk : k < l.length) : ∃ b off P p I i T t W c, A = some ⟨b, off, none⟩ ∧ BkAt w b (off + k * 6) l[k] P p I i T t W c := by
  obtain ⟨b, off, cs, e, ⟨P, p, I, i, T, t, W, c, rfl, h1, h2, h3, h4⟩, hc⟩ := h k hk
  exact ⟨b, off, P, p, I, i, T, t, W, c, e, hc 0 _ rfl, hc 1 _ rfl, hc 2 _ rfl, hc 3 _ rfl, hc 4 _ rfl, hc 5 _ rfl, h1, h2, h3, h4⟩
end Go.Proofs.YtdilakpipbkokaaDoor
