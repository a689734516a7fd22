import Derived.Deep.AppendLies
import Derived.Deep.RegionHeld3
import Derived.Test.YtnpdjncgilekhaaGreatDoorBn10
namespace Go.Proofs.YtnpdjncgilekhaaGreatDoor
open Go.RowKit

theorem strInfo : (Tryz.prog.info? 9).map (fun i => (i.zero, i.size, i.bytes)) = some (some (.string ⟨#[]⟩), 1, 16) := by kernel_rfl
theorem funInfo : (Tryz.prog.info? 39).map (fun i => (i.zero, i.size, i.bytes)) = some (some (.agg #[.string ⟨#[]⟩, .slice none 0 0, .slice none 0 0]), 3, 64) := by kernel_rfl
def funV (f : PFun) (P : Option Addr) (p : Nat) (B : Option Addr) (c : Nat) : Value := .agg #[.string (mkB f.name), .slice P f.params.length p, .slice B f.body.length c]
/-- What the region of AsFun looks at. -/
def FunSeen (w : World) (f : PFun) (P : Option Addr) (p : Nat) (B : Option Addr) (c : Nat) (w' : World) : Prop :=
  Below w.heap.size w w' ∧ w'.heap[w.heap.size]? = some (.cells #[.string (mkB f.name), .slice P f.params.length p, .slice B f.body.length c] 43 (0, 0)) ∧
    w'.heap[w.heap.size + 1]? = some (.cells #[.string ⟨#[]⟩, .slice none 0 0, .slice none 0 0] 39 (0, 0)) ∧ w.heap.size + 2 ≤ w'.heap.size
theorem FunSeen.below {w w' w'' : World} {f : PFun} {P : Option Addr} {p : Nat} {B : Option Addr} {c : Nat} (h : FunSeen w f P p B c w') (hb : Below w'.heap.size w' w'') : FunSeen w f P p B c w'' :=
  ⟨grow_trans h.1 hb, (hb.block _ (by have := h.2.2.2; omega)).trans h.2.1, (hb.block _ (by have := h.2.2.2; omega)).trans h.2.2.1, Nat.le_trans h.2.2.2 hb.size⟩
theorem FunSeen.grown {w w' w'' : World} {f : PFun} {P : Option Addr} {p : Nat} {B : Option Addr} {c : Nat} (h : FunSeen w f P p B c w') (hb : w'.grownBy w'' none) : FunSeen w f P p B c w'' :=
  h.below ⟨hb.os, hb.tape, hb.output, hb.size, fun k hk => hb.block k hk (by simp)⟩
theorem FunSeen.cells {w w' : World} {f : PFun} {P : Option Addr} {p : Nat} {B : Option Addr} {c : Nat} (h : FunSeen w f P p B c w') :
    w'.cell? ⟨w.heap.size, 0, none⟩ = some (.string (mkB f.name)) ∧ w'.cell? ⟨w.heap.size, 1, none⟩ = some (.slice P f.params.length p) ∧ w'.cell? ⟨w.heap.size, 2, none⟩ = some (.slice B f.body.length c) ∧
      w'.cell? ⟨w.heap.size + 1, 0, none⟩ = some (.string ⟨#[]⟩) ∧ w'.cell? ⟨w.heap.size + 1, 1, none⟩ = some (.slice none 0 0) ∧ w'.cell? ⟨w.heap.size + 1, 2, none⟩ = some (.slice none 0 0) ∧
      w'.frozen? ⟨w.heap.size + 1, 0, none⟩ = false ∧ w'.frozen? ⟨w.heap.size + 1, 1, none⟩ = false ∧ w'.frozen? ⟨w.heap.size + 1, 2, none⟩ = false :=
  ⟨cell_of_row _ _ 0 _ _ _ h.2.1, cell_of_row _ _ 1 _ _ _ h.2.1, cell_of_row _ _ 2 _ _ _ h.2.1, cell_of_row _ _ 0 _ _ _ h.2.2.1, cell_of_row _ _ 1 _ _ _ h.2.2.1, cell_of_row _ _ 2 _ _ _ h.2.2.1, row_frozen h.2.2.1 0, row_frozen h.2.2.1 1, row_frozen h.2.2.1 2⟩
def BoxIs (f : PFun) (P : Option Addr) (p : Nat) (B : Option Addr) (c : Nat) (q : Nat) (w' : World) : Prop :=
  w'.cell? ⟨q, 0, none⟩ = some (.string (mkB f.name)) ∧ w'.cell? ⟨q, 1, none⟩ = some (.slice P f.params.length p) ∧ w'.cell? ⟨q, 2, none⟩ = some (.slice B f.body.length c)
theorem FunSeen.box {w w' : World} {f : PFun} {P : Option Addr} {p : Nat} {B : Option Addr} {c : Nat} (h : FunSeen w f P p B c w') :
    w'.cell? ⟨w.heap.size, 0, none⟩ = some (.string (mkB f.name)) ∧ w'.cell? ⟨w.heap.size, 1, none⟩ = some (.slice P f.params.length p) ∧ w'.cell? ⟨w.heap.size, 2, none⟩ = some (.slice B f.body.length c) := ⟨h.cells.1, h.cells.2.1, h.cells.2.2.1⟩
theorem FunSeen.set {w w' : World} {f : PFun} {P : Option Addr} {p : Nat} {B : Option Addr} {c : Nat} (h : FunSeen w f P p B c w') (v0 v1 v2 : Value) : let w'' := ((w'.setCell ⟨w.heap.size + 1, 0, none⟩ v0).setCell ⟨w.heap.size + 1, 1, none⟩ v1).setCell ⟨w.heap.size + 1, 2, none⟩ v2
    w''.cell? ⟨w.heap.size, 0, none⟩ = some (.string (mkB f.name)) ∧ w''.cell? ⟨w.heap.size, 1, none⟩ = some (.slice P f.params.length p) ∧ w''.cell? ⟨w.heap.size, 2, none⟩ = some (.slice B f.body.length c) := by
  have k : ∀ {W : World} (j : Nat) (v : Value), KeepsIn (fun n => n = w.heap.size) W (W.setCell ⟨w.heap.size + 1, j, none⟩ v) := fun j v => keeps_store v (fun n e => by omega)
  have hb := h.box
  exact ⟨k _ _ _ _ rfl (k _ _ _ _ rfl (k _ _ _ _ rfl hb.1)), k _ _ _ _ rfl (k _ _ _ _ rfl (k _ _ _ _ rfl hb.2.1)), k _ _ _ _ rfl (k _ _ _ _ rfl (k _ _ _ _ rfl hb.2.2))⟩
theorem FunSeen.bel {w w' : World} {f : PFun} {P : Option Addr} {p : Nat} {B : Option Addr} {c : Nat} (h : FunSeen w f P p B c w') : Below w.heap.size w w' := h.1
theorem FunSeen.big {w w' : World} {f : PFun} {P : Option Addr} {p : Nat} {B : Option Addr} {c : Nat} (h : FunSeen w f P p B c w') : w.heap.size + 2 ≤ w'.heap.size := h.2.2.2
theorem texts_news {w : World} {S : Nat → Prop} {xs : List (List UInt8)} {b off : Nat} (h : RdT w S xs (some ⟨b, off, none⟩)) : ∀ (j : Nat) (u : Value), (xs.map fun x => Value.string (mkB x))[j]? = some u → w.cell? ((⟨b, off, none⟩ : Addr).add j) = some u := by
  intro j u hj
  have hl : j < xs.length := by have := (List.getElem?_eq_some_iff.1 hj).1; simpa using this
  obtain ⟨b', off', e, _, hc⟩ := h j hl
  simp only [Option.some.injEq, Addr.mk.injEq, and_true] at e
  obtain ⟨rfl, rfl⟩ := e
  have hu : u = .string (mkB xs[j]) := by
    have := (List.getElem?_eq_some_iff.1 hj).2
    simpa using this.symm
  rw [hu, show (⟨b, off, none⟩ : Addr).add j = ⟨b, off + j, none⟩ by unfold Addr.add; split <;> simp_all]
  exact hc
theorem texts_owned {w : World} {base : Nat} {e : TypeId} {g cap : Nat} {xs : List (List UInt8)} (h : w.ownsRow base e 1 (.slice (some ⟨g, 0, none⟩) xs.length cap) xs.length (xs.map fun x => Value.string (mkB x))) : RdT w (fun n => base ≤ n) xs (some ⟨g, 0, none⟩) := by
  intro i hi
  obtain ⟨A, c, hv, hA⟩ := owns_at h
  simp only [Value.slice.injEq, true_and] at hv
  obtain ⟨hv, _⟩ := hv
  subst hv
  obtain ⟨g', e', hb, _, hc⟩ := hA (by omega)
  simp only [Option.some.injEq, Addr.mk.injEq, and_true] at e'
  obtain ⟨rfl, -⟩ := e'
  exact ⟨_, 0, rfl, hb, by rw [Nat.zero_add]; exact hc i _ (by simp [hi])⟩
theorem owned_cap {w : World} {base : Nat} {e : TypeId} {size : Nat} {A : Option Addr} {m n cap : Nat} {xs : List Value} (h : w.ownsRow base e size (.slice A m cap) n xs) : n ≤ cap := by
  rcases h.2 with ⟨q, h0⟩ | ⟨g, c, cur, q, _, _, hc, _⟩
  · injection q with _ _ q; omega
  · injection q with _ _ q; omega
theorem append_nothing {P : Program} (w : World) (t ty e : TypeId) (i : TypeInfo) (ht : P.underlying t = some (.slice e)) (hi : P.info? e = some i) (X : Option Addr) (c : Nat) :
    (Builtin.append_ #[t, t] ty #[.slice none 0 0, .slice X 0 c]).run P w = .ok (.slice none 0 0) w := by
  simp [Builtin.append_, run_underlying ht, sizeOf, typeInfo, hi, Builtin.lenOf]
  cases X <;> simp [Builtin.firstCells, loadCells, loadCellsFrom]
theorem fun_done {w w' : World} {f : PFun} {P : Option Addr} {p : Nat} {B : Option Addr} {c : Nat} (h : FunSeen w f P p B c w') (v1 v2 : Value) {S2 : Nat → Prop} {A1 A2 : Option Addr} (h1 : RdT w' (fun n => w.heap.size + 2 ≤ n) f.params A1) (h2 : RdS w' S2 f.body A2) (hS : ∀ n, S2 n → w.heap.size + 2 ≤ n) :
    let w'' := ((w'.setCell ⟨w.heap.size + 1, 0, none⟩ (.string (mkB f.name))).setCell ⟨w.heap.size + 1, 1, none⟩ v1).setCell ⟨w.heap.size + 1, 2, none⟩ v2
    w''.cell? ⟨w.heap.size + 1, 0, none⟩ = some (.string (mkB f.name)) ∧ w''.cell? ⟨w.heap.size + 1, 1, none⟩ = some v1 ∧ w''.cell? ⟨w.heap.size + 1, 2, none⟩ = some v2 ∧ RdT w'' (newAt w) f.params A1 ∧ RdS w'' (newAt w) f.body A2 ∧ Below w.heap.size w w'' := by
  have k : ∀ {W : World} (j : Nat) (v : Value), KeepsIn (fun n => w.heap.size + 2 ≤ n) W (W.setCell ⟨w.heap.size + 1, j, none⟩ v) := fun j v => keeps_store v (fun n e => by omega)
  have hrow := row_set (j := 2) (cs := #[.string (mkB f.name), v1, .slice none 0 0]) (cs' := #[.string (mkB f.name), v1, v2]) v2 (row_set (j := 1) (cs := #[.string (mkB f.name), .slice none 0 0, .slice none 0 0]) (cs' := #[.string (mkB f.name), v1, .slice none 0 0]) v1 (row_set (j := 0) (cs' := #[.string (mkB f.name), .slice none 0 0, .slice none 0 0]) (.string (mkB f.name)) h.2.2.1 (by simp)) (by simp)) (by simp)
  have h2' := h2.keep (Keeps.in (Keeps.refl _) _) hS
  exact ⟨cell_of_row _ _ 0 _ _ _ hrow, cell_of_row _ _ 1 _ _ _ hrow, cell_of_row _ _ 2 _ _ _ hrow, ((h1.keep (k _ _) (fun _ h => h)).keep (k _ _) (fun _ h => h)).keep (k _ _) (fun n hn => by unfold newAt; omega),
    ((h2'.keep (k _ _) (fun _ h => h)).keep (k _ _) (fun _ h => h)).keep (k _ _) (fun n hn => by unfold newAt; omega), ((h.1.setCell (by simp) _).setCell (by simp) _).setCell (by simp) _⟩
theorem step_append_none {P : Program} {w : World} {ops : Array Oper} {o : Oper} {a : Act} {K : Act → World → Prop} {Q : Exit → Act → World → Prop} {E : Prop} (hgd : o.guard = none) (s x : Operand) (t : TypeId)
    (ho : o.op = .call { callee := .builtin .append, args := #[s, x], argTypes := #[t, t] }) (e : TypeId) (i : TypeInfo) (ht : P.underlying t = some (.slice e)) (hi : P.info? e = some i)
    (hs : a.eval s = .slice none 0 0) (X : Option Addr) (c : Nat) (hx : a.eval x = .slice X 0 c) (h : K (a.put o.dst (.slice none 0 0)) w) :
    if Region.wanted o (yielded ops a.tmps) = true then Oper.wp P o a w K Q else E := by
  rw [if_pos (by simp [Region.wanted, hgd])]
  unfold Oper.wp execOp
  simp only [ho, resolve, invoke, builtin, Sem.run_bind, Sem.run_pure, Result.andThen_ok, List.map_toArray, List.map_cons, List.map_nil, hs, hx, append_nothing w t o.type e i ht hi X c]
  exact h
/-- No parameters are the nil slice; the room is enough. -/
def PrmOk (f : PFun) (P : Option Addr) (p : Nat) : Prop := (f.params = [] → P = none) ∧ f.params.length ≤ p
def AsFunPost (f : PFun) (w : World) : Ending → World → Prop := fun x w' => ∃ P p B c, x = .returned (funV f P p B c) ∧ RdT w' (newAt w) f.params P ∧ PrmOk f P p ∧ RdS w' (newAt w) f.body B ∧ Below w.heap.size w w'
set_option maxHeartbeats 4000000 in
set_option maxRecDepth 100000 in
theorem AsFun_some (f : PFun) (hs : SmF f) (S : Nat → Prop) (b off p : Nat) (B : Option Addr) (c : Nat) (w : World) (hp : RdT w S f.params (some ⟨b, off, none⟩)) (hb : RdS w S f.body B) (h0 : 0 < f.params.length) :
    Calls Tryz.prog 23 #[funV f (some ⟨b, off, none⟩) p B c] w (AsFunPost f w) := by
  have h8 := hs.params
  have HN : Hid (∀ w', Below w.heap.size w w' → ∀ (j : Nat) (u : Value), (f.params.map fun x => Value.string (mkB x))[j]? = some u → w'.cell? ((⟨b, off, none⟩ : Addr).add j) = some u) := fun w' h => texts_news (hp.keep ((Keeps.of_below h).in _) (fun _ h => h))
  have HT : Hid (∀ w', Below w.heap.size w w' → Calls Tryz.prog 46 #[.slice B f.body.length c] w' fun y w'' => ∃ B d, y = .returned (.slice B f.body.length d) ∧ RdS w'' (newAt w') f.body B ∧ Below w'.heap.size w' w'') :=
    fun w' h => AsStmts_any f.body hs.body hs.stmts S B c w' (hb.keep ((Keeps.of_below h).in _) (fun _ h => h))
  have HO : Hid (∀ u ∈ f.params.map (fun x => Value.string (mkB x)), u.oneCell' = true) := fun u hu => by
    obtain ⟨x, _, rfl⟩ := List.mem_map.1 hu
    rfl
  clear hp hb hs
  obtain ⟨ti, hi, hz0, hz1, hz2⟩ := info_parts strInfo
  unfold funV
  go_enter Tryz.func23, Tryz.ntmps23
  go_upto_region 2 with fail
  have hS0 : FunSeen w f (some ⟨b, off, none⟩) p B c ((w.alloc (.cells #[.string (mkB f.name), .slice (some ⟨b, off, none⟩) f.params.length p, .slice B f.body.length c] 43)).alloc (.cells #[.string ⟨#[]⟩, .slice none 0 0, .slice none 0 0] 39)).drew :=
    ⟨(grow_alloc (grow_alloc (grow_refl w) _) _).drew, (old_block _ _ (by simp)).trans (new_block _ _ rfl), new_block _ _ (by simp), by simp⟩
  have HS0 := Lib.hid hS0
  clear hS0
  go_region_held3 (fun w' => w'.cell? ⟨w.heap.size, 0, none⟩ = some (.string (mkB f.name)) ∧ w'.cell? ⟨w.heap.size, 1, none⟩ = some (.slice (some ⟨b, off, none⟩) f.params.length p) ∧ w'.cell? ⟨w.heap.size, 2, none⟩ = some (.slice B f.body.length c))
    (with_reducible first
      | exact HS2.out.box
      | exact HS1.out.box
      | exact HS0.out.box
      | exact HS2.out.set _ _ _)
    (first
      | (go_at_call 46; (with_reducible refine (HT.out _ HS1.out.bel).mono ?_); rintro y w12 ⟨B1, d1, rfl, hr1, hbT⟩; have HS2 := Lib.hid (HS1.out.below hbT); obtain ⟨-, -, -, x0, x1, x2, f0, f1, f2⟩ := HS2.out.cells; have hT2 := Lib.hid (hT1.out.keep ((Keeps.of_below hbT).in _) (fun _ h => h)); have HR1 := Lib.hid hr1; clear hr1)
      | (go_at_call 46; (with_reducible refine (HT.out _ HS0.out.bel).mono ?_); rintro y w12 ⟨B1, d1, rfl, hr1, hbT⟩; have HS1 := Lib.hid (HS0.out.below hbT); have HR1 := Lib.hid hr1; clear hr1)
      | (refine step_append_lies _ rfl _ _ 35 rfl (w.heap.size + 2) 9 ti _ 1 16 Tryz.underlying35 hi hz0 hz1 hz2 rfl (by decide) _ 0 [] rfl (World.ownsRow_nil _ _ _ _) ⟨b, off, none⟩ f.params.length p (f.params.map fun x => Value.string (mkB x)) rfl (by simp) (HN.out _ HS1.out.bel) HO.out h0 (by unfold maxLen; omega) (by omega) HS1.out.big _ rfl ?_; intro g cap w1 hown1 hgrow hat hlt; have HS2 := Lib.hid (HS1.out.grown hgrow); obtain ⟨-, -, -, x0, x1, x2, f0, f1, f2⟩ := HS2.out.cells; have hT1 := Lib.hid (texts_owned (by simpa using hown1)); have hCP := Lib.hid (owned_cap hown1); have HR2 := Lib.hid (HR1.out.keep (Keeps.in (Keeps.of_below ⟨hgrow.os, hgrow.tape, hgrow.output, hgrow.size, fun k hk => hgrow.block k hk (by simp)⟩) _) (fun _ h => h)); clear hown1 hgrow hat hlt)
      | (refine step_append_lies _ rfl _ _ 35 rfl (w.heap.size + 2) 9 ti _ 1 16 Tryz.underlying35 hi hz0 hz1 hz2 rfl (by decide) _ 0 [] rfl (World.ownsRow_nil _ _ _ _) ⟨b, off, none⟩ f.params.length p (f.params.map fun x => Value.string (mkB x)) rfl (by simp) (HN.out _ HS0.out.bel) HO.out h0 (by unfold maxLen; omega) (by omega) HS0.out.big _ rfl ?_; intro g cap w1 hown1 hgrow hat hlt; have HS1 := Lib.hid (HS0.out.grown hgrow); have hT1 := Lib.hid (texts_owned (by simpa using hown1)); have hCP := Lib.hid (owned_cap hown1); clear hown1 hgrow hat hlt))
  all_goals go_wp2_with fail
  · obtain ⟨q0, q1, q2, g1, g2, g3⟩ := fun_done HS2.out (.slice (some ⟨g, 0, none⟩) f.params.length cap) (.slice B1 f.body.length d1) hT2.out HR1.out (fun n hn => by have := HS1.out.big; have h : _ ≤ n := hn; omega)
    refine bodyPost_ret (by simp [results, Tryz.results23, go_sem, q0, q1, q2]; try rfl) rfl ?_
    exact ⟨_, _, _, _, rfl, g1, ⟨(fun e => by rw [e] at h0; simp at h0), by have := hCP.out; omega⟩, g2, g3⟩
set_option maxHeartbeats 4000000 in
set_option maxRecDepth 100000 in
theorem AsFun_none (f : PFun) (hs : SmF f) (S : Nat → Prop) (P : Option Addr) (p : Nat) (B : Option Addr) (c : Nat) (w : World) (hb : RdS w S f.body B) (h0 : f.params = []) :
    Calls Tryz.prog 23 #[funV f P p B c] w (AsFunPost f w) := by
  have HT : Hid (∀ w', Below w.heap.size w w' → Calls Tryz.prog 46 #[.slice B f.body.length c] w' fun y w'' => ∃ B d, y = .returned (.slice B f.body.length d) ∧ RdS w'' (newAt w') f.body B ∧ Below w'.heap.size w' w'') :=
    fun w' h => AsStmts_any f.body hs.body hs.stmts S B c w' (hb.keep ((Keeps.of_below h).in _) (fun _ h => h))
  clear hb hs
  obtain ⟨ti, hi, hz0, hz1, hz2⟩ := info_parts strInfo
  have hap : ∀ w', (Builtin.append_ #[35, 35] 35 #[.slice none 0 0, .slice P 0 p]).run Tryz.prog w' = .ok (.slice none 0 0) w' := fun w' => append_nothing w' _ _ _ ti Tryz.underlying35 hi P p
  have hl : f.params.length = 0 := by rw [h0]; rfl
  have H0 := Lib.hid h0
  clear h0
  unfold funV
  rw [hl]
  go_enter Tryz.func23, Tryz.ntmps23
  go_upto_region 2 with fail
  have hS0 : FunSeen w f P p B c ((w.alloc (.cells #[.string (mkB f.name), .slice P 0 p, .slice B f.body.length c] 43)).alloc (.cells #[.string ⟨#[]⟩, .slice none 0 0, .slice none 0 0] 39)).drew :=
    ⟨(grow_alloc (grow_alloc (grow_refl w) _) _).drew, by rw [hl]; exact (old_block _ _ (by simp)).trans (new_block _ _ rfl), new_block _ _ (by simp), by simp⟩
  have HS0 := Lib.hid hS0
  clear hS0
  go_region_held3 (fun w' => w'.cell? ⟨w.heap.size, 0, none⟩ = some (.string (mkB f.name)) ∧ w'.cell? ⟨w.heap.size, 1, none⟩ = some (.slice P 0 p) ∧ w'.cell? ⟨w.heap.size, 2, none⟩ = some (.slice B f.body.length c))
    (with_reducible first
      | exact hl ▸ HS1.out.box
      | exact hl ▸ HS0.out.box
      | exact hl ▸ HS1.out.set _ _ _)
    (first
      | (refine step_append_none rfl _ _ 35 rfl 9 ti Tryz.underlying35 hi rfl P p rfl ?_)
      | (go_at_call 46; (with_reducible refine (HT.out _ (HS0.out.bel)).mono ?_); rintro y w12 ⟨B1, d1, rfl, hr1, hbT⟩; have HS1 := Lib.hid (HS0.out.below hbT); have HR1 := Lib.hid hr1; clear hr1; obtain ⟨-, -, -, x0, x1, x2, f0, f1, f2⟩ := HS1.out.cells))
  all_goals go_wp2_with fail
  · obtain ⟨q0, q1, q2, g1, g2, g3⟩ := fun_done HS1.out (.slice none 0 0) (.slice B1 f.body.length d1) (A1 := none) (fun i hi => by omega) HR1.out (fun n hn => by have := HS0.out.big; have h : _ ≤ n := hn; omega)
    refine bodyPost_ret (by simp [results, Tryz.results23, go_sem, q0, q1, q2]; try rfl) rfl ?_
    exact ⟨none, 0, _, _, by unfold funV; rw [hl], g1, ⟨fun _ => rfl, by omega⟩, g2, g3⟩
theorem AsFun_any (f : PFun) (hs : SmF f) (S : Nat → Prop) (P : Option Addr) (p : Nat) (B : Option Addr) (c : Nat) (w : World) (hp : RdT w S f.params P) (hb : RdS w S f.body B) :
    Calls Tryz.prog 23 #[funV f P p B c] w (AsFunPost f w) := by
  by_cases h0 : 0 < f.params.length
  · obtain ⟨b, off, rfl, -⟩ := hp 0 h0
    exact AsFun_some f hs S b off p B c w hp hb h0
  · exact AsFun_none f hs S P p B c w hb (List.length_eq_zero_iff.1 (by omega))
/-- Functions as the package has them: no parameters are the nil slice. -/
def RdG (w : World) (S : Nat → Prop) (fs : List PFun) (A : Option Addr) : Prop := ∀ i (hi : i < fs.length), ∃ b off P p B c, A = some ⟨b, off, none⟩ ∧ S b ∧ CellsAt w b (off + i * 3) (funL fs[i] P p B c) ∧ RdT w S fs[i].params P ∧ PrmOk fs[i] P p ∧ RdS w S fs[i].body B
theorem RdG.keep {w w' : World} {S S' : Nat → Prop} (k : KeepsIn S w w') (hS : ∀ n, S n → S' n) {fs : List PFun} {A : Option Addr} (h : RdG w S fs A) : RdG w' S' fs A := fun i hi => by
  obtain ⟨b, off, P, p, B, c, e, hs, hc, hp, hn, hb⟩ := h i hi
  exact ⟨b, off, P, p, B, c, e, hS _ hs, hc.keep fun a v e => k a v (by rw [e]; exact hs), hp.keep k hS, hn, hb.keep k hS⟩
theorem RdG.lt {w : World} {S : Nat → Prop} {fs : List PFun} {A : Option Addr} (h : RdG w S fs A) : RdG w (fun n => S n ∧ n < w.heap.size) fs A := fun i hi => by
  obtain ⟨b, off, P, p, B, c, e, hs, hc, hp, hn, hb⟩ := h i hi
  exact ⟨b, off, P, p, B, c, e, ⟨hs, World.block_lt_of_cell? w _ (cells_fun hc).1⟩, hc, hp.lt, hn, hb.lt⟩
theorem FC.rowG {w : World} {base : Nat} {e : TypeId} {v : Value} {ts : List FC} (h : w.ownsRow base e 3 v ts.length (ts.flatMap FC.cells)) (hk : ∀ t ∈ ts, t.Ok w (Apart base v)) (hn : ∀ t ∈ ts, PrmOk t.f t.P t.p) :
    ∃ A c, v = .slice A ts.length c ∧ RdG w (fun n => base ≤ n) (ts.map (·.f)) A := by
  obtain ⟨A, c, rfl, hA⟩ := owns_at h
  refine ⟨A, c, rfl, fun i hi => ?_⟩
  have hi' : i < ts.length := by simpa using hi
  obtain ⟨g, rfl, hb, _, hc⟩ := hA (by omega)
  have hk1 := hk ts[i] (List.getElem_mem hi')
  refine ⟨g, 0, ts[i].P, ts[i].p, ts[i].B, ts[i].c, rfl, hb, fun j u hj => ?_, ?_, ?_, ?_⟩
  · have := hc (i * 3 + j) u (flat_cells (n := 3) (F := FC.cells) (fun x _ => rfl) hi' (by simpa [FC.cells] using hj))
    rw [show 0 + i * 3 + j = i * 3 + j by omega]
    exact this
  · simpa using hk1.1.keep (Keeps.in (Keeps.refl w) _) (fun n (hn : Apart base _ n) => hn.1)
  · simpa using hn ts[i] (List.getElem_mem hi')
  · simpa using hk1.2.keep (Keeps.in (Keeps.refl w) _) (fun n (hn : Apart base _ n) => hn.1)
/-- A slice of the call's own that reads as these functions. -/
def OwnF (w : World) (base : Nat) (v : Value) (fs : List PFun) : Prop := ∃ ts : List FC, ts.map (·.f) = fs ∧ w.ownsRow base 39 3 v ts.length (ts.flatMap FC.cells) ∧ (∀ t ∈ ts, t.Ok w (Apart base v)) ∧ ∀ t ∈ ts, PrmOk t.f t.P t.p
theorem OwnF.rd {w : World} {base : Nat} {v : Value} {fs : List PFun} (h : OwnF w base v fs) : ∃ A c, v = .slice A fs.length c ∧ fs.length ≤ c ∧ RdG w (fun n => base ≤ n) fs A := by
  obtain ⟨ts, rfl, h1, h2, h3⟩ := h
  obtain ⟨A, c, hv, hr⟩ := FC.rowG h1 h2 h3
  refine ⟨A, c, by rw [List.length_map]; exact hv, ?_, hr⟩
  subst hv
  rw [List.length_map]
  exact owned_cap h1
set_option maxHeartbeats 4000000 in
set_option maxRecDepth 100000 in
theorem AsFuns_own (fs : List PFun) (hlen : fs.length ≤ 10) (hsm : ∀ f ∈ fs, SmF f) (S : Nat → Prop) (A : Option Addr) (c : Nat) (w : World) (hr : RdF w S fs A) :
    Calls Tryz.prog 7 #[.slice A fs.length c] w fun x w' => ∃ v, x = .returned v ∧ OwnF w' w.heap.size v fs ∧ Below w.heap.size w w' := by
  have HR := Lib.hid hr
  have HSM := Lib.hid hsm
  clear hsm hr
  obtain ⟨ti, hi, hz0, hz1, hz2⟩ := info_parts funInfo
  go_enter Tryz.func7, Tryz.ntmps7
  go_wp2_with fail
  go_loopw [3, 4, 5] (fun v i _ wr => ∃ (k : Nat) (ts : List FC), k ≤ fs.length ∧ i = .int .i64 k ∧ ts.map (·.f) = fs.take k ∧
    wr.ownsRow w.heap.size 39 3 v k (ts.flatMap FC.cells) ∧ (∀ t ∈ ts, t.Ok wr (Apart w.heap.size v)) ∧ (∀ t ∈ ts, PrmOk t.f t.P t.p) ∧ Below w.heap.size w wr) (fun _ i _ _ => fs.length - (intOf i).toNat)
  case atStart => exact ⟨0, [], Nat.zero_le _, rfl, rfl, World.ownsRow_nil _ _ _ _, (fun t h => by cases h), (fun t h => by cases h), grow_refl w⟩
  case round =>
    obtain ⟨k, ts, hk, rfl, hts, hown, hok, hnn, hbel⟩ := hrel
    by_cases hlt : k < fs.length
    · obtain ⟨b, off, P, p, B, d, rfl, -, hcells, hp, hb⟩ := (HR.out.keep ((Keeps.of_below hbel).in S) (fun _ h => h)) k hlt
      obtain ⟨c0, c1, c2⟩ := cells_fun hcells
      have hlt' : (k : Int) < (fs.length : Int) := by omega
      obtain ⟨f, hf⟩ : ∃ f, fs[k] = f := ⟨_, rfl⟩
      have hsm : f ∈ fs := hf ▸ List.getElem_mem hlt
      rw [hf] at hcells hp hb c0 c1 c2
      have HK := Lib.hid hf
      have HF := Lib.hid (AsFun_any f (HSM.out f hsm) S P p B d wr hp hb)
      unfold funV at HF
      have HO := Lib.hid hown
      have HOK := Lib.hid hok
      have HNN := Lib.hid hnn
      have HBEL := Lib.hid hbel
      clear hown hok hcells hp hb hbel hnn
      go_wp2_with (first
        | (go_at_call 23; (with_reducible refine HF.out.mono ?_); rintro x w1 ⟨P1, p1, B1, d1, rfl, h1, hn1, h2, hb1⟩; unfold funV)
        | (at_builtin; refine wpList_append_own_at _ rfl _ _ 25 rfl w.heap.size 39 ti _ 3 64 Tryz.underlying25 hi hz0 hz1 hz2 rfl (by decide) _ _ _ rfl (((ownsRow_below HO.out hb1).alloc _).alloc _) ⟨w1.heap.size + 1, 0, none⟩ 1 1 (funL f P1 p1 B1 d1) rfl rfl ?c1 ?c2 ?c3 ?c4 ?c5 ?_))
      case c1 =>
        intro i u hu
        match i, hu with
        | 0, hu => simp [funL] at hu; subst hu; simp [Addr.add]
        | 1, hu => simp [funL] at hu; subst hu; simp [Addr.add]
        | 2, hu => simp [funL] at hu; subst hu; simp [Addr.add]
      case c2 => intro u hu; simp [funL] at hu; rcases hu with rfl | rfl | rfl <;> rfl
      case c3 => unfold maxLen; omega
      case c4 => omega
      case c5 => have := hb1.size; have := HBEL.out.size; simp; omega
      · intro v' w2 hown' hgrow _ hat
        obtain ⟨A', c', rfl⟩ := owns_slice hown'
        have hsz1 := hb1.size
        have hb2 : Below w.heap.size w w2 := Below.grown (((grow_trans HBEL.out hb1).alloc (by have := HBEL.out.size; omega) _).alloc (by simp; have := HBEL.out.size; omega) _) hgrow (by simp; have := HBEL.out.size; omega) (fun k hk => (HO.out.lt k hk).1)
        have HOK2 : ∀ t ∈ ts ++ [(⟨f, P1, p1, B1, d1⟩ : FC)], t.Ok w2 (Apart w.heap.size (.slice A' (k + 1) c')) := by
          intro t ht
          rcases List.mem_append.1 ht with h | h
          · exact (((HOK.out t h).keep ((Keeps.of_below hb1).in _) (fun _ h => h)).lt).keep (apart_app hgrow) (apart_own (w1 := w1) hat (by omega))
          · simp only [List.mem_singleton] at h
            subst h
            have hap : ∀ n, newAt wr n → Apart w.heap.size _ n := fun n hn => ⟨Nat.le_trans HBEL.out.size hn, fun q => by have := (HO.out.lt _ q.symm).2; have hn' : wr.heap.size ≤ n := hn; omega⟩
            exact FC.Ok.keep (apart_app hgrow) (apart_own (w1 := w1) hat (by omega)) (FC.Ok.lt (S := Apart w.heap.size _) ⟨h1.keep (Keeps.in (Keeps.refl _) _) hap, h2.keep (Keeps.in (Keeps.refl _) _) hap⟩)
        have HNN2 : ∀ t ∈ ts ++ [(⟨f, P1, p1, B1, d1⟩ : FC)], PrmOk t.f t.P t.p := by
          intro t ht
          rcases List.mem_append.1 ht with h | h
          · exact HNN.out t h
          · simp only [List.mem_singleton] at h
            subst h
            exact hn1
        have HOWN2 : w2.ownsRow w.heap.size 39 3 (.slice A' (k + 1) c') (k + 1) ((ts ++ [(⟨f, P1, p1, B1, d1⟩ : FC)]).flatMap FC.cells) := by
          rw [List.flatMap_append, List.flatMap_singleton]
          exact hown'
        have H1 := Lib.hid HOK2
        have H2 := Lib.hid HOWN2
        have H3 := Lib.hid HNN2
        clear hown' hgrow hat HOK2 HOWN2 HNN2 h1 h2 hn1 c0 c1 c2
        go_wp2_with fail
        go_roundw
        case rel => exact ⟨k + 1, ts ++ [(⟨f, P1, p1, B1, d1⟩ : FC)], by omega, by go_num, map_snoc hts hlt _ HK.out.symm, H2.out, H1.out, H3.out, hb2⟩
        case measure => simp [intOf]; omega
    · have hk' : k = fs.length := by omega
      subst hk'
      have hl := map_len hts (Nat.le_refl _)
      rw [List.take_length] at hts
      have hown1 := hown
      rw [← hl] at hown1
      have HRD := Lib.hid (show OwnF wr w.heap.size _ fs from ⟨ts, hts, hown1, hok, hnn⟩)
      clear hown hown1 hok hts hl HR
      go_wp2_with fail
      go_ret
      exact ⟨_, rfl, HRD.out, hbel⟩
theorem AsFuns_any (fs : List PFun) (hlen : fs.length ≤ 10) (hsm : ∀ f ∈ fs, SmF f) (S : Nat → Prop) (A : Option Addr) (c : Nat) (w : World) (hr : RdF w S fs A) :
    Calls Tryz.prog 7 #[.slice A fs.length c] w fun x w' => ∃ B d, x = .returned (.slice B fs.length d) ∧ RdG w' (newAt w) fs B ∧ Below w.heap.size w w' :=
  (AsFuns_own fs hlen hsm S A c w hr).mono fun e w' ⟨v, h1, h2, h3⟩ => by
    obtain ⟨B, d, rfl, _, hr⟩ := h2.rd
    exact ⟨B, d, h1, hr, h3⟩
theorem AsFuns_cap (fs : List PFun) (hlen : fs.length ≤ 10) (hsm : ∀ f ∈ fs, SmF f) (S : Nat → Prop) (A : Option Addr) (c : Nat) (w : World) (hr : RdF w S fs A) :
    Calls Tryz.prog 7 #[.slice A fs.length c] w fun x w' => ∃ B d, x = .returned (.slice B fs.length d) ∧ fs.length ≤ d ∧ RdG w' (newAt w) fs B ∧ Below w.heap.size w w' :=
  (AsFuns_own fs hlen hsm S A c w hr).mono fun e w' ⟨v, h1, h2, h3⟩ => by
    obtain ⟨B, d, rfl, hd, hr⟩ := h2.rd
    exact ⟨B, d, h1, hd, hr, h3⟩
end Go.Proofs.YtnpdjncgilekhaaGreatDoor

namespace Go.Proofs.YtnpdjncgilekhaaGreatDoor
open Go.RowKit

def strVs (l : List Nm) : List Value := l.map fun x => Value.string (mkB x)
/-- What the table of functions has in memory. -/
def tabF (fs : Tab) : Nm → Option Value := fun k => (argsOf fs k).map fun (m : Nat) => Value.int .i64 (m : Int)
def TabSmall (fs : Tab) : Prop := ∀ k m, argsOf fs k = some m → m ≤ 100
/-- A checker at block p. -/
structure ChkAt (base p b n : Nat) (fs : Tab) (all vis : List Nm) (w : World) : Prop where
  low : base ≤ p
  lt : p < w.heap.size
  mlt : b < base
  map : MapAt w b n (tabF fs)
  cells : ∃ v s, w.heap[p]? = some (.cells #[.map (some b), v, s] 109 (0, 0)) ∧ w.ownsRow base 9 1 v all.length (strVs all) ∧ w.ownsRow base 9 1 s vis.length (strVs vis) ∧
    v.ownBlock ≠ some p ∧ s.ownBlock ≠ some p ∧ (s.ownBlock = none ∨ v.ownBlock ≠ s.ownBlock)
theorem ChkAt.keep {base p b n : Nat} {fs : Tab} {all vis : List Nm} {w w' : World} (h : ChkAt base p b n fs all vis w) (hb : Below w.heap.size w w') : ChkAt base p b n fs all vis w' := by
  obtain ⟨v, s, h1, h2, h3, h4, h5, h6⟩ := h.cells
  exact ⟨h.low, Nat.lt_of_lt_of_le h.lt hb.size, h.mlt, h.map.below hb, v, s, (hb.block p h.lt).trans h1, ownsRow_below h2 hb, ownsRow_below h3 hb, h4, h5, h6⟩
theorem owns_Row {w : World} {base : Nat} {e : TypeId} {v : Value} {l : List Nm} (h : w.ownsRow base e 1 v l.length (strVs l)) : ∃ A c, v = .slice A l.length c ∧ Row w A (strVs l) ∧ l.length ≤ c := by
  obtain ⟨A, c, rfl, hA⟩ := owns_at h
  refine ⟨A, c, rfl, fun j u hj => ?_, ?_⟩
  · have hj' : j < l.length := by have := (List.getElem?_eq_some_iff.1 hj).1; simpa [strVs] using this
    obtain ⟨g, rfl, _, _, hc⟩ := hA (by omega)
    exact ⟨g, 0, rfl, by rw [Nat.zero_add]; exact hc j u hj⟩
  · exact owned_cap h
theorem strVs_mk (l : List Nm) : strVs l = (l.map mkB).map Value.string := by simp [strVs]
/-- slices.Contains of names. -/
theorem has_any (l : List Nm) (x : Nm) (A : Option Addr) (c : Nat) (w : World) (hr : Row w A (strVs l)) (hn : l.length ≤ 1000000) :
    Calls Tryz.prog 36 #[.slice A l.length c, .string (mkB x)] w fun e w' => e = .returned (.bool (l.contains x)) ∧ w' = w := by
  rw [strVs_mk] at hr
  have h := Contains_any (mkB x) A (l.map mkB) c w hr (by simpa using hn)
  rw [isIn_strV] at h
  simpa using h
theorem isin_any (l : List Nm) (x : Nm) (A : Option Addr) (c : Nat) (w : World) (hr : Row w A (strVs l)) (hn : l.length ≤ 1000000) :
    Calls Tryz.prog 38 #[.string (mkB x), .slice A l.length c] w fun e w' => e = .returned (.bool (l.contains x)) ∧ w' = w := by
  rw [strVs_mk] at hr
  have h := IsIn_any (mkB x) A (l.map mkB) c w hr (by simpa using hn)
  rw [isIn_strV] at h
  simpa using h
theorem zeroInt (w : World) : (zeroValue 3).run Tryz.prog w = .ok (.int .i64 0) w := by kernel_rfl
theorem callC_none {fs : Tab} {n : Nm} {k : Nat} (h : argsOf fs n = none) : callC fs n k = 6 := by unfold callC; rw [h]
theorem callC_yes {fs : Tab} {n : Nm} {k m : Nat} (h : argsOf fs n = some m) (e : m = k) : callC fs n k = 0 := by unfold callC; rw [h]; simp [e]
theorem callC_no {fs : Tab} {n : Nm} {k m : Nat} (h : argsOf fs n = some m) (e : m ≠ k) : callC fs n k = 9 := by unfold callC; rw [h]; simp [e]
set_option maxHeartbeats 1000000 in
set_option maxRecDepth 100000 in
theorem call_any (E : Nat → Addr) (base p b n : Nat) (fs : Tab) (all vis : List Nm) (e : PExpr) (A : Option Addr) (c : Nat) (w : World) (hE : Laid E w) (hs : TabSmall fs) (hn : e.name.length ≤ 20) (hk : e.kids.length ≤ 8) (h : ChkAt base p b n fs all vis w) :
    Calls Tryz.prog 105 #[.pointer (some ⟨p, 0, none⟩), exprV e A c] w (Ret (eV E (callC fs e.name e.kids.length)) w) := by
  obtain ⟨v, s, h1, -⟩ := h.cells
  have hold : ∀ o, Below w.heap.size w (w.alloc o) := fun o => grow_alloc (grow_refl _) o
  have hbox : Below w.heap.size w (w.alloc (.cells #[.string (mkB e.kind), .int .i64 e.num, .string (mkB e.name), .slice A e.kids.length c] 56)) := hold _
  have hE' := hE.keep hbox
  have g5 := hE'.c5
  have g8 := hE'.c8
  have p0 : (w.alloc (.cells #[.string (mkB e.kind), .int .i64 e.num, .string (mkB e.name), .slice A e.kids.length c] 56)).cell? ⟨p, 0, none⟩ = some (.map (some b)) := Keeps.alloc _ _ _ _ (cell_of_row _ _ 0 _ _ _ h1)
  have hm := h.map.below hbox
  have look : ∀ k, (Instr.lookup 64 (.map (some b)) (.string (mkB e.name)) true).run Tryz.prog ((w.alloc (.cells #[.string (mkB e.kind), .int .i64 e.num, .string (mkB e.name), .slice A e.kids.length c] 56)).drewN k) =
      .ok (.tuple #[(tabF fs e.name).getD (.int .i64 0), .bool (tabF fs e.name).isSome]) ((w.alloc (.cells #[.string (mkB e.kind), .int .i64 e.num, .string (mkB e.name), .slice A e.kids.length c] 56)).drewN k) := fun k =>
    (hm.keep (w' := (w.alloc (.cells #[.string (mkB e.kind), .int .i64 e.num, .string (mkB e.name), .slice A e.kids.length c] 56)).drewN k) rfl).look Tryz.underlying64 (zeroInt _) e.name (by omega)
  have hnil := fun w => run_eql_map_nil (P := Tryz.prog) w 64 _ _ (some b) Tryz.underlying64
  unfold exprV
  cases ha : argsOf fs e.name with
  | none =>
    have ht : tabF fs e.name = none := by unfold tabF; rw [ha]; rfl
    rw [ht] at look
    have HC := Lib.hid (callC_none (k := e.kids.length) ha)
    clear ha ht hE hE' hm h h1 hold hbox
    go_enter Tryz.func105, Tryz.ntmps105
    go_wp2_with fail
    go_quiet (fail)
    go_wp2_with fail
    go_ret
    exact ⟨by rw [HC.out]; rfl, grow_drew (grow_alloc (grow_refl _) _) _⟩
  | some m =>
    have ht : tabF fs e.name = some (.int .i64 m) := by unfold tabF; rw [ha]; rfl
    have hm100 := hs _ _ ha
    rw [ht] at look
    by_cases hq : m = e.kids.length
    · have HC := Lib.hid (callC_yes ha hq)
      have q1 : ((m : Int) != (e.kids.length : Int)) = false := by rw [hq]; simp
      clear ha ht hE hE' hm h h1 hold hbox hq
      go_enter Tryz.func105, Tryz.ntmps105
      go_wp2_with fail
      go_quiet (fail)
      go_wp2_with fail
      go_ret
      exact ⟨by rw [HC.out]; rfl, grow_drew (grow_alloc (grow_refl _) _) _⟩
    · have HC := Lib.hid (callC_no ha hq)
      have q1 : ((m : Int) != (e.kids.length : Int)) = true := by rw [bne_iff_ne]; omega
      clear ha ht hE hE' hm h h1 hold hbox hq
      go_enter Tryz.func105, Tryz.ntmps105
      go_wp2_with fail
      go_quiet (fail)
      go_wp2_with fail
      go_ret
      exact ⟨by rw [HC.out]; rfl, grow_drew (grow_alloc (grow_refl _) _) _⟩
end Go.Proofs.YtnpdjncgilekhaaGreatDoor

namespace Go.Proofs.YtnpdjncgilekhaaGreatDoor
open Go.RowKit

theorem kidsC_step {fs : Tab} {vis : List Nm} {ks : List PExpr} {k : Nat} (h : k < ks.length) : kidsC fs vis (ks.drop k) = if exprC fs vis ks[k] = 0 then kidsC fs vis (ks.drop (k + 1)) else exprC fs vis ks[k] := by
  rw [List.drop_eq_getElem_cons h, kidsC_cons]
theorem exprC_bad {fs : Tab} {vis : List Nm} {e : PExpr} (h : bareB e = false) : exprC fs vis e = 3 := by rw [exprC_eq, h]; rfl
theorem exprC_kid {fs : Tab} {vis : List Nm} {e : PExpr} (h : bareB e = true) (hk : kidsC fs vis e.kids ≠ 0) : exprC fs vis e = kidsC fs vis e.kids := by rw [exprC_eq, h, if_pos rfl, if_neg hk]
theorem exprC_self {fs : Tab} {vis : List Nm} {e : PExpr} (h : bareB e = true) (hk : kidsC fs vis e.kids = 0) : exprC fs vis e = selfC fs vis e := by rw [exprC_eq, h, if_pos rfl, if_pos hk]
def exprO (e : PExpr) (A : Option Addr) (c : Nat) : Obj := .cells #[.string (mkB e.kind), .int .i64 e.num, .string (mkB e.name), .slice A e.kids.length c] 56
set_option maxHeartbeats 4000000 in
set_option maxRecDepth 100000 in
theorem cexpr_any (E : Nat → Addr) (base p b n : Nat) (fs : Tab) (all vis : List Nm) (hs : TabSmall fs) (hv : vis.length ≤ 1000) : ∀ e : PExpr, SmE e → ∀ (S : Nat → Prop) (A : Option Addr) (c : Nat) (w : World), Laid E w → ChkAt base p b n fs all vis w → RdE w S e.kids A →
    Calls Tryz.prog 92 #[.pointer (some ⟨p, 0, none⟩), exprV e A c] w (Ret (eV E (exprC fs vis e)) w) := by
  intro e
  induction e using PExpr.ind with
  | h e ih =>
  intro hsm S A c w hE hC hr
  have h8 := hsm.len
  have h20 := hsm.nameLen
  have HB : Hid (∀ w', Below w.heap.size w w' → Calls Tryz.prog 104 #[exprV e A c] w' (Ret (.bool (bareB e)) w')) := fun w' hb => bare_any e E A c w' (hE.keep hb)
  have hbx : Below w.heap.size w (w.alloc (exprO e A c)) := grow_alloc (grow_refl _) _
  have HBX := Lib.hid hbx
  have hbk := heap_alloc_new w (exprO e A c)
  have IH : Hid (∀ (i : Nat) (hi : i < e.kids.length) (S : Nat → Prop) (A : Option Addr) (c : Nat) (w : World), Laid E w → ChkAt base p b n fs all vis w → RdE w S e.kids[i].kids A →
    Calls Tryz.prog 92 #[.pointer (some ⟨p, 0, none⟩), exprV e.kids[i] A c] w (Ret (eV E (exprC fs vis e.kids[i])) w)) :=
    fun i hi => ih _ (List.getElem_mem hi) (hsm.kid _ (List.getElem_mem hi))
  have HE := Lib.hid hE
  have HCK := Lib.hid hC
  have HR := Lib.hid hr
  have HK := Lib.hid hbk
  clear ih hE hC hr hbx hsm hbk
  unfold exprV at *
  cases hba : bareB e
  · have HF := Lib.hid (exprC_bad (fs := fs) (vis := vis) hba)
    rw [hba] at HB
    clear hba
    have hk2 : ∀ w1, Below (w.alloc (exprO e A c)).heap.size (w.alloc (exprO e A c)) w1 → w1.cell? ⟨5, 0, none⟩ = some (esV (E 2)) := fun w1 hb => (HE.out.keep (grow_trans HBX.out hb)).c2
    unfold exprO at *
    go_enter Tryz.func92, Tryz.ntmps92
    go_wp2_with (go_at_call 104; (with_reducible refine (HB.out _ HBX.out).mono ?_); rintro x w1 ⟨rfl, hb1⟩; have g2 := hk2 _ hb1)
    go_ret
    exact ⟨by rw [HF.out]; rfl, grow_trans HBX.out hb1⟩
  · rw [hba] at HB
    have HBA := Lib.hid hba
    clear hba
    unfold exprO at *
    go_enter Tryz.func92, Tryz.ntmps92
    go_wp2_with (go_at_call 104; (with_reducible refine (HB.out _ HBX.out).mono ?_); rintro x w1 ⟨rfl, hb1⟩; have b3 := Keeps.of_below hb1 _ _ (cell_of_row _ _ 3 _ _ _ HK.out))
    go_loopw [6, 7, 15] (fun _ _ i wr => ∃ k : Nat, k ≤ e.kids.length ∧ i = .int .i64 k ∧ kidsC fs vis e.kids = kidsC fs vis (e.kids.drop k) ∧ Below w.heap.size w wr ∧ wr.heap[w.heap.size]? = some (exprO e A c)) (fun _ _ i _ => e.kids.length - (intOf i).toNat)
    case atStart => exact ⟨0, Nat.zero_le _, rfl, by simp, grow_trans HBX.out hb1, (hb1.block _ (by simp)).trans HK.out⟩
    case round =>
      obtain ⟨k, hk, rfl, hI, hbel, hbox⟩ := hrel
      have HI := Lib.hid hI
      clear hI
      unfold exprO at hbox
      by_cases hlt : k < e.kids.length
      · obtain ⟨b', off, B, d, rfl, -, hcells, hnum, hkid⟩ := (HR.out.keep ((Keeps.of_below hbel).in S) (fun _ h => h)).at hlt
        obtain ⟨c0, c1, c2, c3⟩ := cells_expr hcells
        have hlt' : (k : Int) < (e.kids.length : Int) := by omega
        have hal : ∀ o, Below w.heap.size w (wr.alloc o) := fun o => grow_alloc hbel o
        have hst := kidsC_step (fs := fs) (vis := vis) hlt
        have HKC : Hid (∀ w', Below wr.heap.size wr w' → Calls Tryz.prog 92 #[.pointer (some ⟨p, 0, none⟩), .agg #[.string (mkB e.kids[k].kind), .int .i64 e.kids[k].num, .string (mkB e.kids[k].name), .slice B e.kids[k].kids.length d]] w' (Ret (eV E (exprC fs vis e.kids[k])) w')) := fun w' hb =>
          IH.out k hlt S B d w' (HE.out.keep (grow_trans hbel hb)) (HCK.out.keep (grow_trans hbel hb)) (hkid.keep ((Keeps.of_below hb).in S) (fun _ h => h))
        obtain ⟨z, hz⟩ : ∃ z, exprC fs vis e.kids[k] = z := ⟨_, rfl⟩
        rw [hz] at HKC hst
        have HBOX := Lib.hid hbox
        clear hcells hkid hnum hz hbox
        by_cases h0 : z = 0
        · subst h0
          rw [if_pos rfl] at hst
          have HS := Lib.hid hst
          rw [eV_zero] at HKC
          clear hst
          go_wp2_with (go_at_call 92; (with_reducible refine (HKC.out _ (grow_alloc (grow_refl _) _)).mono ?_); rintro x w2 ⟨rfl, hb2⟩)
          go_roundw
          case rel => exact ⟨k + 1, by omega, by go_num, HI.out.trans HS.out, grow_trans (hal _) hb2, (hb2.block _ (by have := (Array.getElem?_eq_some_iff.1 HBOX.out).1; simp; omega)).trans ((old_block wr _ (Array.getElem?_eq_some_iff.1 HBOX.out).1).trans HBOX.out)⟩
          case measure => simp [intOf]; omega
        · rw [if_neg h0] at hst
          have hne : kidsC fs vis e.kids ≠ 0 := by rw [HI.out, hst]; exact h0
          have HF : Hid (exprC fs vis e = z) := show _ = _ by rw [exprC_kid HBA.out hne, HI.out, hst]
          have HZ := Lib.hid (eV_pos E h0)
          rw [eV_pos E h0] at HKC
          clear hst hne h0
          go_wp2_with (go_at_call 92; (with_reducible refine (HKC.out _ (grow_alloc (grow_refl _) _)).mono ?_); rintro x w2 ⟨rfl, hb2⟩)
          go_ret
          exact ⟨by rw [HF.out, HZ.out]; rfl, grow_trans (hal _) hb2⟩
      · have hk' : k = e.kids.length := by omega
        subst hk'
        have h0 : kidsC fs vis e.kids = 0 := by rw [HI.out, List.drop_length, kidsC_nil]
        have hself := exprC_self HBA.out h0
        have HE' := Lib.hid (HE.out.keep hbel)
        have hck := HCK.out.keep hbel
        obtain ⟨v, s, q1, -, q3, -⟩ := hck.cells
        obtain ⟨A', c', rfl, hrow, -⟩ := owns_Row q3
        have p2 := cell_of_row _ _ 2 _ _ _ q1
        have HCON := Lib.hid (fun w' (hb : Below wr.heap.size wr w') => has_any vis e.name A' c' w' (hrow.keep (Keeps.of_below hb)) (by omega))
        have HCALL : Hid (∀ w', Below wr.heap.size wr w' → Calls Tryz.prog 105 #[.pointer (some ⟨p, 0, none⟩), .agg #[.string (mkB e.kind), .int .i64 e.num, .string (mkB e.name), .slice A e.kids.length c]] w' (Ret (eV E (callC fs e.name e.kids.length)) w')) := fun w' hb =>
          call_any E base p b n fs all vis e A c w' (HE'.out.keep hb) hs h20 h8 (hck.keep hb)
        have d0 := cell_of_row _ _ 0 _ _ _ hbox
        have d1 := cell_of_row _ _ 1 _ _ _ hbox
        have d2 := cell_of_row _ _ 2 _ _ _ hbox
        have d3 := cell_of_row _ _ 3 _ _ _ hbox
        have g5 := HE'.out.c5
        clear hck q1 q3 hrow hbox h0
        by_cases hn : e.kind = xName
        · have t0 : ((mkB e.kind).toList == [110, 97, 109, 101]) = true := by rw [mkB_toList, hn]; rfl
          cases hc : vis.contains e.name
          · have HF : Hid (exprC fs vis e = 6) := show _ = _ by rw [hself]; unfold selfC; rw [if_pos hn, hc]; rfl
            rw [hc] at HCON
            clear hn hself hc
            go_wp2_with fail
            go_quiet ((go_at_call 36; exact Calls.quiet_of_same (HCON.out _ (grow_drew (Below.refl _ _) _))))
            go_wp2_with fail
            go_ret
            exact ⟨by rw [HF.out]; rfl, grow_drew hbel _⟩
          · have HF : Hid (exprC fs vis e = 0) := show _ = _ by rw [hself]; unfold selfC; rw [if_pos hn, hc]; rfl
            rw [hc] at HCON
            clear hn hself hc
            go_wp2_with fail
            go_quiet ((go_at_call 36; exact Calls.quiet_of_same (HCON.out _ (grow_drew (Below.refl _ _) _))))
            go_wp2_with fail
            go_ret
            exact ⟨by rw [HF.out]; rfl, grow_drew hbel _⟩
        · have t0 : ((mkB e.kind).toList == [110, 97, 109, 101]) = false := by rw [mkB_toList]; exact beq_eq_false_iff_ne.2 hn
          by_cases hcl : e.kind = xCall
          · have t1 : ((mkB e.kind).toList == [99, 97, 108, 108]) = true := by rw [mkB_toList, hcl]; rfl
            have HF : Hid (exprC fs vis e = callC fs e.name e.kids.length) := show _ = _ by rw [hself]; unfold selfC; rw [if_neg hn, if_pos hcl]
            clear hn hself hcl
            go_wp2_with (go_at_call 105; (with_reducible refine (HCALL.out _ (Below.refl _ _)).mono ?_); rintro x w2 ⟨rfl, hb2⟩)
            go_ret
            exact ⟨by rw [HF.out]; rfl, grow_trans hbel hb2⟩
          · have t1 : ((mkB e.kind).toList == [99, 97, 108, 108]) = false := by rw [mkB_toList]; exact beq_eq_false_iff_ne.2 hcl
            have HF : Hid (exprC fs vis e = 0) := show _ = _ by rw [hself]; unfold selfC; rw [if_neg hn, if_neg hcl]
            clear hn hself hcl
            go_wp2_with fail
            go_ret
            exact ⟨by rw [HF.out]; rfl, hbel⟩
end Go.Proofs.YtnpdjncgilekhaaGreatDoor

namespace Go.Proofs.YtnpdjncgilekhaaGreatDoor
open Go.RowKit

/-! checker.add, stmt, block -/
/-- Cells that hold no texts stand, but for block p. -/
def KpC (p : Nat) (w w' : World) : Prop := ∀ k cs T fz, k ≠ p → T ≠ 9 → w.heap[k]? = some (.cells cs T fz) → w'.heap[k]? = some (.cells cs T fz)
theorem KpC.refl (p : Nat) (w : World) : KpC p w w := fun _ _ _ _ _ _ h => h
theorem KpC.trans {p : Nat} {a b c : World} (h : KpC p a b) (k : KpC p b c) : KpC p a c := fun i cs T fz h1 h2 h3 => k i cs T fz h1 h2 (h i cs T fz h1 h2 h3)
theorem KpC.below {p : Nat} {w w' : World} (h : Below w.heap.size w w') : KpC p w w' := fun i _ _ _ _ _ h3 => (h.block i (Array.getElem?_eq_some_iff.1 h3).1).trans h3
theorem KpC.store (p j : Nat) (w : World) (u : Value) : KpC p w (w.setCell ⟨p, j, none⟩ u) := fun i _ _ _ h1 _ h3 => (Below.heap_setCell _ _ _ _ h1).trans h3
theorem KpC.append {p base n : Nat} {w w' : World} {v : Value} {xs : List Value} {o : Obj} (h : w.ownsRow base 9 1 v n xs) (hg : (w.alloc o).grownBy w' v.ownBlock) : KpC p w w' := fun k cs T fz _ h2 h3 => by
  have hlt := (Array.getElem?_eq_some_iff.1 h3).1
  rw [hg.block k (by simp; omega) (fun q => ?_), old_block _ _ hlt]
  · exact h3
  · rcases h.2 with ⟨q2, _⟩ | ⟨g, cap, cur, q2, _, q4, _⟩
    · rw [q2] at q; cases q
    · rw [q2] at q
      simp only [Value.ownBlock, Option.some.injEq] at q
      subst q
      rw [q4] at h3
      injection h3 with h3
      injection h3 with _ h3 _
      exact h2 h3.symm
/-- What a call on a checker leaves. -/
structure ChkPost (base p b n : Nat) (fs : Tab) (c : Nat) (all vis : List Nm) (w w' : World) : Prop where
  bel : Below base w w'
  kp : KpC p w w'
  chk : c = 0 → ChkAt base p b n fs all vis w'
theorem strVs_snoc (l : List Nm) (x : Nm) : strVs (l ++ [x]) = strVs l ++ [.string (mkB x)] := by simp [strVs]
theorem strInfo2 : (Tryz.prog.info? 9).map (fun i => (i.zero, i.size, i.bytes)) = some (some (.string ⟨#[]⟩), 1, 16) := by kernel_rfl
theorem setRow_owns {w : World} {base p j : Nat} {e : TypeId} {size : Nat} {v : Value} {n : Nat} {xs : List Value} (u : Value) (h : w.ownsRow base e size v n xs) (hp : v.ownBlock ≠ some p) : (w.setCell ⟨p, j, none⟩ u).ownsRow base e size v n xs :=
  h.kept (row := some p) ⟨rfl, rfl, rfl, by simp [World.setCell], fun k _ hk => Below.heap_setCell _ _ _ _ (fun e => hk (by simp [e]))⟩ (.inr hp)
theorem addC_has {name : Nm} {all vis : List Nm} (h : all.contains name = true) : addC name all vis = (7, all, vis) := by unfold addC; rw [if_pos h]
theorem addC_full {name : Nm} {all vis : List Nm} (h : all.contains name = false) (hl : 12 ≤ all.length) : addC name all vis = (8, all, vis) := by unfold addC; rw [if_neg (by rw [h]; decide), if_pos hl]
theorem addC_yes {name : Nm} {all vis : List Nm} (h : all.contains name = false) (hl : ¬ 12 ≤ all.length) : addC name all vis = (0, all ++ [name], vis ++ [name]) := by unfold addC; rw [if_neg (by rw [h]; decide), if_neg hl]
theorem kept_hne {a r : Option Nat} (h : r = none ∨ a ≠ r) : a = none ∨ a ≠ r := by
  rcases h with rfl | h
  · cases a <;> simp
  · exact .inr h
set_option maxHeartbeats 4000000 in
set_option maxRecDepth 100000 in
theorem add_any (E : Nat → Addr) (base p b n : Nat) (fs : Tab) (all vis : List Nm) (name : Nm) (w : World) (hE : Laid E w) (h : ChkAt base p b n fs all vis w) (hal : all.length ≤ 1000) (hvl : vis.length ≤ 1000) :
    Calls Tryz.prog 93 #[.pointer (some ⟨p, 0, none⟩), .string (mkB name)] w fun e w' => e = .returned (eV E (addC name all vis).1) ∧ ChkPost base p b n fs (addC name all vis).1 (addC name all vis).2.1 (addC name all vis).2.2 w w' := by
  obtain ⟨v, s, h1, h2, h3, h4, h5, h6⟩ := h.cells
  have hlow := h.low
  have hplt := h.lt
  have hmlt := h.mlt
  have HM := Lib.hid h.map
  have HBR : Hid (Below base w w) := Below.refl _ _
  obtain ⟨A, c, rfl, hrow, hcap⟩ := owns_Row h2
  obtain ⟨B, d, rfl, -, hcap2⟩ := owns_Row h3
  have p1 : w.cell? ⟨p, 1, none⟩ = some (.slice A all.length c) := cell_of_row _ _ 1 _ _ _ h1
  have HCON := Lib.hid (fun w' (hb : Below w.heap.size w w') => has_any all name A c w' (hrow.keep (Keeps.of_below hb)) (by omega))
  have g6 := hE.c6
  have g7 := hE.c7
  cases hc : all.contains name
  · rw [hc] at HCON
    by_cases hl : 12 ≤ all.length
    · have q1 : (12 : Int) ≤ (all.length : Int) := by omega
      rw [addC_full hc hl]
      clear h1 h2 h3 h4 h5 h6 hE hrow hc hl
      have HH := Lib.hid h
      clear h
      go_enter Tryz.func93, Tryz.ntmps93
      go_wp2_with (go_at_call 36; (with_reducible refine (HCON.out _ (Below.refl _ _)).mono ?_); rintro x w1 ⟨rfl, rfl⟩)
      go_ret
      exact ⟨rfl, Below.refl _ _, KpC.refl _ _, fun e => by cases e⟩
    · have q1 : ¬ (12 : Int) ≤ (all.length : Int) := by omega
      rw [addC_yes hc hl]
      obtain ⟨i0, hi, hz0, hz1, hz2⟩ := info_parts strInfo2
      have HO1 := Lib.hid h2
      have HO2 := Lib.hid h3
      have H1 := Lib.hid h1
      have H4 := Lib.hid h4
      have H5 := Lib.hid h5
      have H6 := Lib.hid h6
      have z1 := row_frozen h1 1
      have z2 := row_frozen h1 2
      have HLT : Hid (p < w.heap.size) := Lib.hid hplt
      have HLO := Lib.hid (⟨hlow, hmlt⟩ : base ≤ p ∧ b < base)
      clear h1 h2 h3 h4 h5 h6 hE hrow hc hl h hplt hlow hmlt
      go_enter Tryz.func93, Tryz.ntmps93
      go_wp2_with (first
        | (go_at_call 36; (with_reducible refine (HCON.out _ (Below.refl _ _)).mono ?_); rintro x w1 ⟨rfl, rfl⟩)
        | (at_builtin; refine wpList_append_own_at _ rfl _ _ 35 rfl base 9 i0 _ 1 16 Tryz.underlying35 hi hz0 hz1 hz2 rfl (by decide) _ _ _ rfl (HO1.out.alloc _) ⟨w1.heap.size, 0, none⟩ 1 1 [.string (mkB name)] rfl rfl ?c1 ?c2 ?c3 ?c4 ?c5 ?_))
      case c1 =>
        intro i u hu
        match i, hu with
        | 0, hu => simp at hu; subst hu; simp [Addr.add]
      case c2 => intro u hu; simp at hu; subst hu; rfl
      case c3 => unfold maxLen; omega
      case c4 => omega
      case c5 => have := HLO.out.1; have := HLT.out; simp; omega
      · intro v' w2 hown' hgrow _ hat
        obtain ⟨A', c', rfl⟩ := owns_slice hown'
        have hlt := HLT.out
        have hold : w2.heap[p]? = some (.cells #[.map (some b), .slice A all.length c, .slice B vis.length d] 109 (0, 0)) := by
          rw [hgrow.block p (by simp; omega) (fun q => H4.out q.symm), old_block _ _ hlt]; exact H1.out
        have hb1 : Below base w1 w2 := Below.grown ((Below.refl base w1).alloc (Nat.le_trans HLO.out.1 (Nat.le_of_lt hlt)) _) hgrow (by simp; have := HLO.out.1; omega) (fun k hk => (HO1.out.lt k hk).1)
        have ho2 : w2.ownsRow base 9 1 (.slice B vis.length d) vis.length (strVs vis) := (HO2.out.alloc _).kept hgrow (by rcases H6.out with q | q; exact .inl q; exact .inr (fun e => q e.symm))
        have hne : (Value.slice A' (all.length + 1) c').ownBlock ≠ some p := by
          rcases hat with e | e
          · rw [e]; exact H4.out
          · rw [e]; intro q; simp at q; omega
        have hap : (Value.slice B vis.length d).ownBlock = none ∨ (Value.slice A' (all.length + 1) c').ownBlock ≠ (Value.slice B vis.length d).ownBlock := by
          rcases H6.out with q | q
          · exact .inl q
          · right
            rcases hat with e | e
            · rw [e]; exact q
            · rw [e]; intro q2; have := (HO2.out.lt _ q2.symm).2; omega
        have hm2 : MapAt w2 b n (tabF fs) := HM.out.keep (hb1.block b HLO.out.2)
        have HKP1 : Hid (KpC p w1 w2) := KpC.append HO1.out hgrow
        have hsz2 : w1.heap.size + 1 ≤ w2.heap.size := by have := hgrow.size; simpa using this
        have HW1 : Hid (w2.ownsRow base 9 1 (.slice A' (all.length + 1) c') (all ++ [name]).length (strVs (all ++ [name]))) := show World.ownsRow _ _ _ _ _ _ _ by
          rw [strVs_snoc, List.length_append]; exact hown'
        have hr3 := row_set (j := 1) (cs' := #[.map (some b), .slice A' (all.length + 1) c', .slice B vis.length d]) (.slice A' (all.length + 1) c') hold (by simp)
        have f1 : w2.cell? ⟨p, 1, none⟩ = some (.slice A all.length c) := cell_of_row _ _ 1 _ _ _ hold
        have y1 : w2.frozen? ⟨p, 1, none⟩ = false := row_frozen hold 1
        have f2 : (w2.setCell ⟨p, 1, none⟩ (.slice A' (all.length + 1) c')).cell? ⟨p, 2, none⟩ = some (.slice B vis.length d) := cell_of_row _ _ 2 _ _ _ hr3
        have ho3 := setRow_owns (p := p) (j := 1) (.slice A' (all.length + 1) c') ho2 H5.out
        have HO3 := Lib.hid ho3
        have HR3 := Lib.hid hr3
        have HB1 := Lib.hid hb1
        have HNE := Lib.hid hne
        have HAP := Lib.hid hap
        have HM2 := Lib.hid hm2
        clear hown' hgrow hat hold hb1 ho2 hne hap hm2 hr3 ho3 p1 g6 g7 z1 z2 HCON
        go_wp2_with (at_builtin; refine wpList_append_own_at _ rfl _ _ 35 rfl base 9 i0 _ 1 16 Tryz.underlying35 hi hz0 hz1 hz2 rfl (by decide) _ _ _ rfl (HO3.out.alloc _) ⟨w2.heap.size, 0, none⟩ 1 1 [.string (mkB name)] rfl rfl ?d1 ?d2 ?d3 ?d4 ?d5 ?_)
        case d1 =>
          intro i u hu
          match i, hu with
          | 0, hu => simp at hu; subst hu; simp only [Addr.add, Nat.add_zero]; exact cell_of_row _ _ 0 _ _ _ (new_block _ _ (by simp))
        case d2 => intro u hu; simp at hu; subst hu; rfl
        case d3 => unfold maxLen; omega
        case d4 => omega
        case d5 => have := HLO.out.1; simp; omega
        · intro v3 w4 hown4 hgrow4 _ hat4
          obtain ⟨B', d', rfl⟩ := owns_slice hown4
          have hp2 : p < w2.heap.size := by omega
          have hold4 : w4.heap[p]? = some (.cells #[.map (some b), .slice A' (all.length + 1) c', .slice B vis.length d] 109 (0, 0)) := by
            rw [hgrow4.block p (by simp; omega) (fun q => H5.out q.symm), old_block _ _ (by simp; omega)]; exact HR3.out
          have hb4 : Below base w1 w4 := Below.grown ((HB1.out.setCell HLO.out.1 _).alloc (by simp; have := HLO.out.1; omega) _) hgrow4 (by simp; have := HLO.out.1; omega) (fun k hk => (HO3.out.lt k hk).1)
          have ho4 := ((setRow_owns (p := p) (j := 1) (.slice A' (all.length + 1) c') HW1.out HNE.out).alloc (.cells #[.string (mkB name)] 9)).kept hgrow4 (kept_hne HAP.out)
          have hne4 : (Value.slice B' (vis.length + 1) d').ownBlock ≠ some p := by
            rcases hat4 with e | e
            · rw [e]; exact H5.out
            · rw [e]; intro q; simp at q; omega
          have f3 : w4.cell? ⟨p, 2, none⟩ = some (.slice B vis.length d) := cell_of_row _ _ 2 _ _ _ hold4
          have y3 : w4.frozen? ⟨p, 2, none⟩ = false := row_frozen hold4 2
          have HR4 := Lib.hid hold4
          have HB4 := Lib.hid hb4
          have HO4 := Lib.hid ho4
          have HN4 := Lib.hid hne4
          have HAT4 := Lib.hid hat4
          have HW4 : Hid (w4.ownsRow base 9 1 (.slice B' (vis.length + 1) d') (vis ++ [name]).length (strVs (vis ++ [name]))) := show World.ownsRow _ _ _ _ _ _ _ by
            rw [strVs_snoc, List.length_append]; exact hown4
          have HKP4 : Hid (KpC p w1 w4) := show KpC p w1 w4 from (HKP1.out.trans (KpC.store p 1 w2 _)).trans (KpC.append HO3.out hgrow4)
          have hsz4 : w2.heap.size + 1 ≤ w4.heap.size := by have := hgrow4.size; simpa using this
          clear hold4 hb4 ho4 hne4 hown4 hgrow4 hat4
          go_wp2_with fail
          go_ret
          refine ⟨rfl, HB4.out.setCell HLO.out.1 _, HKP4.out.trans (KpC.store p 2 w4 _), fun _ => ⟨HLO.out.1, by simp; omega, HLO.out.2, HM.out.keep (((HB4.out.setCell HLO.out.1 _).block b HLO.out.2)), _, _, row_set (j := 2) (cs' := #[.map (some b), .slice A' (all.length + 1) c', .slice B' (vis.length + 1) d']) _ HR4.out (by simp), ?_, setRow_owns _ HW4.out HN4.out, HNE.out, HN4.out, ?_⟩⟩
          · exact setRow_owns _ HO4.out HNE.out
          · right
            rcases HAT4.out with e | e
            · rw [e]
              rcases HAP.out with q | q
              · rw [q]; intro e2
                exact absurd (show (Value.slice A' (all.length + 1) c').ownBlock = none from e2) (by
                  have := HW1.out.2
                  rcases this with ⟨q2, q3⟩ | ⟨g, _, _, q2, _⟩
                  · simp at q3
                  · injection q2 with q2 _ _; rw [q2]; simp [Value.ownBlock])
              · exact q
            · rw [e]; intro q2; have := (HW1.out.lt _ q2).2; omega
  · rw [hc] at HCON
    rw [addC_has hc]
    clear h1 h2 h3 h4 h5 h6 hE hrow hc
    have HH := Lib.hid h
    clear h
    go_enter Tryz.func93, Tryz.ntmps93
    go_wp2_with (go_at_call 36; (with_reducible refine (HCON.out _ (Below.refl _ _)).mono ?_); rintro x w1 ⟨rfl, rfl⟩)
    go_ret
    exact ⟨rfl, Below.refl _ _, KpC.refl _ _, fun e => by cases e⟩
end Go.Proofs.YtnpdjncgilekhaaGreatDoor

namespace Go.Proofs.YtnpdjncgilekhaaGreatDoor
open Go.RowKit

/-- The sentinels stand below base. -/
def LaidIn (E : Nat → Addr) (base : Nat) (w : World) : Prop := ∃ w0, Laid E w0 ∧ w0.heap.size ≤ base ∧ Below w0.heap.size w0 w
theorem LaidIn.laid {E : Nat → Addr} {base : Nat} {w : World} (h : LaidIn E base w) : Laid E w := by
  obtain ⟨w0, h1, _, h3⟩ := h; exact h1.keep h3
theorem LaidIn.keep {E : Nat → Addr} {base : Nat} {w w' : World} (h : LaidIn E base w) (hb : Below base w w') : LaidIn E base w' := by
  obtain ⟨w0, h1, h2, h3⟩ := h; exact ⟨w0, h1, h2, h3.trans (hb.mono h2)⟩
theorem keepsLow {base : Nat} {w w' : World} (hb : Below base w w') : KeepsIn (fun k => k < base) w w' := fun a v hs hc => (hb.cell hs).trans hc
theorem ChkAt.base_le {base p b n : Nat} {fs : Tab} {all vis : List Nm} {w : World} (h : ChkAt base p b n fs all vis w) : base ≤ w.heap.size := by have := h.low; have := h.lt; omega
theorem ChkPost.below {base p b n : Nat} {fs : Tab} {all vis : List Nm} {w w' : World} (h : ChkAt base p b n fs all vis w) (hb : Below w.heap.size w w') : ChkPost base p b n fs 0 all vis w w' := ⟨hb.mono h.base_le, KpC.below hb, fun _ => h.keep hb⟩
theorem ChkPost.trans {base p b n c : Nat} {fs : Tab} {all vis all' vis' : List Nm} {w w' w'' : World} (h : ChkPost base p b n fs 0 all vis w w') (k : ChkPost base p b n fs c all' vis' w' w'') : ChkPost base p b n fs c all' vis' w w'' := ⟨h.bel.trans k.bel, h.kp.trans k.kp, k.chk⟩
theorem ChkPost.fail {base p b n c : Nat} {fs : Tab} {all vis all' vis' : List Nm} {w w' : World} (h : ChkPost base p b n fs 0 all vis w w') (hc : c ≠ 0) : ChkPost base p b n fs c all' vis' w w' := ⟨h.bel, h.kp, fun e => absurd e hc⟩
theorem ChkPost.fail2 {base p b n c : Nat} {fs : Tab} {all vis all' vis' : List Nm} {w w' : World} (h : ChkPost base p b n fs c all vis w w') (hc : c ≠ 0) : ChkPost base p b n fs c all' vis' w w' := ⟨h.bel, h.kp, fun e => absurd e hc⟩
section
variable (E : Nat → Addr) (base p b n : Nat) (fs : Tab)
def CBlockC (ss : List PStmt) : Prop := ∀ (all vis : List Nm) (A : Option Addr) (c : Nat) (w : World), LaidIn E base w → ChkAt base p b n fs all vis w → RdS w (fun k => k < base) ss A → all.length ≤ 12 → vis.length ≤ all.length →
  Calls Tryz.prog 54 #[.pointer (some ⟨p, 0, none⟩), .slice A ss.length c] w fun e w' => e = .returned (eV E (blockC fs ss all vis).1) ∧ ChkPost base p b n fs (blockC fs ss all vis).1 (blockC fs ss all vis).2 vis w w'
def CStmtC (s : PStmt) : Prop := ∀ (all vis : List Nm) (X : Option Addr) (x : Nat) (T : Option Addr) (t : Nat) (L : Option Addr) (l : Nat) (w : World), LaidIn E base w → ChkAt base p b n fs all vis w → RdE w (fun k => k < base) s.e.kids X → RdS w (fun k => k < base) s.th T → RdS w (fun k => k < base) s.el L → all.length ≤ 12 → vis.length ≤ all.length →
  Calls Tryz.prog 74 #[.pointer (some ⟨p, 0, none⟩), stmtV s X x T t L l] w fun e w' => e = .returned (eV E (stmtC fs s all vis).1) ∧ ChkPost base p b n fs (stmtC fs s all vis).1 (stmtC fs s all vis).2.1 (stmtC fs s all vis).2.2 w w'
end
theorem stmtC_shape {fs : Tab} {s : PStmt} {all vis : List Nm} (h : Shp s = false) : stmtC fs s all vis = (3, all, vis) := by rw [stmtC_eq]; unfold Shp at h; rw [h]; rfl
theorem stmtC_expr {fs : Tab} {s : PStmt} {all vis : List Nm} (h : Shp s = true) (he : exprC fs vis s.e ≠ 0) : stmtC fs s all vis = (exprC fs vis s.e, all, vis) := by rw [stmtC_eq]; unfold Shp at h; rw [if_pos h, if_neg he]
theorem stmtC_var {fs : Tab} {s : PStmt} {all vis : List Nm} (h : Shp s = true) (he : exprC fs vis s.e = 0) (hk : s.kind = sVar) : stmtC fs s all vis = addC s.name all vis := by rw [stmtC_eq]; unfold Shp at h; rw [if_pos h, if_pos he, if_pos hk]
theorem stmtC_set {fs : Tab} {s : PStmt} {all vis : List Nm} (h : Shp s = true) (he : exprC fs vis s.e = 0) (hk : s.kind = sSet) (hv : vis.contains s.name = false) : stmtC fs s all vis = (6, all, vis) := by
  rw [stmtC_eq]; unfold Shp at h; rw [if_pos h, if_pos he, if_neg (by rw [hk]; decide), if_pos ⟨hk, hv⟩]
theorem stmtC_rest {fs : Tab} {s : PStmt} {all vis : List Nm} (h : Shp s = true) (he : exprC fs vis s.e = 0) (hk : s.kind ≠ sVar) (hv : s.kind = sSet → vis.contains s.name = true) : stmtC fs s all vis =
    if (blockC fs s.th all vis).1 = 0 then ((blockC fs s.el (blockC fs s.th all vis).2 vis).1, (blockC fs s.el (blockC fs s.th all vis).2 vis).2, vis) else ((blockC fs s.th all vis).1, (blockC fs s.th all vis).2, vis) := by
  rw [stmtC_eq]; unfold Shp at h; rw [if_pos h, if_pos he, if_neg hk, if_neg (fun q => by rw [hv q.1] at q; cases q.2)]
def stmtO (s : PStmt) (X : Option Addr) (x : Nat) (T : Option Addr) (t : Nat) (L : Option Addr) (l : Nat) : Obj := .cells #[.string (mkB s.kind), .string (mkB s.name), .string (mkB s.e.kind), .int .i64 s.e.num, .string (mkB s.e.name), .slice X s.e.kids.length x, .slice T s.th.length t, .slice L s.el.length l] 58
theorem stmt_ne_str : (58 : TypeId) ≠ 9 := by decide
theorem row8 {w : World} {q : Nat} {v0 v1 v2 v3 v4 v5 v6 v7 : Value} {T : TypeId} {fz : Nat × Nat} (hrow : w.heap[q]? = some (.cells #[v0, v1, v2, v3, v4, v5, v6, v7] T fz)) :
    w.cell? ⟨q, 0, none⟩ = some v0 ∧ w.cell? ⟨q, 1, none⟩ = some v1 ∧ w.cell? ⟨q, 2, none⟩ = some v2 ∧ w.cell? ⟨q, 3, none⟩ = some v3 ∧ w.cell? ⟨q, 4, none⟩ = some v4 ∧ w.cell? ⟨q, 5, none⟩ = some v5 ∧ w.cell? ⟨q, 6, none⟩ = some v6 ∧ w.cell? ⟨q, 7, none⟩ = some v7 :=
  ⟨cell_of_row _ _ 0 _ _ _ hrow, cell_of_row _ _ 1 _ _ _ hrow, cell_of_row _ _ 2 _ _ _ hrow, cell_of_row _ _ 3 _ _ _ hrow, cell_of_row _ _ 4 _ _ _ hrow, cell_of_row _ _ 5 _ _ _ hrow, cell_of_row _ _ 6 _ _ _ hrow, cell_of_row _ _ 7 _ _ _ hrow⟩
set_option maxHeartbeats 8000000 in
set_option maxRecDepth 100000 in
theorem cstmt_any (E : Nat → Addr) (base p b n : Nat) (fs : Tab) (hs : TabSmall fs) (s : PStmt) (hsm : SmS s) (hqT : CBlockC E base p b n fs s.th) (hqL : CBlockC E base p b n fs s.el) : CStmtC E base p b n fs s := by
  intro all vis X x T t L l w hE hC hX hT hL hal hvl
  have hw : w.heap.size ≠ p := by have := hC.lt; omega
  have hbx : Below w.heap.size w (w.alloc (stmtO s X x T t L l)) := grow_alloc (grow_refl _) _
  have HBK := Lib.hid (heap_alloc_new w (stmtO s X x T t L l))
  have HP0 := Lib.hid (ChkPost.below hC hbx)
  have HSH : Hid (∀ w', Calls Tryz.prog 91 #[stmtV s X x T t L l] w' (Ret (.bool (Shp s)) w')) := fun w' => shaped_any s X x T t L l w' hsm.lenT hsm.lenL
  have HEX : Hid (∀ w', ChkPost base p b n fs 0 all vis w w' → Calls Tryz.prog 92 #[.pointer (some ⟨p, 0, none⟩), exprV s.e X x] w' (Ret (eV E (exprC fs vis s.e)) w')) := fun w' hb =>
    cexpr_any E base p b n fs all vis hs (by omega) s.e hsm.expr _ X x w' (hE.keep hb.bel).laid (hb.chk rfl) (hX.keep (keepsLow hb.bel) (fun _ h => h))
  have HAD : Hid (∀ w', ChkPost base p b n fs 0 all vis w w' → Calls Tryz.prog 93 #[.pointer (some ⟨p, 0, none⟩), .string (mkB s.name)] w' fun e w'' => e = .returned (eV E (addC s.name all vis).1) ∧ ChkPost base p b n fs (addC s.name all vis).1 (addC s.name all vis).2.1 (addC s.name all vis).2.2 w' w'') := fun w' hb =>
    add_any E base p b n fs all vis s.name w' (hE.keep hb.bel).laid (hb.chk rfl) (by omega) (by omega)
  have HBT : Hid (∀ w', ChkPost base p b n fs 0 all vis w w' → Calls Tryz.prog 54 #[.pointer (some ⟨p, 0, none⟩), .slice T s.th.length t] w' fun e w'' => e = .returned (eV E (blockC fs s.th all vis).1) ∧ ChkPost base p b n fs (blockC fs s.th all vis).1 (blockC fs s.th all vis).2 vis w' w'') := fun w' hb =>
    hqT all vis T t w' (hE.keep hb.bel) (hb.chk rfl) (hT.keep (keepsLow hb.bel) (fun _ h => h)) hal hvl
  have hlb := leftB_any fs s.th all vis
  have HBL : Hid (∀ w', ChkPost base p b n fs 0 (blockC fs s.th all vis).2 vis w w' → Calls Tryz.prog 54 #[.pointer (some ⟨p, 0, none⟩), .slice L s.el.length l] w' fun e w'' => e = .returned (eV E (blockC fs s.el (blockC fs s.th all vis).2 vis).1) ∧ ChkPost base p b n fs (blockC fs s.el (blockC fs s.th all vis).2 vis).1 (blockC fs s.el (blockC fs s.th all vis).2 vis).2 vis w' w'') := fun w' hb =>
    hqL _ vis L l w' (hE.keep hb.bel) (hb.chk rfl) (hL.keep (keepsLow hb.bel) (fun _ h => h)) (hlb.2.1 hal) (Nat.le_trans hvl hlb.2.2)
  have HE : Hid (∀ w', Below base w w' → Laid E w') := fun w' hb => (hE.keep hb).laid
  have HCN : Hid (∀ w', ChkPost base p b n fs 0 all vis w w' → ∃ B d, w'.cell? ⟨p, 2, none⟩ = some (.slice B vis.length d) ∧ ∀ w'', Below w'.heap.size w' w'' → Calls Tryz.prog 36 #[.slice B vis.length d, .string (mkB s.name)] w'' fun e w3 => e = .returned (.bool (vis.contains s.name)) ∧ w3 = w'') := fun w' hb => by
    obtain ⟨v, s', q1, -, q3, -⟩ := (hb.chk rfl).cells
    obtain ⟨B, d, rfl, hrow, -⟩ := owns_Row q3
    exact ⟨B, d, cell_of_row _ _ 2 _ _ _ q1, fun w'' hb' => has_any vis s.name B d w'' (hrow.keep (Keeps.of_below hb')) (by omega)⟩
  clear hE hC hX hT hL hbx hqT hqL hlb hsm
  unfold stmtV exprV at *
  unfold stmtO at *
  cases hsh : Shp s
  · rw [stmtC_shape hsh]
    rw [hsh] at HSH
    clear hsh HAD HBT HBL HCN HEX
    go_enter Tryz.func74, Tryz.ntmps74
    go_wp2_with (go_at_call 91; (with_reducible refine (HSH.out _).mono ?_); rintro x1 w1 ⟨rfl, hb1⟩; have hp1 := HP0.out.trans (ChkPost.below (HP0.out.chk rfl) hb1); have g2 := (HE.out _ hp1.bel).c2; have HP1 := Lib.hid hp1; clear hp1)
    go_ret
    exact ⟨rfl, HP1.out.fail (by omega)⟩
  · rw [hsh] at HSH
    have HSS := Lib.hid hsh
    by_cases he : exprC fs vis s.e = 0
    · have HXX := Lib.hid he
      rw [he] at HEX
      rw [eV_zero] at HEX
      by_cases hk : s.kind = sVar
      · have t0 := kind_yes hk
        unfold sVar at t0
        rw [stmtC_var hsh he hk]
        clear hsh he hk HBT HBL HCN
        go_enter Tryz.func74, Tryz.ntmps74
        go_wp2_with (first
          | (go_at_call 91; (with_reducible refine (HSH.out _).mono ?_); rintro x1 w1 ⟨rfl, hb1⟩; obtain ⟨d0, d1, d2, d3, d4, d5, d6, d7⟩ := row8 ((hb1.block _ (by simp)).trans HBK.out); have HK1 := Lib.hid ((hb1.block _ (by simp)).trans HBK.out); have HP1 := Lib.hid (HP0.out.trans (ChkPost.below (HP0.out.chk rfl) hb1)))
          | (go_at_call 92; (with_reducible refine (HEX.out _ HP1.out).mono ?_); rintro x2 w2 ⟨rfl, hb2⟩; obtain ⟨d0', d1', d2', d3', d4', d5', d6', d7'⟩ := row8 ((hb2.block _ (Array.getElem?_eq_some_iff.1 HK1.out).1).trans HK1.out); have HP2 := Lib.hid (HP1.out.trans (ChkPost.below (HP1.out.chk rfl) hb2)))
          | (go_at_call 93; (with_reducible refine (HAD.out _ HP2.out).mono ?_); rintro x3 w3 ⟨rfl, hp3⟩))
        go_ret
        exact ⟨rfl, HP2.out.trans hp3⟩
      · have t0 := kind_no hk
        unfold sVar at t0
        have HWP := Lib.hid hw
        by_cases hst : s.kind = sSet
        · have t1 := kind_yes hst
          unfold sSet at t1
          cases hc : vis.contains s.name
          · rw [stmtC_set hsh he hst hc]
            rw [hc] at HCN
            clear hsh he hk hst hc HBT HBL HAD
            go_enter Tryz.func74, Tryz.ntmps74
            go_wp2_with (first
              | (go_at_call 91; (with_reducible refine (HSH.out _).mono ?_); rintro x1 w1 ⟨rfl, hb1⟩; obtain ⟨d0, d1, d2, d3, d4, d5, d6, d7⟩ := row8 ((hb1.block _ (by simp)).trans HBK.out); have HK1 := Lib.hid ((hb1.block _ (by simp)).trans HBK.out); have HP1 := Lib.hid (HP0.out.trans (ChkPost.below (HP0.out.chk rfl) hb1)))
              | (go_at_call 92; (with_reducible refine (HEX.out _ HP1.out).mono ?_); rintro x2 w2 ⟨rfl, hb2⟩; have HK2 := Lib.hid ((hb2.block _ (Array.getElem?_eq_some_iff.1 HK1.out).1).trans HK1.out); obtain ⟨d0', d1', d2', d3', d4', d5', d6', d7'⟩ := row8 HK2.out; have HP2 := Lib.hid (HP1.out.trans (ChkPost.below (HP1.out.chk rfl) hb2)); obtain ⟨B, d, q2, hcon⟩ := HCN.out _ HP2.out; have HCON := Lib.hid hcon; clear hcon; have g5 := (HE.out _ HP2.out.bel).c5))
            go_quiet ((go_at_call 36; exact Calls.quiet_of_same (HCON.out _ (grow_drew (Below.refl _ _) _))))
            go_wp2_with fail
            go_ret
            exact ⟨rfl, (HP2.out.trans (ChkPost.below (HP2.out.chk rfl) (grow_drew (Below.refl _ _) _))).fail (by omega)⟩
          · have HRS := Lib.hid (stmtC_rest (all := all) hsh he hk (fun _ => hc))
            rw [hc] at HCN
            clear hsh he hk hst hc HAD
            by_cases hz : (blockC fs s.th all vis).1 = 0
            · rw [if_pos hz] at HRS
              rw [hz] at HBT
              rw [eV_zero] at HBT
              rw [HRS.out]
              clear hz
              go_enter Tryz.func74, Tryz.ntmps74
              go_wp2_with (first
                | (go_at_call 91; (with_reducible refine (HSH.out _).mono ?_); rintro x1 w1 ⟨rfl, hb1⟩; obtain ⟨d0, d1, d2, d3, d4, d5, d6, d7⟩ := row8 ((hb1.block _ (by simp)).trans HBK.out); have HK1 := Lib.hid ((hb1.block _ (by simp)).trans HBK.out); have HP1 := Lib.hid (HP0.out.trans (ChkPost.below (HP0.out.chk rfl) hb1)))
                | (go_at_call 92; (with_reducible refine (HEX.out _ HP1.out).mono ?_); rintro x2 w2 ⟨rfl, hb2⟩; have HK2 := Lib.hid ((hb2.block _ (Array.getElem?_eq_some_iff.1 HK1.out).1).trans HK1.out); obtain ⟨d0', d1', d2', d3', d4', d5', d6', d7'⟩ := row8 HK2.out; have HP2 := Lib.hid (HP1.out.trans (ChkPost.below (HP1.out.chk rfl) hb2)); obtain ⟨B, d, q2, hcon⟩ := HCN.out _ HP2.out; have HCON := Lib.hid hcon; clear hcon; have g5 := (HE.out _ HP2.out.bel).c5))
              go_quiet ((go_at_call 36; exact Calls.quiet_of_same (HCON.out _ (grow_drew (Below.refl _ _) _))))
              rename_i nq _
              have HP3 := Lib.hid (HP2.out.trans (ChkPost.below (HP2.out.chk rfl) (grow_drew (Below.refl _ _) nq)))
              have HK3 : Hid ((w2.drewN nq).heap[w.heap.size]? = some (.cells #[.string (mkB s.kind), .string (mkB s.name), .string (mkB s.e.kind), .int .i64 s.e.num, .string (mkB s.e.name), .slice X s.e.kids.length x, .slice T s.th.length t, .slice L s.el.length l] 58 (0, 0))) := HK2.out
              go_wp2_with (first
                | (go_at_call 54; (with_reducible refine (HBT.out _ HP3.out).mono ?_); rintro x4 w4 ⟨rfl, hp4⟩; have HP4 := Lib.hid (HP3.out.trans hp4); have HK4 := Lib.hid (hp4.kp _ _ _ _ HWP.out stmt_ne_str HK3.out); obtain ⟨e0, e1, e2, e3, e4, e5, e6, e7⟩ := row8 HK4.out; clear hp4)
                | (go_at_call 54; (with_reducible refine (HBL.out _ HP4.out).mono ?_); rintro x5 w5 ⟨rfl, hp5⟩))
              go_ret
              exact ⟨rfl, HP4.out.trans hp5⟩
            · rw [if_neg hz] at HRS
              have HZ := Lib.hid (eV_pos E hz)
              have HNE := Lib.hid hz
              rw [eV_pos E hz] at HBT
              rw [HRS.out]
              clear hz
              go_enter Tryz.func74, Tryz.ntmps74
              go_wp2_with (first
                | (go_at_call 91; (with_reducible refine (HSH.out _).mono ?_); rintro x1 w1 ⟨rfl, hb1⟩; obtain ⟨d0, d1, d2, d3, d4, d5, d6, d7⟩ := row8 ((hb1.block _ (by simp)).trans HBK.out); have HK1 := Lib.hid ((hb1.block _ (by simp)).trans HBK.out); have HP1 := Lib.hid (HP0.out.trans (ChkPost.below (HP0.out.chk rfl) hb1)))
                | (go_at_call 92; (with_reducible refine (HEX.out _ HP1.out).mono ?_); rintro x2 w2 ⟨rfl, hb2⟩; have HK2 := Lib.hid ((hb2.block _ (Array.getElem?_eq_some_iff.1 HK1.out).1).trans HK1.out); obtain ⟨d0', d1', d2', d3', d4', d5', d6', d7'⟩ := row8 HK2.out; have HP2 := Lib.hid (HP1.out.trans (ChkPost.below (HP1.out.chk rfl) hb2)); obtain ⟨B, d, q2, hcon⟩ := HCN.out _ HP2.out; have HCON := Lib.hid hcon; clear hcon; have g5 := (HE.out _ HP2.out.bel).c5))
              go_quiet ((go_at_call 36; exact Calls.quiet_of_same (HCON.out _ (grow_drew (Below.refl _ _) _))))
              rename_i nq _
              have HP3 := Lib.hid (HP2.out.trans (ChkPost.below (HP2.out.chk rfl) (grow_drew (Below.refl _ _) nq)))
              have HK3 : Hid ((w2.drewN nq).heap[w.heap.size]? = some (.cells #[.string (mkB s.kind), .string (mkB s.name), .string (mkB s.e.kind), .int .i64 s.e.num, .string (mkB s.e.name), .slice X s.e.kids.length x, .slice T s.th.length t, .slice L s.el.length l] 58 (0, 0))) := HK2.out
              go_wp2_with (first
                | (go_at_call 54; (with_reducible refine (HBT.out _ HP3.out).mono ?_); rintro x4 w4 ⟨rfl, hp4⟩))
              go_ret
              exact ⟨by rw [HZ.out]; rfl, HP3.out.trans hp4⟩
        · have t1 := kind_no hst
          unfold sSet at t1
          have HRS := Lib.hid (stmtC_rest (all := all) hsh he hk (fun q => absurd q hst))
          clear hsh he hk hst HAD HCN
          by_cases hz : (blockC fs s.th all vis).1 = 0
          · rw [if_pos hz] at HRS
            rw [hz] at HBT
            rw [eV_zero] at HBT
            rw [HRS.out]
            clear hz
            go_enter Tryz.func74, Tryz.ntmps74
            go_wp2_with (first
              | (go_at_call 91; (with_reducible refine (HSH.out _).mono ?_); rintro x1 w1 ⟨rfl, hb1⟩; obtain ⟨d0, d1, d2, d3, d4, d5, d6, d7⟩ := row8 ((hb1.block _ (by simp)).trans HBK.out); have HK1 := Lib.hid ((hb1.block _ (by simp)).trans HBK.out); have HP1 := Lib.hid (HP0.out.trans (ChkPost.below (HP0.out.chk rfl) hb1)))
              | (go_at_call 92; (with_reducible refine (HEX.out _ HP1.out).mono ?_); rintro x2 w2 ⟨rfl, hb2⟩; have HK2 := Lib.hid ((hb2.block _ (Array.getElem?_eq_some_iff.1 HK1.out).1).trans HK1.out); obtain ⟨d0', d1', d2', d3', d4', d5', d6', d7'⟩ := row8 HK2.out; have HP2 := Lib.hid (HP1.out.trans (ChkPost.below (HP1.out.chk rfl) hb2)); have HP3 := HP2; have HK3 := HK2)
              | (go_at_call 54; (with_reducible refine (HBT.out _ HP3.out).mono ?_); rintro x4 w4 ⟨rfl, hp4⟩; have HP4 := Lib.hid (HP3.out.trans hp4); have HK4 := Lib.hid (hp4.kp _ _ _ _ HWP.out stmt_ne_str HK3.out); obtain ⟨e0, e1, e2, e3, e4, e5, e6, e7⟩ := row8 HK4.out; clear hp4)
              | (go_at_call 54; (with_reducible refine (HBL.out _ HP4.out).mono ?_); rintro x5 w5 ⟨rfl, hp5⟩))
            go_ret
            exact ⟨rfl, HP4.out.trans hp5⟩
          · rw [if_neg hz] at HRS
            have HZ := Lib.hid (eV_pos E hz)
            have HNE := Lib.hid hz
            rw [eV_pos E hz] at HBT
            rw [HRS.out]
            clear hz
            go_enter Tryz.func74, Tryz.ntmps74
            go_wp2_with (first
              | (go_at_call 91; (with_reducible refine (HSH.out _).mono ?_); rintro x1 w1 ⟨rfl, hb1⟩; obtain ⟨d0, d1, d2, d3, d4, d5, d6, d7⟩ := row8 ((hb1.block _ (by simp)).trans HBK.out); have HK1 := Lib.hid ((hb1.block _ (by simp)).trans HBK.out); have HP1 := Lib.hid (HP0.out.trans (ChkPost.below (HP0.out.chk rfl) hb1)))
              | (go_at_call 92; (with_reducible refine (HEX.out _ HP1.out).mono ?_); rintro x2 w2 ⟨rfl, hb2⟩; have HK2 := Lib.hid ((hb2.block _ (Array.getElem?_eq_some_iff.1 HK1.out).1).trans HK1.out); obtain ⟨d0', d1', d2', d3', d4', d5', d6', d7'⟩ := row8 HK2.out; have HP2 := Lib.hid (HP1.out.trans (ChkPost.below (HP1.out.chk rfl) hb2)); have HP3 := HP2; have HK3 := HK2)
              | (go_at_call 54; (with_reducible refine (HBT.out _ HP3.out).mono ?_); rintro x4 w4 ⟨rfl, hp4⟩))
            go_ret
            exact ⟨by rw [HZ.out]; rfl, HP3.out.trans hp4⟩
    · rw [stmtC_expr hsh he]
      have HZ := Lib.hid (eV_pos E he)
      have HNE := Lib.hid he
      rw [eV_pos E he] at HEX
      clear hsh he HAD HBT HBL HCN
      go_enter Tryz.func74, Tryz.ntmps74
      go_wp2_with (first
        | (go_at_call 91; (with_reducible refine (HSH.out _).mono ?_); rintro x1 w1 ⟨rfl, hb1⟩; obtain ⟨d0, d1, d2, d3, d4, d5, d6, d7⟩ := row8 ((hb1.block _ (by simp)).trans HBK.out); have HP1 := Lib.hid (HP0.out.trans (ChkPost.below (HP0.out.chk rfl) hb1)))
        | (go_at_call 92; (with_reducible refine (HEX.out _ HP1.out).mono ?_); rintro x2 w2 ⟨rfl, hb2⟩; have HP2 := Lib.hid (HP1.out.trans (ChkPost.below (HP1.out.chk rfl) hb2))))
      go_ret
      exact ⟨by rw [HZ.out]; rfl, HP2.out.fail HNE.out⟩
end Go.Proofs.YtnpdjncgilekhaaGreatDoor

namespace Go.Proofs.YtnpdjncgilekhaaGreatDoor
open Go.RowKit

/-! a run in memory -/
def intVs (l : List Int) : List Value := l.map fun n => .int .i64 n
theorem intVs_len (l : List Int) : (intVs l).length = l.length := by simp [intVs]
theorem intVs_get {l : List Int} {k : Nat} (h : k < l.length) : (intVs l)[k]? = some (.int .i64 l[k]) := by simp [intVs, h]
theorem intVs_snoc (l : List Int) (n : Int) : intVs (l ++ [n]) = intVs l ++ [.int .i64 n] := by simp [intVs]
def varF (vs : Vs) : List UInt8 → Option Value := fun k => (lookV vs k).map fun n => .int .i64 n
/-- Block b is the map of these variables. -/
def VarAt (w : World) (b : Nat) (vs : Vs) : Prop :=
  ∃ D : DataW Value, w.ownsMap Tryz.prog 9 hR b (Maps.size D) D ∧ Maps.IsMap D ∧ Maps.size D = vs.length ∧ ∀ k : List UInt8, Maps.has D (.string k) = (varF vs k).isSome ∧ ∀ v, varF vs k = some v → ∀ z, D.atKey (.string k) z = .held v
theorem VarAt.map {w : World} {b : Nat} {vs : Vs} (h : VarAt w b vs) : MapAt w b vs.length (varF vs) := by
  obtain ⟨D, h1, h2, h3, h4⟩ := h
  exact ⟨D, h1.mono (Nat.le_of_eq h3), h2, h4⟩
theorem VarAt.lt {w : World} {b : Nat} {vs : Vs} (h : VarAt w b vs) : b < w.heap.size := h.map.lt
theorem VarAt.keep {w w' : World} {b : Nat} {vs : Vs} (h : VarAt w b vs) (hb : w'.heap[b]? = w.heap[b]?) : VarAt w' b vs := by
  obtain ⟨D, ⟨es, clock, h1, h2, h3, h4⟩, hm⟩ := h
  exact ⟨D, ⟨es, clock, hb.trans h1, h2, h3, h4⟩, hm⟩
theorem VarAt.obj {w : World} {b : Nat} {vs : Vs} (h : VarAt w b vs) : ∃ es clock, w.heap[b]? = some (.map es clock) := by
  obtain ⟨D, ⟨es, clock, h1, _⟩, _⟩ := h; exact ⟨es, clock, h1⟩
theorem tight {H : Type} {P : Program} {k : TypeId} {R : Value → Option (DataW H × List MemPlace)} {w : World} {b n : Nat} {D : DataW H} (h : w.ownsMap P k R b n D) : w.ownsMap P k R b (Maps.size D) D := by
  obtain ⟨es, clock, h1, h2, h3, rfl⟩ := h
  exact ⟨es, clock, h1, h2, by rw [Maps.size_eq, DataW.length_sorted]; simp, rfl⟩
theorem VarAt.made (w : World) : VarAt (w.alloc (.map #[] 0)) w.heap.size [] :=
  ⟨.map [], World.ownsMap_made _ _ _ _, Maps.isMap_empty, rfl, fun k => ⟨rfl, fun v h => by cases h⟩⟩
theorem varF_put (vs : Vs) (n : Nm) (v : Int) : varF (putV vs n v) = putF (varF vs) n (.int .i64 v) := by
  funext k
  unfold varF putF
  rw [lookV_put]
  split <;> rfl
theorem VarAt.of_put {w w' : World} {b : Nat} {vs : Vs} {D : DataW Value} {m : Nat} (h1 : w.ownsMap Tryz.prog 9 hR b m D) (h2 : Maps.IsMap D) (h3 : Maps.size D = vs.length)
    (h4 : ∀ k : List UInt8, Maps.has D (.string k) = (varF vs k).isSome ∧ ∀ v, varF vs k = some v → ∀ z, D.atKey (.string k) z = .held v) {k : List UInt8} {n : Int} {j : Nat}
    (ho : w'.ownsMap Tryz.prog 9 hR b j (D.put (.string k) (.held (.int .i64 n)))) : VarAt w' b (putV vs k n) := by
  obtain ⟨D', q1, q2, q3⟩ := MapAt.of_put h2 h4 ho
  refine ⟨_, tight ho, h2.put _ _, ?_, ?_⟩
  · rw [Maps.size_put (h1.tidy strKeyed), length_putV, h3, (h4 k).1]
    unfold varF
    cases lookV vs k <;> rfl
  · intro x
    rw [varF_put]
    by_cases hx : x = k
    · subst hx
      refine ⟨by rw [Maps.has_put_same h2 (by trivial)]; simp [putF], fun u hu z => ?_⟩
      rw [Maps.atKey_put_same h2 (by trivial)]
      simp only [putF, if_true, Option.some.injEq] at hu
      rw [hu]
    · have hne : Lit.string x ≠ Lit.string k := fun e => hx (by injection e)
      refine ⟨by rw [Maps.has_put_other hne, (h4 x).1]; simp [putF, hx], fun u hu z => ?_⟩
      rw [Maps.atKey_put_other hne]
      simp only [putF, if_neg hx] at hu
      exact (h4 x).2 u hu z

/-! what stands and what moves -/
/-- Blocks stand, but for those of S and that of v. -/
def KpB (S : List Nat) (v : Value) (w w' : World) : Prop := ∀ k, k < w.heap.size → k ∉ S → v.ownBlock ≠ some k → w'.heap[k]? = w.heap[k]?
structure Mv (base : Nat) (S : List Nat) (v v' : Value) (w w' : World) : Prop where
  bel : Below base w w'
  kp : KpB S v w w'
  nw : v'.ownBlock = v.ownBlock ∨ ∀ k, v'.ownBlock = some k → w.heap.size ≤ k
theorem Mv.below {base : Nat} {S : List Nat} {v : Value} {w w' : World} (hb : base ≤ w.heap.size) (h : Below w.heap.size w w') : Mv base S v v w w' := ⟨h.mono hb, fun k hk _ _ => h.block k hk, .inl rfl⟩
theorem Mv.trans {base : Nat} {S : List Nat} {v v' v'' : Value} {w w' w'' : World} (h : Mv base S v v' w w') (k : Mv base S v' v'' w' w'') : Mv base S v v'' w w'' := by
  refine ⟨h.bel.trans k.bel, fun i h1 h2 h3 => ?_, ?_⟩
  · rw [k.kp i (Nat.lt_of_lt_of_le h1 h.bel.size) h2 (fun e => ?_), h.kp i h1 h2 h3]
    rcases h.nw with q | q
    · exact h3 (q ▸ e)
    · have := q i e; omega
  · rcases k.nw with q | q
    · rcases h.nw with p | p
      · exact .inl (q.trans p)
      · exact .inr fun i e => p i (q ▸ e)
    · exact .inr fun i e => Nat.le_trans h.bel.size (q i e)
theorem Mv.wide {base : Nat} {S S' : List Nat} {v v' : Value} {w w' : World} (h : Mv base S v v' w w') (hs : ∀ k ∈ S, k ∈ S') : Mv base S' v v' w w' := ⟨h.bel, fun k h1 h2 h3 => h.kp k h1 (fun q => h2 (hs k q)) h3, h.nw⟩
/-- Blocks that were made on the way need not be named. -/
theorem Mv.made {base : Nat} {S S' : List Nat} {v v' : Value} {w0 w w' : World} (hb : base ≤ w0.heap.size) (h0 : Below w0.heap.size w0 w) (h : Mv base S' v v' w w') (hs : ∀ k ∈ S', k ∈ S ∨ w0.heap.size ≤ k) : Mv base S v v' w0 w' := by
  have h1 := Mv.below (S := S) (v := v) hb h0
  refine ⟨h1.bel.trans h.bel, fun i q1 q2 q3 => ?_, ?_⟩
  · rw [h.kp i (Nat.lt_of_lt_of_le q1 h0.size) (fun e => ?_) q3, h0.block i q1]
    rcases hs i e with r | r
    · exact q2 r
    · omega
  · rcases h.nw with q | q
    · exact .inl q
    · exact .inr fun i e => Nat.le_trans h0.size (q i e)
section
variable (base m fb nf T : Nat) (F : Nm → Option Value)
/-- The machine at block m; v is the slice of what was printed. -/
structure MaAt (d : Nat) (st : St) (v : Value) (w : World) : Prop where
  low : base ≤ m
  blk : w.heap[m]? = some (.cells #[.map (some fb), .string (mkB st.how), .int .i64 0, v, .int .i64 st.ticks, .int .i64 ((T - st.ticks : Nat) : Int), .int .i64 d] 86 (0, 0))
  own : w.ownsRow base 3 1 v st.out.length (intVs st.out)
  funs : MapAt w fb nf F
  ticks : st.ticks ≤ T
  out : st.out.length ≤ 1000
  fbl : fb < base
end
section
variable {base m fb nf T : Nat} {F : Nm → Option Value}
theorem MaAt.lt {d : Nat} {st : St} {v : Value} {w : World} (h : MaAt base m fb nf T F d st v w) : m < w.heap.size := (Array.getElem?_eq_some_iff.1 h.blk).1
theorem MaAt.base_le {d : Nat} {st : St} {v : Value} {w : World} (h : MaAt base m fb nf T F d st v w) : base ≤ w.heap.size := by have := h.low; have := h.lt; omega
theorem MaAt.below {d : Nat} {st : St} {v : Value} {w w' : World} (h : MaAt base m fb nf T F d st v w) (hb : Below w.heap.size w w') : MaAt base m fb nf T F d st v w' :=
  ⟨h.low, (hb.block m h.lt).trans h.blk, ownsRow_below h.own hb, h.funs.below hb, h.ticks, h.out, h.fbl⟩
/-- A block of another type is not the printed row's. -/
theorem own_other {w : World} {e : TypeId} {v : Value} {n : Nat} {xs : List Value} {x : Nat} {o : Obj} (h : w.ownsRow base e 1 v n xs) (hx : w.heap[x]? = some o) (hT : ∀ cs, o ≠ .cells cs e (0, 0)) : v.ownBlock ≠ some x := by
  rcases h.2 with ⟨q, _⟩ | ⟨g, cap, cur, q, _, q4, _⟩
  · rw [q]; simp [Value.ownBlock]
  · rw [q]
    intro e
    simp only [Value.ownBlock, Option.some.injEq] at e
    subst e
    rw [q4] at hx
    injection hx with hx
    exact hT cur hx.symm
theorem MaAt.own_m {d : Nat} {st : St} {v : Value} {w : World} (h : MaAt base m fb nf T F d st v w) : v.ownBlock ≠ some m := own_other h.own h.blk fun cs e => by injection e with _ e _; exact absurd e (by decide)
end
/-- The frame at block x, with its variables at block b. -/
structure FrAt (base m x b : Nat) (fr : Fr) (w : World) : Prop where
  low : base ≤ x
  lowb : base ≤ b
  blk : w.heap[x]? = some (.cells #[.pointer (some ⟨m, 0, none⟩), .map (some b), .int .i64 (fr.ans.getD 0), .bool fr.ans.isSome] 119 (0, 0))
  vars : VarAt w b fr.vars
section
variable {base m fb nf T : Nat} {F : Nm → Option Value}
theorem FrAt.lt {x b : Nat} {fr : Fr} {w : World} (h : FrAt base m x b fr w) : x < w.heap.size := (Array.getElem?_eq_some_iff.1 h.blk).1
theorem FrAt.below {x b : Nat} {fr : Fr} {w w' : World} (h : FrAt base m x b fr w) (hb : Below w.heap.size w w') : FrAt base m x b fr w' := ⟨h.low, h.lowb, (hb.block x h.lt).trans h.blk, h.vars.keep (hb.block b h.vars.lt)⟩
theorem FrAt.ne {d x b : Nat} {fr : Fr} {st : St} {v : Value} {w : World} (h : FrAt base m x b fr w) (k : MaAt base m fb nf T F d st v w) : x ≠ m ∧ b ≠ m ∧ x ≠ b ∧ v.ownBlock ≠ some x ∧ v.ownBlock ≠ some b := by
  obtain ⟨es, clock, hv⟩ := h.vars.obj
  refine ⟨fun e => ?_, fun e => ?_, fun e => ?_, own_other k.own h.blk fun cs e => ?_, own_other k.own hv fun cs e => by cases e⟩
  · have h1 := h.blk
    rw [e, k.blk] at h1
    injection h1 with h1; injection h1 with _ h1 _; exact absurd h1 (by decide)
  · rw [e, k.blk] at hv; cases hv
  · rw [← e, h.blk] at hv; cases hv
  · injection e with _ e _; exact absurd e (by decide)
/-- A call leaves the frame. -/
theorem FrAt.mv {d x b : Nat} {fr : Fr} {st : St} {v v' : Value} {w w' : World} (h : FrAt base m x b fr w) (k : MaAt base m fb nf T F d st v w) (hm : Mv base [m] v v' w w') : FrAt base m x b fr w' := by
  obtain ⟨h1, h2, h3, h4, h5⟩ := h.ne k
  exact ⟨h.low, h.lowb, (hm.kp x h.lt (by simpa using h1) h4).trans h.blk, h.vars.keep (hm.kp b h.vars.lt (by simpa using h2) h5)⟩
end
end Go.Proofs.YtnpdjncgilekhaaGreatDoor

namespace Go.Proofs.YtnpdjncgilekhaaGreatDoor
open Go.RowKit

/-! variables and calls, in plain Lean -/
def pushN (xs : List Nm) (x : Nm) : List Nm := if xs.contains x then xs else xs ++ [x]
mutual
def callE : PExpr → List Nm → List Nm
  | ⟨kind, _, name, kids⟩, xs => if kind = xCall then pushN (callK kids xs) name else callK kids xs
def callK : List PExpr → List Nm → List Nm
  | [], xs => xs
  | k :: ks, xs => callK ks (callE k xs)
end
theorem callE_eq (e : PExpr) (xs : List Nm) : callE e xs = if e.kind = xCall then pushN (callK e.kids xs) e.name else callK e.kids xs := by cases e; rw [callE]
theorem callK_nil (xs : List Nm) : callK [] xs = xs := by rw [callK]
theorem callK_cons (k : PExpr) (ks : List PExpr) (xs : List Nm) : callK (k :: ks) xs = callK ks (callE k xs) := by rw [callK]
def stepV (s : PStmt) (xs : List Nm) : List Nm := if s.kind = sVar then xs ++ [s.name] else xs
def stepC (s : PStmt) (xs : List Nm) : List Nm := callE s.e xs
mutual
def walkT (σ : PStmt → List Nm → List Nm) : PStmt → List Nm → List Nm
  | ⟨kind, name, e, th, el⟩, xs => walkS σ el (walkS σ th (σ ⟨kind, name, e, th, el⟩ xs))
def walkS (σ : PStmt → List Nm → List Nm) : List PStmt → List Nm → List Nm
  | [], xs => xs
  | s :: ss, xs => walkS σ ss (walkT σ s xs)
end
theorem walkT_eq (σ : PStmt → List Nm → List Nm) (s : PStmt) (xs : List Nm) : walkT σ s xs = walkS σ s.el (walkS σ s.th (σ s xs)) := by cases s; rw [walkT]
theorem walkS_nil (σ : PStmt → List Nm → List Nm) (xs : List Nm) : walkS σ [] xs = xs := by rw [walkS]
theorem walkS_cons (σ : PStmt → List Nm → List Nm) (s : PStmt) (ss : List PStmt) (xs : List Nm) : walkS σ (s :: ss) xs = walkS σ ss (walkT σ s xs) := by rw [walkS]
def varsP (f : PFun) : List Nm := walkS stepV f.body f.params
def callsP (f : PFun) : List Nm := walkS stepC f.body []

/-! how many -/
mutual
def cntE : PExpr → Nat
  | ⟨_, _, _, kids⟩ => 1 + cntK kids
def cntK : List PExpr → Nat
  | [] => 0
  | k :: ks => cntE k + cntK ks
end
theorem cntE_eq (e : PExpr) : cntE e = 1 + cntK e.kids := by cases e; rw [cntE]
theorem cntK_nil : cntK [] = 0 := by rw [cntK]
theorem cntK_cons (k : PExpr) (ks : List PExpr) : cntK (k :: ks) = cntE k + cntK ks := by rw [cntK]
mutual
def cntT : PStmt → Nat
  | ⟨_, _, e, th, el⟩ => 1 + cntE e + cntS th + cntS el
def cntS : List PStmt → Nat
  | [] => 0
  | s :: ss => cntT s + cntS ss
end
theorem cntT_eq (s : PStmt) : cntT s = 1 + cntE s.e + cntS s.th + cntS s.el := by cases s; rw [cntT]
theorem cntS_nil : cntS [] = 0 := by rw [cntS]
theorem cntS_cons (s : PStmt) (ss : List PStmt) : cntS (s :: ss) = cntT s + cntS ss := by rw [cntS]
theorem cntK_le {d : Nat} : ∀ (ks : List PExpr) (n : Nat), (∀ k ∈ ks, szE k d < 1000 → cntE k ≤ szE k d) → szK ks d n < 1000 → n + cntK ks ≤ szK ks d n := by
  intro ks
  induction ks with
  | nil => intro n _ _; rw [cntK_nil, szK_nil]; omega
  | cons k ks ih =>
    intro n hk h
    have hn1 : n < 1000 := by have := szK_ge (k :: ks) d n; omega
    rw [szK_cons, if_pos hn1] at h ⊢
    have h1 := szK_ge ks d (n + szE k d)
    have h2 := hk k (by simp) (by omega)
    have h3 := ih (n + szE k d) (fun x hx => hk x (by simp [hx])) h
    rw [cntK_cons]; omega
theorem cntE_le : ∀ (e : PExpr) (d : Nat), szE e d < 1000 → cntE e ≤ szE e d := by
  intro e
  induction e using PExpr.ind with
  | h e ih =>
    intro d h
    rw [szE_eq] at h ⊢
    split at h
    · omega
    · rename_i hc
      rw [if_neg hc, cntE_eq]
      exact cntK_le e.kids 1 (fun k hk => ih k hk (d + 1)) h
theorem cntS_le {d : Nat} : ∀ (ss : List PStmt) (n : Nat), (∀ s ∈ ss, szT s d < 1000 → cntT s ≤ szT s d) → szL ss d n < 1000 → n + cntS ss ≤ szL ss d n := by
  intro ss
  induction ss with
  | nil => intro n _ _; rw [cntS_nil, szL_nil]; omega
  | cons s ss ih =>
    intro n hk h
    have hsm := szL_small _ _ _ h s (by simp)
    have hn1 : n < 1000 := by rw [szL_cons] at h; split at h <;> omega
    rw [szL_cons, if_pos hn1] at h ⊢
    rw [if_neg (by omega)] at h ⊢
    have h2 := hk s (by simp) hsm.2.2
    have h3 := ih (n + szT s d) (fun x hx => hk x (by simp [hx])) h
    rw [cntS_cons]; omega
theorem cntT_le : ∀ (s : PStmt) (d : Nat), szT s d < 1000 → cntT s ≤ szT s d := by
  intro s
  induction s using PStmt.ind with
  | h s iht ihl =>
    intro d h
    rw [szT_eq] at h ⊢
    have h0 := cntE_le s.e 0 (by omega)
    obtain ⟨_, q1⟩ := szS_small (ss := s.th) (d := d + 1) (by omega)
    obtain ⟨_, q2⟩ := szS_small (ss := s.el) (d := d + 1) (by omega)
    have h1 := cntS_le s.th 0 (fun k hk => iht k hk (d + 1)) q1
    have h2 := cntS_le s.el 0 (fun k hk => ihl k hk (d + 1)) q2
    have e1 : szS s.th (d + 1) = szL s.th (d + 1) 0 := by
      have : szS s.th (d + 1) < 1000 := by omega
      unfold szS at this ⊢; split at this <;> rename_i hc
      · omega
      · rw [if_neg hc]
    have e2 : szS s.el (d + 1) = szL s.el (d + 1) 0 := by
      have : szS s.el (d + 1) < 1000 := by omega
      unfold szS at this ⊢; split at this <;> rename_i hc
      · omega
      · rw [if_neg hc]
    rw [cntT_eq]; omega
theorem cntB_le {ss : List PStmt} (h : szS ss 0 < 1000) : cntS ss ≤ szS ss 0 := by
  obtain ⟨_, q1⟩ := szS_small h
  have h1 := cntS_le ss 0 (fun k _ => cntT_le k 0) q1
  unfold szS at h ⊢
  split at h <;> rename_i hc
  · omega
  · rw [if_neg hc]; omega
theorem pushN_len (xs : List Nm) (x : Nm) : (pushN xs x).length ≤ xs.length + 1 := by unfold pushN; split <;> simp
theorem callK_len : ∀ (ks : List PExpr) (xs : List Nm), (∀ k ∈ ks, ∀ ys, (callE k ys).length ≤ ys.length + cntE k) → (callK ks xs).length ≤ xs.length + cntK ks := by
  intro ks
  induction ks with
  | nil => intro xs _; rw [callK_nil, cntK_nil]; omega
  | cons k ks ih =>
    intro xs h
    rw [callK_cons, cntK_cons]
    have h1 := h k (by simp) xs
    have h2 := ih (callE k xs) fun x hx => h x (by simp [hx])
    omega
theorem callE_len : ∀ (e : PExpr) (xs : List Nm), (callE e xs).length ≤ xs.length + cntE e := by
  intro e
  induction e using PExpr.ind with
  | h e ih =>
    intro xs
    rw [callE_eq, cntE_eq]
    have h1 := callK_len e.kids xs ih
    have h2 := pushN_len (callK e.kids xs) e.name
    split <;> omega
/-- A step adds no more than its statement holds. -/
def StepOk (σ : PStmt → List Nm → List Nm) : Prop := ∀ s xs, (σ s xs).length ≤ xs.length + 1 + cntE s.e
theorem stepV_ok : StepOk stepV := fun s xs => by
  unfold stepV; split
  · simp only [List.length_append, List.length_cons, List.length_nil]; omega
  · omega
theorem stepC_ok : StepOk stepC := fun s xs => by have := callE_len s.e xs; unfold stepC; omega
theorem walkS_len {σ : PStmt → List Nm → List Nm} : ∀ (ss : List PStmt) (xs : List Nm), (∀ s ∈ ss, ∀ ys, (walkT σ s ys).length ≤ ys.length + cntT s) → (walkS σ ss xs).length ≤ xs.length + cntS ss := by
  intro ss
  induction ss with
  | nil => intro xs _; rw [walkS_nil, cntS_nil]; omega
  | cons s ss ih =>
    intro xs h
    rw [walkS_cons, cntS_cons]
    have h1 := h s (by simp) xs
    have h2 := ih (walkT σ s xs) fun x hx => h x (by simp [hx])
    omega
theorem walkT_len {σ : PStmt → List Nm → List Nm} (hσ : StepOk σ) : ∀ (s : PStmt) (xs : List Nm), (walkT σ s xs).length ≤ xs.length + cntT s := by
  intro s
  induction s using PStmt.ind with
  | h s iht ihl =>
    intro xs
    rw [walkT_eq, cntT_eq]
    have h0 := hσ s xs
    have h1 := walkS_len s.th (σ s xs) iht
    have h2 := walkS_len s.el (walkS σ s.th (σ s xs)) ihl
    omega
theorem walkB_len {σ : PStmt → List Nm → List Nm} (hσ : StepOk σ) (ss : List PStmt) (xs : List Nm) : (walkS σ ss xs).length ≤ xs.length + cntS ss := walkS_len ss xs fun s _ => walkT_len hσ s
end Go.Proofs.YtnpdjncgilekhaaGreatDoor

namespace Go.Proofs.YtnpdjncgilekhaaGreatDoor
open Go.RowKit

/-! laws of what is well -/
mutual
def allE : PExpr → List Nm
  | ⟨kind, _, name, kids⟩ => allK kids ++ if kind = xCall then [name] else []
def allK : List PExpr → List Nm
  | [] => []
  | k :: ks => allE k ++ allK ks
end
theorem allE_eq (e : PExpr) : allE e = allK e.kids ++ if e.kind = xCall then [e.name] else [] := by cases e; rw [allE]
theorem allK_nil : allK [] = [] := by rw [allK]
theorem allK_cons (k : PExpr) (ks : List PExpr) : allK (k :: ks) = allE k ++ allK ks := by rw [allK]
mutual
def allT : PStmt → List Nm
  | ⟨_, _, e, th, el⟩ => allE e ++ allS th ++ allS el
def allS : List PStmt → List Nm
  | [] => []
  | s :: ss => allT s ++ allS ss
end
theorem allT_eq (s : PStmt) : allT s = allE s.e ++ allS s.th ++ allS s.el := by cases s; rw [allT]
theorem allS_nil : allS [] = [] := by rw [allS]
theorem allS_cons (s : PStmt) (ss : List PStmt) : allS (s :: ss) = allT s ++ allS ss := by rw [allS]
theorem callK_fold : ∀ (ks : List PExpr) (xs : List Nm), (∀ k ∈ ks, ∀ ys, callE k ys = (allE k).foldl pushN ys) → callK ks xs = (allK ks).foldl pushN xs := by
  intro ks
  induction ks with
  | nil => intro xs _; rw [callK_nil, allK_nil]; rfl
  | cons k ks ih =>
    intro xs h
    rw [callK_cons, allK_cons, List.foldl_append, h k (by simp), ih _ fun x hx => h x (by simp [hx])]
theorem callE_fold : ∀ (e : PExpr) (xs : List Nm), callE e xs = (allE e).foldl pushN xs := by
  intro e
  induction e using PExpr.ind with
  | h e ih =>
    intro xs
    rw [callE_eq, allE_eq, List.foldl_append, callK_fold e.kids xs ih]
    split <;> rfl
theorem walkS_fold : ∀ (ss : List PStmt) (xs : List Nm), (∀ s ∈ ss, ∀ ys, walkT stepC s ys = (allT s).foldl pushN ys) → walkS stepC ss xs = (allS ss).foldl pushN xs := by
  intro ss
  induction ss with
  | nil => intro xs _; rw [walkS_nil, allS_nil]; rfl
  | cons s ss ih =>
    intro xs h
    rw [walkS_cons, allS_cons, List.foldl_append, h s (by simp), ih _ fun x hx => h x (by simp [hx])]
theorem walkT_fold : ∀ (s : PStmt) (xs : List Nm), walkT stepC s xs = (allT s).foldl pushN xs := by
  intro s
  induction s using PStmt.ind with
  | h s iht ihl =>
    intro xs
    rw [walkT_eq, allT_eq, List.foldl_append, List.foldl_append, walkS_fold s.th _ iht, walkS_fold s.el _ ihl]
    unfold stepC
    rw [callE_fold]
theorem callsP_fold (f : PFun) : callsP f = (allS f.body).foldl pushN [] := walkS_fold f.body [] fun s _ => walkT_fold s
theorem mem_push {xs : List Nm} {x y : Nm} : y ∈ pushN xs x ↔ y ∈ xs ∨ y = x := by
  unfold pushN
  split
  · rename_i h
    have := List.contains_iff_mem.1 h
    constructor
    · exact .inl
    · rintro (q | rfl)
      · exact q
      · exact this
  · simp
theorem mem_pushes : ∀ (l xs : List Nm) (y : Nm), y ∈ l.foldl pushN xs ↔ y ∈ xs ∨ y ∈ l := by
  intro l
  induction l with
  | nil => intro xs y; simp
  | cons x l ih =>
    intro xs y
    rw [List.foldl_cons, ih, mem_push, List.mem_cons, or_assoc]
theorem nodup_push {xs : List Nm} {x : Nm} (h : xs.Nodup) : (pushN xs x).Nodup := by
  unfold pushN
  split
  · exact h
  · rename_i hc
    rw [List.nodup_append]
    refine ⟨h, by simp, ?_⟩
    intro a ha b hb e
    simp only [List.mem_singleton] at hb
    subst hb; subst e
    exact hc (List.contains_iff_mem.2 ha)
theorem nodup_pushes : ∀ (l xs : List Nm), xs.Nodup → (l.foldl pushN xs).Nodup := by
  intro l
  induction l with
  | nil => intro xs h; exact h
  | cons x l ih => intro xs h; exact ih _ (nodup_push h)
theorem callsP_nodup (f : PFun) : (callsP f).Nodup := by rw [callsP_fold]; exact nodup_pushes _ _ (by simp)
theorem callsP_mem (f : PFun) (x : Nm) : x ∈ callsP f ↔ x ∈ allS f.body := by rw [callsP_fold, mem_pushes]; simp

/-! what a table must have -/
theorem kidsC_ok {t : Tab} {vis : List Nm} : ∀ (ks : List PExpr), kidsC t vis ks = 0 ↔ ∀ k ∈ ks, exprC t vis k = 0 := by
  intro ks
  induction ks with
  | nil => rw [kidsC_nil]; simp
  | cons k ks ih =>
    rw [kidsC_cons]
    by_cases h : exprC t vis k = 0
    · rw [if_pos h, ih]; simp [h]
    · rw [if_neg h]; simp [h]
theorem callC_ok {t : Tab} {n : Nm} {k : Nat} : callC t n k = 0 ↔ argsOf t n = some k := by
  unfold callC
  cases h : argsOf t n with
  | none => simp
  | some m => by_cases hk : m = k <;> simp [hk]
theorem exprC_there {t : Tab} {vis : List Nm} : ∀ e : PExpr, exprC t vis e = 0 → ∀ x ∈ allE e, ∃ m, argsOf t x = some m := by
  intro e
  induction e using PExpr.ind with
  | h e ih =>
    intro h x hx
    rw [exprC_eq] at h
    split at h
    · split at h
      · rename_i hk
        rw [allE_eq, List.mem_append] at hx
        rcases hx with hx | hx
        · have hall := (kidsC_ok e.kids).1 hk
          have : ∀ (ks : List PExpr), (∀ k ∈ ks, k ∈ e.kids) → x ∈ allK ks → ∃ k ∈ ks, x ∈ allE k := by
            intro ks
            induction ks with
            | nil => intro _ hx; rw [allK_nil] at hx; cases hx
            | cons k ks ihk =>
              intro hs hx
              rw [allK_cons, List.mem_append] at hx
              rcases hx with hx | hx
              · exact ⟨k, by simp, hx⟩
              · obtain ⟨k', h1, h2⟩ := ihk (fun y hy => hs y (by simp [hy])) hx
                exact ⟨k', by simp [h1], h2⟩
          obtain ⟨k, h1, h2⟩ := this e.kids (fun _ h => h) hx
          exact ih k h1 (hall k h1) x h2
        · split at hx
          · rename_i hc
            simp only [List.mem_singleton] at hx
            subst hx
            unfold selfC at h
            rw [if_neg (by rw [hc]; decide), if_pos hc, callC_ok] at h
            exact ⟨_, h⟩
          · cases hx
      · rename_i hk; exact absurd h hk
    · cases h
theorem exprC_mono {t t' : Tab} {vis : List Nm} : ∀ e : PExpr, (∀ x ∈ allE e, ∀ m, argsOf t x = some m → argsOf t' x = some m) → exprC t vis e = 0 → exprC t' vis e = 0 := by
  intro e
  induction e using PExpr.ind with
  | h e ih =>
    intro ht h
    rw [exprC_eq] at h ⊢
    split at h
    · rename_i hb
      rw [if_pos hb]
      split at h
      · rename_i hk
        have hk' : kidsC t' vis e.kids = 0 := by
          rw [kidsC_ok] at hk ⊢
          intro k hkm
          refine ih k hkm (fun x hx m hm => ht x ?_ m hm) (hk k hkm)
          rw [allE_eq, List.mem_append]
          left
          have : ∀ (ks : List PExpr), k ∈ ks → x ∈ allK ks := by
            intro ks
            induction ks with
            | nil => intro q; cases q
            | cons y ys ihk =>
              intro q
              rw [allK_cons, List.mem_append]
              rcases List.mem_cons.1 q with rfl | q
              · exact .inl hx
              · exact .inr (ihk q)
          exact this _ hkm
        rw [if_pos hk']
        unfold selfC at h ⊢
        split at h
        · rename_i hn; rw [if_pos hn]; exact h
        · rename_i hn
          rw [if_neg hn]
          split at h
          · rename_i hc
            rw [if_pos hc]
            rw [callC_ok] at h ⊢
            exact ht e.name (by rw [allE_eq, if_pos hc]; simp) _ h
          · rename_i hc; rw [if_neg hc]
      · rename_i hk; exact absurd h hk
    · cases h
/-- A block that is well: what it leaves, whom it calls; it is well by another table that has whom it calls. -/
structure BlkOk (t : Tab) (ss : List PStmt) : Prop where
  vars : ∀ all vis, (blockC t ss all vis).1 = 0 → (blockC t ss all vis).2 = walkS stepV ss all
  nodup : ∀ all vis, (blockC t ss all vis).1 = 0 → all.Nodup → (blockC t ss all vis).2.Nodup
  there : ∀ all vis, (blockC t ss all vis).1 = 0 → ∀ x ∈ allS ss, ∃ m, argsOf t x = some m
  mono : ∀ t' all vis, (blockC t ss all vis).1 = 0 → (∀ x ∈ allS ss, ∀ m, argsOf t x = some m → argsOf t' x = some m) → blockC t' ss all vis = blockC t ss all vis
structure StmOk (t : Tab) (s : PStmt) : Prop where
  vars : ∀ all vis, (stmtC t s all vis).1 = 0 → (stmtC t s all vis).2.1 = walkT stepV s all
  nodup : ∀ all vis, (stmtC t s all vis).1 = 0 → all.Nodup → (stmtC t s all vis).2.1.Nodup
  there : ∀ all vis, (stmtC t s all vis).1 = 0 → ∀ x ∈ allT s, ∃ m, argsOf t x = some m
  mono : ∀ t' all vis, (stmtC t s all vis).1 = 0 → (∀ x ∈ allT s, ∀ m, argsOf t x = some m → argsOf t' x = some m) → stmtC t' s all vis = stmtC t s all vis
theorem blk_of (t : Tab) : ∀ (ss : List PStmt), (∀ s ∈ ss, StmOk t s) → BlkOk t ss := by
  intro ss
  induction ss with
  | nil =>
    intro _
    refine ⟨fun all vis _ => by rw [blockC_nil, walkS_nil], fun all vis _ h => by rw [blockC_nil]; exact h, (fun all vis _ x hx => by rw [allS_nil] at hx; cases hx), fun t' all vis _ _ => by rw [blockC_nil, blockC_nil]⟩
  | cons s ss ih =>
    intro h
    have hs := h s (by simp)
    have hb := ih fun x hx => h x (by simp [hx])
    have cut : ∀ all vis, (blockC t (s :: ss) all vis).1 = 0 → (stmtC t s all vis).1 = 0 ∧ blockC t (s :: ss) all vis = blockC t ss (stmtC t s all vis).2.1 (stmtC t s all vis).2.2 := by
      intro all vis h0
      rw [blockC_cons] at h0 ⊢
      split at h0
      · rename_i hz; exact ⟨hz, by rw [if_pos hz]⟩
      · rename_i hz; exact absurd h0 hz
    refine ⟨fun all vis h0 => ?_, fun all vis h0 hn => ?_, fun all vis h0 x hx => ?_, fun t' all vis h0 ht => ?_⟩
    all_goals
      obtain ⟨hz, he⟩ := cut all vis h0
      rw [he] at h0
    · rw [he, hb.vars _ _ h0, hs.vars _ _ hz, walkS_cons]
    · rw [he]; exact hb.nodup _ _ h0 (hs.nodup _ _ hz hn)
    · rw [allS_cons, List.mem_append] at hx
      rcases hx with hx | hx
      · exact hs.there _ _ hz x hx
      · exact hb.there _ _ h0 x hx
    · have e1 := hs.mono t' all vis hz fun x hx => ht x (by rw [allS_cons, List.mem_append]; exact .inl hx)
      rw [he, blockC_cons, e1, if_pos hz]
      exact hb.mono t' _ _ h0 fun x hx => ht x (by rw [allS_cons, List.mem_append]; exact .inr hx)
theorem nodup_snoc {l : List Nm} {x : Nm} (h : l.Nodup) (hc : l.contains x = false) : (l ++ [x]).Nodup := by
  have := nodup_push (x := x) h
  unfold pushN at this
  rwa [if_neg (by rw [hc]; decide)] at this
theorem shaped_var {name : Nm} {t l : Nat} (h : shapedB sVar name t l = true) : t = 0 ∧ l = 0 := by
  unfold shapedB at h
  rw [if_pos (.inl rfl)] at h
  simp only [Bool.and_eq_true, decide_eq_true_eq] at h
  exact ⟨h.1.2, h.2⟩
theorem stm_of (t : Tab) (s : PStmt) (hT : BlkOk t s.th) (hL : BlkOk t s.el) : StmOk t s := by
  have sh0 : ∀ all vis, (stmtC t s all vis).1 = 0 → shapedB s.kind s.name s.th.length s.el.length = true ∧ exprC t vis s.e = 0 := by
    intro all vis h0
    rw [stmtC_eq] at h0
    split at h0
    · rename_i h1
      split at h0
      · rename_i h2; exact ⟨h1, h2⟩
      · rename_i h2; exact absurd h0 h2
    · cases h0
  by_cases hk : s.kind = sVar
  · have cut : ∀ all vis, (stmtC t s all vis).1 = 0 → exprC t vis s.e = 0 ∧ s.th = [] ∧ s.el = [] ∧ all.contains s.name = false ∧ ∀ t', exprC t' vis s.e = 0 → stmtC t' s all vis = (0, all ++ [s.name], vis ++ [s.name]) := by
      intro all vis h0
      obtain ⟨h1, h2⟩ := sh0 all vis h0
      have h3 := h1
      rw [hk] at h3
      obtain ⟨l1, l2⟩ := shaped_var h3
      rw [stmtC_eq, if_pos h1, if_pos h2, if_pos hk] at h0
      unfold addC at h0
      split at h0
      · cases h0
      · rename_i hc
        have hc' : all.contains s.name = false := by simpa using hc
        split at h0
        · cases h0
        · rename_i hf
          refine ⟨h2, List.length_eq_zero_iff.1 l1, List.length_eq_zero_iff.1 l2, hc', fun t' he => ?_⟩
          rw [stmtC_eq, if_pos h1, if_pos he, if_pos hk]
          unfold addC
          rw [if_neg hc, if_neg hf]
    refine ⟨fun all vis h0 => ?_, fun all vis h0 hn => ?_, fun all vis h0 x hx => ?_, fun t' all vis h0 ht => ?_⟩
    all_goals obtain ⟨he, e1, e2, hc, hs⟩ := cut all vis h0
    · rw [hs t he, walkT_eq, e1, e2, walkS_nil, walkS_nil]; unfold stepV; rw [if_pos hk]
    · rw [hs t he]; exact nodup_snoc hn hc
    · rw [allT_eq, e1, e2, allS_nil] at hx
      simp only [List.append_nil] at hx
      exact exprC_there s.e he x hx
    · rw [hs t he, hs t' (exprC_mono s.e (fun x hx => ht x (by rw [allT_eq]; simp [hx])) he)]
  · have cut : ∀ all vis, (stmtC t s all vis).1 = 0 → exprC t vis s.e = 0 ∧ (blockC t s.th all vis).1 = 0 ∧ (blockC t s.el (blockC t s.th all vis).2 vis).1 = 0 ∧
        ∀ t', exprC t' vis s.e = 0 → blockC t' s.th all vis = blockC t s.th all vis → blockC t' s.el (blockC t s.th all vis).2 vis = blockC t s.el (blockC t s.th all vis).2 vis → stmtC t' s all vis = (0, (blockC t s.el (blockC t s.th all vis).2 vis).2, vis) := by
      intro all vis h0
      obtain ⟨h1, h2⟩ := sh0 all vis h0
      rw [stmtC_eq, if_pos h1, if_pos h2, if_neg hk] at h0
      split at h0
      · cases h0
      · rename_i hst
        split at h0
        · rename_i hz
          refine ⟨h2, hz, h0, fun t' he q1 q2 => ?_⟩
          rw [stmtC_eq, if_pos h1, if_pos he, if_neg hk, if_neg hst, q1, if_pos hz, q2, h0]
        · rename_i hz; exact absurd h0 hz
    have hsv : ∀ xs, stepV s xs = xs := fun xs => by unfold stepV; rw [if_neg hk]
    refine ⟨fun all vis h0 => ?_, fun all vis h0 hn => ?_, fun all vis h0 x hx => ?_, fun t' all vis h0 ht => ?_⟩
    all_goals obtain ⟨he, z1, z2, hs⟩ := cut all vis h0
    · rw [hs t he rfl rfl, walkT_eq, hsv]
      show (blockC t s.el (blockC t s.th all vis).2 vis).2 = _
      rw [hL.vars _ _ z2, hT.vars _ _ z1]
    · rw [hs t he rfl rfl]
      exact hL.nodup _ _ z2 (hT.nodup _ _ z1 hn)
    · rw [allT_eq, List.mem_append, List.mem_append] at hx
      rcases hx with (hx | hx) | hx
      · exact exprC_there s.e he x hx
      · exact hT.there _ _ z1 x hx
      · exact hL.there _ _ z2 x hx
    · rw [hs t he rfl rfl]
      exact hs t' (exprC_mono s.e (fun x hx => ht x (by rw [allT_eq]; simp [hx])) he) (hT.mono t' _ _ z1 fun x hx => ht x (by rw [allT_eq]; simp [hx])) (hL.mono t' _ _ z2 fun x hx => ht x (by rw [allT_eq]; simp [hx]))
theorem stm_any (t : Tab) : ∀ s : PStmt, StmOk t s := by
  intro s
  induction s using PStmt.ind with
  | h s iht ihl => exact stm_of t s (blk_of t _ iht) (blk_of t _ ihl)
theorem blk_any (t : Tab) (ss : List PStmt) : BlkOk t ss := blk_of t ss fun s _ => stm_any t s

/-! programs -/
theorem progFrom_ok (t : Tab) : ∀ (rest a : List PFun), (progFrom t a rest).1 = 0 ↔ ∀ i (hi : i < rest.length), funC t (a ++ rest.take i) rest[i] = 0 := by
  intro rest
  induction rest with
  | nil => intro a; simp [progFrom]
  | cons f rest ih =>
    intro a
    rw [progFrom]
    by_cases h : funC t a f = 0
    · rw [if_pos h, ih]
      constructor
      · intro q i hi
        cases i with
        | zero => simpa using h
        | succ i => simpa using q i (by simpa using hi)
      · intro q i hi
        have := q (i + 1) (by simpa using hi)
        simp only [List.getElem_cons_succ] at this
        simpa using this
    · rw [if_neg h]
      constructor
      · intro q; exact absurd q h
      · intro q
        have := q 0 (by simp)
        simp only [List.getElem_cons_zero] at this
        exact absurd (by simpa using this) h
theorem progFrom_zero (t : Tab) : ∀ (rest a : List PFun), (progFrom t a rest).1 = 0 → progFrom t a rest = (0, -1) := by
  intro rest
  induction rest with
  | nil => intro a _; rw [progFrom]
  | cons f rest ih =>
    intro a h
    rw [progFrom] at h ⊢
    split at h
    · rename_i hz; rw [if_pos hz]; exact ih _ h
    · rename_i hz; exact absurd h hz
theorem progC_ok {fs : List PFun} : (progC fs).1 = 0 ↔ fs.length ≤ 8 ∧ ∀ i (hi : i < fs.length), funC (tabOf fs) (fs.take i) fs[i] = 0 := by
  unfold progC
  by_cases h : 8 < fs.length
  · rw [if_pos h]; simp; omega
  · rw [if_neg h, progFrom_ok]
    constructor
    · intro q; exact ⟨by omega, fun i hi => by simpa using q i hi⟩
    · intro q i hi; simpa using q.2 i hi
theorem progC_code (fs : List PFun) : (progC fs).1 ≤ 10 := by
  unfold progC
  split
  · simp
  · have : ∀ (rest a : List PFun), (progFrom (tabOf fs) a rest).1 ≤ 10 := by
      intro rest
      induction rest with
      | nil => intro a; rw [progFrom]; omega
      | cons f rest ih =>
        intro a
        rw [progFrom]
        split
        · exact ih _
        · exact funC_code _ _ _
    exact this _ _
theorem funC_ok {t : Tab} {a : List PFun} {f : PFun} : funC t a f = 0 ↔ namesC f a = 0 ∧ (blockC t f.body f.params f.params).1 = 0 := by
  unfold funC
  by_cases h : namesC f a = 0
  · rw [if_pos h]; simp [h]
  · rw [if_neg h]; simp [h]
theorem namesC_ok {f : PFun} {a : List PFun} : namesC f a = 0 ↔ (nmOk f.name && f.params.all nmOk) = true ∧ (a.any fun g => g.name == f.name) = false ∧ f.params.length ≤ 4 ∧ dupC [] f.params = false := by
  unfold namesC
  by_cases h1 : (nmOk f.name && f.params.all nmOk) = true
  · rw [if_pos h1]
    cases h2 : a.any fun g => g.name == f.name
    · rw [if_neg (by decide)]
      by_cases h3 : 4 < f.params.length
      · rw [if_pos h3]; simp; omega
      · rw [if_neg h3]
        cases h4 : dupC [] f.params
        · simp [h1]; omega
        · simp
    · simp
  · rw [if_neg h1]; simp only [h1]; simp
theorem dupC_nodup : ∀ (ps own : List Nm), own.Nodup → dupC own ps = false → (own ++ ps).Nodup := by
  intro ps
  induction ps with
  | nil => intro own h _; simpa using h
  | cons p ps ih =>
    intro own h hd
    rw [dupC, Bool.or_eq_false_iff] at hd
    have := ih (own ++ [p]) (nodup_snoc h hd.1) hd.2
    simpa using this
theorem argsOf_there {fs : List PFun} {x : Nm} {m : Nat} (h : argsOf (tabOf fs) x = some m) : ∃ f ∈ fs, f.name = x := by
  unfold argsOf at h
  cases hf : (tabOf fs).find? fun f => f.1 == x with
  | none => rw [hf] at h; cases h
  | some y =>
    have h1 := List.mem_of_find?_eq_some hf
    have h2 := List.find?_some hf
    unfold tabOf at h1
    obtain ⟨f, h3, rfl⟩ := List.mem_map.1 h1
    exact ⟨f, h3, by simpa using h2⟩
/-- What a program that is well has. -/
theorem prog_fun {fs : List PFun} (h : (progC fs).1 = 0) {f : PFun} (hf : f ∈ fs) :
    (varsP f).length ≤ 12 ∧ f.params.length ≤ (varsP f).length ∧ (varsP f).Nodup ∧ ∀ x ∈ callsP f, ∃ g ∈ fs, g.name = x := by
  obtain ⟨i, hi, e⟩ := List.mem_iff_getElem.1 hf
  subst e
  obtain ⟨h1, h2⟩ := funC_ok.1 ((progC_ok.1 h).2 i hi)
  obtain ⟨_, _, h3, h4⟩ := namesC_ok.1 h1
  have hb := blk_any (tabOf fs) fs[i].body
  have hv := hb.vars _ _ h2
  have hl := leftB_any (tabOf fs) fs[i].body fs[i].params fs[i].params
  have hn : fs[i].params.Nodup := by simpa using dupC_nodup fs[i].params [] (by simp) h4
  have e : varsP fs[i] = (blockC (tabOf fs) fs[i].body fs[i].params fs[i].params).2 := hv.symm
  rw [e]
  refine ⟨hl.2.1 (by omega), hl.2.2, hb.nodup _ _ h2 hn, fun x hx => ?_⟩
  obtain ⟨m, hm⟩ := hb.there _ _ h2 x ((callsP_mem _ _).1 hx)
  exact argsOf_there hm
theorem argsOf_app {fs : List PFun} {g : PFun} {x : Nm} {m : Nat} (h : argsOf (tabOf fs) x = some m) : argsOf (tabOf (fs ++ [g])) x = some m := by
  unfold argsOf tabOf at *
  rw [List.map_append, List.find?_append]
  cases hf : (fs.map fun f => (f.name, f.params.length)).find? fun f => f.1 == x with
  | none => rw [hf] at h; cases h
  | some y => rw [hf] at h; exact h
/-- One function more, of a new name. -/
theorem prog_more {fs : List PFun} (h : (progC fs).1 = 0) (hl : fs.length < 8) {name : Nm} (hn : nmOk name = true) (hnew : ∀ f ∈ fs, f.name ≠ name) : (progC (fs ++ [⟨name, [], []⟩])).1 = 0 := by
  rw [progC_ok] at h ⊢
  refine ⟨by simp; omega, fun i hi => ?_⟩
  by_cases hlt : i < fs.length
  · rw [List.getElem_append_left hlt, List.take_append_of_le_length (Nat.le_of_lt hlt)]
    obtain ⟨h1, h2⟩ := funC_ok.1 (h.2 i hlt)
    rw [funC_ok]
    refine ⟨h1, ?_⟩
    rw [(blk_any (tabOf fs) fs[i].body).mono _ _ _ h2 fun x _ m hm => argsOf_app hm]
    exact h2
  · have hi' : i = fs.length := by simp at hi; omega
    subst hi'
    rw [funC_ok, namesC_ok]
    simp only [List.getElem_append_right (Nat.le_refl _), Nat.sub_self, List.getElem_cons_zero, List.all_nil, Bool.and_true, List.length_nil, dupC]
    refine ⟨⟨hn, ?_, by omega, (by trivial)⟩, by rw [blockC_nil]⟩
    rw [List.take_append_of_le_length (Nat.le_refl _), List.take_length]
    rw [List.any_eq_false]
    intro f hf
    simpa using hnew f hf
theorem argsOf_less {fs : List PFun} {g : PFun} {x : Nm} {m : Nat} (h : argsOf (tabOf (fs ++ [g])) x = some m) (hx : x ≠ g.name) : argsOf (tabOf fs) x = some m := by
  unfold argsOf tabOf at *
  rw [List.map_append, List.find?_append] at h
  cases hf : (fs.map fun f => (f.name, f.params.length)).find? fun f => f.1 == x with
  | none =>
    rw [hf] at h
    have : (g.name == x) = false := by rw [beq_eq_false_iff_ne]; exact fun e => hx e.symm
    simp [this] at h
  | some y => rw [hf] at h; exact h
/-- The last function less, that nobody calls. -/
theorem prog_less {fs : List PFun} {g : PFun} (h : (progC (fs ++ [g])).1 = 0) (hc : ∀ f ∈ fs, g.name ∉ callsP f) : (progC fs).1 = 0 := by
  rw [progC_ok] at h ⊢
  refine ⟨by have := h.1; simp at this; omega, fun i hi => ?_⟩
  have h0 := h.2 i (by simp; omega)
  rw [List.getElem_append_left hi, List.take_append_of_le_length (Nat.le_of_lt hi)] at h0
  obtain ⟨h1, h2⟩ := funC_ok.1 h0
  rw [funC_ok]
  refine ⟨h1, ?_⟩
  rw [(blk_any (tabOf (fs ++ [g])) fs[i].body).mono (tabOf fs) _ _ h2 fun x hx m hm => argsOf_less hm fun e => hc fs[i] (List.getElem_mem hi) ((callsP_mem _ _).2 (e ▸ hx))]
  exact h2
end Go.Proofs.YtnpdjncgilekhaaGreatDoor
