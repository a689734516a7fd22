import Derived.Test.YteifmgcbafemeaaGreatDoorTreeAsS
import Derived.Deep.AppendLies
namespace Go.Proofs.YteifmgcbafemeaaGreatDoor
open Go.RowKit

theorem strInfo : (Tryz.prog.info? 9).map (fun i => (i.zero, i.size, i.bytes)) = some (some (.string ⟨#[]⟩), 1, 16) := by kernel_rfl
theorem funInfo : (Tryz.prog.info? 39).map (fun i => (i.zero, i.size, i.bytes)) = some (some (.agg #[.string ⟨#[]⟩, .slice none 0 0, .slice none 0 0]), 3, 64) := by kernel_rfl
def funV (f : PFun) (P : Option Addr) (p : Nat) (B : Option Addr) (c : Nat) : Value := .agg #[.string (mkB f.name), .slice P f.params.length p, .slice B f.body.length c]
/-- What the region of AsFun looks at. -/
def FunSeen (w : World) (f : PFun) (P : Option Addr) (p : Nat) (B : Option Addr) (c : Nat) (w' : World) : Prop :=
  Below w.heap.size w w' ∧ w'.heap[w.heap.size]? = some (.cells #[.string (mkB f.name), .slice P f.params.length p, .slice B f.body.length c] 43 (0, 0)) ∧
    w'.heap[w.heap.size + 1]? = some (.cells #[.string ⟨#[]⟩, .slice none 0 0, .slice none 0 0] 39 (0, 0)) ∧ w.heap.size + 2 ≤ w'.heap.size
theorem FunSeen.below {w w' w'' : World} {f : PFun} {P : Option Addr} {p : Nat} {B : Option Addr} {c : Nat} (h : FunSeen w f P p B c w') (hb : Below w'.heap.size w' w'') : FunSeen w f P p B c w'' :=
  ⟨grow_trans h.1 hb, (hb.block _ (by have := h.2.2.2; omega)).trans h.2.1, (hb.block _ (by have := h.2.2.2; omega)).trans h.2.2.1, Nat.le_trans h.2.2.2 hb.size⟩
theorem FunSeen.grown {w w' w'' : World} {f : PFun} {P : Option Addr} {p : Nat} {B : Option Addr} {c : Nat} (h : FunSeen w f P p B c w') (hb : w'.grownBy w'' none) : FunSeen w f P p B c w'' :=
  h.below ⟨hb.os, hb.tape, hb.output, hb.size, fun k hk => hb.block k hk (by simp)⟩
theorem FunSeen.cells {w w' : World} {f : PFun} {P : Option Addr} {p : Nat} {B : Option Addr} {c : Nat} (h : FunSeen w f P p B c w') :
    w'.cell? ⟨w.heap.size, 0, none⟩ = some (.string (mkB f.name)) ∧ w'.cell? ⟨w.heap.size, 1, none⟩ = some (.slice P f.params.length p) ∧ w'.cell? ⟨w.heap.size, 2, none⟩ = some (.slice B f.body.length c) ∧
      w'.cell? ⟨w.heap.size + 1, 0, none⟩ = some (.string ⟨#[]⟩) ∧ w'.cell? ⟨w.heap.size + 1, 1, none⟩ = some (.slice none 0 0) ∧ w'.cell? ⟨w.heap.size + 1, 2, none⟩ = some (.slice none 0 0) ∧
      w'.frozen? ⟨w.heap.size + 1, 0, none⟩ = false ∧ w'.frozen? ⟨w.heap.size + 1, 1, none⟩ = false ∧ w'.frozen? ⟨w.heap.size + 1, 2, none⟩ = false :=
  ⟨cell_of_row _ _ 0 _ _ _ h.2.1, cell_of_row _ _ 1 _ _ _ h.2.1, cell_of_row _ _ 2 _ _ _ h.2.1, cell_of_row _ _ 0 _ _ _ h.2.2.1, cell_of_row _ _ 1 _ _ _ h.2.2.1, cell_of_row _ _ 2 _ _ _ h.2.2.1, row_frozen h.2.2.1 0, row_frozen h.2.2.1 1, row_frozen h.2.2.1 2⟩
def BoxIs (f : PFun) (P : Option Addr) (p : Nat) (B : Option Addr) (c : Nat) (q : Nat) (w' : World) : Prop :=
  w'.cell? ⟨q, 0, none⟩ = some (.string (mkB f.name)) ∧ w'.cell? ⟨q, 1, none⟩ = some (.slice P f.params.length p) ∧ w'.cell? ⟨q, 2, none⟩ = some (.slice B f.body.length c)
theorem FunSeen.box {w w' : World} {f : PFun} {P : Option Addr} {p : Nat} {B : Option Addr} {c : Nat} (h : FunSeen w f P p B c w') :
    w'.cell? ⟨w.heap.size, 0, none⟩ = some (.string (mkB f.name)) ∧ w'.cell? ⟨w.heap.size, 1, none⟩ = some (.slice P f.params.length p) ∧ w'.cell? ⟨w.heap.size, 2, none⟩ = some (.slice B f.body.length c) := ⟨h.cells.1, h.cells.2.1, h.cells.2.2.1⟩
theorem FunSeen.set {w w' : World} {f : PFun} {P : Option Addr} {p : Nat} {B : Option Addr} {c : Nat} (h : FunSeen w f P p B c w') (v0 v1 v2 : Value) : let w'' := ((w'.setCell ⟨w.heap.size + 1, 0, none⟩ v0).setCell ⟨w.heap.size + 1, 1, none⟩ v1).setCell ⟨w.heap.size + 1, 2, none⟩ v2
    w''.cell? ⟨w.heap.size, 0, none⟩ = some (.string (mkB f.name)) ∧ w''.cell? ⟨w.heap.size, 1, none⟩ = some (.slice P f.params.length p) ∧ w''.cell? ⟨w.heap.size, 2, none⟩ = some (.slice B f.body.length c) := by
  have k : ∀ {W : World} (j : Nat) (v : Value), KeepsIn (fun n => n = w.heap.size) W (W.setCell ⟨w.heap.size + 1, j, none⟩ v) := fun j v => keeps_store v (fun n e => by omega)
  have hb := h.box
  exact ⟨k _ _ _ _ rfl (k _ _ _ _ rfl (k _ _ _ _ rfl hb.1)), k _ _ _ _ rfl (k _ _ _ _ rfl (k _ _ _ _ rfl hb.2.1)), k _ _ _ _ rfl (k _ _ _ _ rfl (k _ _ _ _ rfl hb.2.2))⟩
theorem FunSeen.bel {w w' : World} {f : PFun} {P : Option Addr} {p : Nat} {B : Option Addr} {c : Nat} (h : FunSeen w f P p B c w') : Below w.heap.size w w' := h.1
theorem FunSeen.big {w w' : World} {f : PFun} {P : Option Addr} {p : Nat} {B : Option Addr} {c : Nat} (h : FunSeen w f P p B c w') : w.heap.size + 2 ≤ w'.heap.size := h.2.2.2
theorem texts_news {w : World} {S : Nat → Prop} {xs : List (List UInt8)} {b off : Nat} (h : RdT w S xs (some ⟨b, off, none⟩)) : ∀ (j : Nat) (u : Value), (xs.map fun x => Value.string (mkB x))[j]? = some u → w.cell? ((⟨b, off, none⟩ : Addr).add j) = some u := by
  intro j u hj
  have hl : j < xs.length := by have := (List.getElem?_eq_some_iff.1 hj).1; simpa using this
  obtain ⟨b', off', e, _, hc⟩ := h j hl
  simp only [Option.some.injEq, Addr.mk.injEq, and_true] at e
  obtain ⟨rfl, rfl⟩ := e
  have hu : u = .string (mkB xs[j]) := by
    have := (List.getElem?_eq_some_iff.1 hj).2
    simpa using this.symm
  rw [hu, show (⟨b, off, none⟩ : Addr).add j = ⟨b, off + j, none⟩ by unfold Addr.add; split <;> simp_all]
  exact hc
theorem texts_owned {w : World} {base : Nat} {e : TypeId} {g cap : Nat} {xs : List (List UInt8)} (h : w.ownsRow base e 1 (.slice (some ⟨g, 0, none⟩) xs.length cap) xs.length (xs.map fun x => Value.string (mkB x))) : RdT w (fun n => base ≤ n) xs (some ⟨g, 0, none⟩) := by
  intro i hi
  obtain ⟨A, c, hv, hA⟩ := owns_at h
  simp only [Value.slice.injEq, true_and] at hv
  obtain ⟨hv, _⟩ := hv
  subst hv
  obtain ⟨g', e', hb, _, hc⟩ := hA (by omega)
  simp only [Option.some.injEq, Addr.mk.injEq, and_true] at e'
  obtain ⟨rfl, -⟩ := e'
  exact ⟨_, 0, rfl, hb, by rw [Nat.zero_add]; exact hc i _ (by simp [hi])⟩
theorem owned_cap {w : World} {base : Nat} {e : TypeId} {size : Nat} {A : Option Addr} {m n cap : Nat} {xs : List Value} (h : w.ownsRow base e size (.slice A m cap) n xs) : n ≤ cap := by
  rcases h.2 with ⟨q, h0⟩ | ⟨g, c, cur, q, _, _, hc, _⟩
  · injection q with _ _ q; omega
  · injection q with _ _ q; omega
theorem append_nothing {P : Program} (w : World) (t ty e : TypeId) (i : TypeInfo) (ht : P.underlying t = some (.slice e)) (hi : P.info? e = some i) (X : Option Addr) (c : Nat) :
    (Builtin.append_ #[t, t] ty #[.slice none 0 0, .slice X 0 c]).run P w = .ok (.slice none 0 0) w := by
  simp [Builtin.append_, run_underlying ht, sizeOf, typeInfo, hi, Builtin.lenOf]
  cases X <;> simp [Builtin.firstCells, loadCells, loadCellsFrom]
theorem fun_done {w w' : World} {f : PFun} {P : Option Addr} {p : Nat} {B : Option Addr} {c : Nat} (h : FunSeen w f P p B c w') (v1 v2 : Value) {S2 : Nat → Prop} {A1 A2 : Option Addr} (h1 : RdT w' (fun n => w.heap.size + 2 ≤ n) f.params A1) (h2 : RdS w' S2 f.body A2) (hS : ∀ n, S2 n → w.heap.size + 2 ≤ n) :
    let w'' := ((w'.setCell ⟨w.heap.size + 1, 0, none⟩ (.string (mkB f.name))).setCell ⟨w.heap.size + 1, 1, none⟩ v1).setCell ⟨w.heap.size + 1, 2, none⟩ v2
    w''.cell? ⟨w.heap.size + 1, 0, none⟩ = some (.string (mkB f.name)) ∧ w''.cell? ⟨w.heap.size + 1, 1, none⟩ = some v1 ∧ w''.cell? ⟨w.heap.size + 1, 2, none⟩ = some v2 ∧ RdT w'' (newAt w) f.params A1 ∧ RdS w'' (newAt w) f.body A2 ∧ Below w.heap.size w w'' := by
  have k : ∀ {W : World} (j : Nat) (v : Value), KeepsIn (fun n => w.heap.size + 2 ≤ n) W (W.setCell ⟨w.heap.size + 1, j, none⟩ v) := fun j v => keeps_store v (fun n e => by omega)
  have hrow := row_set (j := 2) (cs := #[.string (mkB f.name), v1, .slice none 0 0]) (cs' := #[.string (mkB f.name), v1, v2]) v2 (row_set (j := 1) (cs := #[.string (mkB f.name), .slice none 0 0, .slice none 0 0]) (cs' := #[.string (mkB f.name), v1, .slice none 0 0]) v1 (row_set (j := 0) (cs' := #[.string (mkB f.name), .slice none 0 0, .slice none 0 0]) (.string (mkB f.name)) h.2.2.1 (by simp)) (by simp)) (by simp)
  have h2' := h2.keep (Keeps.in (Keeps.refl _) _) hS
  exact ⟨cell_of_row _ _ 0 _ _ _ hrow, cell_of_row _ _ 1 _ _ _ hrow, cell_of_row _ _ 2 _ _ _ hrow, ((h1.keep (k _ _) (fun _ h => h)).keep (k _ _) (fun _ h => h)).keep (k _ _) (fun n hn => by unfold newAt; omega),
    ((h2'.keep (k _ _) (fun _ h => h)).keep (k _ _) (fun _ h => h)).keep (k _ _) (fun n hn => by unfold newAt; omega), ((h.1.setCell (by simp) _).setCell (by simp) _).setCell (by simp) _⟩
theorem step_append_none {P : Program} {w : World} {ops : Array Oper} {o : Oper} {a : Act} {K : Act → World → Prop} {Q : Exit → Act → World → Prop} {E : Prop} (hgd : o.guard = none) (s x : Operand) (t : TypeId)
    (ho : o.op = .call { callee := .builtin .append, args := #[s, x], argTypes := #[t, t] }) (e : TypeId) (i : TypeInfo) (ht : P.underlying t = some (.slice e)) (hi : P.info? e = some i)
    (hs : a.eval s = .slice none 0 0) (X : Option Addr) (c : Nat) (hx : a.eval x = .slice X 0 c) (h : K (a.put o.dst (.slice none 0 0)) w) :
    if Region.wanted o (yielded ops a.tmps) = true then Oper.wp P o a w K Q else E := by
  rw [if_pos (by simp [Region.wanted, hgd])]
  unfold Oper.wp execOp
  simp only [ho, resolve, invoke, builtin, Sem.run_bind, Sem.run_pure, Result.andThen_ok, List.map_toArray, List.map_cons, List.map_nil, hs, hx, append_nothing w t o.type e i ht hi X c]
  exact h
/-- No parameters are the nil slice; the room is enough. -/
def PrmOk (f : PFun) (P : Option Addr) (p : Nat) : Prop := (f.params = [] → P = none) ∧ f.params.length ≤ p
def AsFunPost (f : PFun) (w : World) : Ending → World → Prop := fun x w' => ∃ P p B c, x = .returned (funV f P p B c) ∧ RdT w' (newAt w) f.params P ∧ PrmOk f P p ∧ RdS w' (newAt w) f.body B ∧ Below w.heap.size w w'
set_option maxHeartbeats 4000000 in
set_option maxRecDepth 100000 in
theorem AsFun_some (f : PFun) (hs : SmF f) (S : Nat → Prop) (b off p : Nat) (B : Option Addr) (c : Nat) (w : World) (hp : RdT w S f.params (some ⟨b, off, none⟩)) (hb : RdS w S f.body B) (h0 : 0 < f.params.length) :
    Calls Tryz.prog 23 #[funV f (some ⟨b, off, none⟩) p B c] w (AsFunPost f w) := by
  have h8 := hs.params
  have HN : Hid (∀ w', Below w.heap.size w w' → ∀ (j : Nat) (u : Value), (f.params.map fun x => Value.string (mkB x))[j]? = some u → w'.cell? ((⟨b, off, none⟩ : Addr).add j) = some u) := fun w' h => texts_news (hp.keep ((Keeps.of_below h).in _) (fun _ h => h))
  have HT : Hid (∀ w', Below w.heap.size w w' → Calls Tryz.prog 46 #[.slice B f.body.length c] w' fun y w'' => ∃ B d, y = .returned (.slice B f.body.length d) ∧ RdS w'' (newAt w') f.body B ∧ Below w'.heap.size w' w'') :=
    fun w' h => AsStmts_any f.body hs.body hs.stmts S B c w' (hb.keep ((Keeps.of_below h).in _) (fun _ h => h))
  have HO : Hid (∀ u ∈ f.params.map (fun x => Value.string (mkB x)), u.oneCell' = true) := fun u hu => by
    obtain ⟨x, _, rfl⟩ := List.mem_map.1 hu
    rfl
  clear hp hb hs
  obtain ⟨ti, hi, hz0, hz1, hz2⟩ := info_parts strInfo
  unfold funV
  go_enter Tryz.func23, Tryz.ntmps23
  go_upto_region 2 with fail
  have hS0 : FunSeen w f (some ⟨b, off, none⟩) p B c ((w.alloc (.cells #[.string (mkB f.name), .slice (some ⟨b, off, none⟩) f.params.length p, .slice B f.body.length c] 43)).alloc (.cells #[.string ⟨#[]⟩, .slice none 0 0, .slice none 0 0] 39)).drew :=
    ⟨(grow_alloc (grow_alloc (grow_refl w) _) _).drew, (old_block _ _ (by simp)).trans (new_block _ _ rfl), new_block _ _ (by simp), by simp⟩
  have HS0 := Lib.hid hS0
  clear hS0
  go_region_held3 (fun w' => w'.cell? ⟨w.heap.size, 0, none⟩ = some (.string (mkB f.name)) ∧ w'.cell? ⟨w.heap.size, 1, none⟩ = some (.slice (some ⟨b, off, none⟩) f.params.length p) ∧ w'.cell? ⟨w.heap.size, 2, none⟩ = some (.slice B f.body.length c))
    (with_reducible first
      | exact HS2.out.box
      | exact HS1.out.box
      | exact HS0.out.box
      | exact HS2.out.set _ _ _)
    (first
      | (go_at_call 46; (with_reducible refine (HT.out _ HS1.out.bel).mono ?_); rintro y w12 ⟨B1, d1, rfl, hr1, hbT⟩; have HS2 := Lib.hid (HS1.out.below hbT); obtain ⟨-, -, -, x0, x1, x2, f0, f1, f2⟩ := HS2.out.cells; have hT2 := Lib.hid (hT1.out.keep ((Keeps.of_below hbT).in _) (fun _ h => h)); have HR1 := Lib.hid hr1; clear hr1)
      | (go_at_call 46; (with_reducible refine (HT.out _ HS0.out.bel).mono ?_); rintro y w12 ⟨B1, d1, rfl, hr1, hbT⟩; have HS1 := Lib.hid (HS0.out.below hbT); have HR1 := Lib.hid hr1; clear hr1)
      | (refine step_append_lies _ rfl _ _ 35 rfl (w.heap.size + 2) 9 ti _ 1 16 Tryz.underlying35 hi hz0 hz1 hz2 rfl (by decide) _ 0 [] rfl (World.ownsRow_nil _ _ _ _) ⟨b, off, none⟩ f.params.length p (f.params.map fun x => Value.string (mkB x)) rfl (by simp) (HN.out _ HS1.out.bel) HO.out h0 (by unfold maxLen; omega) (by omega) HS1.out.big _ rfl ?_; intro g cap w1 hown1 hgrow hat hlt; have HS2 := Lib.hid (HS1.out.grown hgrow); obtain ⟨-, -, -, x0, x1, x2, f0, f1, f2⟩ := HS2.out.cells; have hT1 := Lib.hid (texts_owned (by simpa using hown1)); have hCP := Lib.hid (owned_cap hown1); have HR2 := Lib.hid (HR1.out.keep (Keeps.in (Keeps.of_below ⟨hgrow.os, hgrow.tape, hgrow.output, hgrow.size, fun k hk => hgrow.block k hk (by simp)⟩) _) (fun _ h => h)); clear hown1 hgrow hat hlt)
      | (refine step_append_lies _ rfl _ _ 35 rfl (w.heap.size + 2) 9 ti _ 1 16 Tryz.underlying35 hi hz0 hz1 hz2 rfl (by decide) _ 0 [] rfl (World.ownsRow_nil _ _ _ _) ⟨b, off, none⟩ f.params.length p (f.params.map fun x => Value.string (mkB x)) rfl (by simp) (HN.out _ HS0.out.bel) HO.out h0 (by unfold maxLen; omega) (by omega) HS0.out.big _ rfl ?_; intro g cap w1 hown1 hgrow hat hlt; have HS1 := Lib.hid (HS0.out.grown hgrow); have hT1 := Lib.hid (texts_owned (by simpa using hown1)); have hCP := Lib.hid (owned_cap hown1); clear hown1 hgrow hat hlt))
  all_goals go_wp2_with fail
  · obtain ⟨q0, q1, q2, g1, g2, g3⟩ := fun_done HS2.out (.slice (some ⟨g, 0, none⟩) f.params.length cap) (.slice B1 f.body.length d1) hT2.out HR1.out (fun n hn => by have := HS1.out.big; have h : _ ≤ n := hn; omega)
    refine bodyPost_ret (by simp [results, Tryz.results23, go_sem, q0, q1, q2]; try rfl) rfl ?_
    exact ⟨_, _, _, _, rfl, g1, ⟨(fun e => by rw [e] at h0; simp at h0), by have := hCP.out; omega⟩, g2, g3⟩
set_option maxHeartbeats 4000000 in
set_option maxRecDepth 100000 in
theorem AsFun_none (f : PFun) (hs : SmF f) (S : Nat → Prop) (P : Option Addr) (p : Nat) (B : Option Addr) (c : Nat) (w : World) (hb : RdS w S f.body B) (h0 : f.params = []) :
    Calls Tryz.prog 23 #[funV f P p B c] w (AsFunPost f w) := by
  have HT : Hid (∀ w', Below w.heap.size w w' → Calls Tryz.prog 46 #[.slice B f.body.length c] w' fun y w'' => ∃ B d, y = .returned (.slice B f.body.length d) ∧ RdS w'' (newAt w') f.body B ∧ Below w'.heap.size w' w'') :=
    fun w' h => AsStmts_any f.body hs.body hs.stmts S B c w' (hb.keep ((Keeps.of_below h).in _) (fun _ h => h))
  clear hb hs
  obtain ⟨ti, hi, hz0, hz1, hz2⟩ := info_parts strInfo
  have hap : ∀ w', (Builtin.append_ #[35, 35] 35 #[.slice none 0 0, .slice P 0 p]).run Tryz.prog w' = .ok (.slice none 0 0) w' := fun w' => append_nothing w' _ _ _ ti Tryz.underlying35 hi P p
  have hl : f.params.length = 0 := by rw [h0]; rfl
  have H0 := Lib.hid h0
  clear h0
  unfold funV
  rw [hl]
  go_enter Tryz.func23, Tryz.ntmps23
  go_upto_region 2 with fail
  have hS0 : FunSeen w f P p B c ((w.alloc (.cells #[.string (mkB f.name), .slice P 0 p, .slice B f.body.length c] 43)).alloc (.cells #[.string ⟨#[]⟩, .slice none 0 0, .slice none 0 0] 39)).drew :=
    ⟨(grow_alloc (grow_alloc (grow_refl w) _) _).drew, by rw [hl]; exact (old_block _ _ (by simp)).trans (new_block _ _ rfl), new_block _ _ (by simp), by simp⟩
  have HS0 := Lib.hid hS0
  clear hS0
  go_region_held3 (fun w' => w'.cell? ⟨w.heap.size, 0, none⟩ = some (.string (mkB f.name)) ∧ w'.cell? ⟨w.heap.size, 1, none⟩ = some (.slice P 0 p) ∧ w'.cell? ⟨w.heap.size, 2, none⟩ = some (.slice B f.body.length c))
    (with_reducible first
      | exact hl ▸ HS1.out.box
      | exact hl ▸ HS0.out.box
      | exact hl ▸ HS1.out.set _ _ _)
    (first
      | (refine step_append_none rfl _ _ 35 rfl 9 ti Tryz.underlying35 hi rfl P p rfl ?_)
      | (go_at_call 46; (with_reducible refine (HT.out _ (HS0.out.bel)).mono ?_); rintro y w12 ⟨B1, d1, rfl, hr1, hbT⟩; have HS1 := Lib.hid (HS0.out.below hbT); have HR1 := Lib.hid hr1; clear hr1; obtain ⟨-, -, -, x0, x1, x2, f0, f1, f2⟩ := HS1.out.cells))
  all_goals go_wp2_with fail
  · obtain ⟨q0, q1, q2, g1, g2, g3⟩ := fun_done HS1.out (.slice none 0 0) (.slice B1 f.body.length d1) (A1 := none) (fun i hi => by omega) HR1.out (fun n hn => by have := HS0.out.big; have h : _ ≤ n := hn; omega)
    refine bodyPost_ret (by simp [results, Tryz.results23, go_sem, q0, q1, q2]; try rfl) rfl ?_
    exact ⟨none, 0, _, _, by unfold funV; rw [hl], g1, ⟨fun _ => rfl, by omega⟩, g2, g3⟩
theorem AsFun_any (f : PFun) (hs : SmF f) (S : Nat → Prop) (P : Option Addr) (p : Nat) (B : Option Addr) (c : Nat) (w : World) (hp : RdT w S f.params P) (hb : RdS w S f.body B) :
    Calls Tryz.prog 23 #[funV f P p B c] w (AsFunPost f w) := by
  by_cases h0 : 0 < f.params.length
  · obtain ⟨b, off, rfl, -⟩ := hp 0 h0
    exact AsFun_some f hs S b off p B c w hp hb h0
  · exact AsFun_none f hs S P p B c w hb (List.length_eq_zero_iff.1 (by omega))
/-- Functions as the package has them: no parameters are the nil slice. -/
def RdG (w : World) (S : Nat → Prop) (fs : List PFun) (A : Option Addr) : Prop := ∀ i (hi : i < fs.length), ∃ b off P p B c, A = some ⟨b, off, none⟩ ∧ S b ∧ CellsAt w b (off + i * 3) (funL fs[i] P p B c) ∧ RdT w S fs[i].params P ∧ PrmOk fs[i] P p ∧ RdS w S fs[i].body B
theorem RdG.keep {w w' : World} {S S' : Nat → Prop} (k : KeepsIn S w w') (hS : ∀ n, S n → S' n) {fs : List PFun} {A : Option Addr} (h : RdG w S fs A) : RdG w' S' fs A := fun i hi => by
  obtain ⟨b, off, P, p, B, c, e, hs, hc, hp, hn, hb⟩ := h i hi
  exact ⟨b, off, P, p, B, c, e, hS _ hs, hc.keep fun a v e => k a v (by rw [e]; exact hs), hp.keep k hS, hn, hb.keep k hS⟩
theorem RdG.lt {w : World} {S : Nat → Prop} {fs : List PFun} {A : Option Addr} (h : RdG w S fs A) : RdG w (fun n => S n ∧ n < w.heap.size) fs A := fun i hi => by
  obtain ⟨b, off, P, p, B, c, e, hs, hc, hp, hn, hb⟩ := h i hi
  exact ⟨b, off, P, p, B, c, e, ⟨hs, World.block_lt_of_cell? w _ (cells_fun hc).1⟩, hc, hp.lt, hn, hb.lt⟩
theorem FC.rowG {w : World} {base : Nat} {e : TypeId} {v : Value} {ts : List FC} (h : w.ownsRow base e 3 v ts.length (ts.flatMap FC.cells)) (hk : ∀ t ∈ ts, t.Ok w (Apart base v)) (hn : ∀ t ∈ ts, PrmOk t.f t.P t.p) :
    ∃ A c, v = .slice A ts.length c ∧ RdG w (fun n => base ≤ n) (ts.map (·.f)) A := by
  obtain ⟨A, c, rfl, hA⟩ := owns_at h
  refine ⟨A, c, rfl, fun i hi => ?_⟩
  have hi' : i < ts.length := by simpa using hi
  obtain ⟨g, rfl, hb, _, hc⟩ := hA (by omega)
  have hk1 := hk ts[i] (List.getElem_mem hi')
  refine ⟨g, 0, ts[i].P, ts[i].p, ts[i].B, ts[i].c, rfl, hb, fun j u hj => ?_, ?_, ?_, ?_⟩
  · have := hc (i * 3 + j) u (flat_cells (n := 3) (F := FC.cells) (fun x _ => rfl) hi' (by simpa [FC.cells] using hj))
    rw [show 0 + i * 3 + j = i * 3 + j by omega]
    exact this
  · simpa using hk1.1.keep (Keeps.in (Keeps.refl w) _) (fun n (hn : Apart base _ n) => hn.1)
  · simpa using hn ts[i] (List.getElem_mem hi')
  · simpa using hk1.2.keep (Keeps.in (Keeps.refl w) _) (fun n (hn : Apart base _ n) => hn.1)
/-- A slice of the call's own that reads as these functions. -/
def OwnF (w : World) (base : Nat) (v : Value) (fs : List PFun) : Prop := ∃ ts : List FC, ts.map (·.f) = fs ∧ w.ownsRow base 39 3 v ts.length (ts.flatMap FC.cells) ∧ (∀ t ∈ ts, t.Ok w (Apart base v)) ∧ ∀ t ∈ ts, PrmOk t.f t.P t.p
theorem OwnF.rd {w : World} {base : Nat} {v : Value} {fs : List PFun} (h : OwnF w base v fs) : ∃ A c, v = .slice A fs.length c ∧ fs.length ≤ c ∧ RdG w (fun n => base ≤ n) fs A := by
  obtain ⟨ts, rfl, h1, h2, h3⟩ := h
  obtain ⟨A, c, hv, hr⟩ := FC.rowG h1 h2 h3
  refine ⟨A, c, by rw [List.length_map]; exact hv, ?_, hr⟩
  subst hv
  rw [List.length_map]
  exact owned_cap h1
set_option maxHeartbeats 4000000 in
set_option maxRecDepth 100000 in
theorem AsFuns_own (fs : List PFun) (hlen : fs.length ≤ 10) (hsm : ∀ f ∈ fs, SmF f) (S : Nat → Prop) (A : Option Addr) (c : Nat) (w : World) (hr : RdF w S fs A) :
    Calls Tryz.prog 7 #[.slice A fs.length c] w fun x w' => ∃ v, x = .returned v ∧ OwnF w' w.heap.size v fs ∧ Below w.heap.size w w' := by
  have HR := Lib.hid hr
  have HSM := Lib.hid hsm
  clear hsm hr
  obtain ⟨ti, hi, hz0, hz1, hz2⟩ := info_parts funInfo
  go_enter Tryz.func7, Tryz.ntmps7
  go_wp2_with fail
  go_loopw [3, 4, 5] (fun v i _ wr => ∃ (k : Nat) (ts : List FC), k ≤ fs.length ∧ i = .int .i64 k ∧ ts.map (·.f) = fs.take k ∧
    wr.ownsRow w.heap.size 39 3 v k (ts.flatMap FC.cells) ∧ (∀ t ∈ ts, t.Ok wr (Apart w.heap.size v)) ∧ (∀ t ∈ ts, PrmOk t.f t.P t.p) ∧ Below w.heap.size w wr) (fun _ i _ _ => fs.length - (intOf i).toNat)
  case atStart => exact ⟨0, [], Nat.zero_le _, rfl, rfl, World.ownsRow_nil _ _ _ _, (fun t h => by cases h), (fun t h => by cases h), grow_refl w⟩
  case round =>
    obtain ⟨k, ts, hk, rfl, hts, hown, hok, hnn, hbel⟩ := hrel
    by_cases hlt : k < fs.length
    · obtain ⟨b, off, P, p, B, d, rfl, -, hcells, hp, hb⟩ := (HR.out.keep ((Keeps.of_below hbel).in S) (fun _ h => h)) k hlt
      obtain ⟨c0, c1, c2⟩ := cells_fun hcells
      have hlt' : (k : Int) < (fs.length : Int) := by omega
      obtain ⟨f, hf⟩ : ∃ f, fs[k] = f := ⟨_, rfl⟩
      have hsm : f ∈ fs := hf ▸ List.getElem_mem hlt
      rw [hf] at hcells hp hb c0 c1 c2
      have HK := Lib.hid hf
      have HF := Lib.hid (AsFun_any f (HSM.out f hsm) S P p B d wr hp hb)
      unfold funV at HF
      have HO := Lib.hid hown
      have HOK := Lib.hid hok
      have HNN := Lib.hid hnn
      have HBEL := Lib.hid hbel
      clear hown hok hcells hp hb hbel hnn
      go_wp2_with (first
        | (go_at_call 23; (with_reducible refine HF.out.mono ?_); rintro x w1 ⟨P1, p1, B1, d1, rfl, h1, hn1, h2, hb1⟩; unfold funV)
        | (at_builtin; refine wpList_append_own_at _ rfl _ _ 25 rfl w.heap.size 39 ti _ 3 64 Tryz.underlying25 hi hz0 hz1 hz2 rfl (by decide) _ _ _ rfl (((ownsRow_below HO.out hb1).alloc _).alloc _) ⟨w1.heap.size + 1, 0, none⟩ 1 1 (funL f P1 p1 B1 d1) rfl rfl ?c1 ?c2 ?c3 ?c4 ?c5 ?_))
      case c1 =>
        intro i u hu
        match i, hu with
        | 0, hu => simp [funL] at hu; subst hu; simp [Addr.add]
        | 1, hu => simp [funL] at hu; subst hu; simp [Addr.add]
        | 2, hu => simp [funL] at hu; subst hu; simp [Addr.add]
      case c2 => intro u hu; simp [funL] at hu; rcases hu with rfl | rfl | rfl <;> rfl
      case c3 => unfold maxLen; omega
      case c4 => omega
      case c5 => have := hb1.size; have := HBEL.out.size; simp; omega
      · intro v' w2 hown' hgrow _ hat
        obtain ⟨A', c', rfl⟩ := owns_slice hown'
        have hsz1 := hb1.size
        have hb2 : Below w.heap.size w w2 := Below.grown (((grow_trans HBEL.out hb1).alloc (by have := HBEL.out.size; omega) _).alloc (by simp; have := HBEL.out.size; omega) _) hgrow (by simp; have := HBEL.out.size; omega) (fun k hk => (HO.out.lt k hk).1)
        have HOK2 : ∀ t ∈ ts ++ [(⟨f, P1, p1, B1, d1⟩ : FC)], t.Ok w2 (Apart w.heap.size (.slice A' (k + 1) c')) := by
          intro t ht
          rcases List.mem_append.1 ht with h | h
          · exact (((HOK.out t h).keep ((Keeps.of_below hb1).in _) (fun _ h => h)).lt).keep (apart_app hgrow) (apart_own (w1 := w1) hat (by omega))
          · simp only [List.mem_singleton] at h
            subst h
            have hap : ∀ n, newAt wr n → Apart w.heap.size _ n := fun n hn => ⟨Nat.le_trans HBEL.out.size hn, fun q => by have := (HO.out.lt _ q.symm).2; have hn' : wr.heap.size ≤ n := hn; omega⟩
            exact FC.Ok.keep (apart_app hgrow) (apart_own (w1 := w1) hat (by omega)) (FC.Ok.lt (S := Apart w.heap.size _) ⟨h1.keep (Keeps.in (Keeps.refl _) _) hap, h2.keep (Keeps.in (Keeps.refl _) _) hap⟩)
        have HNN2 : ∀ t ∈ ts ++ [(⟨f, P1, p1, B1, d1⟩ : FC)], PrmOk t.f t.P t.p := by
          intro t ht
          rcases List.mem_append.1 ht with h | h
          · exact HNN.out t h
          · simp only [List.mem_singleton] at h
            subst h
            exact hn1
        have HOWN2 : w2.ownsRow w.heap.size 39 3 (.slice A' (k + 1) c') (k + 1) ((ts ++ [(⟨f, P1, p1, B1, d1⟩ : FC)]).flatMap FC.cells) := by
          rw [List.flatMap_append, List.flatMap_singleton]
          exact hown'
        have H1 := Lib.hid HOK2
        have H2 := Lib.hid HOWN2
        have H3 := Lib.hid HNN2
        clear hown' hgrow hat HOK2 HOWN2 HNN2 h1 h2 hn1 c0 c1 c2
        go_wp2_with fail
        go_roundw
        case rel => exact ⟨k + 1, ts ++ [(⟨f, P1, p1, B1, d1⟩ : FC)], by omega, by go_num, map_snoc hts hlt _ HK.out.symm, H2.out, H1.out, H3.out, hb2⟩
        case measure => simp [intOf]; omega
    · have hk' : k = fs.length := by omega
      subst hk'
      have hl := map_len hts (Nat.le_refl _)
      rw [List.take_length] at hts
      have hown1 := hown
      rw [← hl] at hown1
      have HRD := Lib.hid (show OwnF wr w.heap.size _ fs from ⟨ts, hts, hown1, hok, hnn⟩)
      clear hown hown1 hok hts hl HR
      go_wp2_with fail
      go_ret
      exact ⟨_, rfl, HRD.out, hbel⟩
theorem AsFuns_any (fs : List PFun) (hlen : fs.length ≤ 10) (hsm : ∀ f ∈ fs, SmF f) (S : Nat → Prop) (A : Option Addr) (c : Nat) (w : World) (hr : RdF w S fs A) :
    Calls Tryz.prog 7 #[.slice A fs.length c] w fun x w' => ∃ B d, x = .returned (.slice B fs.length d) ∧ RdG w' (newAt w) fs B ∧ Below w.heap.size w w' :=
  (AsFuns_own fs hlen hsm S A c w hr).mono fun e w' ⟨v, h1, h2, h3⟩ => by
    obtain ⟨B, d, rfl, _, hr⟩ := h2.rd
    exact ⟨B, d, h1, hr, h3⟩
theorem AsFuns_cap (fs : List PFun) (hlen : fs.length ≤ 10) (hsm : ∀ f ∈ fs, SmF f) (S : Nat → Prop) (A : Option Addr) (c : Nat) (w : World) (hr : RdF w S fs A) :
    Calls Tryz.prog 7 #[.slice A fs.length c] w fun x w' => ∃ B d, x = .returned (.slice B fs.length d) ∧ fs.length ≤ d ∧ RdG w' (newAt w) fs B ∧ Below w.heap.size w w' :=
  (AsFuns_own fs hlen hsm S A c w hr).mono fun e w' ⟨v, h1, h2, h3⟩ => by
    obtain ⟨B, d, rfl, hd, hr⟩ := h2.rd
    exact ⟨B, d, h1, hd, hr, h3⟩
end Go.Proofs.YteifmgcbafemeaaGreatDoor
