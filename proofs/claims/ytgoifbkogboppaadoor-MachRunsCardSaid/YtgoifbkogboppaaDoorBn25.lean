import Derived.Laws.IdiomCopy
import Derived.Laws.CopyRow
import Derived.Laws.CopyOwn
import Derived.Deep.AppendLies
import Derived.Deep.RegionHeld3
import Derived.Test.YtgoifbkogboppaaDoorBn23
import Derived.Test.YtgoifbkogboppaaDoorBn24
import Derived.Test.YtgoifbkogboppaaDoorBn3
set_option linter.unusedVariables false
set_option linter.unusedSimpArgs false
namespace Go.Proofs.YtgoifbkogboppaaDoor
open Go.RowKit

/-! mach.Run -/
section
variable {m : PImg} {A : Option Addr} {cf : Nat} {B : Option Addr} {cw : Nat} {C : Value} {mb T : Nat} {s : PMs} {v u : Value} {fbs : List (Nat × Nat)} {w w' : World}
theorem step_any (hg : GoodI m) (h : MaAt m A cf B cw C mb T s v u fbs w) (hok : MsOk m T s) (hT : T ≤ 5000) (ho : s.over = false) (K : Value) (hK : ∀ w', Below mb w w' → w'.cell? ⟨4, 0, none⟩ = some K) :
    Calls Tryd.prog 28 #[.pointer (some ⟨mb, 0, none⟩)] w fun e w' => e = .returned (.tuple #[]) ∧ ∃ v' u' fbs', MaAt m A cf B cw C mb T (stepM m T s) v' u' fbs' w' ∧ Below mb w w' := by
  obtain ⟨cs, x, hs, htop⟩ := calls_split (hok.some ho)
  obtain ⟨ps, p, rfl⟩ := h.split hs
  have hx : FrOk m x := hok.calls x (by rw [hs]; simp)
  by_cases hpc : m.words.length ≤ x.pc
  · have e : stepM m T s = endM stuckT s := by unfold stepM; rw [htop, if_pos hpc]
    rw [e]
    exact step_stuck h hs hx.len hok.deep hpc hg.nw
  · have hp' : x.pc < m.words.length := by omega
    have e : stepM m T s = stepI m.funs T (insP m.words[x.pc]) { x with pc := x.pc + 1 } (topM { x with pc := x.pc + 1 } s) := by
      unfold stepM
      rw [htop, if_neg hpc, List.getD_eq_getElem?_getD, List.getElem?_eq_getElem hp']
      rfl
    rw [e]
    exact step_go hg h hs hok hT ho hp' K hK
end
theorem owns_rowM {w : World} {base : Nat} {e : TypeId} {v : Value} {n : Nat} {xs : List Value} (h : w.ownsRow base e 1 v n xs) : ∃ A c, v = .slice A n c ∧ n ≤ c ∧ Row w A xs := by
  rcases h.2 with ⟨q, h0⟩ | ⟨g, cap, cur, q1, q2, q3, q4, q5, q6, q7⟩
  · have hx : xs = [] := List.eq_nil_of_length_eq_zero (by rw [h.1, h0])
    subst hx; subst h0
    exact ⟨none, 0, q, Nat.le_refl _, Row.nil _ _⟩
  · refine ⟨_, cap, q1, q4, fun j z hj => ⟨g, 0, rfl, ?_⟩⟩
    rw [← q7, List.getElem?_take] at hj
    split at hj
    · rw [Nat.zero_add, cell_of_row _ _ j _ _ _ q3, ← Array.getElem?_toList]; exact hj
    · cases hj
theorem intSz : (Tryd.prog.info? 3).map (·.size) = some 1 := by kernel_rfl
theorem insInfo : (Tryd.prog.info? 76).map (fun i => (i.zero, i.size, i.bytes)) = some (some (.agg #[.string ⟨#[]⟩, .int .i64 0, .int .i64 0, .int .i64 0, .int .i64 0]), 5, 48) := by kernel_rfl
theorem copy_args {w : World} {ab : Nat} {T : TypeId} (args : List Int) (hl : args.length ≤ 4) (X : Option Addr) (xc : Nat) (hX : Row w X (intVs args)) (hb : w.heap[ab]? = some (.cells #[.int .i64 0, .int .i64 0, .int .i64 0, .int .i64 0] T (0, 0))) :
    ∃ w', (∀ ty, (Builtin.copy_ #[26, 26] ty #[.slice (some ⟨ab, 0, none⟩) 4 4, .slice X args.length xc]).run Tryd.prog w = .ok (goInt args.length) w') ∧ w'.heap[ab]? = some (.cells (intVs (args4 args)).toArray T (0, 0)) ∧ (∀ k, k ≠ ab → w'.heap[k]? = w.heap[k]?) ∧ Below ab w w' := by
  by_cases h0 : args = []
  · subst h0
    exact ⟨w, fun ty => run_copy_none w _ _ ty 3 _ _ _ _ _ _ Tryd.underlying26 intSz (by simp), hb, fun k _ => rfl, Below.refl _ _⟩
  · have hp : 0 < args.length := List.length_pos_iff.2 h0
    obtain ⟨b, off, rfl, -⟩ := hX 0 _ (intVs_get hp)
    refine ⟨_, fun ty => (run_copy_row Tryd.prog w _ _ ty 3 ab 0 4 4 ⟨b, off, none⟩ args.length xc _ T (intVs args) Tryd.underlying26 intSz hb (by rw [intVs_len]; exact (Nat.min_eq_left hl).symm) (fun j u hj => ?_) (by simp [intVs_len]; omega) (intVs_one args)).trans (by rw [intVs_len]), ?_, fun k hk => setRow_other w ab k _ hk, below_setRow (Below.refl _ _) (Nat.le_refl _) _⟩
    · obtain ⟨b2, off2, e, hc⟩ := hX j u hj
      injection e with e
      injection e with e1 e2 _
      subst e1; subst e2
      have hadd : (⟨b, off, none⟩ : Addr).add j = ⟨b, off + j, none⟩ := by unfold Addr.add; split <;> simp_all
      rw [hadd]; exact hc
    · rw [setRow_heap w ab _ _ T (0, 0) hb]
      congr 3
      unfold args4 zero4
      match args, hl with
      | [], _ => exact absurd rfl h0
      | [a], _ => rfl
      | [a, b], _ => rfl
      | [a, b, c], _ => rfl
      | [a, b, c, d], _ => rfl
theorem args4_four (args : List Int) : ∃ a0 a1 a2 a3, args4 args = [a0, a1, a2, a3] := len4 (args4_len args)
theorem decode_okM {v : Int} (h0 : 0 ≤ v) (h1 : v < 18446744073709551616) (h : errW v = 0) {E : Nat → Addr} {w : World} (hL : Laid7 E w) : Calls Tryd.prog 25 #[.int .u64 v] w (Ret (.tuple #[insV (insP v), .nilIface]) w) := by
  have := Decode_any v h0 h1 (E 1) (E 2) (E 3) w hL.c1 hL.c2 hL.c3
  unfold decV at this
  rw [h] at this
  exact this
def ldCode : Op := Op.load 72 (Operand.tmp 78)
@[go_sem] theorem ldCode_eq : ldCode = Op.load 72 (Operand.tmp 78) := rfl
def nilS : Value := .slice none 0 0
/-- The machine's code, as far as it is decoded. -/
structure DecAt (m : PImg) (A : Option Addr) (cf : Nat) (B : Option Addr) (cw mb T k : Nat) (C : Value) (w : World) : Prop where
  blk : w.heap[mb]? = some (.cells (maL A m.funs.length cf B m.words.length cw C T Ms0 nilS nilS) 75 (0, 0))
  code : w.ownsRow mb 76 5 C k (codeVs (m.words.take k))
theorem DecAt.below {m : PImg} {A : Option Addr} {cf : Nat} {B : Option Addr} {cw mb T k : Nat} {C : Value} {w w' : World} (h : DecAt m A cf B cw mb T k C w) (hb : Below w.heap.size w w') : DecAt m A cf B cw mb T k C w' :=
  ⟨(hb.block _ (Array.getElem?_eq_some_iff.1 h.blk).1).trans h.blk, own_same h.code fun j hj => hb.block _ (own_lt h.code hj).2⟩
theorem codeVs_snoc {l : List Int} {k : Nat} (h : k < l.length) : codeVs (l.take (k + 1)) = codeVs (l.take k) ++ insL (insP l[k]) := by
  unfold codeVs; rw [List.take_succ_eq_append_getElem h, List.flatMap_append]; simp
/-- Behind the append of an instruction, and the store. -/
theorem DecAt.next {m : PImg} {A : Option Addr} {cf : Nat} {B : Option Addr} {cw mb T k : Nat} {C C' : Value} {w w4 : World} {o : Obj} (h : DecAt m A cf B cw mb T k C w) (hk : k < m.words.length) (hown : w4.ownsRow mb 76 5 C' (k + 1) (codeVs (m.words.take k) ++ insL (insP m.words[k]))) (hg : (w.alloc o).grownBy w4 C.ownBlock)
    : w4.heap[mb]? = w.heap[mb]? ∧ DecAt m A cf B cw mb T (k + 1) C' (w4.setCell ⟨mb, 2, none⟩ C') ∧ Below mb w (w4.setCell ⟨mb, 2, none⟩ C') := by
  have hlt := (Array.getElem?_eq_some_iff.1 h.blk).1
  have hne : C.ownBlock ≠ some mb := own_else h.code h.blk fun cs e => by injection e with _ e _; exact absurd e (by decide)
  have hm : w4.heap[mb]? = w.heap[mb]? := by rw [hg.block mb (by simp; omega) (fun e => hne e.symm)]; exact old_block _ _ hlt
  have hne2 : C'.ownBlock ≠ some mb := own_else hown (hm.trans h.blk) fun cs e => by injection e with _ e _; exact absurd e (by decide)
  refine ⟨hm, ⟨row_set (j := 2) C' (hm.trans h.blk) (by unfold maL; simp), ?_⟩, ?_⟩
  · rw [codeVs_snoc hk]
    exact own_same hown fun j hj => Below.heap_setCell _ _ _ _ (fun e => hne2 (by rw [hj, e]))
  · exact (Below.grown ((Below.refl mb w).alloc (Nat.le_of_lt hlt) o) hg (by simp; omega) (fun q hq => (own_lt h.code hq).1)).trans ((Below.refl mb w4).setCell (p := ⟨mb, 2, none⟩) (Nat.le_refl _) _)
theorem DecAt.machine {m : PImg} {A : Option Addr} {cf : Nat} {B : Option Addr} {cw mb T : Nat} {C : Value} {w : World} (h : DecAt m A cf B cw mb T m.words.length C w) (hA : Row w A (m.funs.flatMap fnL)) (hfar : ∀ a, A = some a → a.block < mb) : MaAt m A cf B cw C mb T Ms0 nilS nilS [] w := by
  have hc := h.code
  rw [List.take_length] at hc
  exact ⟨h.blk, hA, hfar, hc, World.ownsRow_nil _ _ _ _, World.ownsRow_nil _ _ _ _, rfl, fun k h1 => absurd h1 (by simp), by simp, by simp, (fun p hp => by cases hp), Nat.zero_le _⟩
def endO (s : PMs) : Oc4 := (s.how, s.val, s.out, s.ticks)
set_option maxHeartbeats 8000000 in
set_option maxRecDepth 100000 in
theorem mrun_run (E : Nat → Addr) (m : PImg) (hnf : m.funs.length ≤ 100) (hnw : m.words.length ≤ 100000) (A B : Option Addr) (cf cw : Nat) (hcf : m.funs.length ≤ cf) (h64 : ∀ n ∈ m.words, 0 ≤ n ∧ n < 18446744073709551616) (name : Txt) (args : List Int) (ha : args.length ≤ 1000) (X : Option Addr) (xc : Nat) (ticks : Int) (w : World) (hE : Laid7 E w) (hA : Row w A (m.funs.flatMap fnL)) (hB : Row w B (u64Vs m.words)) (hp : (imgC m).1 = 0) (i : Nat) (hi : i < m.funs.length) (hf : firstPF name m.funs 0 = i) (hn : m.funs[i].params = args.length) (T : Nat) (ht : ticks = T) (hT : T ≤ 5000) (hX : Row w X (intVs args)) (h6 : ∀ n ∈ args, I64 n) (fin : PMs) (hfin : machP m i args T 20000 = some fin) :
    Calls Tryd.prog 11 #[.agg #[.slice A m.funs.length cf, .slice B m.words.length cw], .string (mkB name), .slice X args.length xc, .int .i64 ticks] w (MRunPost E m name args ticks w) := by
  have hg : GoodI m := imgC_good.1 hp
  have hok := fn_ok (hg.funs i hi)
  have hl4 : args.length ≤ 4 := by have := hok.1.2.1; omega
  have HC : Hid (mrunC m name args.length ticks = (0, -1)) := show _ = _ by
    unfold mrunC
    rw [if_neg (by rw [hp]; decide), hf, if_neg (by omega), Int.toNat_natCast, List.getD_eq_getElem?_getD, List.getElem?_eq_getElem hi, Option.getD_some, if_neg (by simp [hn]), if_neg (by omega)]
  have HO : Hid (mrunO m name args ticks = endO fin) := show _ = _ by
    unfold mrunO; rw [hf, ht, Int.toNat_natCast, Int.toNat_natCast, hfin]; rfl
  subst ht
  have HP := Lib.hid hp
  have HK := Lib.hid hE.c3
  have HG3 : Hid (4 < w.heap.size) := World.block_lt_of_cell? w _ hE.c3
  have hfarA : ∀ a, A = some a → a.block < w.heap.size := fun a e => by
    obtain ⟨b, off, e2, c0, -⟩ := fn_cells hA hi
    rw [e] at e2
    injection e2 with e2
    rw [e2]
    have hh := World.block_lt_of_cell? w _ c0
    exact hh
  have HFAR := Lib.hid hfarA
  have HGI := Lib.hid hg
  have HXA : Hid (∀ w', Below w.heap.size w w' → Row w' X (intVs args)) := fun w' hb => hX.keep (Keeps.of_below hb)
  obtain ⟨wA, hwA⟩ : ∃ wA, (((w.alloc (.cells #[.slice A m.funs.length cf, .slice B m.words.length cw] 39)).alloc (.cells #[.string (mkB name)] 9)).alloc (.cells #[.string ⟨#[]⟩, .int .i64 0, .slice none 0 0, .int .i64 0] 35)) = wA := ⟨_, rfl⟩
  have hbA : Below w.heap.size w wA := by rw [← hwA]; exact grow_alloc (grow_alloc (grow_alloc (grow_refl _) _) _) _
  have hzA : wA.heap.size = w.heap.size + 3 := by rw [← hwA]; simp
  have hm0 : wA.heap[w.heap.size]? = some (.cells #[.slice A m.funs.length cf, .slice B m.words.length cw] 39 (0, 0)) := by rw [← hwA]; exact (old_block _ _ (by simp; omega)).trans ((old_block _ _ (by simp)).trans (heap_alloc_new w _))
  have hm1 : wA.heap[w.heap.size + 1]? = some (.cells #[.string (mkB name)] 9 (0, 0)) := by rw [← hwA]; exact (old_block _ _ (by simp)).trans (new_block _ _ (by simp))
  have hm2 : wA.heap[w.heap.size + 2]? = some (.cells #[.string ⟨#[]⟩, .int .i64 0, .slice none 0 0, .int .i64 0] 35 (0, 0)) := by rw [← hwA]; exact new_block _ _ (by simp)
  have HG8 : Hid (1 < w.heap.size) := World.block_lt_of_cell? w _ hE.c8
  have HG1 : Hid (2 < w.heap.size) := World.block_lt_of_cell? w _ hE.c1
  have HG5 : Hid (0 < w.heap.size) := World.block_lt_of_cell? w _ hE.c5
  have HX : Hid (∀ w', Below wA.heap.size wA w' → ((w'.cell? ⟨w.heap.size, 0, none⟩ = some (.slice A m.funs.length cf) ∧ w'.cell? ⟨w.heap.size, 1, none⟩ = some (.slice B m.words.length cw)) ∧ w'.cell? ⟨w.heap.size + 1, 0, none⟩ = some (.string (mkB name)) ∧ w'.heap[w.heap.size + 2]? = some (.cells #[.string ⟨#[]⟩, .int .i64 0, .slice none 0 0, .int .i64 0] 35 (0, 0))) ∧ Laid7 E w' ∧ Row w' A (m.funs.flatMap fnL) ∧ Row w' B (u64Vs m.words) ∧ Below w.heap.size w w') := fun w' hb =>
    ⟨⟨row2m ((hb.block _ (by omega)).trans hm0), row1m ((hb.block _ (by omega)).trans hm1), (hb.block _ (by omega)).trans hm2⟩, (hE.keep hbA).keep hb, (hA.keep (Keeps.of_below hbA)).keep (Keeps.of_below hb), (hB.keep (Keeps.of_below hbA)).keep (Keeps.of_below hb), grow_trans hbA hb⟩
  have HC0 : Hid (Calls Tryd.prog 22 #[.agg #[.slice A m.funs.length cf, .slice B m.words.length cw]] wA (ImgPost E m wA)) := echeck_any E m hnf hnw A B cf cw hcf h64 wA (hE.keep hbA) (hA.keep (Keeps.of_below hbA)) (hB.keep (Keeps.of_below hbA))
  have HIX : Hid (∀ w', Below wA.heap.size wA w' → Calls Tryd.prog 23 #[.slice A m.funs.length cf, .func (.func 24) #[] #[.pointer (some ⟨w.heap.size + 1, 0, none⟩)]] w' (Ret (.int .i64 (firstPF name m.funs 0)) w')) := fun w' hb =>
    erun_idx name m.funs (by omega) (w.heap.size + 1) A cf w' (HX.out w' hb).2.2.1 (HX.out w' hb).1.2.1
  have HWA := Lib.hid hwA
  obtain ⟨⟨i0, i1⟩, i2, hi3⟩ := (HX.out wA (grow_refl _)).1
  clear hbA hm0 hm1 hm2 hwA hzA hi3
  obtain ⟨f, hff⟩ : ∃ f, m.funs[i] = f := ⟨_, rfl⟩
  rw [hff] at hn
  have HFE := Lib.hid hff
  rw [hf] at HIX
  have hi1 : (i : Int) < (m.funs.length : Int) := by omega
  have hi2 : (0 : Int) ≤ (i : Int) := by omega
  have hi3 : ¬ ((i : Int) < 0) := by omega
  have hnn : ((f.params : Int) != (args.length : Int)) = false := by simpa using hn
  have ht1 : ¬ ((T : Int) < 0) := by omega
  have ht2 : ¬ (5000 < (T : Int)) := by omega
  have HFIN := Lib.hid hfin
  have H6 := Lib.hid h6
  have HW64 := Lib.hid h64
  have hnw8 := hg.nw
  clear hf hff hn hp hE hA hB h64 hX h6 hfin hok hg hfarA HG8 HG1 HG5
  go_enter Tryd.func11, Tryd.ntmps11
  go_upto_region 1 with fail
  change Code.wp _ _ _ _ (((w.alloc (.cells #[.slice A m.funs.length cf, .slice B m.words.length cw] 39)).alloc (.cells #[.string (mkB name)] 9)).alloc (.cells #[.string ⟨#[]⟩, .int .i64 0, .slice none 0 0, .int .i64 0] 35))
  rw [HWA.out]
  go_upto_region 12 with (first
    | (go_at_call 22; (with_reducible refine HC0.out.mono ?_); rintro y w3 ⟨v3, rfl, he3, hb3, hn3⟩; obtain rfl := hn3.2 HP.out; obtain ⟨⟨i0, i1⟩, i2, -⟩ := (HX.out w3 hb3).1; have HI3 := Lib.hid (HIX.out w3 hb3); have HB3 := Lib.hid hb3; clear he3 hn3 hb3)
    | (go_at_call 23; (with_reducible refine HI3.out.mono ?_); rintro y w4 ⟨rfl, hb4⟩; have hb04 := grow_trans HB3.out hb4; obtain ⟨⟨i0, i1⟩, i2, -⟩ := (HX.out w4 hb04).1; obtain ⟨bq, oq, rfl, q0, q1, q2, q3⟩ := fn_cells (HX.out w4 hb04).2.2.1 hi; rw [HFE.out] at q0 q1 q2 q3; have HB04 := Lib.hid hb04; clear hb4 hb04))
  obtain ⟨mb, hmb⟩ : ∃ mb, w4.heap.size = mb := ⟨_, rfl⟩
  have hmw : w.heap.size + 3 ≤ mb := by
    have h1 := (HX.out w4 HB04.out).1.2.2
    have := (Array.getElem?_eq_some_iff.1 h1).1
    omega
  obtain ⟨wM, hwM⟩ : ∃ wM, w4.alloc (.cells #[.slice (some ⟨bq, oq, none⟩) m.funs.length cf, .slice B m.words.length cw, .slice none 0 0, .string ⟨#[]⟩, .int .i64 0, .slice none 0 0, .int .i64 0, .int .i64 T, .slice none 0 0] 75) = wM := ⟨_, rfl⟩
  have hdec : DecAt m (some ⟨bq, oq, none⟩) cf B cw mb T 0 (.slice none 0 0) wM := ⟨by rw [← hwM, ← hmb]; exact heap_alloc_new w4 _, World.ownsRow_nil _ _ _ _⟩
  have hbM : Below mb w4 wM := by rw [← hwM, ← hmb]; exact grow_alloc (grow_refl _) _
  have HB4M : Hid (∀ w', Below mb wM w' → Below wA.heap.size wA w') := fun w' hb => grow_trans HB04.out (by rw [hmb]; exact hbM.trans hb)
  have HDEC := Lib.hid hdec
  rw [hmb]
  rw [hwM]
  obtain ⟨⟨i0, i1⟩, i2, -⟩ := (HX.out wM (HB4M.out wM (Below.refl _ _))).1
  clear hdec hbM hwM q0 q1 q2 q3
  go_wp2_with fail
  go_loopw [14, 15, 16, 62] (fun _ _ _ ix wr => ∃ (k : Nat) (C : Value), k ≤ m.words.length ∧ ix = .int .i64 k ∧ DecAt m (some ⟨bq, oq, none⟩) cf B cw mb T k C wr ∧ Below mb wM wr) (fun _ _ _ ix _ => m.words.length - (intOf ix).toNat)
  case atStart => exact ⟨0, .slice none 0 0, Nat.zero_le _, rfl, HDEC.out, Below.refl _ _⟩
  case round =>
    obtain ⟨k, C, hk, rfl, hdk, hbel⟩ := hrel
    by_cases hlt : k < m.words.length
    · obtain ⟨-, hLr, -, hBr, -⟩ := HX.out wr (HB4M.out wr hbel)
      have hlt' : (k : Int) < (m.words.length : Int) := by omega
      obtain ⟨b, off, rfl, cw0⟩ := hBr k _ (u64_get hlt)
      have hv := HW64.out m.words[k] (List.getElem_mem hlt)
      have hw0 : errW m.words[k] = 0 := by
        have := HGI.out.words k hlt
        unfold wordC at this
        by_cases he : errW m.words[k] = 0
        · exact he
        · rw [if_pos he] at this; exact absurd this he
      have HN := Lib.hid (decode_okM hv.1 hv.2 hw0 hLr)
      unfold insV at HN
      obtain ⟨j, hj⟩ : ∃ j, insP m.words[k] = j := ⟨_, rfl⟩
      have HJ := Lib.hid hj
      rw [hj] at HN
      have HDK := Lib.hid hdk
      have HBE := Lib.hid hbel
      clear hLr hBr hv hw0 hdk hbel hj
      go_upto_region 18 with (go_at_call 25; (with_reducible refine HN.out.mono ?_); rintro y w5 ⟨rfl, hb5⟩)
      obtain ⟨wS, hwS⟩ : ∃ wS, w5.alloc (.cells #[.string (mkB j.op), .int .i64 j.d, .int .i64 j.a, .int .i64 j.b, .int .i64 j.imm] 76) = wS := ⟨_, rfl⟩
      have hbS : Below wr.heap.size wr wS := by rw [← hwS]; exact grow_alloc hb5 _
      have hnS : wS.heap[w5.heap.size]? = some (.cells #[.string (mkB j.op), .int .i64 j.d, .int .i64 j.a, .int .i64 j.b, .int .i64 j.imm] 76 (0, 0)) := by rw [← hwS]; exact heap_alloc_new w5 _
      have hdS := HDK.out.below hbS
      obtain ⟨q, hq⟩ : ∃ q, w5.heap.size = q := ⟨_, rfl⟩
      have hqm : q ≠ mb := by
        have h1 := (Array.getElem?_eq_some_iff.1 HDK.out.blk).1
        have h2 := hb5.size
        omega
      rw [hq] at hnS
      rw [hwS, hq]
      obtain ⟨Ac, cc, rfl⟩ := own_slice hdS.code
      obtain ⟨-, -, c2, -, -, -, -, -, -⟩ := row9m hdS.blk
      have z2 := row_frozen hdS.blk 2
      have k1 : ∀ o, (wS.alloc o).cell? ⟨mb, 2, none⟩ = some (.slice Ac k cc) := fun o => Keeps.alloc _ _ _ _ c2
      have HJ0 := Lib.hid (row5e hnS)
      have hql : q < wS.heap.size := (Array.getElem?_eq_some_iff.1 hnS).1
      have hmS : mb < wS.heap.size := (Array.getElem?_eq_some_iff.1 hdS.blk).1
      have hqo : Value.ownBlock (.slice Ac k cc) ≠ some q := fun e => by
        have h1 := (own_lt HDK.out.code e).2
        have h2 := hb5.size
        omega
      have hmo : Value.ownBlock (.slice Ac k cc) ≠ some mb := own_else hdS.code hdS.blk fun cs e => by injection e with _ e _; exact absurd e (by decide)
      have HOA : Hid ((wS.drew.alloc (.cells #[.string (mkB j.op), .int .i64 j.d, .int .i64 j.a, .int .i64 j.b, .int .i64 j.imm] 76)).ownsRow mb 76 5 (.slice Ac k cc) k (codeVs (m.words.take k))) := World.ownsRow.alloc (w := wS.drew) hdS.code _
      have HNP : Hid (∀ x z, (insL j)[x]? = some z → (wS.drew.alloc (.cells #[.string (mkB j.op), .int .i64 j.d, .int .i64 j.a, .int .i64 j.b, .int .i64 j.imm] 76)).cell? ((⟨wS.heap.size, 0, none⟩ : Addr).add x) = some z) := fun x z hx => World.news_of_block (heap_alloc_new wS.drew _) x z hx
      have HOC : Hid (∀ z ∈ insL j, z.oneCell' = true) := fun z hz => by
        unfold insL at hz
        simp only [List.mem_cons, List.not_mem_nil, or_false] at hz
        rcases hz with rfl | rfl | rfl | rfl | rfl <;> rfl
      obtain ⟨ti, hti, hz0, hz1, hz2⟩ := info_parts insInfo
      have HDS := Lib.hid hdS
      have HBS := Lib.hid hbS
      have HNS := Lib.hid hnS
      have hbase : mb ≤ (wS.drew.alloc (.cells #[.string (mkB j.op), .int .i64 j.d, .int .i64 j.a, .int .i64 j.b, .int .i64 j.imm] 76)).heap.size := by show mb ≤ (wS.drew.alloc _).heap.size; simp; omega
      have h63 : k + 1 ≤ maxLen := by unfold maxLen; omega
      have hby : (k + 1) * 48 ≤ 140737488355328 := by omega
      clear hdS hbS hnS hq hb5 hwS
      rw [show Op.load 72 (Operand.tmp 78) = ldCode from rfl]
      go_region_held3 (fun w' => w'.cell? ⟨q, 0, none⟩ = some (.string (mkB j.op)) ∧ w'.cell? ⟨q, 1, none⟩ = some (.int .i64 j.d) ∧ w'.cell? ⟨q, 2, none⟩ = some (.int .i64 j.a) ∧ w'.cell? ⟨q, 3, none⟩ = some (.int .i64 j.b) ∧ w'.cell? ⟨q, 4, none⟩ = some (.int .i64 j.imm))
        (first
          | exact HJ0.out
          | exact J4.out
          | (go_split_ands
             refine ⟨?_, ?_, ?_, ?_, ?_⟩
             all_goals (first | assumption | exact Keeps.alloc _ _ _ _ (by assumption) | exact cell_oth (by assumption) hqm)))
        (first
          | (refine step_append_lies _ rfl _ _ 72 rfl mb 76 ti _ 5 48 Tryd.underlying72 hti hz0 hz1 hz2 rfl (by decide) _ k (codeVs (m.words.take k)) rfl HOA.out ⟨wS.heap.size, 0, none⟩ 1 1 (insL j) rfl rfl HNP.out HOC.out (by decide) h63 hby hbase _ rfl ?_; intro g cap w6 hown hgrow hat hlt6; have hgr : (wS.alloc (.cells #[.string (mkB j.op), .int .i64 j.d, .int .i64 j.a, .int .i64 j.b, .int .i64 j.imm] 76)).grownBy w6 (Value.ownBlock (.slice Ac k cc)) := ⟨hgrow.os, hgrow.tape, hgrow.output, hgrow.size, hgrow.block⟩; have hown' : w6.ownsRow mb 76 5 (.slice (some ⟨g, 0, none⟩) (k + 1) cap) (k + 1) (codeVs (m.words.take k) ++ insL (insP m.words[k])) := (by rw [HJ.out]; exact hown); have hnx := HDS.out.next hlt hown' hgr; have x2 : w6.cell? ⟨mb, 2, none⟩ = some (.slice Ac k cc) := (World.cell?_of_block hnx.1).trans c2; have y2 : w6.frozen? ⟨mb, 2, none⟩ = false := row_frozen (hnx.1.trans HDS.out.blk) 2; have J4 := Lib.hid (row5e (((hgr.block q (by simp; omega) (fun e => hqo e.symm)).trans (old_block _ _ hql)).trans HNS.out)); have HNX := Lib.hid hnx; clear hown hgrow hat hlt6 hgr hown' hnx))
      all_goals
        go_wp2_with fail
        go_roundw
        case rel => exact ⟨k + 1, _, by omega, by go_num, HNX.out.2.1, HBE.out.trans ((HBS.out.mono (by have := (Array.getElem?_eq_some_iff.1 HDK.out.blk).1; omega)).trans HNX.out.2.2)⟩
        case measure => simp [intOf]; omega
    · have hk' : k = m.words.length := by omega
      subst hk'
      obtain ⟨⟨⟨i0, i1⟩, i2, hk3⟩, -, hAr, -, -⟩ := HX.out wr (HB4M.out wr hbel)
      have hma := hdk.machine hAr (fun a e => by injection e with e; subst e; have := HFAR.out _ rfl; omega)
      have HMA := Lib.hid hma
      have HBE := Lib.hid hbel
      have hXr := HXA.out wr (HX.out wr (HB4M.out wr hbel)).2.2.2.2
      have hmlt := hma.lt
      have hbZ := grow_alloc (grow_refl wr) (.cells #[.int .i64 0, .int .i64 0, .int .i64 0, .int .i64 0] 60)
      obtain ⟨wC, hcp, hcb, hco, hcw⟩ := copy_args args hl4 X xc (hXr.keep (Keeps.of_below hbZ)) (heap_alloc_new wr (.cells #[.int .i64 0, .int .i64 0, .int .i64 0, .int .i64 0] 60))
      have hmC := hma.below (hbZ.trans hcw)
      obtain ⟨a0, a1, a2, a3, h4⟩ := args4_four args
      rw [h4] at hcb
      have hcb' : wC.heap[wr.heap.size]? = some (.cells #[.int .i64 a0, .int .i64 a1, .int .i64 a2, .int .i64 a3] 60 (0, 0)) := hcb
      obtain ⟨d0, d1, d2, d3⟩ := row4e hcb'
      have hbC : Below mb wM wC := hbel.trans ((hbZ.trans hcw).mono (by omega))
      have hcall := call_any HGI.out hmC hT rfl (by simp [Ms0]) i hi 0 a0 a1 a2 a3
      have hst : enterM m.funs T i 0 [a0, a1, a2, a3] Ms0 = startM m T i args := by unfold startM; rw [h4]
      rw [hst, show ((0 : Nat) : Int) = 0 from rfl] at hcall
      have HCALL := Lib.hid hcall
      have HBC := Lib.hid hbC
      have HOK0 := Lib.hid (start_ok (T := T) HGI.out hi H6.out)
      clear hcall hbC hcb hcb' hmC hco hcw hXr hma hdk hbel hst h4 hAr HMA HBE
      go_upto_region 21 with fail
      go_upto_region 22 with fail
      go_wp2_with (go_at_call 26; (with_reducible refine HCALL.out.mono ?_); rintro y w7 ⟨rfl, u7, fb7, h7, hb7⟩; have H7 := Lib.hid h7; have HB7 := Lib.hid (HBC.out.trans hb7); clear h7 hb7)
      go_loopw [18] (fun ix wr2 => ∃ (n : Nat) (s : PMs) (v u : Value) (fbs : List (Nat × Nat)), n ≤ 20000 ∧ ix = .int .i64 n ∧ MaAt m (some ⟨bq, oq, none⟩) cf B cw C mb T s v u fbs wr2 ∧ MsOk m T s ∧ runN m T (20000 - n) s = some fin ∧ Below mb wM wr2) (fun ix _ => 20000 - (intOf ix).toNat)
      case atStart => exact ⟨0, _, _, _, _, Nat.zero_le _, rfl, H7.out, HOK0.out, HFIN.out, HB7.out⟩
      case round =>
        obtain ⟨n, s, v, u, fbs, hn2, rfl, hma, hok, hrun, hbel⟩ := hrel
        obtain ⟨c0, c1, c2, c3, c4, c5, c6, c7, c8⟩ := row9m hma.blk
        cases ho : s.over
        · have hn3 : n < 20000 := by
            rcases Nat.lt_or_ge n 20000 with h | h
            · exact h
            · rw [show 20000 - n = 0 by omega] at hrun
              unfold runN at hrun
              rw [ho] at hrun
              cases hrun
          have hq : ((mkB s.how).toList == []) = true := by
            rw [mkB_toList]
            unfold PMs.over at ho
            cases hh : s.how with
            | nil => rfl
            | cons a b => rw [hh] at ho; cases ho
          have hmost : ((n : Int) == 100000000) = false := beq_eq_false_iff_ne.2 (by omega)
          have HST := Lib.hid (step_any HGI.out hma hok hT ho (esV (E 3)) fun w' hb => (World.cell?_of_block (((HX.out wM (HB4M.out wM (Below.refl _ _))).2.2.2.2.trans ((hbel.trans hb).mono (by omega))).block _ HG3.out)).trans HK.out)
          have HRN : Hid (runN m T (20000 - (n + 1)) (stepM m T s) = some fin) := show _ = _ by
            rw [show 20000 - n = (20000 - (n + 1)) + 1 by omega] at hrun
            unfold runN at hrun
            rw [ho] at hrun
            exact hrun
          have HOKS := Lib.hid (hok.step HGI.out ho)
          have HBE2 := Lib.hid hbel
          clear hma hok hrun hbel ho
          go_wp2_with (go_at_call 28; (with_reducible refine HST.out.mono ?_); rintro y w8 ⟨rfl, v8, u8, fb8, h8, hb8⟩; have H8 := Lib.hid h8; have HB8 := Lib.hid (HBE2.out.trans hb8); clear h8 hb8)
          go_roundw
          case rel => exact ⟨n + 1, _, _, _, _, by omega, by go_num, H8.out, HOKS.out, HRN.out, HB8.out⟩
          case measure => simp [intOf]; omega
        · rw [run_over ho] at hrun
          injection hrun with hrun
          subst hrun
          have hq : ((mkB s.how).toList == []) = false := by
            rw [mkB_toList]
            unfold PMs.over at ho
            cases hh : s.how with
            | nil => rw [hh] at ho; cases ho
            | cons a b => rfl
          obtain ⟨⟨-, -⟩, -, hk8⟩ := (HX.out wr (HB4M.out wr hbel)).1
          obtain ⟨e0, e1, e2, e3⟩ := row4e hk8
          have y0 := row_frozen hk8 0
          have y1 := row_frozen hk8 1
          have y2 := row_frozen hk8 2
          have y3 := row_frozen hk8 3
          obtain ⟨A9, c9, rfl⟩ := own_slice hma.out
          have HMA := Lib.hid hma
          have HK8 := Lib.hid hk8
          have HBW := Lib.hid (HX.out wr (HB4M.out wr hbel)).2.2.2.2
          clear hma hok hbel ho hk8
          go_wp2_with fail
          obtain ⟨z0, z1, z2, z3⟩ := row4e (set4m (v0 := .string (mkB s.how)) (v1 := .int .i64 s.val) (v2 := .slice A9 s.out.length c9) (v3 := .int .i64 (s.ticks : Nat)) HK8.out)
          refine bodyPost_ret (v := .tuple #[.agg #[.string (mkB s.how), .int .i64 s.val, .slice A9 s.out.length c9, .int .i64 (s.ticks : Nat)], .nilIface]) (by simp [results, Tryd.results11, go_sem, z0, z1, z2, z3]; try rfl) rfl ?_
          unfold MRunPost
          rw [HC.out, HO.out]
          have hown := own_same HMA.out.out (w' := ((((wr.setCell ⟨w.heap.size + 2, 0, none⟩ (.string (mkB s.how))).setCell ⟨w.heap.size + 2, 1, none⟩ (.int .i64 s.val)).setCell ⟨w.heap.size + 2, 2, none⟩ (.slice A9 s.out.length c9)).setCell ⟨w.heap.size + 2, 3, none⟩ (.int .i64 (s.ticks : Nat)))) fun k hk => far4m k (by have := (own_lt HMA.out.out hk).1; omega)
          obtain ⟨A7, c7, he7, hle7, hr7⟩ := owns_rowM hown
          injection he7 with he7 _ he8
          subst he7; subst he8
          exact ⟨.nilIface, A9, c9, endO s, rfl, .nil_, ⟨fun _ => rfl, fun _ => rfl⟩, by rw [if_pos rfl], ⟨hr7, fun a ha => by have := (own_lt HMA.out.out (k := a.block) (by rw [ha]; rfl)).1; omega⟩, hle7, below4m HBW.out (by omega)⟩
end Go.Proofs.YtgoifbkogboppaaDoor

namespace Go.Proofs.YtgoifbkogboppaaDoor
open Go.RowKit

theorem ints_get {xs : List Int} {k : Nat} (h : k < xs.length) : (xs.map (Value.int .i64))[k]? = some (.int .i64 xs[k]) := by simp [h]
def sameI (xs ys : List Int) : Bool := xs == ys
theorem sameI_len {xs ys : List Int} (h : xs.length ≠ ys.length) : sameI xs ys = false := by
  unfold sameI; rw [beq_eq_false_iff_ne]; intro e; exact h (by rw [e])
theorem sameI_step {xs ys : List Int} {k : Nat} (h : k < xs.length) (h' : k < ys.length) : sameI (xs.drop k) (ys.drop k) = (xs[k] == ys[k] && sameI (xs.drop (k + 1)) (ys.drop (k + 1))) := by
  unfold sameI; rw [List.drop_eq_getElem_cons h, List.drop_eq_getElem_cons h']; rfl
theorem SameInts_any (A B : Option Addr) (xs ys : List Int) (c d : Nat) (w : World) (hr : Row w A (xs.map (.int .i64))) (hs : Row w B (ys.map (.int .i64))) (hn : xs.length ≤ 1000000) :
    Calls Tryd.prog 13 #[.slice A xs.length c, .slice B ys.length d] w (Quiet (.bool (sameI xs ys)) w) := by
  by_cases hl : xs.length = ys.length
  · have hl' : ((xs.length : Int) != (ys.length : Int)) = false := by simp [hl]
    have HL := Lib.hid hl
    clear hl
    go_enter Tryd.func13, Tryd.ntmps13
    go_wp2_with fail
    go_loopw [5] (fun i wr => ∃ k m : Nat, k ≤ xs.length ∧ i = .int .i64 k ∧ wr = w.drewN m ∧ sameI xs ys = sameI (xs.drop k) (ys.drop k)) (fun i _ => xs.length - (intOf i).toNat)
    case atStart => exact ⟨0, 0, Nat.zero_le _, rfl, rfl, by simp⟩
    case round =>
      obtain ⟨k, m, hk, rfl, rfl, hI⟩ := hrel
      have HI := Lib.hid hI
      clear hI
      by_cases hlt : k < xs.length
      · have hlt' : k < ys.length := by have := HL.out; omega
        obtain ⟨b, off, rfl, hc⟩ := hr k _ (ints_get hlt)
        obtain ⟨b', off', rfl, hc'⟩ := hs k _ (ints_get hlt')
        have HD := Lib.hid (sameI_step hlt hlt')
        cases he : (xs[k] == ys[k])
        · have he' : (xs[k] != ys[k]) = true := by rw [bne, he]; rfl
          have HE := Lib.hid he
          go_wp2_with fail
          go_quiet (fail)
          go_wp2_with fail
          go_ret
          rw [World.drewN_drewN]
          exact Quiet.drew_of _ (by rw [HI.out, HD.out, HE.out]; rfl)
        · have he' : (xs[k] != ys[k]) = false := by rw [bne, he]; rfl
          have HE := Lib.hid he
          go_wp2_with fail
          go_quiet (fail)
          go_wp2_with fail
          go_roundw
          case rel => exact ⟨k + 1, _, by omega, by go_num, rfl, by rw [HI.out, HD.out, HE.out]; rfl⟩
          case measure => simp [intOf]; omega
      · have hk' : k = xs.length := by omega
        subst hk'
        go_wp2_with fail
        go_ret
        exact Quiet.drew_of _ (by rw [HI.out]; have := HL.out; simp [sameI, this])
  · have hl' : ((xs.length : Int) != (ys.length : Int)) = true := by simp; omega
    have HS := Lib.hid (sameI_len hl)
    clear hl
    go_enter Tryd.func13, Tryd.ntmps13
    go_wp2_with fail
    go_ret
    exact Quiet.same_of (by rw [HS.out]; rfl)
end Go.Proofs.YtgoifbkogboppaaDoor

namespace Go.Proofs.YtgoifbkogboppaaDoor
open Go.RowKit

/-! outcomes beside outcomes; large images; an image as the package has it -/
set_option maxRecDepth 100000 in
theorem SameOutcome_eqM (o : Oc4) (A B : Option Addr) (c d : Nat) (w : World) (hr : Row w A (intVs o.2.2.1)) (hs : Row w B (intVs o.2.2.1)) (hn : o.2.2.1.length ≤ 1000000) :
    Calls Tryd.prog 12 #[ocM o A c, ocM o B d] w (Ret (.bool true) w) := by
  have HI : Hid (∀ w', Below w.heap.size w w' → Calls Tryd.prog 13 #[.slice A o.2.2.1.length c, .slice B o.2.2.1.length d] w' (Quiet (.bool true) w')) := fun w' hb => by
    have := SameInts_any A B o.2.2.1 o.2.2.1 c d w' (hr.keep (Keeps.of_below hb)) (hs.keep (Keeps.of_below hb)) hn
    rwa [show sameI o.2.2.1 o.2.2.1 = true from beq_self_eq_true _] at this
  have h0 : ((mkB o.1).toList == (mkB o.1).toList) = true := by simp
  unfold ocM
  clear hr hs
  go_enter Tryd.func12, Tryd.ntmps12
  go_wp2_with (go_at_call 13; (with_reducible refine (HI.out _ (grow_alloc (grow_alloc (grow_refl _) _) _)).mono ?_); rintro y w1 ⟨rfl, n, rfl⟩)
  go_ret
  exact ⟨rfl, grow_drew (grow_alloc (grow_alloc (grow_refl _) _) _) _⟩
def longName (f : PFn) : Bool := decide (20 < f.name.length)
def largeB (m : PImg) : Bool := decide (12 < m.funs.length) || (decide (200 < m.words.length) && (m.words.length != 8001)) || m.funs.any longName
theorem mkB_lenM (l : List UInt8) : (mkB l).size = l.length := rfl
theorem anyLong_step {fs : List PFn} {k : Nat} (h : k < fs.length) : (fs.drop k).any longName = (longName fs[k] || (fs.drop (k + 1)).any longName) := by
  rw [List.drop_eq_getElem_cons h, List.any_cons]
set_option maxHeartbeats 4000000 in
set_option maxRecDepth 100000 in
theorem largeImage_any (m : PImg) (hnf : m.funs.length ≤ maxLen) (hnw : m.words.length ≤ maxLen) (A B : Option Addr) (cf cw : Nat) (w : World) (hA : Row w A (m.funs.flatMap fnL)) :
    Calls Tryd.prog 7 #[.agg #[.slice A m.funs.length cf, .slice B m.words.length cw]] w (Ret (.bool (largeB m)) w) := by
  have hbA := grow_alloc (grow_refl w) (.cells #[.slice A m.funs.length cf, .slice B m.words.length cw] 25)
  have hmA := heap_alloc_new w (.cells #[.slice A m.funs.length cf, .slice B m.words.length cw] 25)
  obtain ⟨wA, hwA⟩ : ∃ wA, w.alloc (.cells #[.slice A m.funs.length cf, .slice B m.words.length cw] 25) = wA := ⟨_, rfl⟩
  rw [hwA] at hbA hmA
  obtain ⟨i0, i1⟩ := row2m hmA
  have HWA := Lib.hid hwA
  have HB := Lib.hid hbA
  have hA' := hA.keep (Keeps.of_below hbA)
  clear hwA hbA hmA hA
  by_cases h1 : 12 < m.funs.length
  · have HL : Hid (largeB m = true) := show _ = _ by unfold largeB; simp [h1]
    have q1 : (12 : Int) < (m.funs.length : Int) := by omega
    clear h1
    all_goals
      go_enter Tryd.func7, Tryd.ntmps7
      go_upto_region 1 with fail
      change Code.wp _ _ _ _ (w.alloc (.cells #[.slice A m.funs.length cf, .slice B m.words.length cw] 25))
      rw [HWA.out]
      go_wp2_with fail
      go_ret
      exact ⟨by rw [HL.out]; rfl, HB.out⟩
  · have q1 : ¬ (12 : Int) < (m.funs.length : Int) := by omega
    by_cases h2 : 200 < m.words.length
    · have q2 : (200 : Int) < (m.words.length : Int) := by omega
      by_cases h3 : m.words.length = 8001
      · have q3 : ((m.words.length : Int) != 8001) = false := by rw [h3]; rfl
        have HL : Hid (largeB m = (m.funs.drop 0).any longName) := show _ = _ by unfold largeB; simp [h1, h3]
        clear h1 h2 h3
        go_enter Tryd.func7, Tryd.ntmps7
        go_upto_region 1 with fail
        change Code.wp _ _ _ _ (w.alloc (.cells #[.slice A m.funs.length cf, .slice B m.words.length cw] 25))
        rw [HWA.out]
        go_wp2_with fail
        go_loop [3] (fun i => ∃ k : Nat, k ≤ m.funs.length ∧ i = .int .i64 k ∧ largeB m = (m.funs.drop k).any longName) (fun i => m.funs.length - (intOf i).toNat)
        case atStart => exact ⟨0, Nat.zero_le _, rfl, HL.out⟩
        case round =>
          obtain ⟨k, hk, rfl, hI⟩ := hrel
          have HI := Lib.hid hI
          clear hI
          by_cases hlt : k < m.funs.length
          · have hlt' : (k : Int) < (m.funs.length : Int) := by omega
            obtain ⟨b, off, rfl, f0, -, -, -⟩ := fn_cells hA' hlt
            have HS := Lib.hid (anyLong_step hlt)
            have hsz := mkB_lenM m.funs[k].name
            by_cases hl : 20 < m.funs[k].name.length
            · have HF : Hid (largeB m = true) := show _ = _ by rw [HI.out, HS.out]; unfold longName; simp [hl]
              have q9 : (20 : Int) < (m.funs[k].name.length : Int) := by omega
              clear hl
              go_wp2_with fail
              go_ret
              exact ⟨by rw [HF.out]; rfl, HB.out⟩
            · have HF : Hid (largeB m = (m.funs.drop (k + 1)).any longName) := show _ = _ by
                rw [HI.out, HS.out, show longName m.funs[k] = false from decide_eq_false hl]; rfl
              have q9 : ¬ (20 : Int) < (m.funs[k].name.length : Int) := by omega
              clear hl
              go_wp2_with fail
              go_round
              case rel => exact ⟨k + 1, by omega, by go_num, HF.out⟩
              case measure => simp [intOf]; omega
          · have hk' : k = m.funs.length := by omega
            subst hk'
            have HF : Hid (largeB m = false) := show _ = _ by rw [HI.out, List.drop_length]; rfl
            go_wp2_with fail
            go_ret
            exact ⟨by rw [HF.out]; rfl, HB.out⟩
      · have q3 : ((m.words.length : Int) != 8001) = true := by simp; omega
        have HL : Hid (largeB m = true) := show _ = _ by unfold largeB; simp [h2, h3]
        clear h1 h2 h3
        go_enter Tryd.func7, Tryd.ntmps7
        go_upto_region 1 with fail
        change Code.wp _ _ _ _ (w.alloc (.cells #[.slice A m.funs.length cf, .slice B m.words.length cw] 25))
        rw [HWA.out]
        go_wp2_with fail
        go_ret
        exact ⟨by rw [HL.out]; rfl, HB.out⟩
    · have q2 : ¬ (200 : Int) < (m.words.length : Int) := by omega
      have HL : Hid (largeB m = (m.funs.drop 0).any longName) := show _ = _ by unfold largeB; simp [h1, h2]
      clear h1 h2
      go_enter Tryd.func7, Tryd.ntmps7
      go_upto_region 1 with fail
      change Code.wp _ _ _ _ (w.alloc (.cells #[.slice A m.funs.length cf, .slice B m.words.length cw] 25))
      rw [HWA.out]
      go_wp2_with fail
      go_loop [3] (fun i => ∃ k : Nat, k ≤ m.funs.length ∧ i = .int .i64 k ∧ largeB m = (m.funs.drop k).any longName) (fun i => m.funs.length - (intOf i).toNat)
      case atStart => exact ⟨0, Nat.zero_le _, rfl, HL.out⟩
      case round =>
        obtain ⟨k, hk, rfl, hI⟩ := hrel
        have HI := Lib.hid hI
        clear hI
        by_cases hlt : k < m.funs.length
        · have hlt' : (k : Int) < (m.funs.length : Int) := by omega
          obtain ⟨b, off, rfl, f0, -, -, -⟩ := fn_cells hA' hlt
          have HS := Lib.hid (anyLong_step hlt)
          have hsz := mkB_lenM m.funs[k].name
          by_cases hl : 20 < m.funs[k].name.length
          · have HF : Hid (largeB m = true) := show _ = _ by rw [HI.out, HS.out]; unfold longName; simp [hl]
            have q9 : (20 : Int) < (m.funs[k].name.length : Int) := by omega
            clear hl
            go_wp2_with fail
            go_ret
            exact ⟨by rw [HF.out]; rfl, HB.out⟩
          · have HF : Hid (largeB m = (m.funs.drop (k + 1)).any longName) := show _ = _ by
              rw [HI.out, HS.out, show longName m.funs[k] = false from decide_eq_false hl]; rfl
            have q9 : ¬ (20 : Int) < (m.funs[k].name.length : Int) := by omega
            clear hl
            go_wp2_with fail
            go_round
            case rel => exact ⟨k + 1, by omega, by go_num, HF.out⟩
            case measure => simp [intOf]; omega
        · have hk' : k = m.funs.length := by omega
          subst hk'
          have HF : Hid (largeB m = false) := show _ = _ by rw [HI.out, List.drop_length]; rfl
          go_wp2_with fail
          go_ret
          exact ⟨by rw [HF.out]; rfl, HB.out⟩
end Go.Proofs.YtgoifbkogboppaaDoor

namespace Go.Proofs.YtgoifbkogboppaaDoor
open Go.RowKit

/-! the last function of a name is the first one -/
def lastPF (name : Txt) (fs : List PFn) : Nat → Int
  | 0 => -1
  | k + 1 => if (fs.getD k fn0).name == name then (k : Int) else lastPF name fs k
theorem lastPF_at {name : Txt} {fs : List PFn} {k : Nat} (h : k < fs.length) : lastPF name fs (k + 1) = if fs[k].name == name then (k : Int) else lastPF name fs k := by
  have e : fs.getD k fn0 = fs[k] := by rw [List.getD_eq_getElem?_getD, List.getElem?_eq_getElem h]; rfl
  show (if (fs.getD k fn0).name == name then (k : Int) else lastPF name fs k) = _
  rw [e]
theorem lastPF_low (name : Txt) (fs : List PFn) : ∀ k, -1 ≤ lastPF name fs k ∧ lastPF name fs k < k := by
  intro k
  induction k with
  | zero => unfold lastPF; omega
  | succ k ih =>
    unfold lastPF
    split
    · omega
    · omega
theorem names_apart {m : PImg} (hg : GoodI m) {i j : Nat} (hij : i < j) (hj : j < m.funs.length) : m.funs[i].name ≠ m.funs[j].name := fun e => by
  have h := (fn_ok (hg.funs j hj)).2.2.2
  unfold fnameB at h
  simp only [Bool.or_eq_false_iff] at h
  have h2 := h.2
  rw [List.any_eq_false] at h2
  have hm : m.funs[i] ∈ m.funs.take j := by
    rw [List.mem_take_iff_getElem]
    exact ⟨i, by omega, rfl⟩
  have := h2 _ hm
  simp [e] at this
theorem last_first {m : PImg} (hg : GoodI m) (name : Txt) : lastPF name m.funs m.funs.length = firstPF name m.funs 0 := by
  rcases firstPF_find name m.funs 0 with h | ⟨i, hi, h, hn⟩
  · rw [h]
    have hno : ∀ g ∈ m.funs, g.name ≠ name := fun g hg2 e => by
      have h2 := firstPF_any name m.funs 0
      rw [h] at h2
      have : (m.funs.any fun g => g.name == name) = false := by rw [← h2]; decide
      rw [List.any_eq_false] at this
      exact this g hg2 (by simp [e])
    have : ∀ k, k ≤ m.funs.length → lastPF name m.funs k = -1 := by
      intro k
      induction k with
      | zero => intro _; rfl
      | succ k ih =>
        intro hk
        rw [lastPF_at (by omega), if_neg (by simpa using hno _ (List.getElem_mem (by omega)))]
        exact ih (by omega)
    exact this _ (Nat.le_refl _)
  · rw [h, Nat.zero_add]
    have : ∀ k, i < k → k ≤ m.funs.length → lastPF name m.funs k = i := by
      intro k
      induction k with
      | zero => intro h; omega
      | succ k ih =>
        intro hik hk
        rw [lastPF_at (by omega)]
        by_cases he : i = k
        · subst he; rw [if_pos (by simpa using hn)]
        · have hne := names_apart hg (show i < k by omega) (by omega)
          rw [hn] at hne
          rw [if_neg (by simpa using fun e => hne e.symm)]
          exact ih (by omega) (by omega)
    exact this _ hi (Nat.le_refl _)
end Go.Proofs.YtgoifbkogboppaaDoor
