import Derived.StillTailTactics
import Derived.Deep.RegionHeld3
import Derived.Deep.AppendLies
import Derived.Test.YtnpdjncgilekhaaGreatDoorBn12
namespace Go.Proofs.YtnpdjncgilekhaaGreatDoor
open Go.RowKit

/-! frame.values, frame.expr -/
theorem owns_same {w w' : World} {base : Nat} {e : TypeId} {size : Nat} {v : Value} {n : Nat} {xs : List Value} (h : w.ownsRow base e size v n xs) (hs : ∀ k, v.ownBlock = some k → w'.heap[k]? = w.heap[k]?) : w'.ownsRow base e size v n xs := by
  refine ⟨h.1, ?_⟩
  rcases h.2 with q | ⟨g, cap, cur, q1, q2, q3, q4⟩
  · exact .inl q
  · exact .inr ⟨g, cap, cur, q1, q2, (hs g (by rw [q1]; rfl)).trans q3, q4⟩
theorem owns_lt {w : World} {base : Nat} {e : TypeId} {size : Nat} {v : Value} {n : Nat} {xs : List Value} (h : w.ownsRow base e size v n xs) {k : Nat} (hk : v.ownBlock = some k) : base ≤ k ∧ k < w.heap.size := by
  rcases h.2 with ⟨q, _⟩ | ⟨g, cap, cur, q1, q2, q3, q4⟩
  · rw [q] at hk; cases hk
  · rw [q1] at hk
    simp only [Value.ownBlock, Option.some.injEq] at hk
    subst hk
    exact ⟨q2, (Array.getElem?_eq_some_iff.1 q3).1⟩
theorem owns_row {w : World} {base : Nat} {e : TypeId} {v : Value} {n : Nat} {xs : List Value} (h : w.ownsRow base e 1 v n xs) : ∃ A c, v = .slice A n c ∧ n ≤ c ∧ Row w A xs := by
  rcases h.2 with ⟨q, h0⟩ | ⟨g, cap, cur, q1, q2, q3, q4, q5, q6, q7⟩
  · have hx : xs = [] := List.eq_nil_of_length_eq_zero (by rw [h.1, h0])
    subst hx; subst h0
    exact ⟨none, 0, q, Nat.le_refl _, Row.nil _ _⟩
  · refine ⟨_, _, q1, q4, fun j u hj => ⟨g, 0, rfl, ?_⟩⟩
    have hr := Row.block (b := g) q3
    rw [← q7, List.getElem?_take] at hj
    split at hj
    · obtain ⟨b, off, e, hc⟩ := hr j u hj
      simp only [Option.some.injEq, Addr.mk.injEq, and_true] at e
      obtain ⟨rfl, rfl⟩ := e
      exact hc
    · cases hj
/-- The functions that the machine has: F tells each by its name. -/
def FunsIn (fs : List PFun) (F : Nm → Option Value) (base : Nat) (w : World) : Prop := ∀ (name : Nm) (f : PFun), findF fs name = some f → ∃ P p B c, F name = some (.agg #[.string (mkB f.name), .slice P f.params.length p, .slice B f.body.length c]) ∧ RdT w (fun k => k < base) f.params P ∧ RdS w (fun k => k < base) f.body B
/-- What stands during a run. -/
structure Ctx (E : Nat → Addr) (fs : List PFun) (F : Nm → Option Value) (base : Nat) (w : World) : Prop where
  laidIn : LaidIn E base w
  funs : FunsIn fs F base w
theorem Ctx.laid {E : Nat → Addr} {fs : List PFun} {F : Nm → Option Value} {base : Nat} {w : World} (h : Ctx E fs F base w) : Laid E w := h.laidIn.laid
theorem Ctx.keep {E : Nat → Addr} {fs : List PFun} {F : Nm → Option Value} {base : Nat} {w w' : World} (h : Ctx E fs F base w) (hb : Below base w w') : Ctx E fs F base w' :=
  ⟨h.laidIn.keep hb, fun name f hf => by
    obtain ⟨P, p, B, c, h1, h2, h3⟩ := h.funs name f hf
    exact ⟨P, p, B, c, h1, h2.keep (keepsLow hb) (fun _ h => h), h3.keep (keepsLow hb) (fun _ h => h)⟩⟩
section
variable (E : Nat → Addr) (fs : List PFun) (base m fb nf T : Nat) (F : Nm → Option Value)
def MvTo (d : Nat) (S : List Nat) (st' : St) (v : Value) (w w' : World) : Prop := ∃ v', MaAt base m fb nf T F d st' v' w' ∧ Mv base S v v' w w'
def EPost (d : Nat) (S : List Nat) (r : Int × St) (v : Value) (w : World) : Ending → World → Prop := fun en w' => ∃ n : Int, en = .returned (.int .i64 n) ∧ (r.2.over = false → n = r.1) ∧ MvTo base m fb nf T F d S r.2 v w w'
def KPost (d : Nat) (S : List Nat) (r : List Int × St) (n : Nat) (v : Value) (w : World) : Ending → World → Prop := fun en w' => ∃ A c l v', en = .returned (.slice A n c) ∧ (∀ a, A = some a → a.block ≠ m ∧ v'.ownBlock ≠ some a.block) ∧ l.length = n ∧ (r.2.over = false → l = r.1) ∧ Row w' A (intVs l) ∧ MaAt base m fb nf T F d r.2 v' w' ∧ Mv base S v v' w w'
def CCall (call : Caller) (t : Tab) (d : Nat) : Prop := ∀ (name : Nm) (l : List Int) (st : St) (v : Value) (A : Option Addr) (c : Nat) (w : World), Ctx E fs F base w → MaAt base m fb nf T F d st v w → Row w A (intVs l) → (∀ a, A = some a → a.block ≠ m ∧ v.ownBlock ≠ some a.block) → name.length ≤ 20 → argsOf t name = some l.length →
  Calls Tryz.prog 41 #[.pointer (some ⟨m, 0, none⟩), .string (mkB name), .slice A l.length c] w fun en w' => ∃ n : Int, en = .returned (.int .i64 n) ∧ ((call name l st).2.over = false → n = (call name l st).1) ∧ MvTo base m fb nf T F d [m] (call name l st).2 v w w'
def CExprR (call : Caller) (d x b : Nat) (e : PExpr) : Prop := ∀ (fr : Fr) (st : St) (v : Value) (X : Option Addr) (c : Nat) (w : World), Ctx E fs F base w → MaAt base m fb nf T F d st v w → FrAt base m x b fr w → RdE w (fun k => k < base) e.kids X →
  Calls Tryz.prog 97 #[.pointer (some ⟨x, 0, none⟩), exprV e X c] w (EPost base m fb nf T F d [m] (evalP call fr.vars e st) v w)
def CKidsR (call : Caller) (d x b : Nat) (ks : List PExpr) : Prop := ∀ (fr : Fr) (st : St) (v : Value) (X : Option Addr) (c : Nat) (w : World), Ctx E fs F base w → MaAt base m fb nf T F d st v w → FrAt base m x b fr w → RdE w (fun k => k < base) ks X →
  Calls Tryz.prog 107 #[.pointer (some ⟨x, 0, none⟩), .slice X ks.length c] w (KPost base m fb nf T F d [m] (kidsP call fr.vars ks st) ks.length v w)
end
theorem MaAt.same {base m fb nf T d : Nat} {F : Nm → Option Value} {st : St} {v : Value} {w w' : World} (h : MaAt base m fb nf T F d st v w) (hm : w'.heap[m]? = w.heap[m]?) (hf : w'.heap[fb]? = w.heap[fb]?) (hv : ∀ k, v.ownBlock = some k → w'.heap[k]? = w.heap[k]?) : MaAt base m fb nf T F d st v w' :=
  ⟨h.low, hm.trans h.blk, owns_same h.own hv, h.funs.keep hf, h.ticks, h.out, h.fbl⟩
/-- Kids up to k. -/
def KidsTo (call : Caller) (vs : Vs) (ks : List PExpr) (st : St) (k : Nat) (l : List Int) (sk : St) : Prop :=
  (kidsP call vs ks st).2 = (kidsP call vs (ks.drop k) sk).2 ∧ (sk.over = false → (kidsP call vs ks st).1 = l ++ (kidsP call vs (ks.drop k) sk).1)
theorem KidsTo.start {call : Caller} {vs : Vs} {ks : List PExpr} {st : St} : KidsTo call vs ks st 0 [] st := ⟨rfl, fun _ => rfl⟩
theorem KidsTo.step {T : Nat} {call : Caller} (hg : GoC T call) {vs : Vs} {ks : List PExpr} {st : St} {k : Nat} {l : List Int} {sk : St} (h : KidsTo call vs ks st k l sk) (hk : k < ks.length) {n : Int} (hn : (evalP call vs ks[k] sk).2.over = false → n = (evalP call vs ks[k] sk).1) :
    KidsTo call vs ks st (k + 1) (l ++ [n]) (evalP call vs ks[k] sk).2 := by
  have e := List.drop_eq_getElem_cons hk
  have e2 := kidsP_cons call vs ks[k] (ks.drop (k + 1)) sk
  rw [← e] at e2
  refine ⟨h.1.trans (by rw [e2]), fun ho => ?_⟩
  have hs : sk.over = false := by
    cases q : sk.over
    · rfl
    · have := (go_eval hg vs ks[k] sk).stop q
      rw [this, q] at ho; cases ho
  rw [h.2 hs, e2, hn ho]; simp
theorem KidsTo.done {call : Caller} {vs : Vs} {ks : List PExpr} {st : St} {l : List Int} {sk : St} (h : KidsTo call vs ks st ks.length l sk) : (kidsP call vs ks st).2 = sk ∧ (sk.over = false → l = (kidsP call vs ks st).1) := by
  unfold KidsTo at h
  rw [List.drop_length, kidsP_nil] at h
  exact ⟨h.1, fun q => by rw [h.2 q]; simp⟩
theorem intInfo : (Tryz.prog.info? 3).map (fun i => (i.zero, i.size, i.bytes)) = some (some (.int .i64 0), 1, 8) := by kernel_rfl
section
variable {base m fb nf T : Nat} {F : Nm → Option Value}
/-- An append to a row of one's own. -/
theorem grown_ma {d : Nat} {st : St} {v : Value} {w w' : World} {e : TypeId} {o : Value} {n bs : Nat} {xs : List Value} {ob : Obj} (h : MaAt base m fb nf T F d st v w) (ho : w.ownsRow bs e 1 o n xs) (hT : e ≠ 86) (hne : ∀ k, o.ownBlock = some k → v.ownBlock ≠ some k) (hg : (w.alloc ob).grownBy w' o.ownBlock) :
    MaAt base m fb nf T F d st v w' := by
  have hold : ∀ k, k < w.heap.size → o.ownBlock ≠ some k → w'.heap[k]? = w.heap[k]? := fun k hk hn => by
    rw [hg.block k (by simp; omega) (fun q => hn q.symm), old_block _ _ hk]
  refine h.same (hold m h.lt (own_other ho h.blk fun cs e => by injection e with _ e _; exact absurd e.symm hT)) (hold fb h.funs.lt fun q => ?_) fun k hk => hold k (owns_lt h.own hk).2 fun q => hne k q hk
  obtain ⟨D, ⟨es, clock, h1, _⟩, _⟩ := h.funs
  exact own_other ho h1 (fun cs e => by cases e) q
theorem grown_mv {S : List Nat} {v v' : Value} {w w1 w' : World} {e : TypeId} {o : Value} {n : Nat} {xs : List Value} {ob : Obj} (hb : base ≤ w.heap.size) (h : Mv base S v v' w w1) (ho : w1.ownsRow w.heap.size e 1 o n xs) (hg : (w1.alloc ob).grownBy w' o.ownBlock) : Mv base S v v' w w' := by
  refine ⟨Below.grown (h.bel.alloc (by have := h.bel.size; omega) ob) hg (by have := h.bel.size; simp; omega) (fun k hk => by have := (owns_lt ho hk).1; omega), fun k h1 h2 h3 => ?_, h.nw⟩
  have h4 := h.bel.size
  rw [hg.block k (by simp; omega) (fun q => by have := (owns_lt ho q.symm).1; omega), old_block _ _ (by omega)]
  exact h.kp k h1 h2 h3
end
set_option maxHeartbeats 4000000 in
set_option maxRecDepth 100000 in
theorem values_list (E : Nat → Addr) (fs : List PFun) (base m fb nf T : Nat) (F : Nm → Option Value) (call : Caller) (hg : GoC T call) (d x b : Nat) (ks : List PExpr) (hlen : ks.length ≤ 8) (hq : ∀ e ∈ ks, CExprR E fs base m fb nf T F call d x b e) : CKidsR E fs base m fb nf T F call d x b ks := by
  intro fr st v X c w hE hM hF hX
  obtain ⟨i0, hi, hz0, hz1, hz2⟩ := info_parts intInfo
  have HQ := Lib.hid hq
  have HE := Lib.hid hE
  have HM := Lib.hid hM
  have HF := Lib.hid hF
  have HX := Lib.hid hX
  have HG := Lib.hid hg
  have hbl := hM.base_le
  clear hq hE hM hF hX hg
  go_enter Tryz.func107, Tryz.ntmps107
  go_wp2_with fail
  go_loopw [5, 7, 10] (fun o _ i wr => ∃ (k : Nat) (l : List Int) (sk : St) (vk : Value), k ≤ ks.length ∧ i = .int .i64 k ∧ l.length = k ∧ wr.ownsRow w.heap.size 3 1 o k (intVs l) ∧ (∀ j, o.ownBlock = some j → vk.ownBlock ≠ some j) ∧ KidsTo call fr.vars ks st k l sk ∧ MaAt base m fb nf T F d sk vk wr ∧ Mv base [m] v vk w wr) (fun _ _ i _ => ks.length - (intOf i).toNat)
  case atStart => exact ⟨0, [], st, v, Nat.zero_le _, rfl, rfl, World.ownsRow_nil _ _ _ _, fun j hj => (by cases hj), KidsTo.start, HM.out, Mv.refl⟩
  case round =>
    obtain ⟨k, l, sk, vk, hk, rfl, hl, hown, hne, hI, hma, hmv⟩ := hrel
    by_cases hlt : k < ks.length
    · obtain ⟨b', off, B, c', rfl, -, hcells, hnum, hkid⟩ := (HX.out.keep (keepsLow hmv.bel) (fun _ h => h)).at hlt
      obtain ⟨c0, c1, c2, c3⟩ := cells_expr hcells
      have hlt' : (k : Int) < (ks.length : Int) := by omega
      have hqe := HQ.out ks[k] (List.getElem_mem hlt)
      have hstep : ∀ n : Int, ((evalP call fr.vars ks[k] sk).2.over = false → n = (evalP call fr.vars ks[k] sk).1) → KidsTo call fr.vars ks st (k + 1) (l ++ [n]) (evalP call fr.vars ks[k] sk).2 := fun n hn => hI.step HG.out hlt hn
      obtain ⟨e, he⟩ : ∃ e, ks[k] = e := ⟨_, rfl⟩
      rw [he] at hcells hnum hkid c0 c1 c2 c3 hqe hstep
      have hal0 : Below wr.heap.size wr (wr.alloc (.cells #[.string (mkB e.kind), .int .i64 e.num, .string (mkB e.name), .slice B e.kids.length c'] 56)) := grow_alloc (grow_refl _) _
      have hma1 := hma.below hal0
      have hmv1 := hmv.trans (Mv.below (S := [m]) hma.base_le hal0)
      have hcall := hqe fr sk vk B c' _ (HE.out.keep hmv1.bel) hma1 (HF.out.mv HM.out hmv1) (hkid.keep (keepsLow (hal0.mono hma.base_le)) (fun _ h => h))
      have hown1 := hown.alloc (.cells #[.string (mkB e.kind), .int .i64 e.num, .string (mkB e.name), .slice B e.kids.length c'] 56)
      have hnm : ∀ j, u5.ownBlock = some j → j ∉ [m] := fun j hj => by
        have := own_other hown hma.blk (fun cs e => by injection e with _ e _; exact absurd e (by decide))
        simp only [List.mem_singleton]
        exact fun q => this (by rw [hj, q])
      obtain ⟨r, hr⟩ : ∃ r, evalP call fr.vars e sk = r := ⟨_, rfl⟩
      unfold EPost at hcall
      rw [hr] at hcall hstep
      unfold exprV at hcall
      have HC := Lib.hid hcall
      have HOW := Lib.hid hown1
      have HNE := Lib.hid hne
      have HNM := Lib.hid hnm
      have HST := Lib.hid hstep
      have HMV1 := Lib.hid hmv1
      have HL := Lib.hid hl
      clear hcall hown1 hown hne hnm hstep hmv1 hma1 hal0 hqe hI hl hcells hnum hkid he hr hma hmv
      go_wp2_with (first
        | (go_at_call 97; (with_reducible refine HC.out.mono ?_); rintro x1 w1 ⟨n, rfl, hn, v1, hma2, hmv2⟩; have HO1 := Lib.hid (owns_same HOW.out fun j hj => hmv2.kp j (owns_lt HOW.out hj).2 (HNM.out j hj) (HNE.out j hj)); have HN := Lib.hid hn; have HMA2 := Lib.hid hma2; have HMV2 := Lib.hid hmv2; clear hn hma2 hmv2)
        | (at_builtin; refine wpList_append_own_at _ rfl _ _ 45 rfl w.heap.size 3 i0 _ 1 8 Tryz.underlying45 hi hz0 hz1 hz2 rfl (by decide) _ _ _ rfl (HO1.out.alloc _) ⟨w1.heap.size, 0, none⟩ 1 1 [.int .i64 n] rfl rfl ?c1 ?c2 ?c3 ?c4 ?c5 ?_))
      case c1 => exact cell_one_new _ _ _
      case c2 => intro u hu; simp at hu; subst hu; rfl
      case c3 => unfold maxLen; omega
      case c4 => omega
      case c5 => have h12 := Nat.le_trans HMV1.out.bel.size HMV2.out.bel.size; simp; omega
      · intro v' w2 hown' hgrow _ hat
        obtain ⟨A', c'', rfl⟩ := owns_slice hown'
        have hbl2 : base ≤ w.heap.size := by omega
        have hnv : ∀ j, u5.ownBlock = some j → v1.ownBlock ≠ some j := fun j hj => by
          rcases HMV2.out.nw with q | q
          · rw [q]; exact HNE.out j hj
          · exact fun e2 => by have := q j e2; have := (owns_lt HOW.out hj).2; omega
        have HMA3 := Lib.hid (grown_ma HMA2.out HO1.out (by decide) hnv hgrow)
        have HMV3 := Lib.hid (grown_mv hbl2 (HMV1.out.trans HMV2.out) HO1.out hgrow)
        have HNE3 : Hid (∀ j, (Value.slice A' (k + 1) c'').ownBlock = some j → v1.ownBlock ≠ some j) := show ∀ j, _ from fun j hj => by
          rcases hat with e2 | e2
          · exact hnv j (by rw [← e2]; exact hj)
          · intro e3
            have h3 := (owns_lt HMA2.out.own e3).2
            rw [e2] at hj
            have hj2 := Option.some.inj hj
            have h4 : w1.heap.size ≤ (w1.alloc (.cells #[.int .i64 n] 3)).heap.size := by simp
            omega
        have HOW3 : Hid (w2.ownsRow w.heap.size 3 1 (.slice A' (k + 1) c'') (k + 1) (intVs (l ++ [n]))) := show World.ownsRow _ _ _ _ _ _ _ by
          rw [intVs_snoc]; exact hown'
        have HST3 := Lib.hid (HST.out n HN.out)
        have HL3 : Hid ((l ++ [n]).length = k + 1) := show _ = _ by rw [List.length_append, HL.out]; rfl
        clear hown' hgrow hat hnv
        go_wp2_with fail
        go_roundw
        case rel => exact ⟨k + 1, l ++ [n], r.2, v1, by omega, by go_num, HL3.out, HOW3.out, HNE3.out, HST3.out, HMA3.out, HMV3.out⟩
        case measure => simp [intOf]; omega
    · have hk' : k = ks.length := by omega
      subst hk'
      obtain ⟨hd1, hd2⟩ := hI.done
      have hnm := own_other hown hma.blk (fun cs e => by injection e with _ e _; exact absurd e (by decide))
      obtain ⟨A', c', rfl, hcap, hrow⟩ := owns_row hown
      have HAM : Hid (∀ a, A' = some a → a.block ≠ m ∧ vk.ownBlock ≠ some a.block) := show ∀ a, _ from fun a ha => ⟨fun e => hnm (by rw [ha, ← e]; rfl), hne a.block (by rw [ha]; rfl)⟩
      clear hnm
      have HH := Lib.hid (⟨hd1, hd2, hl, hrow, hma, hmv⟩ : (kidsP call fr.vars ks st).2 = sk ∧ (sk.over = false → l = (kidsP call fr.vars ks st).1) ∧ l.length = ks.length ∧ Row wr A' (intVs l) ∧ MaAt base m fb nf T F d sk vk wr ∧ Mv base [m] v vk w wr)
      clear hd1 hd2 hI hown hma hmv hl hrow hne
      go_wp2_with fail
      go_ret
      obtain ⟨hd1, hd2, hl, hrow, hma, hmv⟩ := HH.out
      unfold KPost
      rw [hd1]
      exact ⟨A', c', l, vk, rfl, HAM.out, hl, hd2, hrow, hma, hmv⟩
section
variable {base m fb nf T : Nat} {F : Nm → Option Value}
theorem MaAt.drewN {d : Nat} {st : St} {v : Value} {w : World} (h : MaAt base m fb nf T F d st v w) (n : Nat) : MaAt base m fb nf T F d st v (w.drewN n) := h.same rfl rfl fun _ _ => rfl
theorem Mv.drewN {S : List Nat} {v v' : Value} {w w' : World} (h : Mv base S v v' w w') (n : Nat) : Mv base S v v' w (w'.drewN n) := ⟨below_drewN h.bel n, h.kp, h.nw⟩
theorem MvTo.drewN {d : Nat} {S : List Nat} {st : St} {v : Value} {w w' : World} (h : MvTo base m fb nf T F d S st v w w') (n : Nat) : MvTo base m fb nf T F d S st v w (w'.drewN n) := by
  obtain ⟨v', h1, h2⟩ := h; exact ⟨v', h1.drewN n, h2.drewN n⟩
/-- A block that was made ahead of a call stands behind it. -/
theorem MvTo.pre {d : Nat} {S : List Nat} {st : St} {v : Value} {w0 w w' : World} (hb : base ≤ w0.heap.size) (h0 : Below w0.heap.size w0 w) (h : MvTo base m fb nf T F d S st v w w') : MvTo base m fb nf T F d S st v w0 w' := by
  obtain ⟨v', h1, h2⟩ := h; exact ⟨v', h1, (Mv.below hb h0).trans h2⟩
end
theorem row4 {w : World} {q : Nat} {v0 v1 v2 v3 : Value} {T : TypeId} {fz : Nat × Nat} (hrow : w.heap[q]? = some (.cells #[v0, v1, v2, v3] T fz)) :
    w.cell? ⟨q, 0, none⟩ = some v0 ∧ w.cell? ⟨q, 1, none⟩ = some v1 ∧ w.cell? ⟨q, 2, none⟩ = some v2 ∧ w.cell? ⟨q, 3, none⟩ = some v3 :=
  ⟨cell_of_row _ _ 0 _ _ _ hrow, cell_of_row _ _ 1 _ _ _ hrow, cell_of_row _ _ 2 _ _ _ hrow, cell_of_row _ _ 3 _ _ _ hrow⟩
theorem selfP_num {call : Caller} {vs : Vs} {kind name : Nm} {num : Int} {r : List Int × St} (h : kind = xNum) : (selfP call vs kind name num r).2 = r.2 ∧ (r.2.over = false → num = (selfP call vs kind name num r).1) := by
  unfold selfP
  cases hr : r.2.over
  · rw [if_neg (by decide), if_neg (by rw [h]; decide), if_neg (by rw [h]; decide), if_neg (by rw [h]; decide), if_neg (by rw [h]; decide)]; exact ⟨rfl, fun _ => rfl⟩
  · rw [if_pos rfl]; exact ⟨rfl, fun e => by cases e⟩
theorem selfP_name {call : Caller} {vs : Vs} {kind name : Nm} {num : Int} {r : List Int × St} (h : kind = xName) : (selfP call vs kind name num r).2 = r.2 ∧ (r.2.over = false → getV vs name = (selfP call vs kind name num r).1) := by
  unfold selfP
  cases hr : r.2.over
  · rw [if_neg (by decide), if_pos h]; exact ⟨rfl, fun _ => rfl⟩
  · rw [if_pos rfl]; exact ⟨rfl, fun e => by cases e⟩
theorem selfP_one {call : Caller} {vs : Vs} {kind name : Nm} {num : Int} {r : List Int × St} (h : kind = xOne) : (selfP call vs kind name num r).2 = r.2 ∧ (r.2.over = false → valOf (oneV name (r.1.getD 0 0)) = (selfP call vs kind name num r).1) := by
  unfold selfP
  cases hr : r.2.over
  · rw [if_neg (by decide), if_neg (by rw [h]; decide), if_neg (by rw [h]; decide), if_pos h]; exact ⟨rfl, fun _ => rfl⟩
  · rw [if_pos rfl]; exact ⟨rfl, fun e => by cases e⟩
theorem selfP_two {call : Caller} {vs : Vs} {kind name : Nm} {num : Int} {r : List Int × St} (h : kind = xTwo) : (selfP call vs kind name num r).2 = r.2 ∧ (r.2.over = false → valOf (doV name (r.1.getD 0 0) (r.1.getD 1 0)) = (selfP call vs kind name num r).1) := by
  unfold selfP
  cases hr : r.2.over
  · rw [if_neg (by decide), if_neg (by rw [h]; decide), if_neg (by rw [h]; decide), if_neg (by rw [h]; decide), if_pos h]; exact ⟨rfl, fun _ => rfl⟩
  · rw [if_pos rfl]; exact ⟨rfl, fun e => by cases e⟩
theorem selfP_call {T : Nat} {call : Caller} (hg : GoC T call) {vs : Vs} {kind name : Nm} {num : Int} {r : List Int × St} (h : kind = xCall) {l : List Int} (hl : r.2.over = false → l = r.1) :
    (selfP call vs kind name num r).2 = (call name l r.2).2 ∧ ((call name l r.2).2.over = false → (call name l r.2).1 = (selfP call vs kind name num r).1) := by
  unfold selfP
  cases hr : r.2.over
  · rw [if_neg (by decide), if_neg (by rw [h]; decide), if_pos h, hl hr]; exact ⟨rfl, fun _ => rfl⟩
  · rw [if_pos rfl]
    have := (hg name l r.2).stop hr
    rw [this]
    exact ⟨rfl, fun e => by rw [hr] at e; cases e⟩
theorem var_get {w : World} {b : Nat} {vs : Vs} (h : VarAt w b vs) (k : Nm) (hk : k.length ≤ 1000000) : (Instr.lookup 64 (.map (some b)) (.string (mkB k)) false).run Tryz.prog w = .ok (.int .i64 (getV vs k)) w := by
  have := h.map.get Tryz.underlying64 (zeroInt w) k hk
  have e : ((varF vs k).getD (.int .i64 0)) = .int .i64 (getV vs k) := by
    unfold varF getV; cases lookV vs k <;> rfl
  rw [e] at this
  exact this
theorem one_row {w : World} {A : Option Addr} {l : List Int} (h : Row w A (intVs l)) (hl : l.length = 1) : ∃ bA oA n0, A = some ⟨bA, oA, none⟩ ∧ w.cell? ⟨bA, oA, none⟩ = some (.int .i64 n0) ∧ l = [n0] := by
  match l, hl with
  | [n0], _ =>
    obtain ⟨b, off, e, hc⟩ := h 0 _ rfl
    exact ⟨b, off, n0, e, hc, rfl⟩
theorem two_row {w : World} {A : Option Addr} {l : List Int} (h : Row w A (intVs l)) (hl : l.length = 2) : ∃ bA oA n0 n1, A = some ⟨bA, oA, none⟩ ∧ w.cell? ⟨bA, oA, none⟩ = some (.int .i64 n0) ∧ w.cell? ⟨bA, oA + 1, none⟩ = some (.int .i64 n1) ∧ l = [n0, n1] := by
  match l, hl with
  | [n0, n1], _ =>
    obtain ⟨b, off, e, hc⟩ := h 0 _ rfl
    obtain ⟨b', off', e', hc'⟩ := h 1 _ rfl
    rw [e] at e'
    simp only [Option.some.injEq, Addr.mk.injEq, and_true] at e'
    obtain ⟨rfl, rfl⟩ := e'
    exact ⟨b, off, n0, n1, e, hc, hc', rfl⟩
theorem one_at {E : Nat → Addr} {w : World} (h : Laid E w) (s : Nm) (a : Int) : Calls Tryz.prog 108 #[.string (mkB s), .int .i64 a] w (Quiet (.tuple #[.int .i64 (valOf (oneV s a)), errOf (oneV s a) (esV (E 3))]) w) := by
  have := One_any (mkB s) a (esV (E 3)) w h.c3
  rwa [mkB_toList] at this
theorem do_at {E : Nat → Addr} {w : World} (h : Laid E w) (s : Nm) (a b : Int) : Calls Tryz.prog 109 #[.string (mkB s), .int .i64 a, .int .i64 b] w (Quiet (.tuple #[.int .i64 (valOf (doV s a b)), errOf (doV s a b) (esV (E 3))]) w) := by
  have := Do_any (mkB s) a b (esV (E 3)) w h.c3
  rwa [mkB_toList] at this
theorem ekind_yes {e : PExpr} {k : Nm} (h : e.kind = k) : ((mkB e.kind).toList == k) = true := by rw [mkB_toList, h]; simp
theorem ekind_no {e : PExpr} {k : Nm} (h : e.kind ≠ k) : ((mkB e.kind).toList == k) = false := by rw [mkB_toList]; exact beq_eq_false_iff_ne.2 h
set_option maxHeartbeats 4000000 in
set_option maxRecDepth 100000 in
theorem expr_any (E : Nat → Addr) (fs : List PFun) (base m fb nf T : Nat) (F : Nm → Option Value) (call : Caller) (hg : GoC T call) (t : Tab) (d x b : Nat) (hcl : CCall E fs base m fb nf T F call t d) (e : PExpr) (hwf : WfE t e) (hks : CKidsR E fs base m fb nf T F call d x b e.kids) : CExprR E fs base m fb nf T F call d x b e := by
  intro fr st v X c w hE hM hF hX
  have hb0 : Below w.heap.size w (w.alloc (.cells #[.string (mkB e.kind), .int .i64 e.num, .string (mkB e.name), .slice X e.kids.length c] 56)) := grow_alloc (grow_refl _) _
  have hbl := hM.base_le
  have hM1 := hM.below hb0
  have hF1 := hF.below hb0
  have HOV := Lib.hid (over_any hM1)
  have x0 := (row4 hF1.blk).1
  have hev := evalP_eq call fr.vars e st
  unfold exprV
  cases ho : st.over
  · rw [ho, if_neg (by decide)] at hev
    rw [ho] at HOV
    have hkk := hks fr st v X c _ (hE.keep (hb0.mono hbl)) hM1 hF1 (hX.keep (keepsLow (hb0.mono hbl)) (fun _ h => h))
    unfold KPost at hkk
    obtain ⟨rk, hrk⟩ : ∃ rk, kidsP call fr.vars e.kids st = rk := ⟨_, rfl⟩
    rw [hrk] at hkk hev
    have HK := Lib.hid hkk
    have HEV := Lib.hid hev
    have HM1 := Lib.hid hM1
    have HF1 := Lib.hid hF1
    have HB0 := Lib.hid hb0
    have HBK := Lib.hid (heap_alloc_new w (.cells #[.string (mkB e.kind), .int .i64 e.num, .string (mkB e.name), .slice X e.kids.length c] 56))
    have HNE : Hid (w.heap.size ∉ [m] ∧ v.ownBlock ≠ some w.heap.size) := ⟨by simp only [List.mem_singleton]; exact Nat.ne_of_gt hM.lt, fun q => by have := (owns_lt hM.own q).2; omega⟩
    have HE := Lib.hid hE
    have hsz0 : w.heap.size < (w.alloc (.cells #[.string (mkB e.kind), .int .i64 e.num, .string (mkB e.name), .slice X e.kids.length c] 56)).heap.size := by simp
    have HSZ := Lib.hid hsz0
    have HWF := Lib.hid hwf
    have HCL := Lib.hid hcl
    have HG := Lib.hid hg
    clear hkk hev hM1 hF1 hb0 hE hM hF hX hks hcl hrk ho hsz0 hg
    by_cases hk0 : e.kind = xNum
    · have g1 := ekind_no (e := e) (k := xName) (by rw [hk0]; decide)
      have g2 := ekind_no (e := e) (k := xCall) (by rw [hk0]; decide)
      have g3 := ekind_no (e := e) (k := xOne) (by rw [hk0]; decide)
      have g4 := ekind_no (e := e) (k := xTwo) (by rw [hk0]; decide)
      have HS := Lib.hid (selfP_num (call := call) (vs := fr.vars) (name := e.name) (num := e.num) (r := rk) hk0)
      unfold xName at g1; unfold xCall at g2; unfold xOne at g3; unfold xTwo at g4
      clear hk0 hwf
      go_enter Tryz.func97, Tryz.ntmps97
      go_wp2_with (first
        | (go_at_call 42; (with_reducible refine HOV.out.mono ?_); rintro y w1 ⟨rfl, rfl⟩)
        | (go_at_call 107; (with_reducible refine HK.out.mono ?_); rintro y w2 ⟨A, c', l, v2, rfl, hAm, hl, hlv, hrow, hma2, hmv2⟩; have HAM := Lib.hid hAm; clear hAm; have hbk := (hmv2.kp _ HSZ.out HNE.out.1 HNE.out.2).trans HBK.out; obtain ⟨d0, d1, d2, d3⟩ := row4 hbk; have HMA2 := Lib.hid hma2; have HMV2 := Lib.hid hmv2; clear hbk hl hlv hrow hma2 hmv2))
      go_ret
      rw [HEV.out]
      refine ⟨_, rfl, fun q => HS.out.2 (by rw [← HS.out.1]; exact q), MvTo.pre hbl HB0.out ⟨v2, ?_, HMV2.out⟩⟩
      rw [HS.out.1]; exact HMA2.out
    · by_cases hk1 : e.kind = xName
      · have g1 := ekind_yes hk1
        have HS := Lib.hid (selfP_name (call := call) (vs := fr.vars) (name := e.name) (num := e.num) (r := rk) hk1)
        unfold xName at g1
        clear hk0 hk1 hwf
        go_enter Tryz.func97, Tryz.ntmps97
        go_wp2_with (first
          | (go_at_call 42; (with_reducible refine HOV.out.mono ?_); rintro y w1 ⟨rfl, rfl⟩)
          | (go_at_call 107; (with_reducible refine HK.out.mono ?_); rintro y w2 ⟨A, c', l, v2, rfl, hAm, hl, hlv, hrow, hma2, hmv2⟩; have HAM := Lib.hid hAm; clear hAm; have hbk := (hmv2.kp _ HSZ.out HNE.out.1 HNE.out.2).trans HBK.out; obtain ⟨d0, d1, d2, d3⟩ := row4 hbk; have hf2 := HF1.out.mv HM1.out hmv2; obtain ⟨x0', x1', -, -⟩ := row4 hf2.blk; have HF2 := Lib.hid hf2; have HMA2 := Lib.hid hma2; have HMV2 := Lib.hid hmv2; have HRW := Lib.hid hrow; have HLL := Lib.hid hl; have HLV := Lib.hid hlv; clear hbk hl hlv hrow hma2 hmv2 hf2; have look : ∀ k, (Instr.lookup 64 (.map (some b)) (.string (mkB e.name)) false).run Tryz.prog (w2.drewN k) = .ok (.int .i64 (getV fr.vars e.name)) (w2.drewN k) := (fun k => var_get (HF2.out.vars.keep (w' := w2.drewN k) rfl) e.name (by have := HWF.out.small; omega))))
        go_quiet (fail)
        go_wp2_with fail
        go_ret
        rw [HEV.out]
        refine ⟨_, rfl, fun q => HS.out.2 (by rw [← HS.out.1]; exact q), MvTo.pre hbl HB0.out (MvTo.drewN ⟨v2, ?_, HMV2.out⟩ _)⟩
        rw [HS.out.1]; exact HMA2.out
      · by_cases hk2 : e.kind = xCall
        · have g1 := ekind_no (e := e) hk1
          have g2 := ekind_yes hk2
          have HS : Hid (∀ l : List Int, (rk.2.over = false → l = rk.1) → _) := fun l hl => selfP_call HG.out (vs := fr.vars) (name := e.name) (num := e.num) hk2 hl
          have HAR := Lib.hid (hwf.call hk2)
          unfold xName at g1; unfold xCall at g2
          clear hk0 hk1 hk2 hwf
          go_enter Tryz.func97, Tryz.ntmps97
          go_wp2_with (first
            | (go_at_call 42; (with_reducible refine HOV.out.mono ?_); rintro y w1 ⟨rfl, rfl⟩)
            | (go_at_call 107; (with_reducible refine HK.out.mono ?_); rintro y w2 ⟨A, c', l, v2, rfl, hAm, hl, hlv, hrow, hma2, hmv2⟩; have HAM := Lib.hid hAm; clear hAm; have hbk := (hmv2.kp _ HSZ.out HNE.out.1 HNE.out.2).trans HBK.out; obtain ⟨d0, d1, d2, d3⟩ := row4 hbk; have hf2 := HF1.out.mv HM1.out hmv2; obtain ⟨x0', x1', -, -⟩ := row4 hf2.blk; have HF2 := Lib.hid hf2; have HMA2 := Lib.hid hma2; have HMV2 := Lib.hid hmv2; have HRW := Lib.hid hrow; have HLL := Lib.hid hl; have HLV := Lib.hid hlv; clear hbk hl hlv hrow hma2 hmv2 hf2))
          have hc1 := HCL.out e.name l rk.2 v2 A c' w2.drew (HE.out.keep ((HB0.out.mono hbl).trans HMV2.out.bel).drew) (HMA2.out.drewN 1) (HRW.out.keep (Keeps.drewN w2 1)) HAM.out (by have := HWF.out.small; omega) (by rw [HLL.out]; exact HAR.out)
          rw [HLL.out] at hc1
          have HCC := Lib.hid hc1
          clear hc1
          go_still_tail 7, (by kernel_rfl)
          change wpList _ _ _ _ _ w2.drew
          go_wp2_with (go_at_call 41; (with_reducible refine HCC.out.mono ?_); rintro y w3 ⟨n3, rfl, hn3, v3, hma3, hmv3⟩; have HN3 := Lib.hid hn3; have HMA3 := Lib.hid hma3; have HMV3 := Lib.hid hmv3; clear hn3 hma3 hmv3)
          go_ret
          rw [HEV.out]
          obtain ⟨q1, q2⟩ := HS.out l HLV.out
          refine ⟨_, rfl, fun q => ?_, MvTo.pre hbl HB0.out ⟨v3, ?_, (show Mv base [m] v v2 _ w2.drew from HMV2.out.drewN 1).trans HMV3.out⟩⟩
          · rw [q1] at q; rw [HN3.out q]; exact q2 q
          · rw [q1]; exact HMA3.out
        · by_cases hk3 : e.kind = xOne
          · have g1 := ekind_no (e := e) hk1
            have g2 := ekind_no (e := e) hk2
            have g3 := ekind_yes hk3
            have HS := Lib.hid (selfP_one (call := call) (vs := fr.vars) (name := e.name) (num := e.num) (r := rk) hk3)
            have hlen : e.kids.length = 1 := by
              have := hwf.bare
              rw [bareB_one hk3] at this
              simp at this; exact this.2
            have HLE := Lib.hid hlen
            have hl0 : (0 : Int) < (e.kids.length : Int) := by omega
            have hl1 : 0 < e.kids.length := by omega
            unfold xName at g1; unfold xCall at g2; unfold xOne at g3
            clear hk0 hk1 hk2 hk3 hwf hlen
            go_enter Tryz.func97, Tryz.ntmps97
            go_wp2_with (first
              | (go_at_call 42; (with_reducible refine HOV.out.mono ?_); rintro y w1 ⟨rfl, rfl⟩)
              | (go_at_call 107; (with_reducible refine HK.out.mono ?_); rintro y w2 ⟨A, c', l, v2, rfl, hAm, hl, hlv, hrow, hma2, hmv2⟩; have HAM := Lib.hid hAm; clear hAm; have hbk := (hmv2.kp _ HSZ.out HNE.out.1 HNE.out.2).trans HBK.out; obtain ⟨d0, d1, d2, d3⟩ := row4 hbk; have hf2 := HF1.out.mv HM1.out hmv2; obtain ⟨x0', x1', -, -⟩ := row4 hf2.blk; have HF2 := Lib.hid hf2; have HMA2 := Lib.hid hma2; have HMV2 := Lib.hid hmv2; have HRW := Lib.hid hrow; have HLL := Lib.hid hl; have HLV := Lib.hid hlv; clear hbk hl hlv hrow hma2 hmv2 hf2; have HD : Hid (∃ bA oA n0, A = some ⟨bA, oA, none⟩ ∧ w2.cell? ⟨bA, oA, none⟩ = some (.int .i64 n0) ∧ l = [n0]) := (one_row HRW.out (HLL.out.trans HLE.out)); obtain ⟨bA, oA, n0, rfl, hcA, hl2⟩ := HD.out; have HL2 := Lib.hid hl2; have HO : Hid (∀ w', Below base w w' → Calls Tryz.prog 108 #[.string (mkB e.name), .int .i64 n0] w' (Quiet (.tuple #[.int .i64 (valOf (oneV e.name n0)), errOf (oneV e.name n0) (esV (E 3))]) w')) := (fun w' hb => one_at (HE.out.keep hb).laid e.name n0); clear hl2 HD))
            have HB2 := Lib.hid ((HB0.out.mono hbl).trans HMV2.out.bel)
            go_quiet ((go_at_call 108; exact Calls.quiet_of (HO.out _ (below_drewN HB2.out _))))
            go_wp2_with fail
            go_ret
            rw [HEV.out]
            refine ⟨_, rfl, fun q => ?_, MvTo.pre hbl HB0.out (MvTo.drewN ⟨v2, ?_, HMV2.out⟩ _)⟩
            · rw [HS.out.1] at q
              rw [← HS.out.2 q, ← HLV.out q, HL2.out]; rfl
            · rw [HS.out.1]; exact HMA2.out
          · have hk4 : e.kind = xTwo := by
              have := hwf.bare
              by_cases h4 : e.kind = xTwo
              · exact h4
              · rw [bareB_none hk0 hk1 hk2 hk3 h4] at this; cases this
            have g1 := ekind_no (e := e) hk1
            have g2 := ekind_no (e := e) hk2
            have g3 := ekind_no (e := e) hk3
            have g4 := ekind_yes hk4
            have HS := Lib.hid (selfP_two (call := call) (vs := fr.vars) (name := e.name) (num := e.num) (r := rk) hk4)
            have hlen : e.kids.length = 2 := by
              have := hwf.bare
              rw [bareB_two hk4] at this
              simp at this; exact this.2
            have HLE := Lib.hid hlen
            have hl0 : (0 : Int) < (e.kids.length : Int) := by omega
            have hl1 : 0 < e.kids.length := by omega
            have hl3 : (1 : Int) < (e.kids.length : Int) := by omega
            have hl4 : 1 < e.kids.length := by omega
            unfold xName at g1; unfold xCall at g2; unfold xOne at g3; unfold xTwo at g4
            clear hk0 hk1 hk2 hk3 hk4 hwf hlen
            go_enter Tryz.func97, Tryz.ntmps97
            go_wp2_with (first
              | (go_at_call 42; (with_reducible refine HOV.out.mono ?_); rintro y w1 ⟨rfl, rfl⟩)
              | (go_at_call 107; (with_reducible refine HK.out.mono ?_); rintro y w2 ⟨A, c', l, v2, rfl, hAm, hl, hlv, hrow, hma2, hmv2⟩; have HAM := Lib.hid hAm; clear hAm; have hbk := (hmv2.kp _ HSZ.out HNE.out.1 HNE.out.2).trans HBK.out; obtain ⟨d0, d1, d2, d3⟩ := row4 hbk; have hf2 := HF1.out.mv HM1.out hmv2; obtain ⟨x0', x1', -, -⟩ := row4 hf2.blk; have HF2 := Lib.hid hf2; have HMA2 := Lib.hid hma2; have HMV2 := Lib.hid hmv2; have HRW := Lib.hid hrow; have HLL := Lib.hid hl; have HLV := Lib.hid hlv; clear hbk hl hlv hrow hma2 hmv2 hf2; have HD : Hid (∃ bA oA n0 n1, A = some ⟨bA, oA, none⟩ ∧ w2.cell? ⟨bA, oA, none⟩ = some (.int .i64 n0) ∧ w2.cell? ⟨bA, oA + 1, none⟩ = some (.int .i64 n1) ∧ l = [n0, n1]) := (two_row HRW.out (HLL.out.trans HLE.out)); obtain ⟨bA, oA, n0, n1, rfl, hcA, hcB, hl2⟩ := HD.out; have HL2 := Lib.hid hl2; have HO : Hid (∀ w', Below base w w' → Calls Tryz.prog 109 #[.string (mkB e.name), .int .i64 n0, .int .i64 n1] w' (Quiet (.tuple #[.int .i64 (valOf (doV e.name n0 n1)), errOf (doV e.name n0 n1) (esV (E 3))]) w')) := (fun w' hb => do_at (HE.out.keep hb).laid e.name n0 n1); clear hl2 HD))
            have HB2 := Lib.hid ((HB0.out.mono hbl).trans HMV2.out.bel)
            go_quiet ((go_at_call 109; exact Calls.quiet_of (HO.out _ (below_drewN HB2.out _))))
            go_wp2_with fail
            go_ret
            rw [HEV.out]
            refine ⟨_, rfl, fun q => ?_, MvTo.pre hbl HB0.out (MvTo.drewN ⟨v2, ?_, HMV2.out⟩ _)⟩
            · rw [HS.out.1] at q
              rw [← HS.out.2 q, ← HLV.out q, HL2.out]; rfl
            · rw [HS.out.1]; exact HMA2.out
  · rw [ho, if_pos rfl] at hev
    rw [ho] at HOV
    have HEV := Lib.hid hev
    have HM1 := Lib.hid hM1
    have HB0 := Lib.hid hb0
    clear hM1 hF1 hb0 hev hE hM hF hX hks hcl
    go_enter Tryz.func97, Tryz.ntmps97
    go_wp2_with (go_at_call 42; (with_reducible refine HOV.out.mono ?_); rintro y w1 ⟨rfl, rfl⟩)
    go_ret
    rw [HEV.out]
    exact ⟨0, rfl, fun _ => rfl, v, HM1.out, Mv.below hbl HB0.out⟩
end Go.Proofs.YtnpdjncgilekhaaGreatDoor

namespace Go.Proofs.YtnpdjncgilekhaaGreatDoor
open Go.RowKit

/-! frame.print, loop, stmt, block -/
section
variable (E : Nat → Addr) (fs : List PFun) (base m fb nf T : Nat) (F : Nm → Option Value)
/-- What a statement leaves. -/
def SPost (d x b : Nat) (L : List Nm) (s : FS) (v : Value) (w : World) : Ending → World → Prop := fun en w' => en = .returned (.tuple #[]) ∧ FrAt base m x b s.1 w' ∧ OnlyIn s.1.vars L ∧ MvTo base m fb nf T F d [m, x, b] s.2 v w w'
end
section
variable {base m fb nf T : Nat} {F : Nm → Option Value}
/-- Behind an append to what was printed, ahead of the store. -/
theorem print_old {d : Nat} {st : St} {v : Value} {w w4 : World} {ob : Obj} (h : MaAt base m fb nf T F d st v w) (hg : (w.alloc ob).grownBy w4 v.ownBlock) {k : Nat} (hk : k < w.heap.size) (hn : v.ownBlock ≠ some k) : w4.heap[k]? = w.heap[k]? := by
  rw [hg.block k (by simp; omega) (fun q => hn q.symm), old_block _ _ hk]
theorem print_facts {d x : Nat} {st : St} {v a1 a2 a3 : Value} {w w4 : World} {ob : Obj} {T' : TypeId} {fz : Nat × Nat} (h : MaAt base m fb nf T F d st v w) (hx : v.ownBlock ≠ some x ∧ x < w.heap.size) (hb : w.heap[x]? = some (.cells #[.pointer (some ⟨m, 0, none⟩), a1, a2, a3] T' fz)) (hg : (w.alloc ob).grownBy w4 v.ownBlock) :
    w4.cell? ⟨m, 3, none⟩ = some v ∧ w4.frozen? ⟨m, 3, none⟩ = false ∧ w4.cell? ⟨x, 0, none⟩ = some (.pointer (some ⟨m, 0, none⟩)) := by
  have hbm := (print_old h hg h.lt h.own_m).trans h.blk
  exact ⟨(row7 hbm).2.2.2.1, row_frozen hbm 3, (row4 ((print_old h hg hx.2 hx.1).trans hb)).1⟩
theorem print_put {d : Nat} {st : St} {v v' : Value} {w w4 : World} {ob : Obj} {n : Int} (h : MaAt base m fb nf T F d st v w) (hl : ¬ 1000 ≤ st.out.length) (hown : w4.ownsRow base 3 1 v' (st.out.length + 1) (intVs st.out ++ [.int .i64 n])) (hg : (w.alloc ob).grownBy w4 v.ownBlock)
    (hat : v'.ownBlock = v.ownBlock ∨ ∃ g, v'.ownBlock = some g ∧ w.heap.size ≤ g) : MvTo base m fb nf T F d [m] (printP n st) v w (w4.setCell ⟨m, 3, none⟩ v') := by
  have hp : printP n st = { st with out := st.out ++ [n] } := by unfold printP; rw [if_neg hl]
  rw [hp]
  have hm := print_old h hg h.lt h.own_m
  have hne : v'.ownBlock ≠ some m := by
    rcases hat with e | ⟨g, e, e2⟩
    · rw [e]; exact h.own_m
    · rw [e]; intro q; have := h.lt; have := Option.some.inj q; omega
  have hfn : v.ownBlock ≠ some fb := by
    obtain ⟨D, ⟨es, clock, h1, _⟩, _⟩ := h.funs
    exact own_other h.own h1 (fun cs e => by cases e)
  have hsz : w.heap.size ≤ w4.heap.size := by have := hg.size; simp at this; omega
  refine ⟨v', ⟨h.low, ?_, ?_, (h.funs.keep (print_old h hg h.funs.lt hfn)).keep (Below.heap_setCell _ _ _ _ h.fb_ne), h.ticks, by simp; omega, h.fbl⟩, ?_, ?_, ?_⟩
  · exact row_set (j := 3) (cs := maL fb T d st v) v' (hm.trans h.blk) (by unfold maL; simp)
  · rw [intVs_snoc, List.length_append]
    exact setRow_owns v' hown hne
  · refine Below.setCell (Below.grown ((Below.refl base w).alloc h.base_le ob) hg (by have := h.base_le; simp; omega) (fun k hk => (owns_lt h.own hk).1)) h.low _
  · intro k h1 h2 h3
    rw [Below.heap_setCell _ _ _ _ (fun e => h2 (by simp only at e; simp [e]))]
    exact print_old h hg h1 h3
  · rcases hat with e | ⟨g, e, e2⟩
    · exact .inl e
    · exact .inr fun k hk => by rw [e] at hk; have := Option.some.inj hk; omega
end
set_option maxHeartbeats 4000000 in
set_option maxRecDepth 100000 in
theorem print_any (base m fb nf T : Nat) (F : Nm → Option Value) (d x b : Nat) (fr : Fr) (st : St) (v : Value) (n : Int) (w : World) (hM : MaAt base m fb nf T F d st v w) (hF : FrAt base m x b fr w) (ho : st.over = false) :
    Calls Tryz.prog 98 #[.pointer (some ⟨x, 0, none⟩), .int .i64 n] w fun en w' => en = .returned (.tuple #[]) ∧ MvTo base m fb nf T F d [m] (printP n st) v w w' := by
  have HOV := Lib.hid (over_any hM)
  rw [ho] at HOV
  obtain ⟨x0, -, -, -⟩ := row4 hF.blk
  obtain ⟨c0, c1, c2, c3, c4, c5, c6⟩ := row7 hM.blk
  have z1 := row_frozen hM.blk 1
  have z3 := row_frozen hM.blk 3
  obtain ⟨A, c, rfl⟩ := owns_slice hM.own
  obtain ⟨i0, hi, hz0, hz1, hz2⟩ := info_parts intInfo
  have h1000 := hM.out
  have HM := Lib.hid hM
  have hlow := hM.low
  have hlt := hM.lt
  by_cases hl : 1000 ≤ st.out.length
  · have hq : ((st.out.length : Int) == 1000) = true := by simp; omega
    have HS : Hid (MaAt base m fb nf T F d (printP n st) (.slice A st.out.length c) (w.setCell ⟨m, 1, none⟩ (.string (mkB loudN)))) := show MaAt _ _ _ _ _ _ _ _ _ _ by
      unfold printP; rw [if_pos hl]; exact hM.store _ (by unfold maL; simp) rfl hM.ticks
    have HLO := Lib.hid hlow
    clear hM hF ho hl hlow hlt
    go_enter Tryz.func98, Tryz.ntmps98
    go_wp2_with (go_at_call 42; (with_reducible refine HOV.out.mono ?_); rintro y w1 ⟨rfl, rfl⟩)
    go_end0
    exact ⟨rfl, _, HS.out, Mv.store HLO.out (by simp)⟩
  · have hq : ((st.out.length : Int) == 1000) = false := by simp; omega
    have HL := Lib.hid hl
    have HNX : Hid (Value.ownBlock (.slice A st.out.length c) ≠ some x ∧ x < w.heap.size) := ⟨(hF.ne hM).2.2.2.1, hF.lt⟩
    have HBX := Lib.hid hF.blk
    have C3 := Lib.hid c3
    have X0 := Lib.hid x0
    have HOA : Hid ((w.drew.alloc (.cells #[.int .i64 n] 3)).ownsRow base 3 1 (.slice A st.out.length c) st.out.length (intVs st.out)) := World.ownsRow.alloc (w := w.drew) hM.own _
    have HNW : Hid (∀ j u, [Value.int .i64 n][j]? = some u → (w.drew.alloc (.cells #[.int .i64 n] 3)).cell? ((⟨w.heap.size, 0, none⟩ : Addr).add j) = some u) := cell_one_new w.drew _ _
    have HOC : Hid (∀ u ∈ [Value.int .i64 n], u.oneCell' = true) := fun u hu => by simp at hu; subst hu; rfl
    have ax0 : (w.alloc (.cells #[.int .i64 n] 3)).cell? ⟨x, 0, none⟩ = some (.pointer (some ⟨m, 0, none⟩)) := Keeps.alloc _ _ _ _ x0
    have ac3 : (w.alloc (.cells #[.int .i64 n] 3)).cell? ⟨m, 3, none⟩ = some (.slice A st.out.length c) := Keeps.alloc _ _ _ _ c3
    clear hM hF ho hl c0 c1 c2 c4 c5 c6 z1
    go_enter Tryz.func98, Tryz.ntmps98
    go_wp2_with (go_at_call 42; (with_reducible refine HOV.out.mono ?_); rintro y w1 ⟨rfl, rfl⟩)
    go_region_law (refine step_append_lies _ rfl _ _ 45 rfl base 3 i0 _ 1 8 Tryz.underlying45 hi hz0 hz1 hz2 rfl (by decide) _ st.out.length (intVs st.out) rfl HOA.out ⟨w.heap.size, 0, none⟩ 1 1 [.int .i64 n] rfl rfl HNW.out HOC.out (by decide) (by unfold maxLen; omega) (by omega) (by show base ≤ (w.drew.alloc _).heap.size; simp; omega) _ rfl ?_; intro g cap w4 hown hgrow hat hlt; have hgr : (w.alloc (.cells #[.int .i64 n] 3)).grownBy w4 (Value.ownBlock (.slice A st.out.length c)) := ⟨hgrow.os, hgrow.tape, hgrow.output, hgrow.size, hgrow.block⟩; obtain ⟨j3, k3, j0⟩ := print_facts HM.out HNX.out HBX.out hgr; have HOW := Lib.hid hown; have HGR := Lib.hid hgr; have HAT := Lib.hid hat; clear hown hgrow hat hgr)
    all_goals
      go_end0
      refine ⟨rfl, print_put HM.out HL.out HOW.out HGR.out ?_⟩
      rcases HAT.out with e | e
      · exact .inl e.symm
      · exact .inr ⟨g, rfl, by rw [e]; simp⟩
end Go.Proofs.YtnpdjncgilekhaaGreatDoor

namespace Go.Proofs.YtnpdjncgilekhaaGreatDoor
open Go.RowKit

section
variable (E : Nat → Addr) (fs : List PFun) (base m fb nf T : Nat) (F : Nm → Option Value)
def CStmtR (call : Caller) (d x b : Nat) (N : List Nm) (s : PStmt) : Prop := ∀ (fr : Fr) (st : St) (v : Value) (X : Option Addr) (xc : Nat) (H : Option Addr) (h : Nat) (L : Option Addr) (l : Nat) (w : World), OnlyIn fr.vars N → Ctx E fs F base w → MaAt base m fb nf T F d st v w → FrAt base m x b fr w →
  RdE w (fun k => k < base) s.e.kids X → RdS w (fun k => k < base) s.th H → RdS w (fun k => k < base) s.el L →
  Calls Tryz.prog 79 #[.pointer (some ⟨x, 0, none⟩), stmtV s X xc H h L l] w (SPost base m fb nf T F d x b N (stmtP call T s (fr, st)) v w)
def CBlockR (call : Caller) (d x b : Nat) (N : List Nm) (ss : List PStmt) : Prop := ∀ (fr : Fr) (st : St) (v : Value) (A : Option Addr) (c : Nat) (w : World), OnlyIn fr.vars N → Ctx E fs F base w → MaAt base m fb nf T F d st v w → FrAt base m x b fr w → RdS w (fun k => k < base) ss A →
  Calls Tryz.prog 60 #[.pointer (some ⟨x, 0, none⟩), .slice A ss.length c] w (SPost base m fb nf T F d x b N (blockP call T ss (fr, st)) v w)
end
theorem blockP_step (call : Caller) (T : Nat) {ss : List PStmt} {k : Nat} (h : k < ss.length) (s : FS) : blockP call T (ss.drop k) s = if stopP s then s else blockP call T (ss.drop (k + 1)) (stmtP call T ss[k] s) := by
  rw [List.drop_eq_getElem_cons h, blockP_cons]
theorem blockP_stop (call : Caller) (T : Nat) (ss : List PStmt) {s : FS} (h : stopP s = true) : blockP call T ss s = s := by
  cases ss with
  | nil => rw [blockP_nil]
  | cons x xs => rw [blockP_cons, if_pos h]
section
variable {base m fb nf T : Nat} {F : Nm → Option Value}
theorem FrAt.drop {x b : Nat} {fr : Fr} {w w' : World} (h : FrAt base m x b fr w) (hx : w'.heap[x]? = w.heap[x]?) (hb : w'.heap[b]? = w.heap[b]?) : FrAt base m x b fr w' := ⟨h.low, h.lowb, hx.trans h.blk, h.vars.keep hb⟩
end
set_option maxHeartbeats 4000000 in
set_option maxRecDepth 100000 in
theorem block_list (E : Nat → Addr) (fs : List PFun) (base m fb nf T : Nat) (F : Nm → Option Value) (call : Caller) (d x b : Nat) (N : List Nm) (ss : List PStmt) (hlen : ss.length ≤ 30) (hq : ∀ s ∈ ss, CStmtR E fs base m fb nf T F call d x b N s) : CBlockR E fs base m fb nf T F call d x b N ss := by
  intro fr st v A c w hN hE hM hF hr
  have HQ := Lib.hid hq
  have HR := Lib.hid hr
  have HE := Lib.hid hE
  have HM := Lib.hid hM
  have HF := Lib.hid hF
  clear hq hr hE hM hF
  go_enter Tryz.func60, Tryz.ntmps60
  go_wp2_with fail
  go_loopw [5, 8] (fun _ i wr => ∃ (k : Nat) (fk : Fr) (sk : St) (vk : Value), k ≤ ss.length ∧ i = .int .i64 k ∧ blockP call T ss (fr, st) = blockP call T (ss.drop k) (fk, sk) ∧ FrAt base m x b fk wr ∧ OnlyIn fk.vars N ∧ MaAt base m fb nf T F d sk vk wr ∧ Mv base [m, x, b] v vk w wr) (fun _ i _ => ss.length - (intOf i).toNat)
  case atStart => exact ⟨0, fr, st, v, Nat.zero_le _, rfl, rfl, HF.out, hN, HM.out, Mv.refl⟩
  case round =>
    obtain ⟨k, fk, sk, vk, hk, rfl, hI, hfr, hon, hma, hmv⟩ := hrel
    have HI := Lib.hid hI
    clear hI
    by_cases hlt : k < ss.length
    · obtain ⟨b', off, X, xc, H, h, L, l, rfl, -, hcells, hnum, hX, hT, hL⟩ := (HR.out.keep (keepsLow hmv.bel) (fun _ h => h)).at hlt
      obtain ⟨c0, c1, c2, c3, c4, c5, c6, c7⟩ := cells_stmt hcells
      have hlt' : (k : Int) < (ss.length : Int) := by omega
      have hst := blockP_step call T hlt (fk, sk)
      have hqs := HQ.out ss[k] (List.getElem_mem hlt)
      obtain ⟨s, hs⟩ : ∃ s, ss[k] = s := ⟨_, rfl⟩
      rw [hs] at hcells hnum hX hT hL c0 c1 c2 c3 c4 c5 c6 c7 hst hqs
      have hal0 : Below wr.heap.size wr (wr.alloc (stmtO s X xc H h L l)) := grow_alloc (grow_refl _) _
      have hbl := hma.base_le
      have hma1 := hma.below hal0
      have hfr1 := hfr.below hal0
      have hmv1 := hmv.trans (Mv.below (S := [m, x, b]) hbl hal0)
      have hcall := hqs fk sk vk X xc H h L l _ hon (HE.out.keep hmv1.bel) hma1 hfr1 (hX.keep (keepsLow (hal0.mono hbl)) (fun _ h => h)) (hT.keep (keepsLow (hal0.mono hbl)) (fun _ h => h)) (hL.keep (keepsLow (hal0.mono hbl)) (fun _ h => h))
      have hov := over_any hma1
      obtain ⟨y0, -, -, y3⟩ := row4 hfr1.blk
      unfold stmtV SPost at hcall
      unfold stmtO at hcall hma1 hfr1 hmv1 hov y0 y3
      obtain ⟨z, hz⟩ : ∃ z, stmtP call T s (fk, sk) = z := ⟨_, rfl⟩
      rw [hz] at hcall hst
      have HC := Lib.hid hcall
      have HMA1 := Lib.hid hma1
      have HFR1 := Lib.hid hfr1
      have HMV1 := Lib.hid hmv1
      clear hcall hcells hnum hX hT hL hqs hs hal0 hz hma1 hfr1 hmv1 hfr hma hmv
      cases ho : sk.over
      · rw [ho] at hov
        cases ha : fk.ans.isSome
        · rw [ha] at y3
          have hsp : stopP (fk, sk) = false := by unfold stopP; rw [ho, ha]; rfl
          rw [hsp, if_neg (by decide)] at hst
          have HST := Lib.hid hst
          have HOV := Lib.hid hov
          clear hst hov ho ha hsp
          go_wp2_with (first
            | (go_at_call 42; (with_reducible refine HOV.out.mono ?_); rintro y w1 ⟨rfl, rfl⟩)
            | (go_at_call 79; (with_reducible refine HC.out.mono ?_); rintro y w1 ⟨rfl, hf2, ho2, v2, hma2, hmv2⟩; have HF2 := Lib.hid hf2; have HMA2 := Lib.hid hma2; have HMV2 := Lib.hid hmv2; clear hf2 hma2 hmv2))
          go_roundw
          case rel => exact ⟨k + 1, z.1, z.2, v2, by omega, by go_num, HI.out.trans HST.out, HF2.out, ho2, HMA2.out, HMV1.out.trans HMV2.out⟩
          case measure => simp [intOf]; omega
        · rw [ha] at y3
          have hsp : stopP (fk, sk) = true := by unfold stopP; rw [ho, ha]; rfl
          have HST := Lib.hid (HI.out.trans (blockP_stop call T (ss.drop k) hsp))
          have HOV := Lib.hid hov
          clear hst hov ho ha hsp
          go_wp2_with (go_at_call 42; (with_reducible refine HOV.out.mono ?_); rintro y w1 ⟨rfl, rfl⟩)
          refine bodyPost_ret (results_none rfl _ _ _) rfl ?_
          unfold SPost
          rw [HST.out]
          exact ⟨rfl, HFR1.out, hon, vk, HMA1.out, HMV1.out⟩
      · rw [ho] at hov
        have hsp : stopP (fk, sk) = true := by unfold stopP; rw [ho]; rfl
        have HST := Lib.hid (HI.out.trans (blockP_stop call T (ss.drop k) hsp))
        have HOV := Lib.hid hov
        clear hst hov ho hsp
        go_wp2_with (go_at_call 42; (with_reducible refine HOV.out.mono ?_); rintro y w1 ⟨rfl, rfl⟩)
        refine bodyPost_ret (results_none rfl _ _ _) rfl ?_
        unfold SPost
        rw [HST.out]
        exact ⟨rfl, HFR1.out, hon, vk, HMA1.out, HMV1.out⟩
    · have hk' : k = ss.length := by omega
      subst hk'
      have HF2 : Hid (blockP call T ss (fr, st) = (fk, sk)) := show _ = _ by rw [HI.out, List.drop_length, blockP_nil]
      have HFR1 := Lib.hid hfr
      have HMA1 := Lib.hid hma
      have HMV1 := Lib.hid hmv
      clear hfr hma hmv
      go_wp2_with fail
      go_end0
      unfold SPost
      rw [HF2.out]
      exact ⟨rfl, HFR1.out, hon, vk, HMA1.out, HMV1.out⟩
/-- What is left, by the machine's cell. -/
def leftOf (m : Nat) (w : World) : Nat := match w.cell? ⟨m, 5, none⟩ with
  | some v => (intOf v).toNat
  | none => 0
theorem left_ma {base m fb nf T d : Nat} {F : Nm → Option Value} {st : St} {v : Value} {w : World} (h : MaAt base m fb nf T F d st v w) : leftOf m w = T - st.ticks := by
  unfold leftOf
  rw [(row7 h.blk).2.2.2.2.2.1]
  show (((T - st.ticks : Nat) : Int)).toNat = _
  exact Int.toNat_natCast _
section
variable {T : Nat} {cond : FS → Int × St} {body : FS → FS}
theorem loopP_stop {n : Nat} {s : FS} (h : stopP s = true) : loopP T cond body n s = s := by
  cases n with
  | zero => unfold loopP; rw [if_pos h]
  | succ n => unfold loopP; rw [if_pos h]
theorem loopP_tired {n : Nat} {s : FS} (h : stopP s = false) (ht : ¬ s.2.ticks < T) : loopP T cond body n s = (s.1, tickP T s.2) := by
  have ho : (tickP T s.2).over = true := by unfold tickP; rw [if_neg ht]; rfl
  cases n with
  | zero => unfold loopP; rw [if_neg (by rw [h]; decide)]
  | succ n => unfold loopP; rw [if_neg (by rw [h]; decide), if_pos ho]
theorem tick_over {s : St} (h : s.over = false) (ht : s.ticks < T) : (tickP T s).over = false := by unfold tickP; rw [if_pos ht]; exact h
theorem stop_over {s : FS} (h : stopP s = false) : s.2.over = false := by
  unfold stopP at h
  cases ho : s.2.over
  · rfl
  · rw [ho] at h; cases h
theorem loopP_end {n : Nat} {s : FS} (h : stopP s = false) (ht : s.2.ticks < T) (hc : (cond (s.1, tickP T s.2)).2.over = true ∨ (cond (s.1, tickP T s.2)).1 = 0) : loopP T cond body (n + 1) s = (s.1, (cond (s.1, tickP T s.2)).2) := by
  unfold loopP
  rw [if_neg (by rw [h]; decide), if_neg (by rw [tick_over (stop_over h) ht]; decide), if_pos]
  rcases hc with hc | hc
  · rw [hc]; rfl
  · rw [hc]; simp
theorem loopP_more {n : Nat} {s : FS} (h : stopP s = false) (ht : s.2.ticks < T) (hc : (cond (s.1, tickP T s.2)).2.over = false) (h0 : (cond (s.1, tickP T s.2)).1 ≠ 0) : loopP T cond body (n + 1) s = loopP T cond body n (body (s.1, (cond (s.1, tickP T s.2)).2)) := by
  rw [loopP, if_neg (by rw [h]; decide), if_neg (by rw [tick_over (stop_over h) ht]; decide), if_neg]
  rw [hc]
  simpa using h0
end
def CLoopR (E : Nat → Addr) (fs : List PFun) (base m fb nf T : Nat) (F : Nm → Option Value) (call : Caller) (d x b : Nat) (N : List Nm) (s : PStmt) : Prop := ∀ (fr : Fr) (st : St) (v : Value) (X : Option Addr) (xc : Nat) (H : Option Addr) (h : Nat) (L : Option Addr) (l : Nat) (w : World), OnlyIn fr.vars N → Ctx E fs F base w → MaAt base m fb nf T F d st v w → FrAt base m x b fr w →
  RdE w (fun k => k < base) s.e.kids X → RdS w (fun k => k < base) s.th H →
  Calls Tryz.prog 96 #[.pointer (some ⟨x, 0, none⟩), stmtV s X xc H h L l] w (SPost base m fb nf T F d x b N (loopP T (fun s' => evalP call s'.1.vars s.e s'.2) (fun s' => blockP call T s.th s') (T - st.ticks) (fr, st)) v w)
set_option maxHeartbeats 4000000 in
set_option maxRecDepth 100000 in
theorem loop_any (E : Nat → Addr) (fs : List PFun) (base m fb nf T : Nat) (F : Nm → Option Value) (hT : T ≤ 5000) (call : Caller) (hg : GoC T call) (d x b : Nat) (N : List Nm) (s : PStmt) (hqe : CExprR E fs base m fb nf T F call d x b s.e) (hqb : CBlockR E fs base m fb nf T F call d x b N s.th) : CLoopR E fs base m fb nf T F call d x b N s := by
  intro fr st v X xc H h L l w hN hE hM hF hX hH
  have hb0 : Below w.heap.size w (w.alloc (stmtO s X xc H h L l)) := grow_alloc (grow_refl _) _
  have hbl := hM.base_le
  have HBK := Lib.hid (heap_alloc_new w (stmtO s X xc H h L l))
  have HM1 := Lib.hid (hM.below hb0)
  have HF1 := Lib.hid (hF.below hb0)
  have HB0 := Lib.hid hb0
  have HE := Lib.hid hE
  have HX := Lib.hid hX
  have HH := Lib.hid hH
  have HQE := Lib.hid hqe
  have HQB := Lib.hid hqb
  have HG := Lib.hid hg
  have HMV0 := Lib.hid (Mv.below (S := [m, x, b]) (v := v) hbl hb0)
  have hsz0 : w.heap.size < (w.alloc (stmtO s X xc H h L l)).heap.size := by simp
  have HSZ := Lib.hid hsz0
  have HNE : Hid (∀ vk w', Mv base [m, x, b] v vk (w.alloc (stmtO s X xc H h L l)) w' → w'.heap[w.heap.size]? = some (stmtO s X xc H h L l)) := fun vk w' hm => by
    refine (hm.kp _ hsz0 ?_ (fun q => by have := (owns_lt hM.own q).2; omega)).trans HBK.out
    have h1 := hM.lt
    have h2 := hF.lt
    have h3 := hF.vars.lt
    simp only [List.mem_cons, List.not_mem_nil, or_false, not_or]
    exact ⟨by omega, by omega, by omega⟩
  obtain ⟨cond, hcond⟩ : ∃ c : FS → Int × St, c = fun s' => evalP call s'.1.vars s.e s'.2 := ⟨_, rfl⟩
  obtain ⟨body, hbody⟩ : ∃ c : FS → FS, c = fun s' => blockP call T s.th s' := ⟨_, rfl⟩
  have HCO := Lib.hid hcond
  have HBO := Lib.hid hbody
  rw [← hcond, ← hbody]
  clear hcond hbody hE hM hF hX hH hqe hqb hg hb0 hsz0
  unfold stmtV
  unfold stmtO at *
  go_enter Tryz.func96, Tryz.ntmps96
  go_wp2_with fail
  go_loopw [] (fun wr => ∃ (n : Nat) (fk : Fr) (sk : St) (vk : Value), T - sk.ticks ≤ n ∧ loopP T cond body (T - st.ticks) (fr, st) = loopP T cond body n (fk, sk) ∧ FrAt base m x b fk wr ∧ OnlyIn fk.vars N ∧ MaAt base m fb nf T F d sk vk wr ∧ Mv base [m, x, b] v vk (w.alloc (.cells #[.string (mkB s.kind), .string (mkB s.name), .string (mkB s.e.kind), .int .i64 s.e.num, .string (mkB s.e.name), .slice X s.e.kids.length xc, .slice H s.th.length h, .slice L s.el.length l] 58)) wr) (fun wr => leftOf m wr)
  case atStart => exact ⟨T - st.ticks, fr, st, v, Nat.le_refl _, rfl, HF1.out, hN, HM1.out, Mv.refl⟩
  case round =>
    obtain ⟨n, fk, sk, vk, hn, hI, hfr, hon, hma, hmv⟩ := hrel
    have hbox := HNE.out vk wr hmv
    obtain ⟨d0, d1, d2, d3, d4, d5, d6, d7⟩ := row8 hbox
    obtain ⟨y0, -, -, y3⟩ := row4 hfr.blk
    have hov := over_any hma
    have hleft := left_ma hma
    have hlowT : sk.ticks ≤ T := hma.ticks
    cases ho : sk.over
    · rw [ho] at hov
      cases ha : fk.ans.isSome
      · rw [ha] at y3
        have hsp : stopP (fk, sk) = false := by unfold stopP; rw [ho, ha]; rfl
        have htk := tick_any hma hT
        by_cases ht : sk.ticks < T
        · rw [decide_eq_true ht] at htk
          have hn1 : 1 ≤ n := by omega
          have HTK := Lib.hid htk
          have HOV := Lib.hid hov
          have HFR := Lib.hid hfr
          have HMA := Lib.hid hma
          have HMV := Lib.hid hmv
          have HI := Lib.hid hI
          have HSP := Lib.hid hsp
          have HHT := Lib.hid ht
          have HLE := Lib.hid hleft
          have HHN := Lib.hid (And.intro hn hn1)
          have HOK := Lib.hid ho
          clear htk hov hfr hma hmv hI hsp ht hleft hn hn1 hbox ho ha hlowT
          go_wp2_with (first
            | (go_at_call 42; (with_reducible refine HOV.out.mono ?_); rintro y w1 ⟨rfl, rfl⟩)
            | (go_at_call 59; (with_reducible refine HTK.out.mono ?_); rintro y w2 ⟨rfl, hma2, hmv2⟩; have hmv02 := HMV.out.trans (hmv2.wide (by simp)); have hfr2 := HFR.out.mv HMA.out hmv2; obtain ⟨e0, e1, e2, e3, e4, e5, e6, e7⟩ := row8 (HNE.out _ _ hmv02); obtain ⟨z0, -, -, z3⟩ := row4 hfr2.blk; have HEX := Lib.hid (HQE.out fk (tickP T sk) vk X xc w2 (HE.out.keep ((HB0.out.mono hbl).trans hmv02.bel)) hma2 hfr2 (HX.out.keep (keepsLow ((HB0.out.mono hbl).trans hmv02.bel)) (fun _ h => h))); have HMA2 := Lib.hid hma2; have HMV2 := Lib.hid hmv2; have HMV02 := Lib.hid hmv02; have HFR2 := Lib.hid hfr2; clear hma2 hmv2 hmv02 hfr2))
          obtain ⟨r, hr⟩ : ∃ r, evalP call fk.vars s.e (tickP T sk) = r := ⟨_, rfl⟩
          have hex := HEX.out
          unfold EPost exprV at hex
          rw [hr] at hex
          have HR := Lib.hid hr
          clear hr HEX
          refine hex.mono ?_
          rintro y w3 ⟨n3, rfl, hn3, v3, hma3, hmv3⟩
          clear hex
          have hmv03 := HMV02.out.trans (hmv3.wide (by simp))
          have hfr3 := HFR2.out.mv HMA2.out hmv3
          obtain ⟨f0, f1, f2, f3, f4, f5, f6, f7⟩ := row8 (HNE.out _ _ hmv03)
          obtain ⟨x0, -, -, x3⟩ := row4 hfr3.blk
          have hbk := HQB.out fk r.2 v3 H h w3 hon (HE.out.keep ((HB0.out.mono hbl).trans hmv03.bel)) hma3 hfr3 (HH.out.keep (keepsLow ((HB0.out.mono hbl).trans hmv03.bel)) (fun _ h => h))
          have HN3 := Lib.hid hn3
          have HMA3 := Lib.hid hma3
          have HMV03 := Lib.hid hmv03
          have HFR3 := Lib.hid hfr3
          have HBK2 := Lib.hid hbk
          clear hn3 hma3 hmv3 hmv03 hfr3 hbk
          obtain ⟨n', rfl⟩ : ∃ n', n = n' + 1 := ⟨n - 1, by have := HHN.out.2; omega⟩
          have HCR : Hid (cond (fk, tickP T sk) = r) := show _ = _ by rw [HCO.out]; exact HR.out
          by_cases h0 : n3 = 0
          · subst h0
            have HRES : Hid (loopP T cond body (T - st.ticks) (fr, st) = (fk, r.2)) := show _ = _ by
              have := loopP_end (n := n') (cond := cond) (body := body) HSP.out HHT.out (by
                rw [HCR.out]
                cases q : r.2.over
                · exact .inr (HN3.out q).symm
                · exact .inl rfl)
              rw [HCR.out] at this
              exact HI.out.trans this
            go_wp2_with fail
            go_end0
            unfold SPost
            rw [HRES.out]
            exact ⟨rfl, HFR3.out, hon, v3, HMA3.out, HMV0.out.trans HMV03.out⟩
          · have hz : (n3 != 0) = true := by simpa using h0
            have HRES : Hid (loopP T cond body (T - st.ticks) (fr, st) = loopP T cond body n' (blockP call T s.th (fk, r.2))) := show _ = _ by
              have hb2 : body (fk, r.2) = blockP call T s.th (fk, r.2) := by rw [HBO.out]
              rw [← hb2]
              refine HI.out.trans ?_
              cases q : r.2.over
              · have := loopP_more (n := n') (cond := cond) (body := body) HSP.out HHT.out (by rw [HCR.out]; exact q) (by rw [HCR.out, ← HN3.out q]; exact h0)
                rw [HCR.out] at this
                exact this
              · have h1 := loopP_end (n := n') (cond := cond) (body := body) HSP.out HHT.out (by rw [HCR.out]; exact .inl q)
                rw [HCR.out] at h1
                have hs2 : stopP (fk, r.2) = true := by unfold stopP; rw [q]; rfl
                rw [hb2, blockP_stop call T s.th hs2, loopP_stop hs2]
                exact h1
            have htk : sk.ticks + 1 ≤ (blockP call T s.th (fk, r.2)).2.ticks := by
              have h1 := (go_eval HG.out fk.vars s.e (tickP T sk)).tick
              have h2 := (go_block HG.out s.th (fk, r.2)).tick
              rw [HR.out] at h1
              have h3 : (tickP T sk).ticks = sk.ticks + 1 := by unfold tickP; rw [if_pos HHT.out]
              rw [h3] at h1
              exact Nat.le_trans h1 h2
            have HTI := Lib.hid htk
            obtain ⟨z, hz2⟩ : ∃ z, blockP call T s.th (fk, r.2) = z := ⟨_, rfl⟩
            have hbk2 := HBK2.out
            unfold SPost at hbk2
            rw [hz2] at hbk2 HRES HTI
            have HBK3 := Lib.hid hbk2
            clear hz2 hbk2 HBK2 htk h0
            go_wp2_with (go_at_call 60; (with_reducible refine HBK3.out.mono ?_); rintro y w4 ⟨rfl, hf4, ho4, v4, hma4, hmv4⟩; have HF4 := Lib.hid hf4; have HMA4 := Lib.hid hma4; have HMV4 := Lib.hid hmv4; clear hf4 hma4 hmv4)
            go_roundw
            case rel => exact ⟨n', z.1, z.2, v4, by have := HHN.out.1; have := HTI.out; omega, HRES.out, HF4.out, ho4, HMA4.out, HMV03.out.trans HMV4.out⟩
            case measure =>
              have h1 := HTI.out
              have h2 := HHT.out
              show leftOf m _ < leftOf m _
              rw [HLE.out, left_ma HMA4.out]
              omega
        · rw [decide_eq_false ht] at htk
          have hres := loopP_tired (n := n) (cond := cond) (body := body) hsp ht
          have HRES := Lib.hid (hI.trans hres)
          have HTK := Lib.hid htk
          have HOV := Lib.hid hov
          have HFR := Lib.hid hfr
          have HMA := Lib.hid hma
          have HMV := Lib.hid hmv
          clear htk hov hfr hma hmv hI hsp ht hleft hn hbox ho ha hlowT hres
          go_wp2_with (first
            | (go_at_call 42; (with_reducible refine HOV.out.mono ?_); rintro y w1 ⟨rfl, rfl⟩)
            | (go_at_call 59; (with_reducible refine HTK.out.mono ?_); rintro y w2 ⟨rfl, hma2, hmv2⟩; have HMA2 := Lib.hid hma2; have HMV2 := Lib.hid hmv2; clear hma2 hmv2))
          go_end0
          unfold SPost
          rw [HRES.out]
          refine ⟨rfl, HFR.out.mv HMA.out HMV2.out, hon, vk, HMA2.out, HMV0.out.trans (HMV.out.trans (HMV2.out.wide (by simp)))⟩
      · rw [ha] at y3
        have hsp : stopP (fk, sk) = true := by unfold stopP; rw [ho, ha]; rfl
        have HRES := Lib.hid (hI.trans (loopP_stop hsp))
        have HOV := Lib.hid hov
        have HFR := Lib.hid hfr
        have HMA := Lib.hid hma
        have HMV := Lib.hid hmv
        clear hov hfr hma hmv hI hsp hleft hn hbox ho ha hlowT
        go_wp2_with (go_at_call 42; (with_reducible refine HOV.out.mono ?_); rintro y w1 ⟨rfl, rfl⟩)
        go_end0
        unfold SPost
        rw [HRES.out]
        exact ⟨rfl, HFR.out, hon, vk, HMA.out, HMV0.out.trans HMV.out⟩
    · rw [ho] at hov
      have hsp : stopP (fk, sk) = true := by unfold stopP; rw [ho]; rfl
      have HRES := Lib.hid (hI.trans (loopP_stop hsp))
      have HOV := Lib.hid hov
      have HFR := Lib.hid hfr
      have HMA := Lib.hid hma
      have HMV := Lib.hid hmv
      clear hov hfr hma hmv hI hsp hleft hn hbox ho hlowT
      go_wp2_with (go_at_call 42; (with_reducible refine HOV.out.mono ?_); rintro y w1 ⟨rfl, rfl⟩)
      go_end0
      unfold SPost
      rw [HRES.out]
      exact ⟨rfl, HFR.out, hon, vk, HMA.out, HMV0.out.trans HMV.out⟩
end Go.Proofs.YtnpdjncgilekhaaGreatDoor

namespace Go.Proofs.YtnpdjncgilekhaaGreatDoor
open Go.RowKit

/-! frame.stmt -/
theorem row8c {w : World} {q : Nat} {s : PStmt} {X H L : Option Addr} {xc h l : Nat} (hb : w.heap[q]? = some (stmtO s X xc H h L l)) :
    w.cell? ⟨q, 0, none⟩ = some (.string (mkB s.kind)) ∧ w.cell? ⟨q, 1, none⟩ = some (.string (mkB s.name)) ∧ w.cell? ⟨q, 2, none⟩ = some (.string (mkB s.e.kind)) ∧ w.cell? ⟨q, 3, none⟩ = some (.int .i64 s.e.num) ∧ w.cell? ⟨q, 4, none⟩ = some (.string (mkB s.e.name)) ∧
      w.cell? ⟨q, 5, none⟩ = some (.slice X s.e.kids.length xc) ∧ w.cell? ⟨q, 6, none⟩ = some (.slice H s.th.length h) ∧ w.cell? ⟨q, 7, none⟩ = some (.slice L s.el.length l) := by
  unfold stmtO at hb; exact row8 hb
set_option maxHeartbeats 4000000 in
set_option maxRecDepth 100000 in
theorem stmt_while (E : Nat → Addr) (fs : List PFun) (base m fb nf T : Nat) (F : Nm → Option Value) (call : Caller) (d x b : Nat) (N : List Nm) (s : PStmt) (hk : s.kind = sWhile) (hql : CLoopR E fs base m fb nf T F call d x b N s) : CStmtR E fs base m fb nf T F call d x b N s := by
  intro fr st v X xc H h L l w hN hE hM hF hX hH hL
  have hb0 : Below w.heap.size w (w.alloc (stmtO s X xc H h L l)) := grow_alloc (grow_refl _) _
  have hbl := hM.base_le
  have hmv0 := Mv.below (S := [m, x, b]) (v := v) hbl hb0
  have hcl := hql fr st v X xc H h L l _ hN (hE.keep (hb0.mono hbl)) (hM.below hb0) (hF.below hb0) (hX.keep (keepsLow (hb0.mono hbl)) (fun _ h => h)) (hH.keep (keepsLow (hb0.mono hbl)) (fun _ h => h))
  have hst : stmtP call T s (fr, st) = loopP T (fun s' => evalP call s'.1.vars s.e s'.2) (fun s' => blockP call T s.th s') (T - st.ticks) (fr, st) := by rw [stmtP_eq, if_pos hk]
  rw [← hst] at hcl
  obtain ⟨z, hz⟩ : ∃ z, stmtP call T s (fr, st) = z := ⟨_, rfl⟩
  rw [hz] at hcl ⊢
  have k0 := kind_yes hk
  unfold sWhile at k0
  unfold SPost at hcl
  have HC := Lib.hid hcl
  have HMV := Lib.hid hmv0
  clear hcl hst hz hk hmv0 hN hE hM hF hX hH hL hql hb0
  unfold stmtV at *
  unfold stmtO at *
  go_enter Tryz.func79, Tryz.ntmps79
  go_wp2_with (go_at_call 96; (with_reducible refine HC.out.mono ?_); rintro y w1 ⟨rfl, hf, ho, v1, hma1, hmv1⟩; have HF := Lib.hid hf; have HO := Lib.hid ho; have HMA1 := Lib.hid hma1; have HMV1 := Lib.hid hmv1; clear hf ho hma1 hmv1)
  refine bodyPost_ret (results_none rfl _ _ _) rfl ?_
  exact ⟨rfl, HF.out, HO.out, v1, HMA1.out, HMV.out.trans HMV1.out⟩
section
variable {base m fb nf T : Nat} {F : Nm → Option Value}
theorem ret_fin {d x b : Nat} {fr : Fr} {st : St} {v : Value} {w : World} {n : Int} (hM : MaAt base m fb nf T F d st v w) (hF : FrAt base m x b fr w) :
    FrAt base m x b ⟨fr.vars, some n⟩ ((w.setCell ⟨x, 2, none⟩ (.int .i64 n)).setCell ⟨x, 3, none⟩ (.bool true)) ∧ MaAt base m fb nf T F d st v ((w.setCell ⟨x, 2, none⟩ (.int .i64 n)).setCell ⟨x, 3, none⟩ (.bool true)) ∧ Mv base [m, x, b] v v w ((w.setCell ⟨x, 2, none⟩ (.int .i64 n)).setCell ⟨x, 3, none⟩ (.bool true)) := by
  obtain ⟨n1, n2, n3, n4, n5⟩ := hF.ne hM
  have hfx : fb ≠ x := by
    obtain ⟨D, ⟨es, clock, h1, _⟩, _⟩ := hM.funs
    intro e; rw [e, hF.blk] at h1; cases h1
  have far : ∀ k, k ≠ x → ((w.setCell ⟨x, 2, none⟩ (.int .i64 n)).setCell ⟨x, 3, none⟩ (.bool true)).heap[k]? = w.heap[k]? := fun k hk => (Below.heap_setCell _ _ _ _ hk).trans (Below.heap_setCell _ _ _ _ hk)
  refine ⟨⟨hF.low, hF.lowb, ?_, hF.vars.keep (far b (fun e => n3 e.symm))⟩, hM.same (far m (fun e => n1 e.symm)) (far fb hfx) (fun k hk => far k (fun e => n4 (by rw [hk, e]))), (Mv.store hF.low (by simp)).trans (Mv.store hF.low (by simp))⟩
  exact row_set (j := 3) _ (row_set (j := 2) (.int .i64 n) hF.blk rfl) (by simp)
theorem put_fin {d x b : Nat} {fr : Fr} {st : St} {v : Value} {w w4 : World} {vs' : Vs} (hM : MaAt base m fb nf T F d st v w) (hF : FrAt base m x b fr w) (hg : w.drew.grownBy w4 (some b)) (hv : VarAt w4 b vs') :
    FrAt base m x b ⟨vs', fr.ans⟩ w4 ∧ MaAt base m fb nf T F d st v w4 ∧ Mv base [m, x, b] v v w w4 := by
  obtain ⟨n1, n2, n3, n4, n5⟩ := hF.ne hM
  have hfb : fb ≠ b := by have := hM.fbl; have := hF.lowb; omega
  have far : ∀ k, k < w.heap.size → k ≠ b → w4.heap[k]? = w.heap[k]? := fun k hk hn => hg.block k hk (fun e => hn (Option.some.inj e))
  refine ⟨⟨hF.low, hF.lowb, (far x hF.lt n3).trans hF.blk, hv⟩, hM.same (far m hM.lt (fun e => n2 e.symm)) (far fb hM.funs.lt hfb) (fun k hk => far k (owns_lt hM.own hk).2 (fun e => n5 (by rw [hk, e]))), Below.grown ((Below.refl base w).drew) hg hM.base_le (fun k hk => by have := Option.some.inj hk; have := hF.lowb; omega), fun k h1 h2 h3 => far k h1 (fun e => h2 (by simp [e])), .inl rfl⟩
end
set_option maxHeartbeats 4000000 in
set_option maxRecDepth 100000 in
theorem stmt_over (E : Nat → Addr) (fs : List PFun) (base m fb nf T : Nat) (F : Nm → Option Value) (call : Caller) (hg : GoC T call) (t : Tab) (d x b : Nat) (N : List Nm) (s : PStmt) (hwf : WfS t N s) (hN12 : N.length ≤ 12) (hqe : CExprR E fs base m fb nf T F call d x b s.e) (hqt : CBlockR E fs base m fb nf T F call d x b N s.th) (hql : CBlockR E fs base m fb nf T F call d x b N s.el)
    (hw : s.kind ≠ sWhile)
    (fr : Fr) (st : St) (v : Value) (X : Option Addr) (xc : Nat) (H : Option Addr) (h : Nat) (L : Option Addr) (l : Nat) (w : World) (hN : OnlyIn fr.vars N) (hE : Ctx E fs F base w) (hM : MaAt base m fb nf T F d st v w) (hF : FrAt base m x b fr w) (hX : RdE w (fun k => k < base) s.e.kids X) (hH : RdS w (fun k => k < base) s.th H) (hL : RdS w (fun k => k < base) s.el L) (hro : (evalP call fr.vars s.e st).2.over = true) :
    Calls Tryz.prog 79 #[.pointer (some ⟨x, 0, none⟩), stmtV s X xc H h L l] w (SPost base m fb nf T F d x b N (stmtP call T s (fr, st)) v w) := by
  have hb0 : Below w.heap.size w (w.alloc (stmtO s X xc H h L l)) := grow_alloc (grow_refl _) _
  have hbl := hM.base_le
  have hex := hqe fr st v X xc _ (hE.keep (hb0.mono hbl)) (hM.below hb0) (hF.below hb0) (hX.keep (keepsLow (hb0.mono hbl)) (fun _ h => h))
  obtain ⟨r, hr⟩ : ∃ r, evalP call fr.vars s.e st = r := ⟨_, rfl⟩
  have HST : Hid (stmtP call T s (fr, st) = (fr, r.2)) := show _ = _ by rw [stmtP_eq, if_neg hw]; simp only [hr]; rw [if_pos (by rw [← hr]; exact hro)]
  rw [hr] at hro
  unfold EPost exprV at hex
  rw [hr] at hex
  have HBK := Lib.hid (heap_alloc_new w (stmtO s X xc H h L l))
  have HNE : Hid (∀ vk w', Mv base [m] v vk (w.alloc (stmtO s X xc H h L l)) w' → w'.heap[w.heap.size]? = some (stmtO s X xc H h L l)) := fun vk w' hm => by
    refine (hm.kp _ (by simp) ?_ (fun q => by have := (owns_lt hM.own q).2; omega)).trans HBK.out
    have h1 := hM.lt
    simp only [List.mem_singleton]
    omega
  have HEX := Lib.hid hex
  have HM1 := Lib.hid (hM.below hb0)
  have HF1 := Lib.hid (hF.below hb0)
  have HB0 := Lib.hid hb0
  have HMV0 := Lib.hid (Mv.below (S := [m, x, b]) (v := v) hbl hb0)
  have HE := Lib.hid hE
  have HH := Lib.hid hH
  have HL := Lib.hid hL
  have HQT := Lib.hid hqt
  have HQL := Lib.hid hql
  have HN := Lib.hid hN
  have HWF := Lib.hid hwf
  have gw := kind_no hw
  unfold sWhile at gw

  clear hex hr hqe hqt hql hN hE hM hF hX hH hL hw hb0 hwf hg
  unfold stmtV
  unfold stmtO at *
  go_enter Tryz.func79, Tryz.ntmps79
  go_wp2_with (first
    | (go_at_call 97; (with_reducible refine HEX.out.mono ?_); rintro y w2 ⟨n, rfl, hn, v2, hma2, hmv2⟩; have hfr2 := HF1.out.mv HM1.out hmv2; obtain ⟨e0, e1, e2, e3, e4, e5, e6, e7⟩ := row8 (HNE.out _ _ hmv2); obtain ⟨z0, z1, z2, z3⟩ := row4 hfr2.blk; have hov := over_any hma2; rw [hro] at hov; have HOV := Lib.hid hov; have HFR2 := Lib.hid hfr2; have HMA2 := Lib.hid hma2; have HMV2 := Lib.hid hmv2; clear hn hma2 hmv2 hfr2 hov)
    | (go_at_call 42; (with_reducible refine HOV.out.mono ?_); rintro y w3 ⟨rfl, rfl⟩))
  refine bodyPost_ret (results_none rfl _ _ _) rfl ?_
  unfold SPost
  rw [HST.out]
  exact ⟨rfl, HFR2.out, HN.out, v2, HMA2.out, HMV0.out.trans (HMV2.out.wide (by simp))⟩
set_option maxHeartbeats 4000000 in
set_option maxRecDepth 100000 in
theorem stmt_put (E : Nat → Addr) (fs : List PFun) (base m fb nf T : Nat) (F : Nm → Option Value) (call : Caller) (hg : GoC T call) (t : Tab) (d x b : Nat) (N : List Nm) (s : PStmt) (hwf : WfS t N s) (hN12 : N.length ≤ 12) (hqe : CExprR E fs base m fb nf T F call d x b s.e) (hqt : CBlockR E fs base m fb nf T F call d x b N s.th) (hql : CBlockR E fs base m fb nf T F call d x b N s.el)
    (hw : s.kind ≠ sWhile) (hk : s.kind = sVar ∨ s.kind = sSet)
    (fr : Fr) (st : St) (v : Value) (X : Option Addr) (xc : Nat) (H : Option Addr) (h : Nat) (L : Option Addr) (l : Nat) (w : World) (hN : OnlyIn fr.vars N) (hE : Ctx E fs F base w) (hM : MaAt base m fb nf T F d st v w) (hF : FrAt base m x b fr w) (hX : RdE w (fun k => k < base) s.e.kids X) (hH : RdS w (fun k => k < base) s.th H) (hL : RdS w (fun k => k < base) s.el L) (hro : (evalP call fr.vars s.e st).2.over = false) :
    Calls Tryz.prog 79 #[.pointer (some ⟨x, 0, none⟩), stmtV s X xc H h L l] w (SPost base m fb nf T F d x b N (stmtP call T s (fr, st)) v w) := by
  have hb0 : Below w.heap.size w (w.alloc (stmtO s X xc H h L l)) := grow_alloc (grow_refl _) _
  have hbl := hM.base_le
  have hex := hqe fr st v X xc _ (hE.keep (hb0.mono hbl)) (hM.below hb0) (hF.below hb0) (hX.keep (keepsLow (hb0.mono hbl)) (fun _ h => h))
  obtain ⟨r, hr⟩ : ∃ r, evalP call fr.vars s.e st = r := ⟨_, rfl⟩
  have hst : stmtP call T s (fr, st) = (⟨putV fr.vars s.name r.1, fr.ans⟩, r.2) := by
    rw [stmtP_eq, if_neg hw]; simp only [hr]
    rw [if_neg (by rw [← hr, hro]; decide), if_pos hk]
  have HST := Lib.hid hst
  clear hst
  rw [hr] at hro
  unfold EPost exprV at hex
  rw [hr] at hex
  have HBK := Lib.hid (heap_alloc_new w (stmtO s X xc H h L l))
  have HNE : Hid (∀ vk w', Mv base [m] v vk (w.alloc (stmtO s X xc H h L l)) w' → w'.heap[w.heap.size]? = some (stmtO s X xc H h L l)) := fun vk w' hm => by
    refine (hm.kp _ (by simp) ?_ (fun q => by have := (owns_lt hM.own q).2; omega)).trans HBK.out
    have h1 := hM.lt
    simp only [List.mem_singleton]
    omega
  have HEX := Lib.hid hex
  have HM1 := Lib.hid (hM.below hb0)
  have HF1 := Lib.hid (hF.below hb0)
  have HB0 := Lib.hid hb0
  have HMV0 := Lib.hid (Mv.below (S := [m, x, b]) (v := v) hbl hb0)
  have HE := Lib.hid hE
  have HH := Lib.hid hH
  have HL := Lib.hid hL
  have HQT := Lib.hid hqt
  have HQL := Lib.hid hql
  have HN := Lib.hid hN
  have HWF := Lib.hid hwf
  have gw := kind_no hw
  unfold sWhile at gw
  have HKY : Hid (keyOf Tryz.prog 9 (.string (mkB s.name)) = some (.string s.name)) := strKey s.name (by have := hwf.small; omega)
  have HNM := Lib.hid (hwf.name hk)
  have hkk : (((mkB s.kind).toList == [118, 97, 114]) = true) ∨ (((mkB s.kind).toList == [118, 97, 114]) = false ∧ ((mkB s.kind).toList == [115, 101, 116]) = true) := by
    rw [mkB_toList]
    rcases hk with q | q
    · exact .inl (by rw [q]; rfl)
    · exact .inr ⟨by rw [q]; rfl, by rw [q]; rfl⟩
  clear hex hr hqe hqt hql hN hE hM hF hX hH hL hw hb0 hwf hg hk
  unfold stmtV
  unfold stmtO at *
  rcases hkk with g1 | ⟨g1, g2⟩
  all_goals
    go_enter Tryz.func79, Tryz.ntmps79
    go_wp2_with (first
      | (go_at_call 97; (with_reducible refine HEX.out.mono ?_); rintro y w2 ⟨n, rfl, hn, v2, hma2, hmv2⟩; have hfr2 := HF1.out.mv HM1.out hmv2; obtain ⟨e0, e1, e2, e3, e4, e5, e6, e7⟩ := row8 (HNE.out _ _ hmv2); obtain ⟨z0, z1, z2, z3⟩ := row4 hfr2.blk; have hov := over_any hma2; rw [hro] at hov; have HOV := Lib.hid hov; have HN2 := Lib.hid (hn hro); have HFR2 := Lib.hid hfr2; have HMA2 := Lib.hid hma2; have HMV2 := Lib.hid hmv2; clear hn hma2 hmv2 hfr2 hov)
      | (go_at_call 42; (with_reducible refine HOV.out.mono ?_); rintro y w3 ⟨rfl, rfl⟩))
    obtain ⟨D, o1, o2, o3, o4⟩ := HFR2.out.vars
    have hvl := HN.out.len
    have HO1 : Hid (w2.drew.ownsMap Tryz.prog 9 hR b (Maps.size D) D) := o1
    have hsz : Maps.size D ≤ 12 := by omega
    have HFD := Lib.hid (And.intro o2 (And.intro o3 o4))
    have HOO := Lib.hid o1
    clear o1 o2 o3 o4 hvl
    go_still_tail 7, (by kernel_rfl)
    change wpList _ _ _ _ _ w2.drew
    go_wp2_with (at_mapUpdate; refine wpList_mapUpdate_own _ rfl _ _ _ 64 rfl 9 3 strKeyed Tryz.underlying64 hR b (Maps.size D) D rfl HO1.out (by unfold maxLen; omega) _ _ (.string s.name) rfl rfl HKY.out (.held (.int .i64 n)) [] rfl ?_)
    intro w4 hown4 hgrow4
    have hva := VarAt.of_put HOO.out HFD.out.1 HFD.out.2.1 HFD.out.2.2 hown4
    have hfin := put_fin HMA2.out HFR2.out hgrow4 hva
    have HFIN := Lib.hid hfin
    clear hown4 hgrow4 hva hfin
    go_wp2_with fail
    go_end0
    unfold SPost
    rw [HST.out, ← HN2.out]
    exact ⟨rfl, HFIN.out.1, HN.out.put HNM.out _, v2, HFIN.out.2.1, HMV0.out.trans ((HMV2.out.wide (by simp)).trans HFIN.out.2.2)⟩
set_option maxHeartbeats 4000000 in
set_option maxRecDepth 100000 in
theorem stmt_print (E : Nat → Addr) (fs : List PFun) (base m fb nf T : Nat) (F : Nm → Option Value) (call : Caller) (hg : GoC T call) (t : Tab) (d x b : Nat) (N : List Nm) (s : PStmt) (hwf : WfS t N s) (hN12 : N.length ≤ 12) (hqe : CExprR E fs base m fb nf T F call d x b s.e) (hqt : CBlockR E fs base m fb nf T F call d x b N s.th) (hql : CBlockR E fs base m fb nf T F call d x b N s.el)
    (hw : s.kind ≠ sWhile) (hk : s.kind = sPrint)
    (fr : Fr) (st : St) (v : Value) (X : Option Addr) (xc : Nat) (H : Option Addr) (h : Nat) (L : Option Addr) (l : Nat) (w : World) (hN : OnlyIn fr.vars N) (hE : Ctx E fs F base w) (hM : MaAt base m fb nf T F d st v w) (hF : FrAt base m x b fr w) (hX : RdE w (fun k => k < base) s.e.kids X) (hH : RdS w (fun k => k < base) s.th H) (hL : RdS w (fun k => k < base) s.el L) (hro : (evalP call fr.vars s.e st).2.over = false) :
    Calls Tryz.prog 79 #[.pointer (some ⟨x, 0, none⟩), stmtV s X xc H h L l] w (SPost base m fb nf T F d x b N (stmtP call T s (fr, st)) v w) := by
  have hb0 : Below w.heap.size w (w.alloc (stmtO s X xc H h L l)) := grow_alloc (grow_refl _) _
  have hbl := hM.base_le
  have hex := hqe fr st v X xc _ (hE.keep (hb0.mono hbl)) (hM.below hb0) (hF.below hb0) (hX.keep (keepsLow (hb0.mono hbl)) (fun _ h => h))
  obtain ⟨r, hr⟩ : ∃ r, evalP call fr.vars s.e st = r := ⟨_, rfl⟩
  have hst : stmtP call T s (fr, st) = (fr, printP r.1 r.2) := by
    rw [stmtP_eq, if_neg hw]; simp only [hr]
    rw [if_neg (by rw [← hr, hro]; decide), if_neg (by rw [hk]; decide), if_pos hk]
  have HST := Lib.hid hst
  clear hst
  rw [hr] at hro
  unfold EPost exprV at hex
  rw [hr] at hex
  have HBK := Lib.hid (heap_alloc_new w (stmtO s X xc H h L l))
  have HNE : Hid (∀ vk w', Mv base [m] v vk (w.alloc (stmtO s X xc H h L l)) w' → w'.heap[w.heap.size]? = some (stmtO s X xc H h L l)) := fun vk w' hm => by
    refine (hm.kp _ (by simp) ?_ (fun q => by have := (owns_lt hM.own q).2; omega)).trans HBK.out
    have h1 := hM.lt
    simp only [List.mem_singleton]
    omega
  have HEX := Lib.hid hex
  have HM1 := Lib.hid (hM.below hb0)
  have HF1 := Lib.hid (hF.below hb0)
  have HB0 := Lib.hid hb0
  have HMV0 := Lib.hid (Mv.below (S := [m, x, b]) (v := v) hbl hb0)
  have HE := Lib.hid hE
  have HH := Lib.hid hH
  have HL := Lib.hid hL
  have HQT := Lib.hid hqt
  have HQL := Lib.hid hql
  have HN := Lib.hid hN
  have HWF := Lib.hid hwf
  have gw := kind_no hw
  unfold sWhile at gw
  have g1 := kind_no (s := s) (k := sVar) (by rw [hk]; decide)
  have g2 := kind_no (s := s) (k := sSet) (by rw [hk]; decide)
  have g3 := kind_yes hk
  unfold sVar at g1; unfold sSet at g2; unfold sPrint at g3
  clear hex hr hqe hqt hql hN hE hM hF hX hH hL hw hb0 hwf hg hk
  unfold stmtV
  unfold stmtO at *
  go_enter Tryz.func79, Tryz.ntmps79
  go_wp2_with (first
    | (go_at_call 97; (with_reducible refine HEX.out.mono ?_); rintro y w2 ⟨n, rfl, hn, v2, hma2, hmv2⟩; have hfr2 := HF1.out.mv HM1.out hmv2; obtain ⟨e0, e1, e2, e3, e4, e5, e6, e7⟩ := row8 (HNE.out _ _ hmv2); obtain ⟨z0, z1, z2, z3⟩ := row4 hfr2.blk; have hov := over_any hma2; rw [hro] at hov; have HOV := Lib.hid hov; have HN2 := Lib.hid (hn hro); have HFR2 := Lib.hid hfr2; have HMA2 := Lib.hid hma2; have HMV2 := Lib.hid hmv2; clear hn hma2 hmv2 hfr2 hov)
    | (go_at_call 42; (with_reducible refine HOV.out.mono ?_); rintro y w3 ⟨rfl, rfl⟩)
    | (go_at_call 98; (with_reducible refine (print_any base m fb nf T F d x b fr r.2 v2 _ w2 HMA2.out HFR2.out hro).mono ?_); rintro y w4 ⟨rfl, v4, hma4, hmv4⟩; have HMA4 := Lib.hid hma4; have HMV4 := Lib.hid hmv4; clear hma4 hmv4))
  go_end0
  unfold SPost
  rw [HST.out, ← HN2.out]
  exact ⟨rfl, HFR2.out.mv HMA2.out HMV4.out, HN.out, v4, HMA4.out, HMV0.out.trans ((HMV2.out.trans HMV4.out).wide (by simp))⟩
set_option maxHeartbeats 4000000 in
set_option maxRecDepth 100000 in
theorem stmt_return (E : Nat → Addr) (fs : List PFun) (base m fb nf T : Nat) (F : Nm → Option Value) (call : Caller) (hg : GoC T call) (t : Tab) (d x b : Nat) (N : List Nm) (s : PStmt) (hwf : WfS t N s) (hN12 : N.length ≤ 12) (hqe : CExprR E fs base m fb nf T F call d x b s.e) (hqt : CBlockR E fs base m fb nf T F call d x b N s.th) (hql : CBlockR E fs base m fb nf T F call d x b N s.el)
    (hw : s.kind ≠ sWhile) (hk : s.kind = sReturn)
    (fr : Fr) (st : St) (v : Value) (X : Option Addr) (xc : Nat) (H : Option Addr) (h : Nat) (L : Option Addr) (l : Nat) (w : World) (hN : OnlyIn fr.vars N) (hE : Ctx E fs F base w) (hM : MaAt base m fb nf T F d st v w) (hF : FrAt base m x b fr w) (hX : RdE w (fun k => k < base) s.e.kids X) (hH : RdS w (fun k => k < base) s.th H) (hL : RdS w (fun k => k < base) s.el L) (hro : (evalP call fr.vars s.e st).2.over = false) :
    Calls Tryz.prog 79 #[.pointer (some ⟨x, 0, none⟩), stmtV s X xc H h L l] w (SPost base m fb nf T F d x b N (stmtP call T s (fr, st)) v w) := by
  have hb0 : Below w.heap.size w (w.alloc (stmtO s X xc H h L l)) := grow_alloc (grow_refl _) _
  have hbl := hM.base_le
  have hex := hqe fr st v X xc _ (hE.keep (hb0.mono hbl)) (hM.below hb0) (hF.below hb0) (hX.keep (keepsLow (hb0.mono hbl)) (fun _ h => h))
  obtain ⟨r, hr⟩ : ∃ r, evalP call fr.vars s.e st = r := ⟨_, rfl⟩
  have hst : stmtP call T s (fr, st) = (⟨fr.vars, some r.1⟩, r.2) := by
    rw [stmtP_eq, if_neg hw]; simp only [hr]
    rw [if_neg (by rw [← hr, hro]; decide), if_neg (by rw [hk]; decide), if_neg (by rw [hk]; decide), if_pos hk]
  have HST := Lib.hid hst
  clear hst
  rw [hr] at hro
  unfold EPost exprV at hex
  rw [hr] at hex
  have HBK := Lib.hid (heap_alloc_new w (stmtO s X xc H h L l))
  have HNE : Hid (∀ vk w', Mv base [m] v vk (w.alloc (stmtO s X xc H h L l)) w' → w'.heap[w.heap.size]? = some (stmtO s X xc H h L l)) := fun vk w' hm => by
    refine (hm.kp _ (by simp) ?_ (fun q => by have := (owns_lt hM.own q).2; omega)).trans HBK.out
    have h1 := hM.lt
    simp only [List.mem_singleton]
    omega
  have HEX := Lib.hid hex
  have HM1 := Lib.hid (hM.below hb0)
  have HF1 := Lib.hid (hF.below hb0)
  have HB0 := Lib.hid hb0
  have HMV0 := Lib.hid (Mv.below (S := [m, x, b]) (v := v) hbl hb0)
  have HE := Lib.hid hE
  have HH := Lib.hid hH
  have HL := Lib.hid hL
  have HQT := Lib.hid hqt
  have HQL := Lib.hid hql
  have HN := Lib.hid hN
  have HWF := Lib.hid hwf
  have gw := kind_no hw
  unfold sWhile at gw
  have g1 := kind_no (s := s) (k := sVar) (by rw [hk]; decide)
  have g2 := kind_no (s := s) (k := sSet) (by rw [hk]; decide)
  have g3 := kind_no (s := s) (k := sPrint) (by rw [hk]; decide)
  have g4 := kind_yes hk
  unfold sVar at g1; unfold sSet at g2; unfold sPrint at g3; unfold sReturn at g4
  clear hex hr hqe hqt hql hN hE hM hF hX hH hL hw hb0 hwf hg hk
  unfold stmtV
  unfold stmtO at *
  go_enter Tryz.func79, Tryz.ntmps79
  go_wp2_with (first
    | (go_at_call 97; (with_reducible refine HEX.out.mono ?_); rintro y w2 ⟨n, rfl, hn, v2, hma2, hmv2⟩; have hfr2 := HF1.out.mv HM1.out hmv2; obtain ⟨e0, e1, e2, e3, e4, e5, e6, e7⟩ := row8 (HNE.out _ _ hmv2); obtain ⟨z0, z1, z2, z3⟩ := row4 hfr2.blk; have q2 := row_frozen hfr2.blk 2; have q3 := row_frozen hfr2.blk 3; have hov := over_any hma2; rw [hro] at hov; have HOV := Lib.hid hov; have HN2 := Lib.hid (hn hro); have HFR2 := Lib.hid hfr2; have HMA2 := Lib.hid hma2; have HMV2 := Lib.hid hmv2; clear hn hma2 hmv2 hfr2 hov)
    | (go_at_call 42; (with_reducible refine HOV.out.mono ?_); rintro y w3 ⟨rfl, rfl⟩))
  go_end0
  unfold SPost
  rw [HST.out, ← HN2.out]
  have hfin := ret_fin (n := n) HMA2.out HFR2.out
  exact ⟨rfl, hfin.1, HN.out, v2, hfin.2.1, HMV0.out.trans ((HMV2.out.wide (by simp)).trans hfin.2.2)⟩
set_option maxHeartbeats 4000000 in
set_option maxRecDepth 100000 in
theorem stmt_then (E : Nat → Addr) (fs : List PFun) (base m fb nf T : Nat) (F : Nm → Option Value) (call : Caller) (hg : GoC T call) (t : Tab) (d x b : Nat) (N : List Nm) (s : PStmt) (hwf : WfS t N s) (hN12 : N.length ≤ 12) (hqe : CExprR E fs base m fb nf T F call d x b s.e) (hqt : CBlockR E fs base m fb nf T F call d x b N s.th) (hql : CBlockR E fs base m fb nf T F call d x b N s.el)
    (hw : s.kind ≠ sWhile) (hk : s.kind = sIf)
    (fr : Fr) (st : St) (v : Value) (X : Option Addr) (xc : Nat) (H : Option Addr) (h : Nat) (L : Option Addr) (l : Nat) (w : World) (hN : OnlyIn fr.vars N) (hE : Ctx E fs F base w) (hM : MaAt base m fb nf T F d st v w) (hF : FrAt base m x b fr w) (hX : RdE w (fun k => k < base) s.e.kids X) (hH : RdS w (fun k => k < base) s.th H) (hL : RdS w (fun k => k < base) s.el L) (hro : (evalP call fr.vars s.e st).2.over = false) (hc : (evalP call fr.vars s.e st).1 ≠ 0) :
    Calls Tryz.prog 79 #[.pointer (some ⟨x, 0, none⟩), stmtV s X xc H h L l] w (SPost base m fb nf T F d x b N (stmtP call T s (fr, st)) v w) := by
  have hb0 : Below w.heap.size w (w.alloc (stmtO s X xc H h L l)) := grow_alloc (grow_refl _) _
  have hbl := hM.base_le
  have hex := hqe fr st v X xc _ (hE.keep (hb0.mono hbl)) (hM.below hb0) (hF.below hb0) (hX.keep (keepsLow (hb0.mono hbl)) (fun _ h => h))
  obtain ⟨r, hr⟩ : ∃ r, evalP call fr.vars s.e st = r := ⟨_, rfl⟩
  have hst : stmtP call T s (fr, st) = blockP call T s.th (fr, r.2) := by
    rw [stmtP_eq, if_neg hw]; simp only [hr]
    rw [if_neg (by rw [← hr, hro]; decide), if_neg (by rw [hk]; decide), if_neg (by rw [hk]; decide), if_neg (by rw [hk]; decide), if_neg (by rw [← hr]; exact hc)]
  have HST := Lib.hid hst
  clear hst
  rw [hr] at hro hc
  unfold EPost exprV at hex
  rw [hr] at hex
  have HBK := Lib.hid (heap_alloc_new w (stmtO s X xc H h L l))
  have HNE : Hid (∀ vk w', Mv base [m] v vk (w.alloc (stmtO s X xc H h L l)) w' → w'.heap[w.heap.size]? = some (stmtO s X xc H h L l)) := fun vk w' hm => by
    refine (hm.kp _ (by simp) ?_ (fun q => by have := (owns_lt hM.own q).2; omega)).trans HBK.out
    have h1 := hM.lt
    simp only [List.mem_singleton]
    omega
  have HEX := Lib.hid hex
  have HM1 := Lib.hid (hM.below hb0)
  have HF1 := Lib.hid (hF.below hb0)
  have HB0 := Lib.hid hb0
  have HMV0 := Lib.hid (Mv.below (S := [m, x, b]) (v := v) hbl hb0)
  have HE := Lib.hid hE
  have HH := Lib.hid hH
  have HL := Lib.hid hL
  have HQT := Lib.hid hqt
  have HQL := Lib.hid hql
  have HN := Lib.hid hN
  have HWF := Lib.hid hwf
  have gw := kind_no hw
  unfold sWhile at gw
  have g1 := kind_no (s := s) (k := sVar) (by rw [hk]; decide)
  have g2 := kind_no (s := s) (k := sSet) (by rw [hk]; decide)
  have g3 := kind_no (s := s) (k := sPrint) (by rw [hk]; decide)
  have g4 := kind_no (s := s) (k := sReturn) (by rw [hk]; decide)
  have g5 := kind_yes hk
  unfold sVar at g1; unfold sSet at g2; unfold sPrint at g3; unfold sReturn at g4; unfold sIf at g5
  obtain ⟨z, hz⟩ : ∃ z, blockP call T s.th (fr, r.2) = z := ⟨_, rfl⟩
  have HZ := Lib.hid hz
  have HCC := Lib.hid hc
  clear hz
  clear hex hr hqe hqt hql hN hE hM hF hX hH hL hw hb0 hwf hg hk hc
  unfold stmtV
  unfold stmtO at *
  go_enter Tryz.func79, Tryz.ntmps79
  go_wp2_with (first
    | (go_at_call 97; (with_reducible refine HEX.out.mono ?_); rintro y w2 ⟨n, rfl, hn, v2, hma2, hmv2⟩; have hfr2 := HF1.out.mv HM1.out hmv2; obtain ⟨e0, e1, e2, e3, e4, e5, e6, e7⟩ := row8 (HNE.out _ _ hmv2); obtain ⟨z0, z1, z2, z3⟩ := row4 hfr2.blk; have hov := over_any hma2; rw [hro] at hov; have HOV := Lib.hid hov; have HN2 := Lib.hid (hn hro); have HFR2 := Lib.hid hfr2; have hb2 := HQT.out fr r.2 v2 H h w2 HN.out (HE.out.keep ((HB0.out.mono hbl).trans hmv2.bel)) hma2 hfr2 (HH.out.keep (keepsLow ((HB0.out.mono hbl).trans hmv2.bel)) (fun _ h => h)); unfold SPost at hb2; rw [HZ.out] at hb2; have HB2 := Lib.hid hb2; have hnz : (n != 0) = true := (by have q1 := HN2.out; have q2 := HCC.out; rw [q1]; simpa using q2); clear hb2; have HMA2 := Lib.hid hma2; have HMV2 := Lib.hid hmv2; clear hn hma2 hmv2 hfr2 hov)
    | (go_at_call 42; (with_reducible refine HOV.out.mono ?_); rintro y w3 ⟨rfl, rfl⟩)
    | (go_at_call 60; (with_reducible refine HB2.out.mono ?_); rintro y w4 ⟨rfl, hf4, ho4, v4, hma4, hmv4⟩; have HF4 := Lib.hid hf4; have HMA4 := Lib.hid hma4; have HMV4 := Lib.hid hmv4; clear hf4 hma4 hmv4))
  go_end0
  unfold SPost
  rw [HST.out, HZ.out]
  exact ⟨rfl, HF4.out, ho4, v4, HMA4.out, HMV0.out.trans ((HMV2.out.wide (by simp)).trans HMV4.out)⟩
set_option maxHeartbeats 4000000 in
set_option maxRecDepth 100000 in
theorem stmt_else (E : Nat → Addr) (fs : List PFun) (base m fb nf T : Nat) (F : Nm → Option Value) (call : Caller) (hg : GoC T call) (t : Tab) (d x b : Nat) (N : List Nm) (s : PStmt) (hwf : WfS t N s) (hN12 : N.length ≤ 12) (hqe : CExprR E fs base m fb nf T F call d x b s.e) (hqt : CBlockR E fs base m fb nf T F call d x b N s.th) (hql : CBlockR E fs base m fb nf T F call d x b N s.el)
    (hw : s.kind ≠ sWhile) (hk : s.kind = sIf)
    (fr : Fr) (st : St) (v : Value) (X : Option Addr) (xc : Nat) (H : Option Addr) (h : Nat) (L : Option Addr) (l : Nat) (w : World) (hN : OnlyIn fr.vars N) (hE : Ctx E fs F base w) (hM : MaAt base m fb nf T F d st v w) (hF : FrAt base m x b fr w) (hX : RdE w (fun k => k < base) s.e.kids X) (hH : RdS w (fun k => k < base) s.th H) (hL : RdS w (fun k => k < base) s.el L) (hro : (evalP call fr.vars s.e st).2.over = false) (hc : (evalP call fr.vars s.e st).1 = 0) :
    Calls Tryz.prog 79 #[.pointer (some ⟨x, 0, none⟩), stmtV s X xc H h L l] w (SPost base m fb nf T F d x b N (stmtP call T s (fr, st)) v w) := by
  have hb0 : Below w.heap.size w (w.alloc (stmtO s X xc H h L l)) := grow_alloc (grow_refl _) _
  have hbl := hM.base_le
  have hex := hqe fr st v X xc _ (hE.keep (hb0.mono hbl)) (hM.below hb0) (hF.below hb0) (hX.keep (keepsLow (hb0.mono hbl)) (fun _ h => h))
  obtain ⟨r, hr⟩ : ∃ r, evalP call fr.vars s.e st = r := ⟨_, rfl⟩
  have hst : stmtP call T s (fr, st) = blockP call T s.el (fr, r.2) := by
    rw [stmtP_eq, if_neg hw]; simp only [hr]
    rw [if_neg (by rw [← hr, hro]; decide), if_neg (by rw [hk]; decide), if_neg (by rw [hk]; decide), if_neg (by rw [hk]; decide), if_pos (by rw [← hr]; exact hc)]
  have HST := Lib.hid hst
  clear hst
  rw [hr] at hro hc
  unfold EPost exprV at hex
  rw [hr] at hex
  have HBK := Lib.hid (heap_alloc_new w (stmtO s X xc H h L l))
  have HNE : Hid (∀ vk w', Mv base [m] v vk (w.alloc (stmtO s X xc H h L l)) w' → w'.heap[w.heap.size]? = some (stmtO s X xc H h L l)) := fun vk w' hm => by
    refine (hm.kp _ (by simp) ?_ (fun q => by have := (owns_lt hM.own q).2; omega)).trans HBK.out
    have h1 := hM.lt
    simp only [List.mem_singleton]
    omega
  have HEX := Lib.hid hex
  have HM1 := Lib.hid (hM.below hb0)
  have HF1 := Lib.hid (hF.below hb0)
  have HB0 := Lib.hid hb0
  have HMV0 := Lib.hid (Mv.below (S := [m, x, b]) (v := v) hbl hb0)
  have HE := Lib.hid hE
  have HH := Lib.hid hH
  have HL := Lib.hid hL
  have HQT := Lib.hid hqt
  have HQL := Lib.hid hql
  have HN := Lib.hid hN
  have HWF := Lib.hid hwf
  have gw := kind_no hw
  unfold sWhile at gw
  have g1 := kind_no (s := s) (k := sVar) (by rw [hk]; decide)
  have g2 := kind_no (s := s) (k := sSet) (by rw [hk]; decide)
  have g3 := kind_no (s := s) (k := sPrint) (by rw [hk]; decide)
  have g4 := kind_no (s := s) (k := sReturn) (by rw [hk]; decide)
  have g5 := kind_yes hk
  unfold sVar at g1; unfold sSet at g2; unfold sPrint at g3; unfold sReturn at g4; unfold sIf at g5
  obtain ⟨z, hz⟩ : ∃ z, blockP call T s.el (fr, r.2) = z := ⟨_, rfl⟩
  have HZ := Lib.hid hz
  have HCC := Lib.hid hc
  clear hz
  clear hex hr hqe hqt hql hN hE hM hF hX hH hL hw hb0 hwf hg hk hc
  unfold stmtV
  unfold stmtO at *
  go_enter Tryz.func79, Tryz.ntmps79
  go_wp2_with (first
    | (go_at_call 97; (with_reducible refine HEX.out.mono ?_); rintro y w2 ⟨n, rfl, hn, v2, hma2, hmv2⟩; have hfr2 := HF1.out.mv HM1.out hmv2; obtain ⟨e0, e1, e2, e3, e4, e5, e6, e7⟩ := row8 (HNE.out _ _ hmv2); obtain ⟨z0, z1, z2, z3⟩ := row4 hfr2.blk; have hov := over_any hma2; rw [hro] at hov; have HOV := Lib.hid hov; have HN2 := Lib.hid (hn hro); have HFR2 := Lib.hid hfr2; have hb2 := HQL.out fr r.2 v2 L l w2 HN.out (HE.out.keep ((HB0.out.mono hbl).trans hmv2.bel)) hma2 hfr2 (HL.out.keep (keepsLow ((HB0.out.mono hbl).trans hmv2.bel)) (fun _ h => h)); unfold SPost at hb2; rw [HZ.out] at hb2; have HB2 := Lib.hid hb2; have hnz : (n != 0) = false := (by have q1 := HN2.out; have q2 := HCC.out; rw [q1]; simpa using q2); clear hb2; have HMA2 := Lib.hid hma2; have HMV2 := Lib.hid hmv2; clear hn hma2 hmv2 hfr2 hov)
    | (go_at_call 42; (with_reducible refine HOV.out.mono ?_); rintro y w3 ⟨rfl, rfl⟩)
    | (go_at_call 60; (with_reducible refine HB2.out.mono ?_); rintro y w4 ⟨rfl, hf4, ho4, v4, hma4, hmv4⟩; have HF4 := Lib.hid hf4; have HMA4 := Lib.hid hma4; have HMV4 := Lib.hid hmv4; clear hf4 hma4 hmv4))
  go_end0
  unfold SPost
  rw [HST.out, HZ.out]
  exact ⟨rfl, HF4.out, ho4, v4, HMA4.out, HMV0.out.trans ((HMV2.out.wide (by simp)).trans HMV4.out)⟩
end Go.Proofs.YtnpdjncgilekhaaGreatDoor

namespace Go.Proofs.YtnpdjncgilekhaaGreatDoor
open Go.RowKit

theorem blockC_step {fs : Tab} {ss : List PStmt} {k : Nat} (h : k < ss.length) (all vis : List Nm) : blockC fs (ss.drop k) all vis =
    if (stmtC fs ss[k] all vis).1 = 0 then blockC fs (ss.drop (k + 1)) (stmtC fs ss[k] all vis).2.1 (stmtC fs ss[k] all vis).2.2 else ((stmtC fs ss[k] all vis).1, (stmtC fs ss[k] all vis).2.1) := by
  rw [List.drop_eq_getElem_cons h, blockC_cons]
theorem owns_cut {w : World} {base : Nat} {e : TypeId} {l more : List Nm} {A : Option Addr} {c : Nat} (h : w.ownsRow base e 1 (.slice A (l ++ more).length c) (l ++ more).length (strVs (l ++ more))) : w.ownsRow base e 1 (.slice A l.length c) l.length (strVs l) := by
  refine ⟨by simp [strVs], ?_⟩
  rcases h.2 with ⟨q, h0⟩ | ⟨g, cap, cur, q, h1, h2, h3, h4, h5, h6⟩
  · injection q with q1 _ q3
    subst q1; subst q3
    have : l.length = 0 := by simp at h0; simp [h0.1]
    exact .inl ⟨by rw [this], this⟩
  · injection q with q1 _ q3
    subst q1; subst q3
    refine .inr ⟨g, c, cur, rfl, h1, h2, by simp at h3; omega, h4, h5, ?_⟩
    have := congrArg (List.take l.length) h6
    rw [List.take_take] at this
    simp only [Nat.mul_one] at this ⊢
    rw [Nat.min_eq_left (by simp)] at this
    rw [this]
    simp [strVs]
theorem own_len {B : Option Addr} {m n d : Nat} : (Value.slice B n d).ownBlock = (Value.slice B m d).ownBlock := by cases B <;> rfl
set_option maxHeartbeats 8000000 in
set_option maxRecDepth 100000 in
theorem cblock_list (E : Nat → Addr) (base p b n : Nat) (fs : Tab) (ss : List PStmt) (hlen : ss.length ≤ 30) (hq : ∀ s ∈ ss, CStmtC E base p b n fs s) : CBlockC E base p b n fs ss := by
  intro all vis A c w hE hC hr hal hvl
  obtain ⟨v, s, q1, -, q3, -⟩ := hC.cells
  obtain ⟨B, d, rfl, -, -⟩ := owns_Row q3
  have p2 : w.cell? ⟨p, 2, none⟩ = some (.slice B vis.length d) := cell_of_row _ _ 2 _ _ _ q1
  have HP0 : Hid (ChkPost base p b n fs 0 all vis w w) := ChkPost.below hC (Below.refl _ _)
  have HQ := Lib.hid hq
  have HR := Lib.hid hr
  have HE := Lib.hid hE
  have HAL := Lib.hid (And.intro hal hvl)
  have hv12 : vis.length ≤ 12 := by omega
  clear q1 q3 hq hr hE hC hal hvl
  go_enter Tryz.func54, Tryz.ntmps54
  go_wp2_with fail
  go_loopw [7, 8, 16] (fun _ _ i wr => ∃ (k : Nat) (al vi more : List Nm), k ≤ ss.length ∧ i = .int .i64 k ∧ blockC fs ss all vis = blockC fs (ss.drop k) al vi ∧ al.length ≤ 12 ∧ vi.length ≤ al.length ∧ vi = vis ++ more ∧ ChkPost base p b n fs 0 al vi w wr) (fun _ _ i _ => ss.length - (intOf i).toNat)
  case atStart => exact ⟨0, all, vis, [], Nat.zero_le _, rfl, by simp, HAL.out.1, HAL.out.2, by simp, HP0.out⟩
  case round =>
    obtain ⟨k, al, vi, more, hk, rfl, hI, hal, hvl, hmore, hp⟩ := hrel
    have HI := Lib.hid hI
    have HMR := Lib.hid hmore
    clear hI hmore
    by_cases hlt : k < ss.length
    · obtain ⟨b', off, X, x, T, t, L, l, rfl, -, hcells, hnum, hX, hT, hL⟩ := (HR.out.keep (keepsLow hp.bel) (fun _ h => h)).at hlt
      obtain ⟨c0, c1, c2, c3, c4, c5, c6, c7⟩ := cells_stmt hcells
      have hlt' : (k : Int) < (ss.length : Int) := by omega
      have hst := blockC_step (fs := fs) hlt al vi
      have hqs := HQ.out ss[k] (List.getElem_mem hlt)
      obtain ⟨s, hs⟩ : ∃ s, ss[k] = s := ⟨_, rfl⟩
      rw [hs] at hcells hnum hX hT hL c0 c1 c2 c3 c4 c5 c6 c7 hst hqs
      have hal0 : Below wr.heap.size wr (wr.alloc (stmtO s X x T t L l)) := grow_alloc (grow_refl _) _
      have hp1 := hp.trans (ChkPost.below (hp.chk rfl) hal0)
      have hcall := hqs al vi X x T t L l _ (HE.out.keep hp1.bel) (hp1.chk rfl) (hX.keep (keepsLow (hal0.mono (hp.chk rfl).base_le)) (fun _ h => h)) (hT.keep (keepsLow (hal0.mono (hp.chk rfl).base_le)) (fun _ h => h)) (hL.keep (keepsLow (hal0.mono (hp.chk rfl).base_le)) (fun _ h => h)) hal hvl
      have hlf := left_any fs s al vi
      unfold stmtV at hcall
      unfold stmtO at hcall hp1
      obtain ⟨z, hz⟩ : ∃ z, stmtC fs s al vi = z := ⟨_, rfl⟩
      rw [hz] at hcall hst hlf
      have HP1 := Lib.hid hp1
      have HLF := Lib.hid hlf
      clear hcells hnum hX hT hL hqs hs hal0 hp hp1 hlf hz
      by_cases h0 : z.1 = 0
      · rw [if_pos h0] at hst
        rw [h0] at hcall
        rw [eV_zero] at hcall
        have HS := Lib.hid hst
        have HC := Lib.hid hcall
        clear hst hcall h0
        go_wp2_with (go_at_call 74; (with_reducible refine HC.out.mono ?_); rintro x1 w1 ⟨rfl, hp2⟩)
        go_roundw
        case rel =>
          obtain ⟨m2, hm2⟩ := HLF.out.2.2.2.2
          exact ⟨k + 1, z.2.1, z.2.2, more ++ m2, by omega, by go_num, HI.out.trans HS.out, HLF.out.2.1 hal, HLF.out.2.2.1 hvl, by rw [hm2, HMR.out, List.append_assoc], HP1.out.trans hp2⟩
        case measure => simp [intOf]; omega
      · rw [if_neg h0] at hst
        have HF : Hid (blockC fs ss all vis = (z.1, z.2.1)) := show _ = _ from HI.out.trans hst
        have HZ := Lib.hid (eV_pos E h0)
        have HNE := Lib.hid h0
        rw [eV_pos E h0] at hcall
        have HC := Lib.hid hcall
        clear hst hcall h0
        go_wp2_with (go_at_call 74; (with_reducible refine HC.out.mono ?_); rintro x1 w1 ⟨rfl, hp2⟩)
        go_ret
        rw [HF.out]
        exact ⟨by rw [HZ.out]; rfl, ((HP1.out.trans hp2) : ChkPost base p b n fs z.1 z.2.1 z.2.2 w w1).fail2 HNE.out⟩
    · have hk' : k = ss.length := by omega
      subst hk'
      have HF : Hid (blockC fs ss all vis = (0, al)) := show _ = _ by rw [HI.out, List.drop_length, blockC_nil]
      obtain ⟨v, s, q1, q2, q3, q4, q5, q6⟩ := (hp.chk rfl).cells
      have hmr := HMR.out
      subst hmr
      obtain ⟨B', d', rfl, -, hcap⟩ := owns_Row q3
      have hcut := owns_cut q3
      have r2 : wr.cell? ⟨p, 2, none⟩ = some (.slice B' (vis ++ more).length d') := cell_of_row _ _ 2 _ _ _ q1
      have y2 := row_frozen q1 2
      have hc1 : (vis.length : Int) ≤ (d' : Int) := by simp at hcap; omega
      have hlow := (hp.chk rfl).low
      have hplt := (hp.chk rfl).lt
      have hmlt := (hp.chk rfl).mlt
      have HM := Lib.hid (hp.chk rfl).map
      have HP := Lib.hid hp
      have HC2 := Lib.hid hcut
      have HO := Lib.hid q2
      have H1 := Lib.hid q1
      have H4 := Lib.hid q4
      have H5 := Lib.hid q5
      have H6 := Lib.hid q6
      clear q1 q2 q3 q4 q5 q6 hcut hp hcap
      go_wp2_with fail
      go_ret
      rw [HF.out]
      refine ⟨rfl, HP.out.bel.setCell hlow _, HP.out.kp.trans (KpC.store p 2 wr _), fun _ => ⟨hlow, by simp; omega, hmlt, HM.out.keep (((Below.refl base wr).setCell hlow _).block b hmlt), _, _, row_set (j := 2) _ H1.out (by simp), setRow_owns _ HO.out H4.out, setRow_owns _ HC2.out (own_len (n := (vis ++ more).length) ▸ H5.out), H4.out, own_len (n := (vis ++ more).length) ▸ H5.out, own_len (n := (vis ++ more).length) ▸ H6.out⟩⟩
theorem cstmt_each (E : Nat → Addr) (base p b n : Nat) (fs : Tab) (hs : TabSmall fs) : ∀ s : PStmt, SmS s → CStmtC E base p b n fs s := by
  intro s
  induction s using PStmt.ind with
  | h s iht ihl =>
    intro hsm
    exact cstmt_any E base p b n fs hs s hsm (cblock_list E base p b n fs s.th hsm.lenT fun k hk => iht k hk (hsm.kidT k hk)) (cblock_list E base p b n fs s.el hsm.lenL fun k hk => ihl k hk (hsm.kidL k hk))
theorem cblock_any (E : Nat → Addr) (base p b n : Nat) (fs : Tab) (hs : TabSmall fs) (ss : List PStmt) (hlen : ss.length ≤ 30) (h : ∀ s ∈ ss, SmS s) : CBlockC E base p b n fs ss := cblock_list E base p b n fs ss hlen fun s hq => cstmt_each E base p b n fs hs s (h s hq)
end Go.Proofs.YtnpdjncgilekhaaGreatDoor

namespace Go.Proofs.YtnpdjncgilekhaaGreatDoor
open Go.RowKit

/-! check.names, body -/
/-- The place of the first text that is no name, counted from k; -1: none. -/
def firstNo : List Nm → Nat → Int
  | [], _ => -1
  | p :: ps, k => if nmOk p then firstNo ps (k + 1) else (k : Int)
theorem firstNo_drop {ps : List Nm} {k : Nat} (h : k < ps.length) : firstNo (ps.drop k) k = if nmOk ps[k] then firstNo (ps.drop (k + 1)) (k + 1) else (k : Int) := by
  rw [List.drop_eq_getElem_cons h, firstNo]
theorem firstNo_all : ∀ (ps : List Nm) (k : Nat), decide (firstNo ps k ≥ 0) = !ps.all nmOk := by
  intro ps
  induction ps with
  | nil => intro k; simp [firstNo]
  | cons p ps ih =>
    intro k
    unfold firstNo
    cases h : nmOk p
    · simp [h]
    · rw [if_pos rfl, ih]; simp [h]
theorem names1_any (x : Nm) (w : World) : Calls Tryz.prog 51 #[strV x] w (Ret (.bool (!nmOk x)) w) := by
  have HN := Lib.hid (lexName_any x)
  unfold strV at *
  cases h : nmOk x
  all_goals
    rw [h] at HN
    clear h
    go_enter Tryz.func51, Tryz.ntmps51
    go_wp2_with (go_at_call 49; (with_reducible refine (HN.out _).mono ?_); rintro y w1 ⟨rfl, hb1⟩)
    go_ret
    exact ⟨rfl, hb1⟩
theorem strVs_get {ps : List Nm} {k : Nat} (h : k < ps.length) : (strVs ps)[k]? = some (.string (mkB ps[k])) := by simp [strVs, h]
set_option maxRecDepth 100000 in
theorem idxNo_any (ps : List Nm) (hl : ps.length ≤ 1000) (A : Option Addr) (c : Nat) (w : World) (hr : Row w A (strVs ps)) :
    Calls Tryz.prog 73 #[.slice A ps.length c, .func (.func 51) #[] #[]] w (Ret (.int .i64 (firstNo ps 0)) w) := by
  have HR := Lib.hid hr
  clear hr
  go_enter Tryz.func73, Tryz.ntmps73
  go_wp2_with fail
  go_loopw [5, 8] (fun _ i wr => ∃ k : Nat, k ≤ ps.length ∧ i = .int .i64 k ∧ firstNo ps 0 = firstNo (ps.drop k) k ∧ Below w.heap.size w wr) (fun _ i _ => ps.length - (intOf i).toNat)
  case atStart => exact ⟨0, Nat.zero_le _, rfl, by simp, grow_refl _⟩
  case round =>
    obtain ⟨k, hk, rfl, hI, hbel⟩ := hrel
    have HI := Lib.hid hI
    clear hI
    by_cases hlt : k < ps.length
    · obtain ⟨b, off, rfl, hc⟩ := (HR.out.keep (Keeps.of_below hbel)) k _ (strVs_get hlt)
      have hlt' : (k : Int) < (ps.length : Int) := by omega
      have HS := Lib.hid (firstNo_drop hlt)
      have h1 := names1_any ps[k]
      unfold strV at h1
      have HN := Lib.hid h1
      clear h1
      cases hn : nmOk ps[k]
      · rw [hn] at HN HS
        have HF : Hid (firstNo ps 0 = (k : Int)) := show _ = _ from HI.out.trans HS.out
        clear hn
        go_wp2_with (go_at_call 51; (with_reducible refine (HN.out _).mono ?_); rintro y w1 ⟨rfl, hb1⟩)
        go_ret
        exact ⟨by rw [HF.out]; rfl, grow_trans hbel hb1⟩
      · rw [hn] at HN HS
        have HF : Hid (firstNo ps 0 = firstNo (ps.drop (k + 1)) (k + 1)) := show _ = _ from HI.out.trans HS.out
        clear hn
        go_wp2_with (go_at_call 51; (with_reducible refine (HN.out _).mono ?_); rintro y w1 ⟨rfl, hb1⟩)
        go_roundw
        case rel => exact ⟨k + 1, by omega, by go_num, HF.out, grow_trans hbel hb1⟩
        case measure => simp [intOf]; omega
    · have hk' : k = ps.length := by omega
      subst hk'
      go_wp2_with fail
      go_ret
      exact ⟨by rw [HI.out, List.drop_length]; rfl, hbel⟩
set_option maxRecDepth 100000 in
theorem anyNo_any (ps : List Nm) (hl : ps.length ≤ 1000) (A : Option Addr) (c : Nat) (w : World) (hr : Row w A (strVs ps)) :
    Calls Tryz.prog 50 #[.slice A ps.length c, .func (.func 51) #[] #[]] w (Ret (.bool (!ps.all nmOk)) w) := by
  have HI := Lib.hid (idxNo_any ps hl A c w hr)
  have HB := Lib.hid (firstNo_all ps 0)
  clear hr
  go_enter Tryz.func50, Tryz.ntmps50
  go_wp2_with (go_at_call 73; (with_reducible refine HI.out.mono ?_); rintro y w1 ⟨rfl, hb1⟩)
  go_ret
  exact ⟨by rw [← HB.out]; rfl, hb1⟩
/-- The place of the first function of this name. -/
def firstFn (n : Nm) : List PFun → Nat → Int
  | [], _ => -1
  | g :: gs, k => if g.name == n then (k : Int) else firstFn n gs (k + 1)
theorem firstFn_drop {n : Nm} {gs : List PFun} {k : Nat} (h : k < gs.length) : firstFn n (gs.drop k) k = if gs[k].name == n then (k : Int) else firstFn n (gs.drop (k + 1)) (k + 1) := by
  rw [List.drop_eq_getElem_cons h, firstFn]
theorem firstFn_any (n : Nm) : ∀ (gs : List PFun) (k : Nat), decide (firstFn n gs k ≥ 0) = gs.any fun g => g.name == n := by
  intro gs
  induction gs with
  | nil => intro k; simp [firstFn]
  | cons g gs ih =>
    intro k
    unfold firstFn
    rw [List.any_cons]
    cases h : (g.name == n)
    · rw [if_neg (by simp), ih]; simp
    · simp
def funO (f : PFun) (P : Option Addr) (p : Nat) (B : Option Addr) (c : Nat) : Obj := .cells #[.string (mkB f.name), .slice P f.params.length p, .slice B f.body.length c] 39
theorem names2_any (g : PFun) (P : Option Addr) (p : Nat) (B : Option Addr) (c q : Nat) (n : Nm) (w : World) (h : w.cell? ⟨q, 0, none⟩ = some (.string (mkB n))) :
    Calls Tryz.prog 53 #[funV g P p B c, .pointer (some ⟨q, 0, none⟩)] w (Ret (.bool (g.name == n)) w) := by
  have h1 : (w.alloc (funO g P p B c)).cell? ⟨q, 0, none⟩ = some (.string (mkB n)) := Keeps.alloc _ _ _ _ h
  have HE : Hid (((mkB g.name).toList == (mkB n).toList) = (g.name == n)) := show _ = _ by rw [mkB_toList, mkB_toList]
  unfold funO at h1
  unfold funV
  clear h
  go_enter Tryz.func53, Tryz.ntmps53
  go_wp2_with fail
  go_ret
  exact ⟨by rw [← HE.out]; rfl, grow_alloc (grow_refl _) _⟩
set_option maxRecDepth 100000 in
theorem idxFn_any (n : Nm) (gs : List PFun) (hl : gs.length ≤ 1000) (q : Nat) (S : Nat → Prop) (A : Option Addr) (c : Nat) (w : World) (hr : RdG w S gs A) (h : w.cell? ⟨q, 0, none⟩ = some (.string (mkB n))) :
    Calls Tryz.prog 39 #[.slice A gs.length c, .func (.func 53) #[] #[.pointer (some ⟨q, 0, none⟩)]] w (Ret (.int .i64 (firstFn n gs 0)) w) := by
  have HR := Lib.hid hr
  have HQ := Lib.hid h
  clear hr h
  go_enter Tryz.func39, Tryz.ntmps39
  go_wp2_with fail
  go_loopw [5, 8] (fun _ i wr => ∃ k : Nat, k ≤ gs.length ∧ i = .int .i64 k ∧ firstFn n gs 0 = firstFn n (gs.drop k) k ∧ Below w.heap.size w wr) (fun _ i _ => gs.length - (intOf i).toNat)
  case atStart => exact ⟨0, Nat.zero_le _, rfl, by simp, grow_refl _⟩
  case round =>
    obtain ⟨k, hk, rfl, hI, hbel⟩ := hrel
    have HI := Lib.hid hI
    clear hI
    by_cases hlt : k < gs.length
    · obtain ⟨b, off, P, p, B, d, rfl, -, hcells, -, -, -⟩ := (HR.out.keep ((Keeps.of_below hbel).in S) (fun _ h => h)) k hlt
      obtain ⟨c0, c1, c2⟩ := cells_fun hcells
      have hlt' : (k : Int) < (gs.length : Int) := by omega
      have HS := Lib.hid (firstFn_drop (n := n) hlt)
      have h1 := names2_any gs[k] P p B d q n wr (Keeps.of_below hbel _ _ HQ.out)
      unfold funV at h1
      have HN := Lib.hid h1
      clear h1 hcells
      cases hn : (gs[k].name == n)
      · rw [hn] at HN HS
        have HF : Hid (firstFn n gs 0 = firstFn n (gs.drop (k + 1)) (k + 1)) := show _ = _ from HI.out.trans HS.out
        clear hn
        go_wp2_with (go_at_call 53; (with_reducible refine HN.out.mono ?_); rintro y w1 ⟨rfl, hb1⟩)
        go_roundw
        case rel => exact ⟨k + 1, by omega, by go_num, HF.out, grow_trans hbel hb1⟩
        case measure => simp [intOf]; omega
      · rw [hn] at HN HS
        have HF : Hid (firstFn n gs 0 = (k : Int)) := show _ = _ from HI.out.trans HS.out
        clear hn
        go_wp2_with (go_at_call 53; (with_reducible refine HN.out.mono ?_); rintro y w1 ⟨rfl, hb1⟩)
        go_ret
        exact ⟨by rw [HF.out]; rfl, grow_trans hbel hb1⟩
    · have hk' : k = gs.length := by omega
      subst hk'
      go_wp2_with fail
      go_ret
      exact ⟨by rw [HI.out, List.drop_length]; rfl, hbel⟩
set_option maxRecDepth 100000 in
theorem anyFn_any (n : Nm) (gs : List PFun) (hl : gs.length ≤ 1000) (q : Nat) (S : Nat → Prop) (A : Option Addr) (c : Nat) (w : World) (hr : RdG w S gs A) (h : w.cell? ⟨q, 0, none⟩ = some (.string (mkB n))) :
    Calls Tryz.prog 52 #[.slice A gs.length c, .func (.func 53) #[] #[.pointer (some ⟨q, 0, none⟩)]] w (Ret (.bool (gs.any fun g => g.name == n)) w) := by
  have HI := Lib.hid (idxFn_any n gs hl q S A c w hr h)
  have HB := Lib.hid (firstFn_any n gs 0)
  clear hr h
  go_enter Tryz.func52, Tryz.ntmps52
  go_wp2_with (go_at_call 39; (with_reducible refine HI.out.mono ?_); rintro y w1 ⟨rfl, hb1⟩)
  go_ret
  exact ⟨by rw [← HB.out]; rfl, hb1⟩
end Go.Proofs.YtnpdjncgilekhaaGreatDoor

namespace Go.Proofs.YtnpdjncgilekhaaGreatDoor
open Go.RowKit

theorem namesC_bad {f : PFun} {ahead : List PFun} (h : (nmOk f.name && f.params.all nmOk) = false) : namesC f ahead = 5 := by unfold namesC; rw [if_neg (by rw [h]; decide)]
theorem namesC_there {f : PFun} {ahead : List PFun} (h : (nmOk f.name && f.params.all nmOk) = true) (h2 : (ahead.any fun g => g.name == f.name) = true) : namesC f ahead = 7 := by unfold namesC; rw [if_pos h, if_pos h2]
theorem namesC_many {f : PFun} {ahead : List PFun} (h : (nmOk f.name && f.params.all nmOk) = true) (h2 : (ahead.any fun g => g.name == f.name) = false) (h3 : 4 < f.params.length) : namesC f ahead = 9 := by
  unfold namesC; rw [if_pos h, if_neg (by rw [h2]; decide), if_pos h3]
theorem namesC_rest {f : PFun} {ahead : List PFun} (h : (nmOk f.name && f.params.all nmOk) = true) (h2 : (ahead.any fun g => g.name == f.name) = false) (h3 : ¬ 4 < f.params.length) : namesC f ahead = if dupC [] f.params then 7 else 0 := by
  unfold namesC; rw [if_pos h, if_neg (by rw [h2]; decide), if_neg h3]
theorem dupC_step {ps : List Nm} {k : Nat} (h : k < ps.length) : dupC (ps.take k) (ps.drop k) = ((ps.take k).contains ps[k] || dupC (ps.take (k + 1)) (ps.drop (k + 1))) := by
  rw [List.drop_eq_getElem_cons h, dupC, ← List.take_succ_eq_append_getElem h]
theorem row3 {w : World} {q : Nat} {v0 v1 v2 : Value} {T : TypeId} {fz : Nat × Nat} (hrow : w.heap[q]? = some (.cells #[v0, v1, v2] T fz)) :
    w.cell? ⟨q, 0, none⟩ = some v0 ∧ w.cell? ⟨q, 1, none⟩ = some v1 ∧ w.cell? ⟨q, 2, none⟩ = some v2 :=
  ⟨cell_of_row _ _ 0 _ _ _ hrow, cell_of_row _ _ 1 _ _ _ hrow, cell_of_row _ _ 2 _ _ _ hrow⟩
theorem rdT_row {w : World} {S : Nat → Prop} {xs : List Nm} {A : Option Addr} (h : RdT w S xs A) : Row w A (strVs xs) := fun j u hj => by
  have hl : j < xs.length := by have := (List.getElem?_eq_some_iff.1 hj).1; simpa [strVs] using this
  obtain ⟨b, off, e, _, hc⟩ := h j hl
  have hu : u = .string (mkB xs[j]) := by
    have := (List.getElem?_eq_some_iff.1 hj).2
    simpa [strVs] using this.symm
  exact ⟨b, off, e, by rw [hu]; exact hc⟩
theorem row_take {w : World} {A : Option Addr} {l : List Nm} (h : Row w A (strVs l)) (k : Nat) : Row w A (strVs (l.take k)) := fun j u hj => h j u (by
  unfold strVs at hj ⊢
  rw [List.map_take] at hj
  rw [List.getElem?_take] at hj
  split at hj
  · exact hj
  · cases hj)
set_option maxHeartbeats 4000000 in
set_option maxRecDepth 100000 in
theorem names_any (E : Nat → Addr) (f : PFun) (ahead : List PFun) (hp8 : f.params.length ≤ 8) (ha : ahead.length ≤ 10) (S S' : Nat → Prop) (P : Option Addr) (p : Nat) (B : Option Addr) (c : Nat) (A : Option Addr) (d : Nat) (w : World) (hE : Laid E w) (hT : RdT w S f.params P) (hok : PrmOk f P p) (hA : RdG w S' ahead A) :
    Calls Tryz.prog 25 #[funV f P p B c, .slice A ahead.length d] w (Ret (eV E (namesC f ahead)) w) := by
  have hb0 : Below w.heap.size w (w.alloc (funO f P p B c)) := grow_alloc (grow_refl _) _
  have HB0 := Lib.hid hb0
  have HBK := Lib.hid (heap_alloc_new w (funO f P p B c))
  have HL : Hid (∀ w', Below w.heap.size w w' → Laid E w') := fun w' hb => hE.keep hb
  have hn1 := lexName_any f.name
  unfold strV at hn1
  have HN := Lib.hid hn1
  have HP : Hid (∀ w', Below w.heap.size w w' → Calls Tryz.prog 50 #[.slice P f.params.length p, .func (.func 51) #[] #[]] w' (Ret (.bool (!f.params.all nmOk)) w')) := fun w' hb =>
    anyNo_any f.params (by omega) P p w' (rdT_row (hT.keep ((Keeps.of_below hb).in S) (fun _ h => h)))
  have HF : Hid (∀ w', Below w.heap.size w w' → w'.cell? ⟨w.heap.size, 0, none⟩ = some (.string (mkB f.name)) → Calls Tryz.prog 52 #[.slice A ahead.length d, .func (.func 53) #[] #[.pointer (some ⟨w.heap.size, 0, none⟩)]] w' (Ret (.bool (ahead.any fun g => g.name == f.name)) w')) := fun w' hb hc =>
    anyFn_any f.name ahead (by omega) w.heap.size S' A d w' (hA.keep ((Keeps.of_below hb).in S') (fun _ h => h)) hc
  have HD : Hid (∀ k x w', Below w.heap.size w w' → k ≤ f.params.length → Calls Tryz.prog 36 #[.slice P k p, .string (mkB x)] w' fun e w'' => e = .returned (.bool ((f.params.take k).contains x)) ∧ w'' = w') := fun k x w' hb hk => by
    have := has_any (f.params.take k) x P p w' (row_take (rdT_row (hT.keep ((Keeps.of_below hb).in S) (fun _ h => h))) k) (by rw [List.length_take]; omega)
    rwa [List.length_take, Nat.min_eq_left hk] at this
  have HT := Lib.hid hT
  have HOK := Lib.hid hok
  have hcap := hok.2
  clear hE hT hok hA hn1 hb0
  unfold funV
  unfold funO at *
  cases h1 : nmOk f.name
  · have HE := Lib.hid (namesC_bad (ahead := ahead) (show (nmOk f.name && f.params.all nmOk) = false by rw [h1]; rfl))
    rw [h1] at HN
    clear h1
    go_enter Tryz.func25, Tryz.ntmps25
    go_wp2_with (go_at_call 49; (with_reducible refine (HN.out _).mono ?_); rintro y w1 ⟨rfl, hb1⟩; have g4 := (HL.out _ (grow_trans HB0.out hb1)).c4)
    go_ret
    exact ⟨by rw [HE.out]; rfl, grow_trans HB0.out hb1⟩
  · rw [h1] at HN
    cases h2 : f.params.all nmOk
    · have HE := Lib.hid (namesC_bad (ahead := ahead) (show (nmOk f.name && f.params.all nmOk) = false by rw [h1, h2]; rfl))
      rw [h2] at HP
      clear h1 h2
      go_enter Tryz.func25, Tryz.ntmps25
      go_wp2_with (first
        | (go_at_call 49; (with_reducible refine (HN.out _).mono ?_); rintro y w1 ⟨rfl, hb1⟩; obtain ⟨d0, d1, d2⟩ := row3 ((hb1.block _ (by simp)).trans HBK.out); have HB1 := Lib.hid (grow_trans HB0.out hb1))
        | (go_at_call 50; (with_reducible refine (HP.out _ HB1.out).mono ?_); rintro y w2 ⟨rfl, hb2⟩; have g4 := (HL.out _ (grow_trans HB1.out hb2)).c4))
      go_ret
      exact ⟨by rw [HE.out]; rfl, grow_trans HB1.out hb2⟩
    · have hok : (nmOk f.name && f.params.all nmOk) = true := by rw [h1, h2]; rfl
      rw [h2] at HP
      clear h1 h2
      cases h3 : ahead.any fun g => g.name == f.name
      · by_cases h4 : 4 < f.params.length
        · have HE := Lib.hid (namesC_many hok h3 h4)
          have q4 : (4 : Int) < (f.params.length : Int) := by omega
          rw [h3] at HF
          clear hok h3 h4
          go_enter Tryz.func25, Tryz.ntmps25
          go_wp2_with (first
            | (go_at_call 49; (with_reducible refine (HN.out _).mono ?_); rintro y w1 ⟨rfl, hb1⟩; have HK1 := Lib.hid ((hb1.block _ (by simp)).trans HBK.out); obtain ⟨d0, d1, d2⟩ := row3 HK1.out; have HB1 := Lib.hid (grow_trans HB0.out hb1))
            | (go_at_call 50; (with_reducible refine (HP.out _ HB1.out).mono ?_); rintro y w2 ⟨rfl, hb2⟩; have HK2 := Lib.hid ((hb2.block _ (Array.getElem?_eq_some_iff.1 HK1.out).1).trans HK1.out); have HB2 := Lib.hid (grow_trans HB1.out hb2))
            | (go_at_call 52; (with_reducible refine (HF.out _ HB2.out (row3 HK2.out).1).mono ?_); rintro y w3 ⟨rfl, hb3⟩; obtain ⟨e0, e1, e2⟩ := row3 ((hb3.block _ (Array.getElem?_eq_some_iff.1 HK2.out).1).trans HK2.out); have g8 := (HL.out _ (grow_trans HB2.out hb3)).c8))
          go_ret
          exact ⟨by rw [HE.out]; rfl, grow_trans HB2.out hb3⟩
        · have HE := Lib.hid (namesC_rest hok h3 h4)
          have q4 : ¬ (4 : Int) < (f.params.length : Int) := by omega
          rw [h3] at HF
          clear hok h3 h4
          go_enter Tryz.func25, Tryz.ntmps25
          go_wp2_with (first
            | (go_at_call 49; (with_reducible refine (HN.out _).mono ?_); rintro y w1 ⟨rfl, hb1⟩; have HK1 := Lib.hid ((hb1.block _ (by simp)).trans HBK.out); obtain ⟨d0, d1, d2⟩ := row3 HK1.out; have HB1 := Lib.hid (grow_trans HB0.out hb1))
            | (go_at_call 50; (with_reducible refine (HP.out _ HB1.out).mono ?_); rintro y w2 ⟨rfl, hb2⟩; have HK2 := Lib.hid ((hb2.block _ (Array.getElem?_eq_some_iff.1 HK1.out).1).trans HK1.out); have HB2 := Lib.hid (grow_trans HB1.out hb2))
            | (go_at_call 52; (with_reducible refine (HF.out _ HB2.out (row3 HK2.out).1).mono ?_); rintro y w3 ⟨rfl, hb3⟩; have HK3 := Lib.hid ((hb3.block _ (Array.getElem?_eq_some_iff.1 HK2.out).1).trans HK2.out); obtain ⟨e0, e1, e2⟩ := row3 HK3.out; have HB3 := Lib.hid (grow_trans HB2.out hb3)))
          have f1 := (row3 HK3.out).2.1
          have g6 := (HL.out _ HB3.out).c6
          go_loop [5, 6, 29] (fun _ _ i => ∃ k : Nat, k ≤ f.params.length ∧ i = .int .i64 k ∧ dupC [] f.params = dupC (f.params.take k) (f.params.drop k)) (fun _ _ i => f.params.length - (intOf i).toNat)
          case atStart => exact ⟨0, Nat.zero_le _, rfl, by simp⟩
          case round =>
            obtain ⟨k, hk, rfl, hI⟩ := hrel
            have HI := Lib.hid hI
            clear hI
            by_cases hlt : k < f.params.length
            · obtain ⟨b', off', rfl, -, hc⟩ := (HT.out.keep ((Keeps.of_below HB3.out).in S) (fun _ h => h)) k hlt
              have hlt' : (k : Int) < (f.params.length : Int) := by omega
              have hcp : (k : Int) ≤ (p : Int) := by omega
              have HS := Lib.hid (dupC_step hlt)
              have HCN := Lib.hid (HD.out k f.params[k] _ HB3.out hk)
              cases hd : (f.params.take k).contains f.params[k]
              · rw [hd] at HCN HS
                clear hd
                go_wp2_with (go_at_call 36; (with_reducible refine HCN.out.mono ?_); rintro y w4 ⟨rfl, rfl⟩)
                go_round
                case rel => exact ⟨k + 1, by omega, by go_num, HI.out.trans HS.out⟩
                case measure => simp [intOf]; omega
              · rw [hd] at HCN HS
                have HZ : Hid (namesC f ahead = 7) := show _ = _ by rw [HE.out, HI.out, HS.out]; rfl
                clear hd
                go_wp2_with (go_at_call 36; (with_reducible refine HCN.out.mono ?_); rintro y w4 ⟨rfl, rfl⟩)
                go_ret
                exact ⟨by rw [HZ.out]; rfl, HB3.out⟩
            · have hk' : k = f.params.length := by omega
              subst hk'
              have HZ : Hid (namesC f ahead = 0) := show _ = _ by rw [HE.out, HI.out, List.drop_length]; rfl
              go_wp2_with fail
              go_ret
              exact ⟨by rw [HZ.out]; rfl, HB3.out⟩
      · have HE := Lib.hid (namesC_there hok h3)
        rw [h3] at HF
        clear hok h3
        go_enter Tryz.func25, Tryz.ntmps25
        go_wp2_with (first
          | (go_at_call 49; (with_reducible refine (HN.out _).mono ?_); rintro y w1 ⟨rfl, hb1⟩; have HK1 := Lib.hid ((hb1.block _ (by simp)).trans HBK.out); obtain ⟨d0, d1, d2⟩ := row3 HK1.out; have HB1 := Lib.hid (grow_trans HB0.out hb1))
          | (go_at_call 50; (with_reducible refine (HP.out _ HB1.out).mono ?_); rintro y w2 ⟨rfl, hb2⟩; have HK2 := Lib.hid ((hb2.block _ (Array.getElem?_eq_some_iff.1 HK1.out).1).trans HK1.out); have HB2 := Lib.hid (grow_trans HB1.out hb2))
          | (go_at_call 52; (with_reducible refine (HF.out _ HB2.out (row3 HK2.out).1).mono ?_); rintro y w3 ⟨rfl, hb3⟩; have g6 := (HL.out _ (grow_trans HB2.out hb3)).c6))
        go_ret
        exact ⟨by rw [HE.out]; rfl, grow_trans HB2.out hb3⟩
end Go.Proofs.YtnpdjncgilekhaaGreatDoor
