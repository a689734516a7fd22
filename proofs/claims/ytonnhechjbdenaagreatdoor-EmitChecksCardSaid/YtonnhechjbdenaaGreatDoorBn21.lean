import Derived.Test.YtonnhechjbdenaaGreatDoorBn5
import Derived.Test.YtonnhechjbdenaaGreatDoorBn3
set_option linter.unusedVariables false
set_option linter.unusedSimpArgs false
namespace Go.Proofs.YtonnhechjbdenaaGreatDoor
open Go.RowKit

/-! a machine, in plain Lean: what is so at each step -/
structure FrOk (m : PImg) (x : PFr) : Prop where
  r : x.r.length = 8
  slots : x.slots.length = x.f.slots.toNat
  args : x.args.length = 4
  next : x.next.length = 4
  pc : x.pc ≤ m.words.length
  d : x.d < 8
  r6 : ∀ n ∈ x.r, I64 n
  s6 : ∀ n ∈ x.slots, I64 n
  a6 : ∀ n ∈ x.args, I64 n
  n6 : ∀ n ∈ x.next, I64 n
  f : 0 ≤ x.f.params ∧ x.f.params ≤ 4 ∧ 0 ≤ x.f.slots ∧ x.f.slots ≤ 1000
structure MsOk (m : PImg) (T : Nat) (s : PMs) : Prop where
  calls : ∀ x ∈ s.calls, FrOk m x
  deep : s.calls.length ≤ 40
  out : s.out.length ≤ 1000
  ticks : s.ticks ≤ T
  some : s.over = false → s.calls ≠ []
  o6 : ∀ n ∈ s.out, I64 n
/-- What a right word is. -/
structure InsOk (m : PImg) (i : PIns) : Prop where
  op : ∃ k, k < 29 ∧ i.op = nameOf k
  d : 0 ≤ i.d ∧ i.d ≤ 7
  a : 0 ≤ i.a ∧ i.a ≤ 7
  b : 0 ≤ i.b ∧ i.b ≤ 7
  imm : -2147483648 ≤ i.imm ∧ i.imm ≤ 2147483647
  far : farW m.words.length m.funs.length i = false
theorem ins_ok {m : PImg} (hg : GoodI m) {k : Nat} (hk : k < m.words.length) : InsOk m (insP m.words[k]) := by
  have h := hg.words k hk
  unfold wordC at h
  by_cases he : errW m.words[k] = 0
  · rw [if_neg (by simpa using he)] at h
    have hf : farW m.words.length m.funs.length (insP m.words[k]) = false := by
      cases hf : farW m.words.length m.funs.length (insP m.words[k])
      · rfl
      · rw [hf] at h; simp at h
    unfold errW at he
    split at he
    · cases he
    · rename_i h1
      have := errP_zero he
      refine ⟨⟨(m.words[k] / 72057594037927936).toNat - 1, by omega, rfl⟩, this.1, this.2.1, this.2.2.1, this.2.2.2.1, hf⟩
  · rw [if_pos he] at h; exact absurd h he
theorem far_not {nw nf : Nat} {i : PIns} (h : farW nw nf i = false) (h0 : 0 ≤ mostW nw nf i.op) : 0 ≤ i.imm ∧ i.imm < mostW nw nf i.op := by
  unfold farW at h
  simp [h0] at h
  omega
theorem InsOk.jump {m : PImg} {i : PIns} (h : InsOk m i) (ho : i.op = jumpT ∨ i.op = ifT) : 0 ≤ i.imm ∧ i.imm < m.words.length := by
  have e : mostW m.words.length m.funs.length i.op = m.words.length := by unfold mostW; rw [if_pos ho]
  have := far_not h.far (by rw [e]; omega)
  rwa [e] at this
theorem InsOk.call {m : PImg} {i : PIns} (h : InsOk m i) (ho : i.op = callT) : 0 ≤ i.imm ∧ i.imm < m.funs.length := by
  have e : mostW m.words.length m.funs.length i.op = m.funs.length := by rw [ho]; rfl
  have := far_not h.far (by rw [e]; omega)
  rwa [e] at this
theorem InsOk.slot {m : PImg} {i : PIns} (h : InsOk m i) (ho : i.op = loadT ∨ i.op = storeT) : 0 ≤ i.imm ∧ i.imm < 1000 := by
  have e : mostW m.words.length m.funs.length i.op = 1000 := by rcases ho with ho | ho <;> (rw [ho]; rfl)
  have := far_not h.far (by rw [e]; decide)
  rwa [e] at this
theorem InsOk.param {m : PImg} {i : PIns} (h : InsOk m i) (ho : i.op = paramT ∨ i.op = argT) : 0 ≤ i.imm ∧ i.imm < 4 := by
  have e : mostW m.words.length m.funs.length i.op = 4 := by rcases ho with ho | ho <;> (rw [ho]; rfl)
  have := far_not h.far (by rw [e]; decide)
  rwa [e] at this
theorem fn_ok {nw : Nat} {l : List PFn} {f : PFn} (h : fnC nw l f = 0) : (0 ≤ f.params ∧ f.params ≤ 4 ∧ 0 ≤ f.slots ∧ f.slots ≤ 1000) ∧ 0 ≤ f.entry ∧ f.entry < nw ∧ fnameB l f = false := by
  unfold fnC at h
  cases hn : fnameB l f
  · rw [hn] at h
    simp only [Bool.false_eq_true, if_false] at h
    by_cases h1 : f.params < 0 ∨ 4 < f.params
    · rw [if_pos h1] at h; cases h
    · rw [if_neg h1] at h
      by_cases h2 : f.slots < 0 ∨ 1000 < f.slots ∨ f.entry < 0 ∨ (nw : Int) ≤ f.entry
      · rw [if_pos h2] at h; cases h
      · exact ⟨by omega, by omega, by omega, rfl⟩
  · rw [hn] at h; simp at h
theorem set_I64 {l : List Int} {k : Nat} {v : Int} (h : ∀ n ∈ l, I64 n) (hv : I64 v) : ∀ n ∈ l.set k v, I64 n := fun n hn => by
  rcases List.mem_or_eq_of_mem_set hn with q | q
  · exact h n q
  · rw [q]; exact hv
theorem get_I64 {l : List Int} (h : ∀ n ∈ l, I64 n) (k : Nat) : I64 (l.getD k 0) := by
  rw [List.getD_eq_getElem?_getD]
  cases hk : l[k]? with
  | none => exact ⟨by decide, by decide⟩
  | some v => exact h v (List.mem_of_getElem? hk)
theorem rep_I64 (n : Nat) : ∀ x ∈ List.replicate n (0 : Int), I64 x := fun x hx => by
  rw [List.eq_of_mem_replicate hx]; exact ⟨by decide, by decide⟩
theorem valOf_I64 {l : Txt} {a : Int} (ha : I64 a) (b : Int) : I64 (valOf (doV l a b)) := by
  cases h : doV l a b with
  | none => exact ⟨by decide, by decide⟩
  | some v =>
    have := doV_dofV l a b v h
    show I64 v
    rw [← this]
    exact dofV_I64 l ha b
theorem zero4_I64 : ∀ n ∈ zero4, I64 n := fun n hn => by
  have : n = 0 := by unfold zero4 at hn; simpa using hn
  rw [this]; exact ⟨by decide, by decide⟩
theorem zero8_I64 : ∀ n ∈ zero8, I64 n := fun n hn => by
  have : n = 0 := by unfold zero8 at hn; simpa using hn
  rw [this]; exact ⟨by decide, by decide⟩
theorem args4_len (args : List Int) : (args4 args).length = 4 := by unfold args4 zero4; simp
theorem args4_I64 {args : List Int} (h : ∀ n ∈ args, I64 n) : ∀ n ∈ args4 args, I64 n := fun n hn => by
  unfold args4 at hn
  rcases List.mem_append.1 (List.mem_of_mem_take hn) with q | q
  · exact h n q
  · exact zero4_I64 n q
section
variable {m : PImg} {T : Nat} {s : PMs} {x y : PFr} {i : PIns}
theorem over_end (how : Txt) (h : how ≠ []) : (endM how s).over = true := by
  unfold PMs.over endM
  cases how with
  | nil => exact absurd rfl h
  | cons a b => rfl
theorem MsOk.end_ (h : MsOk m T s) {how : Txt} (hh : how ≠ []) : MsOk m T (endM how s) := ⟨h.calls, h.deep, h.out, h.ticks, (fun q => by rw [over_end how hh] at q; cases q), h.o6⟩
theorem MsOk.tick (h : MsOk m T s) : MsOk m T (tickM T s) := by
  unfold tickM
  split
  · exact ⟨h.calls, h.deep, h.out, by simp; omega, h.some, h.o6⟩
  · exact h.end_ (by decide)
theorem MsOk.print (h : MsOk m T s) {n : Int} (hn : I64 n) : MsOk m T (printM n s) := by
  unfold printM
  split
  · exact h.end_ (by decide)
  · exact ⟨h.calls, h.deep, by simp; omega, h.ticks, h.some, fun k hk => by
      rcases List.mem_append.1 hk with q | q
      · exact h.o6 k q
      · have : k = n := by simpa using q
        rw [this]; exact hn⟩
theorem dropLast_mem {α : Type} {l : List α} {x : α} (h : x ∈ l.dropLast) : x ∈ l := List.dropLast_subset l h
theorem MsOk.top (h : MsOk m T s) (hx : FrOk m x) (h0 : s.calls ≠ []) : MsOk m T (topM x s) := by
  refine ⟨fun y hy => ?_, ?_, h.out, h.ticks, fun _ => by unfold topM; simp, h.o6⟩
  · unfold topM at hy
    rcases List.mem_append.1 hy with q | q
    · exact h.calls y (dropLast_mem q)
    · have : y = x := by simpa using q
      rw [this]; exact hx
  · have := h.deep
    have := List.length_pos_iff.2 h0
    unfold topM
    simp
    omega
theorem top_mem (h0 : s.calls ≠ []) : s.top ∈ s.calls := by
  unfold PMs.top
  rw [List.getLastD_eq_getLast?, List.getLast?_eq_some_getLast h0]
  exact List.getLast_mem h0
theorem MsOk.topOk (h : MsOk m T s) (h0 : s.calls ≠ []) : FrOk m s.top := h.calls _ (top_mem h0)
theorem FrOk.put (h : FrOk m x) {n v : Int} (hv : I64 v) : FrOk m (putM x n v) := ⟨by unfold putM; simp [h.r], h.slots, h.args, h.next, h.pc, h.d, set_I64 h.r6 hv, h.s6, h.a6, h.n6, h.f⟩
theorem FrOk.reg (h : FrOk m x) (n : Int) : I64 (regM x n) := get_I64 h.r6 _
theorem new_ok {f : PFn} {d : Nat} {args : List Int} (hf : 0 ≤ f.params ∧ f.params ≤ 4 ∧ 0 ≤ f.slots ∧ f.slots ≤ 1000) (he : 0 ≤ f.entry ∧ f.entry < m.words.length) (hd : d < 8) (ha : args.length = 4) (ha6 : ∀ n ∈ args, I64 n) : FrOk m (newFr f d args) :=
  ⟨rfl, by unfold newFr; simp, ha, rfl, by unfold newFr; simp; omega, hd, zero8_I64, rep_I64 _, ha6, zero4_I64, hf⟩
theorem MsOk.enter (hg : GoodI m) (h : MsOk m T s) {k d : Nat} {args : List Int} (hk : k < m.funs.length) (hd : d < 8) (ha : args.length = 4) (ha6 : ∀ n ∈ args, I64 n) (h0 : (s.over = false → s.calls ≠ []) ∨ True) : MsOk m T (enterM m.funs T k d args s) := by
  have ht := h.tick
  unfold enterM
  split
  · exact ht
  · split
    · exact ht.end_ (by decide)
    · rename_i h1 h2
      have hf : m.funs.getD k fn0 = m.funs[k] := by rw [List.getD_eq_getElem?_getD, List.getElem?_eq_getElem hk]; rfl
      have hok := fn_ok (hg.funs k hk)
      have hl : (tickM T s).calls = s.calls := by unfold tickM endM; split <;> rfl
      rw [hf]
      refine ⟨fun y hy => ?_, ?_, ht.out, ht.ticks, fun _ => by unfold pushM; simp, ht.o6⟩
      · unfold pushM at hy
        rcases List.mem_append.1 hy with q | q
        · exact ht.calls y q
        · have : y = newFr m.funs[k] d args := by simpa using q
          rw [this]; exact new_ok hok.1 ⟨hok.2.1, hok.2.2.1⟩ hd ha ha6
      · unfold pushM; simp [hl]; omega
theorem MsOk.back (h : MsOk m T s) (h0 : s.calls ≠ []) {v : Int} (hv : I64 v) : MsOk m T (backM v s) := by
  unfold backM
  split
  · exact ⟨fun x hx => (by cases hx), by simp, h.out, h.ticks, fun q => (by simp [PMs.over, doneT] at q), h.o6⟩
  · rename_i h1
    have hm : s.calls.dropLast.getLastD s.top ∈ s.calls := by
      rw [List.getLastD_eq_getLast?, List.getLast?_eq_some_getLast h1]
      exact dropLast_mem (List.getLast_mem h1)
    have hx := h.calls _ hm
    refine ⟨fun y hy => ?_, ?_, h.out, h.ticks, fun _ => by simp, h.o6⟩
    · rcases List.mem_append.1 hy with q | q
      · exact h.calls y (dropLast_mem (dropLast_mem q))
      · rw [List.mem_singleton.1 q]
        exact ⟨by rw [List.length_set]; exact hx.r, hx.slots, hx.args, hx.next, hx.pc, hx.d, set_I64 hx.r6 hv, hx.s6, hx.a6, hx.n6, hx.f⟩
    · have := h.deep
      simp
      omega
theorem sum_I64 (h : FrOk m x) : I64 (sumP i x) := by
  unfold sumP
  split
  · exact wrap64_I64 _
  · split
    · exact bitV_I64 _
    · exact valOf_I64 (h.reg _) _
theorem MsOk.flow (hg : GoodI m) (h : MsOk m T s) (hx : FrOk m x) (hi : InsOk m i) (h0 : s.calls ≠ []) (hc : flowB i.op = true) : MsOk m T (flowP m.funs T i x s) := by
  unfold flowP
  split
  · exact h.tick
  · split
    · exact h.print (hx.reg _)
    · split
      · rename_i ho
        have := hi.jump (.inl ho)
        exact h.top ⟨hx.r, hx.slots, hx.args, hx.next, by simp; omega, hx.d, hx.r6, hx.s6, hx.a6, hx.n6, hx.f⟩ h0
      · split
        · rename_i ho
          have := hi.jump (.inr ho)
          split
          · exact h
          · exact h.top ⟨hx.r, hx.slots, hx.args, hx.next, by simp; omega, hx.d, hx.r6, hx.s6, hx.a6, hx.n6, hx.f⟩ h0
        · split
          · exact h.back h0 (hx.reg _)
          · have hz : FrOk m { x with next := zero4 } := ⟨hx.r, hx.slots, hx.args, rfl, hx.pc, hx.d, hx.r6, hx.s6, hx.a6, zero4_I64, hx.f⟩
            split
            · rename_i h1 h2 h3 h4 h5 h6
              have ho : i.op = callT := by
                unfold flowB at hc
                simpa [h1, h2, h3, h4, h5] using hc
              have := hi.call ho
              exact (h.top hz h0).enter hg (by omega) (by have := hi.d; omega) hx.next hx.n6 (.inr trivial)
            · exact (h.top hz h0).end_ (by decide)
theorem MsOk.move (h : MsOk m T s) (hx : FrOk m x) (hi : InsOk m i) (h0 : s.calls ≠ []) : MsOk m T (moveP i x s) := by
  have him : I64 i.imm := by have := hi.imm; unfold I64; omega
  unfold moveP
  split
  · exact h.end_ (by decide)
  · split
    · exact h.top (hx.put him) h0
    · split
      · exact h.top (hx.put (wrap64_I64 _)) h0
      · split
        · exact h.top (hx.put (hx.reg _)) h0
        · split
          · exact h.top (hx.put (get_I64 hx.s6 _)) h0
          · split
            · exact h.top ⟨hx.r, by simp [hx.slots], hx.args, hx.next, hx.pc, hx.d, hx.r6, set_I64 hx.s6 (hx.reg _), hx.a6, hx.n6, hx.f⟩ h0
            · split
              · exact h.top (hx.put (get_I64 hx.a6 _)) h0
              · exact h.top ⟨hx.r, hx.slots, hx.args, by simp [hx.next], hx.pc, hx.d, hx.r6, hx.s6, hx.a6, set_I64 hx.n6 (hx.reg _), hx.f⟩ h0
theorem MsOk.stepI (hg : GoodI m) (h : MsOk m T s) (hx : FrOk m x) (hi : InsOk m i) (h0 : s.calls ≠ []) : MsOk m T (stepI m.funs T i x s) := by
  unfold Go.Proofs.YtonnhechjbdenaaGreatDoor.stepI
  cases hf : flowB i.op
  · simp only [Bool.false_eq_true, if_false]
    split
    · exact h.move hx hi h0
    · exact h.top (hx.put (sum_I64 hx)) h0
  · simp only [if_true]
    exact h.flow hg hx hi h0 hf
theorem MsOk.step (hg : GoodI m) (h : MsOk m T s) (ho : s.over = false) : MsOk m T (stepM m T s) := by
  have h0 := h.some ho
  have ht := h.topOk h0
  unfold stepM
  split
  · exact h.end_ (by decide)
  · rename_i hp
    have hp' : s.top.pc < m.words.length := by omega
    have hw : m.words.getD s.top.pc 0 = m.words[s.top.pc] := by rw [List.getD_eq_getElem?_getD, List.getElem?_eq_getElem hp']; rfl
    rw [hw]
    have hx : FrOk m { s.top with pc := s.top.pc + 1 } := ⟨ht.r, ht.slots, ht.args, ht.next, by simp; omega, ht.d, ht.r6, ht.s6, ht.a6, ht.n6, ht.f⟩
    exact (h.top hx h0).stepI hg hx (ins_ok hg hp') (by unfold topM; simp)
theorem start_ok (hg : GoodI m) {k : Nat} (hk : k < m.funs.length) {args : List Int} (h6 : ∀ n ∈ args, I64 n) : MsOk m T (startM m T k args) := by
  have ht0 : (tickM T Ms0).calls = [] := by unfold tickM endM Ms0; split <;> rfl
  have hok := fn_ok (hg.funs k hk)
  have hf : m.funs.getD k fn0 = m.funs[k] := by rw [List.getD_eq_getElem?_getD, List.getElem?_eq_getElem hk]; rfl
  have hout : (tickM T Ms0).out = [] := by unfold tickM endM Ms0; split <;> rfl
  have htk : (tickM T Ms0).ticks ≤ T := by unfold tickM endM Ms0; split <;> (simp; try omega)
  unfold startM enterM
  split
  · rename_i h1
    exact ⟨(fun x hx => by rw [ht0] at hx; cases hx), (by rw [ht0]; simp), (by rw [hout]; simp), htk, (fun q => by rw [h1] at q; cases q), (fun n hn => by rw [hout] at hn; cases hn)⟩
  · split
    · rename_i h2; simp [Ms0] at h2
    · rw [hf]
      refine ⟨fun y hy => ?_, by unfold pushM; rw [ht0]; simp, by show (tickM T Ms0).out.length ≤ 1000; rw [hout]; simp, htk, (fun _ => by unfold pushM; simp), fun n hn => by
        have : n ∈ (tickM T Ms0).out := hn
        rw [hout] at this; cases this⟩
      unfold pushM at hy
      rw [ht0] at hy
      have : y = newFr m.funs[k] 0 (args4 args) := by simpa using hy
      rw [this]
      exact new_ok hok.1 ⟨hok.2.1, hok.2.2.1⟩ (by decide) (args4_len args) (args4_I64 h6)
end
end Go.Proofs.YtonnhechjbdenaaGreatDoor
