import Derived.Test.YtidhplpidkgkdaaDoorShowPr3
namespace Go.Proofs.YtidhplpidkgkdaaDoor
open Go.RowKit

/-! texts of small trees are short -/
def sumK (d : Nat) : List PExpr → Nat
  | [] => 0
  | k :: ks => szE k d + sumK d ks
theorem szK_sum : ∀ (ks : List PExpr) (d n : Nat), szK ks d n < 1000 → szK ks d n = n + sumK d ks := by
  intro ks
  induction ks with
  | nil => intro d n _; rw [szK_nil]; rfl
  | cons k ks ih =>
    intro d n h
    rw [szK_cons] at h ⊢
    have hn1 : n < 1000 := by split at h <;> omega
    rw [if_pos hn1] at h ⊢
    rw [ih d _ h, sumK]; omega
def sumL (d : Nat) : List PStmt → Nat
  | [] => 0
  | s :: ss => szT s d + sumL d ss
theorem szL_sum : ∀ (ss : List PStmt) (d n : Nat), szL ss d n < 1000 → szL ss d n = n + sumL d ss := by
  intro ss
  induction ss with
  | nil => intro d n _; rw [szL_nil]; rfl
  | cons s ss ih =>
    intro d n h
    rw [szL_cons] at h ⊢
    split at h
    · rename_i hn
      rw [if_pos hn]
      split at h
      · omega
      · rename_i hb
        rw [if_neg hb, ih d _ h, sumL]; omega
    · omega
theorem numT_len (n : Int) (h : okN n) : (numT n).length ≤ 29 := by
  unfold numT
  split
  · decide
  · split
    · have := itoa_len (-n) (by unfold okN at h; omega) (by unfold okN at h; omega)
      simp only [List.length_append, List.length_cons, List.length_nil]; omega
    · have := itoa_len n h.1 h.2
      omega
theorem wrapT_le (k : PExpr) (n : Int) (t : List UInt8) : (wrapT k n t).length ≤ t.length + 2 := by
  unfold wrapT; split
  · simp only [List.length_append, List.length_cons, List.length_nil]; omega
  · omega
theorem joinC_le : ∀ (xs : List (List UInt8)) (M : Nat), (∀ x ∈ xs, x.length ≤ M) → (joinC xs).length ≤ xs.length * (M + 2) := by
  intro xs
  induction xs with
  | nil => intro M _; simp [joinC]
  | cons x xs ih =>
    intro M h
    cases xs with
    | nil => have := h x (by simp); simp only [joinC, List.length_cons, List.length_nil]; omega
    | cons y ys =>
      have h1 := h x (by simp)
      have h2 := ih M (fun z hz => h z (by simp only [List.mem_cons] at hz ⊢; exact .inr hz))
      simp only [joinC, List.length_append, List.length_cons, List.length_nil] at h2 ⊢
      rw [Nat.add_mul, Nat.one_mul]
      omega
theorem joinC_sum (d : Nat) : ∀ (ks : List PExpr), (∀ k ∈ ks, (textE k).length ≤ 64 * szE k d) → (joinC (ks.map textE)).length ≤ 64 * sumK d ks + 2 * ks.length := by
  intro ks
  induction ks with
  | nil => intro _; simp [joinC]
  | cons k ks ih =>
    intro h
    have h1 := h k (by simp)
    have h2 := ih (fun z hz => h z (by simp [hz]))
    cases ks with
    | nil => simp only [List.map_cons, List.map_nil, joinC, sumK, List.length_cons, List.length_nil]; omega
    | cons m ms =>
      simp only [List.map_cons, joinC, List.length_append, List.length_cons, List.length_nil, sumK] at h2 ⊢
      omega
theorem textE_le : ∀ (e : PExpr) (d : Nat), OkE e → szE e d < 1000 → (textE e).length ≤ 64 * szE e d := by
  intro e
  induction e using PExpr.ind with
  | h e ih =>
    intro d ho h
    rw [szE_eq] at h ⊢
    split at h
    · omega
    · rename_i hc
      rw [if_neg hc]
      have hk : ∀ k ∈ e.kids, (textE k).length ≤ 64 * szE k (d + 1) := fun k hk => ih k hk (d + 1) (ho.kid k hk) (szK_small _ _ _ h k hk)
      rw [szK_sum _ _ _ h]
      by_cases h0 : e.kind = xNum
      · rw [textE_num h0]; have := numT_len e.num ho.num; omega
      by_cases h1 : e.kind = xName
      · rw [textE_name h1]; omega
      by_cases h2 : e.kind = xCall
      · rw [textE_call h2]
        have := joinC_sum (d + 1) e.kids hk
        simp only [List.length_append, List.length_cons, List.length_nil]; omega
      by_cases h3 : e.kind = xOne
      · by_cases hl : e.kids.length = 1
        · match hh : e.kids, hl with
          | [k], _ =>
            rw [textE_one h3 hh]
            have q1 := hk k (by rw [hh]; simp)
            have q2 := wrapT_le k 8 (textE k)
            simp only [List.length_append, sumK]; omega
        · rw [textE_one_no h3 hl]; simp
      by_cases h4 : e.kind = xTwo
      · by_cases hl : e.kids.length = 2
        · match hh : e.kids, hl with
          | [k, m], _ =>
            rw [textE_two h4 hh]
            have q1 := hk k (by rw [hh]; simp)
            have q2 := hk m (by rw [hh]; simp)
            have q3 := wrapT_le k (levelP e.name) (textE k)
            have q4 := wrapT_le m (levelP e.name + 1) (textE m)
            simp only [List.length_append, List.length_cons, List.length_nil, sumK]; omega
        · rw [textE_two_no h4 hl]; simp
      rw [textE_none h0 h1 h2 h3 h4]; simp
/-- All numbers of a statement in range. -/
inductive OkS : PStmt → Prop
  | mk (s : PStmt) (he : OkE s.e) (ht : ∀ k ∈ s.th, OkS k) (hl : ∀ k ∈ s.el, OkS k) : OkS s
theorem OkS.all {s : PStmt} (h : OkS s) : OkE s.e ∧ (∀ k ∈ s.th, OkS k) ∧ (∀ k ∈ s.el, OkS k) := by
  cases h with
  | mk _ a b c => exact ⟨a, b, c⟩
theorem RdS.ok {w : World} {S : Nat → Prop} {ss : List PStmt} {A : Option Addr} (h : RdS w S ss A) : ∀ s ∈ ss, OkS s := by
  induction h with
  | mk ss A b off X T L x t l hA hc hn hx ht hl iht ihl =>
    intro s hm
    obtain ⟨i, hi, rfl⟩ := List.getElem_of_mem hm
    exact ⟨_, ⟨_, hn i hi, (hx i hi).ok⟩, iht i hi, ihl i hi⟩
theorem textB_sum (d : Nat) : ∀ (ss : List PStmt), (∀ s ∈ ss, (textS s (d + 1)).length ≤ 256 * szT s d) → (textB ss (d + 1)).length ≤ 256 * sumL d ss := by
  intro ss
  induction ss with
  | nil => intro _; rw [textB_nil]; simp
  | cons s ss ih =>
    intro h
    rw [textB_cons, List.length_append, sumL]
    have h1 := h s (by simp)
    have h2 := ih (fun z hz => h z (by simp [hz]))
    omega
theorem szS_deep {ss : List PStmt} {d : Nat} (h : szS ss d < 1000) : d ≤ 15 := by
  unfold szS at h
  split at h <;> omega
theorem textS_le : ∀ (s : PStmt) (d : Nat), OkS s → d ≤ 15 → s.name.length ≤ 20 → s.kind.length ≤ 20 → szT s d < 1000 → TxS (d + 1) s ∧ (textS s (d + 1)).length ≤ 256 * szT s d := by
  intro s
  induction s using PStmt.ind with
  | h s iht ihl =>
    intro d ho hd hn hk h
    rw [szT_eq] at h ⊢
    obtain ⟨he, hot, hol⟩ := ho.all
    have qe := textE_le s.e 0 he (by omega)
    have hT : szS s.th (d + 1) < 1000 := by omega
    have hL : szS s.el (d + 1) < 1000 := by omega
    obtain ⟨l1, q1⟩ := szS_small hT
    obtain ⟨l2, q2⟩ := szS_small hL
    have hdd := szS_deep hT
    have kT : ∀ k ∈ s.th, TxS (d + 1 + 1) k ∧ (textS k (d + 1 + 1)).length ≤ 256 * szT k (d + 1) := fun k hk' => by
      have q := szL_small _ _ _ q1 k hk'
      exact iht k hk' (d + 1) (hot k hk') hdd q.1 q.2.1 q.2.2
    have kL : ∀ k ∈ s.el, TxS (d + 1 + 1) k ∧ (textS k (d + 1 + 1)).length ≤ 256 * szT k (d + 1) := fun k hk' => by
      have q := szL_small _ _ _ q2 k hk'
      exact ihl k hk' (d + 1) (hol k hk') hdd q.1 q.2.1 q.2.2
    refine ⟨⟨d + 1, s, by omega, hk, hn, he, by omega, l1, l2, fun k hk' => (kT k hk').1, fun k hk' => (kL k hk').1⟩, ?_⟩
    have bT := textB_sum (d + 1) s.th fun k hk' => (kT k hk').2
    have bL := textB_sum (d + 1) s.el fun k hk' => (kL k hk').2
    have sT : szS s.th (d + 1) = sumL (d + 1) s.th := by
      have := szL_sum _ _ _ q1
      unfold szS
      rw [if_neg (by omega), this]; omega
    have sL : szS s.el (d + 1) = sumL (d + 1) s.el := by
      have := szL_sum _ _ _ q2
      unfold szS
      rw [if_neg (by omega), this]; omega
    rw [textS_eq]
    split
    · simp only [lineT, List.length_append, List.length_replicate, List.length_cons, List.length_nil]; omega
    · split
      · simp only [lineT, List.length_append, List.length_replicate, List.length_cons, List.length_nil]; omega
      · split
        · simp only [lineT, List.length_append, List.length_replicate, List.length_cons, List.length_nil]; omega
        · split
          · split
            · simp only [lineT, List.length_append, List.length_replicate, List.length_cons, List.length_nil]; omega
            · simp only [lineT, List.length_append, List.length_replicate, List.length_cons, List.length_nil]; omega
          · simp
def OkF (f : PFun) : Prop := ∀ s ∈ f.body, OkS s
theorem RdF.ok {w : World} {S : Nat → Prop} {fs : List PFun} {A : Option Addr} (h : RdF w S fs A) : ∀ f ∈ fs, OkF f := by
  intro f hf
  obtain ⟨i, hi, rfl⟩ := List.getElem_of_mem hf
  obtain ⟨b, off, P, p, B, c, e, hs, hc, hp, hb⟩ := h i hi
  exact hb.ok
theorem textF_le (f : PFun) (hs : SmF f) (ho : OkF f) (h : szS f.body 0 < 1000) : TxF f ∧ (textF f).length ≤ 256 * szS f.body 0 + 300 := by
  obtain ⟨l1, q1⟩ := szS_small h
  have kB : ∀ s ∈ f.body, TxS (0 + 1) s ∧ (textS s (0 + 1)).length ≤ 256 * szT s 0 := fun s hs' => by
    have q := szL_small _ _ _ q1 s hs'
    exact textS_le s 0 (ho s hs') (by omega) q.1 q.2.1 q.2.2
  have bB := textB_sum 0 f.body fun k hk' => (kB k hk').2
  have sB : szS f.body 0 = sumL 0 f.body := by
    have := szL_sum _ _ _ q1
    unfold szS
    rw [if_neg (by omega), this]; omega
  have hj : (joinC f.params).length ≤ 176 := by
    have h1 := joinC_le f.params 20 hs.texts
    have h2 := hs.params
    have h3 : f.params.length * (20 + 2) ≤ 8 * 22 := Nat.mul_le_mul h2 (by omega)
    omega
  have hn := hs.name
  refine ⟨⟨hs.name, hs.params, by omega, l1, fun s hs' => (kB s hs').1⟩, ?_⟩
  simp only [Nat.zero_add] at bB
  simp only [textF, lineT, List.length_append, List.length_replicate, List.length_cons, List.length_nil]
  omega
theorem textG_le : ∀ (fs : List PFun), (∀ f ∈ fs, SmF f ∧ OkF f ∧ szS f.body 0 < 1000) → (textG fs).length ≤ 256 * sumSz fs + 300 * fs.length := by
  intro fs
  induction fs with
  | nil => intro _; simp [textG]
  | cons f fs ih =>
    intro h
    have h1 := h f (by simp)
    have h2 := ih (fun g hg => h g (by simp [hg]))
    have h3 := (textF_le f h1.1 h1.2.1 h1.2.2).2
    simp only [textG, sumSz, List.length_append, List.length_cons]
    omega
end Go.Proofs.YtidhplpidkgkdaaDoor
