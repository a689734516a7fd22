import Derived.Test.YteifmgcbafemeaaGreatDoorCheckR
import Derived.Test.YteifmgcbafemeaaGreatDoorCheckV
import Derived.Deep.AppendLies
namespace Go.Proofs.YteifmgcbafemeaaGreatDoor
open Go.RowKit

/-! the document's check of statements -/
structure KnPost (base p : Nat) (F : Option Addr) (nf cf : Nat) (c : Nat) (all vis : List Nm) (w w' : World) : Prop where
  bel : Below base w w'
  kp : KpC p w w'
  chk : c = 0 → KnAt base p F nf cf all vis w'
theorem KnPost.below {base p nf cf : Nat} {F : Option Addr} {all vis : List Nm} {w w' : World} (h : KnAt base p F nf cf all vis w) (hb : Below w.heap.size w w') : KnPost base p F nf cf 0 all vis w w' := ⟨hb.mono h.base_le, KpC.below hb, fun _ => h.keep hb⟩
theorem KnPost.trans {base p nf cf c : Nat} {F : Option Addr} {all vis all' vis' : List Nm} {w w' w'' : World} (h : KnPost base p F nf cf 0 all vis w w') (k : KnPost base p F nf cf c all' vis' w' w'') : KnPost base p F nf cf c all' vis' w w'' := ⟨h.bel.trans k.bel, h.kp.trans k.kp, k.chk⟩
theorem KnPost.fail {base p nf cf c d : Nat} {F : Option Addr} {all vis all' vis' : List Nm} {w w' : World} (h : KnPost base p F nf cf d all vis w w') (hc : c ≠ 0) : KnPost base p F nf cf c all' vis' w w' := ⟨h.bel, h.kp, fun e => absurd e hc⟩
def rstmtO (s : PStmt) (X : Option Addr) (x : Nat) (T : Option Addr) (t : Nat) (L : Option Addr) (l : Nat) : Obj := .cells #[.string (mkB s.kind), .string (mkB s.name), .string (mkB s.e.kind), .int .i64 s.e.num, .string (mkB s.e.name), .slice X s.e.kids.length x, .slice T s.th.length t, .slice L s.el.length l] 97
def RBlock (base p : Nat) (fs : List PFun) (F : Option Addr) (cf : Nat) (ss : List PStmt) : Prop := ∀ (all vis : List Nm) (A : Option Addr) (c : Nat) (w : World), KnAt base p F fs.length cf all vis w → RdF w (fun k => k < base) fs F → RdS w (fun k => k < base) ss A → all.length ≤ 12 → vis.length ≤ all.length →
  Calls Tryz.prog 56 #[.pointer (some ⟨p, 0, none⟩), .slice A ss.length c] w fun e w' => e = .returned (.int .i64 ((blockC (tabOf fs) ss all vis).1 : Nat)) ∧ KnPost base p F fs.length cf (blockC (tabOf fs) ss all vis).1 (blockC (tabOf fs) ss all vis).2 vis w w'
def namedB (s : PStmt) : Bool := ((mkB s.kind).toList == [118, 97, 114]) || ((mkB s.kind).toList == [115, 101, 116])
def rightB (s : PStmt) : Bool := if namedB s then nmOk s.name else (mkB s.name).toList.isEmpty
theorem named_yes {s : PStmt} (h : s.kind = sVar ∨ s.kind = sSet) : namedB s = true := by
  unfold namedB; rw [mkB_toList]; rcases h with h | h <;> rw [h] <;> rfl
theorem named_no {s : PStmt} (h0 : s.kind ≠ sVar) (h1 : s.kind ≠ sSet) : namedB s = false := by
  unfold namedB; rw [mkB_toList, Bool.or_eq_false_iff]; exact ⟨beq_eq_false_iff_ne.2 h0, beq_eq_false_iff_ne.2 h1⟩
theorem right_yes {s : PStmt} (h : s.kind = sVar ∨ s.kind = sSet) : rightB s = nmOk s.name := by unfold rightB; rw [named_yes h]; rfl
theorem right_no {s : PStmt} (h0 : s.kind ≠ sVar) (h1 : s.kind ≠ sSet) : rightB s = s.name.isEmpty := by unfold rightB; rw [named_no h0 h1, mkB_toList]; rfl
/-- After the statement itself. -/
def allN (s : PStmt) (al : List Nm) : List Nm := if s.kind = sVar then al ++ [s.name] else al
theorem stmtC_then {fs : Tab} {s : PStmt} {al vi : List Nm} (h : Shp s = true) (he : exprC fs vi s.e = 0) (hv : s.kind = sVar → al.contains s.name = false ∧ al.length < 12) (hs : s.kind = sSet → vi.contains s.name = true) :
    stmtC fs s al vi = if (blockC fs s.th (allN s al) (allN s vi)).1 = 0 then ((blockC fs s.el (blockC fs s.th (allN s al) (allN s vi)).2 (allN s vi)).1, (blockC fs s.el (blockC fs s.th (allN s al) (allN s vi)).2 (allN s vi)).2, allN s vi) else ((blockC fs s.th (allN s al) (allN s vi)).1, (blockC fs s.th (allN s al) (allN s vi)).2, allN s vi) := by
  by_cases hk : s.kind = sVar
  · have h3 := h
    unfold Shp at h3
    rw [hk] at h3
    obtain ⟨l1, l2⟩ := shaped_var h3
    rw [stmtC_var h he hk, addC_yes (hv hk).1 (by have := (hv hk).2; omega), List.length_eq_zero_iff.1 l1, List.length_eq_zero_iff.1 l2]
    unfold allN
    rw [if_pos hk, if_pos hk, blockC_nil, blockC_nil]
    rfl
  · rw [stmtC_rest h he hk hs]
    unfold allN
    rw [if_neg hk, if_neg hk]
theorem own_g {g n cap : Nat} : (Value.slice (some ⟨g, 0, none⟩) n cap).ownBlock = some g := rfl
/-- A name more among all; the store follows. -/
theorem kn_all {base p nf cf : Nat} {F : Option Addr} {al vi : List Nm} {x : Nm} {w w4 : World} {v s : Value} {o : Obj} {g cap : Nat} (hlow : base ≤ p) (hlt : p < w.heap.size)
    (h1 : w.heap[p]? = some (.cells #[.slice F nf cf, .bool true, v, s] 113 (0, 0))) (h2 : w.ownsRow base 9 1 v al.length (strVs al)) (h3 : w.ownsRow base 9 1 s vi.length (strVs vi)) (h4 : v.ownBlock ≠ some p) (h5 : s.ownBlock ≠ some p) (h6 : s.ownBlock = none ∨ v.ownBlock ≠ s.ownBlock)
    (hown : w4.ownsRow base 9 1 (.slice (some ⟨g, 0, none⟩) (al.length + 1) cap) (al.length + 1) (strVs al ++ [.string (mkB x)])) (hg : (w.alloc o).grownBy w4 v.ownBlock) (hat : v.ownBlock = some g ∨ g = (w.alloc o).heap.size) :
    w4.heap[p]? = some (.cells #[.slice F nf cf, .bool true, v, s] 113 (0, 0)) ∧ Below base w w4 ∧ KpC p w w4 ∧
    KnAt base p F nf cf (al ++ [x]) vi (w4.setCell ⟨p, 2, none⟩ (.slice (some ⟨g, 0, none⟩) (al.length + 1) cap)) := by
  have hold : w4.heap[p]? = some (.cells #[.slice F nf cf, .bool true, v, s] 113 (0, 0)) := by
    rw [hg.block p (by simp; omega) (fun q => h4 q.symm), old_block _ _ hlt]; exact h1
  have hb : Below base w w4 := Below.grown ((Below.refl base w).alloc (by omega) _) hg (by simp; omega) (fun k hk => (h2.lt k hk).1)
  have hs4 : w.heap.size ≤ w4.heap.size := hb.size
  have hne : (Value.slice (some ⟨g, 0, none⟩) (al.length + 1) cap).ownBlock ≠ some p := by
    rw [own_g]
    rcases hat with e | e
    · rw [← e]; exact h4
    · rw [e]; intro q; simp at q; omega
  have hap : s.ownBlock = none ∨ (Value.slice (some ⟨g, 0, none⟩) (al.length + 1) cap).ownBlock ≠ s.ownBlock := by
    rcases h6 with q | q
    · exact .inl q
    · right
      rw [own_g]
      rcases hat with e | e
      · rw [← e]; exact q
      · rw [e]; intro q2; have := (h3.lt _ q2.symm).2; simp at this; omega
  have ho3 : w4.ownsRow base 9 1 s vi.length (strVs vi) := (h3.alloc _).kept hg (by rcases h6 with q | q; exact .inl q; exact .inr (fun e => q e.symm))
  refine ⟨hold, hb, KpC.append h2 hg, hlow, by simp; omega, _, _, row_set (j := 2) (cs' := #[.slice F nf cf, .bool true, .slice (some ⟨g, 0, none⟩) (al.length + 1) cap, s]) _ hold (by simp), ?_, setRow_owns _ ho3 h5, hne, h5, hap⟩
  have hown' : w4.ownsRow base 9 1 (.slice (some ⟨g, 0, none⟩) (al.length + 1) cap) (al ++ [x]).length (strVs (al ++ [x])) := by rw [strVs_snoc, List.length_append]; exact hown
  exact setRow_owns _ hown' hne
theorem kn_vis {base p nf cf : Nat} {F : Option Addr} {al vi : List Nm} {x : Nm} {w w4 : World} {v s : Value} {o : Obj} {g cap : Nat} (hlow : base ≤ p) (hlt : p < w.heap.size)
    (h1 : w.heap[p]? = some (.cells #[.slice F nf cf, .bool true, v, s] 113 (0, 0))) (h2 : w.ownsRow base 9 1 v al.length (strVs al)) (h3 : w.ownsRow base 9 1 s vi.length (strVs vi)) (h4 : v.ownBlock ≠ some p) (h5 : s.ownBlock ≠ some p) (h6 : s.ownBlock = none ∨ v.ownBlock ≠ s.ownBlock)
    (hown : w4.ownsRow base 9 1 (.slice (some ⟨g, 0, none⟩) (vi.length + 1) cap) (vi.length + 1) (strVs vi ++ [.string (mkB x)])) (hg : (w.alloc o).grownBy w4 s.ownBlock) (hat : s.ownBlock = some g ∨ g = (w.alloc o).heap.size) :
    w4.heap[p]? = some (.cells #[.slice F nf cf, .bool true, v, s] 113 (0, 0)) ∧ Below base w w4 ∧ KpC p w w4 ∧
    KnAt base p F nf cf al (vi ++ [x]) (w4.setCell ⟨p, 3, none⟩ (.slice (some ⟨g, 0, none⟩) (vi.length + 1) cap)) := by
  have hold : w4.heap[p]? = some (.cells #[.slice F nf cf, .bool true, v, s] 113 (0, 0)) := by
    rw [hg.block p (by simp; omega) (fun q => h5 q.symm), old_block _ _ hlt]; exact h1
  have hb : Below base w w4 := Below.grown ((Below.refl base w).alloc (by omega) _) hg (by simp; omega) (fun k hk => (h3.lt k hk).1)
  have hs4 : w.heap.size ≤ w4.heap.size := hb.size
  have hne : (Value.slice (some ⟨g, 0, none⟩) (vi.length + 1) cap).ownBlock ≠ some p := by
    rw [own_g]
    rcases hat with e | e
    · rw [← e]; exact h5
    · rw [e]; intro q; simp at q; omega
  have hap : v.ownBlock ≠ (Value.slice (some ⟨g, 0, none⟩) (vi.length + 1) cap).ownBlock := by
    rw [own_g]
    rcases hat with e | e
    · rcases h6 with q | q
      · rw [q] at e; cases e
      · rw [← e]; exact q
    · rw [e]; intro q2; have := (h2.lt _ q2).2; simp at this; omega
  have ho3 : w4.ownsRow base 9 1 v al.length (strVs al) := (h2.alloc _).kept hg (by
    rcases h6 with q | q
    · rw [q]; cases v.ownBlock <;> simp
    · exact .inr q)
  refine ⟨hold, hb, KpC.append h3 hg, hlow, by simp; omega, _, _, row_set (j := 3) (cs' := #[.slice F nf cf, .bool true, v, .slice (some ⟨g, 0, none⟩) (vi.length + 1) cap]) _ hold (by simp), setRow_owns _ ho3 h4, ?_, h4, hne, .inr hap⟩
  have hown' : w4.ownsRow base 9 1 (.slice (some ⟨g, 0, none⟩) (vi.length + 1) cap) (vi ++ [x]).length (strVs (vi ++ [x])) := by rw [strVs_snoc, List.length_append]; exact hown
  exact setRow_owns _ hown' hne

set_option maxHeartbeats 16000000 in
set_option maxRecDepth 100000 in
theorem rblock_list (base p : Nat) (fs : List PFun) (F : Option Addr) (cf : Nat) (hf : fs.length ≤ 10) (ss : List PStmt) (hlen : ss.length ≤ 30) (hsm : ∀ s ∈ ss, SmE s.e) (hq : ∀ s ∈ ss, RBlock base p fs F cf s.th ∧ RBlock base p fs F cf s.el) : RBlock base p fs F cf ss := by
  intro all vis A c w hC hF hr hal hvl
  obtain ⟨i0, hi, hz0, hz1, hz2⟩ := info_parts strInfo2
  obtain ⟨v, s, q1, -, q3, -⟩ := hC.cells
  obtain ⟨B, d, rfl, -, -⟩ := owns_Row q3
  have p3 : w.cell? ⟨p, 3, none⟩ = some (.slice B vis.length d) := cell_of_row _ _ 3 _ _ _ q1
  have HP0 : Hid (KnPost base p F fs.length cf 0 all vis w w) := KnPost.below hC (Below.refl _ _)
  have HQ := Lib.hid hq
  have HR := Lib.hid hr
  have HFF := Lib.hid hF
  have HSM := Lib.hid hsm
  have HAL := Lib.hid (And.intro hal hvl)
  have hv12 : vis.length ≤ 12 := by omega
  clear q1 q3 hq hr hC hal hvl hF hsm
  go_enter Tryz.func56, Tryz.ntmps56
  go_wp2_with fail
  go_loopw [6, 7, 8, 9, 10, 11, 12, 13] (fun i _ _ _ _ _ _ _ wr => ∃ (k : Nat) (al vi more : List Nm), k ≤ ss.length ∧ i = .int .i64 k ∧ blockC (tabOf fs) ss all vis = blockC (tabOf fs) (ss.drop k) al vi ∧ al.length ≤ 12 ∧ vi.length ≤ al.length ∧ vi = vis ++ more ∧ KnPost base p F fs.length cf 0 al vi w wr) (fun i _ _ _ _ _ _ _ _ => ss.length - (intOf i).toNat)
  case atStart => exact ⟨0, all, vis, [], Nat.zero_le _, rfl, by simp, HAL.out.1, HAL.out.2, by simp, HP0.out⟩
  case round =>
    obtain ⟨k, al, vi, more, hk, rfl, hI, hal, hvl, hmore, hp⟩ := hrel
    have HI := Lib.hid hI
    have HMR := Lib.hid hmore
    clear hI hmore
    by_cases hlt : k < ss.length
    · obtain ⟨b', off, X, x, T, t, L, l, rfl, -, hcells, hnum, hX, hT, hL⟩ := (HR.out.keep (keepsLow hp.bel) (fun _ h => h)).at hlt
      obtain ⟨c0, c1, c2, c3, c4, c5, c6, c7⟩ := cells_stmt hcells
      have hlt' : (k : Int) < (ss.length : Int) := by omega
      have hst := blockC_step (fs := tabOf fs) hlt al vi
      have hqs := HQ.out ss[k] (List.getElem_mem hlt)
      have hse := HSM.out ss[k] (List.getElem_mem hlt)
      obtain ⟨s, hs⟩ : ∃ s, ss[k] = s := ⟨_, rfl⟩
      rw [hs] at hcells hnum hX hT hL c0 c1 c2 c3 c4 c5 c6 c7 hst hqs hse
      have HST := Lib.hid hst
      have hn1 : ∀ w', Calls Tryz.prog 55 #[.string (mkB s.name)] w' (Ret (.bool (nmOk s.name)) w') := fun w' => IsName_any s.name w'
      obtain ⟨b0, hb0⟩ : ∃ b, nmOk s.name = b := ⟨_, rfl⟩
      rw [hb0] at hn1
      have HN := Lib.hid hn1
      have HN0 := Lib.hid hb0
      have hbx : Below wr.heap.size wr (wr.alloc (rstmtO s X x T t L l)) := grow_alloc (grow_refl _) _
      have HBK := Lib.hid (heap_alloc_new wr (rstmtO s X x T t L l))
      have hr0 : KnPost base p F fs.length cf 0 al vi wr wr := KnPost.below (hp.chk rfl) (Below.refl _ _)
      have hpa : KnPost base p F fs.length cf 0 al vi wr (wr.alloc (rstmtO s X x T t L l)) := hr0.trans (KnPost.below (hp.chk rfl) hbx)
      have HPA := Lib.hid hpa
      have HPW := Lib.hid hp
      have HWP : Hid (wr.heap.size ≠ p) := show _ ≠ _ by have := (hp.chk rfl).lt; omega
      have hlf := left_any (tabOf fs) s al vi
      have HLF := Lib.hid hlf
      have hfr := HFF.out.keep (keepsLow hp.bel) (fun _ h => h)
      have HEX : Hid (∀ w', KnPost base p F fs.length cf 0 al vi wr w' → Calls Tryz.prog 78 #[.pointer (some ⟨p, 0, none⟩), exprV s.e X x] w' (Ret (.int .i64 (exprC (tabOf fs) vi s.e : Nat)) w')) := fun w' hb =>
        rexpr_any base p fs F cf hf al vi (by omega) s.e hse _ X x w' (hb.chk rfl) (hfr.keep (keepsLow hb.bel) (fun _ h => h)) (hX.keep (keepsLow hb.bel) (fun _ h => h))
      have HTH : Hid (∀ al2 vi2 w', al2.length ≤ 12 → vi2.length ≤ al2.length → KnPost base p F fs.length cf 0 al2 vi2 wr w' → Calls Tryz.prog 56 #[.pointer (some ⟨p, 0, none⟩), .slice T s.th.length t] w' fun e w'' => e = .returned (.int .i64 ((blockC (tabOf fs) s.th al2 vi2).1 : Nat)) ∧ KnPost base p F fs.length cf (blockC (tabOf fs) s.th al2 vi2).1 (blockC (tabOf fs) s.th al2 vi2).2 vi2 w' w'') :=
        fun al2 vi2 w' h1 h2 hb => hqs.1 al2 vi2 T t w' (hb.chk rfl) (hfr.keep (keepsLow hb.bel) (fun _ h => h)) (hT.keep (keepsLow hb.bel) (fun _ h => h)) h1 h2
      have HEL : Hid (∀ al2 vi2 w', al2.length ≤ 12 → vi2.length ≤ al2.length → KnPost base p F fs.length cf 0 al2 vi2 wr w' → Calls Tryz.prog 56 #[.pointer (some ⟨p, 0, none⟩), .slice L s.el.length l] w' fun e w'' => e = .returned (.int .i64 ((blockC (tabOf fs) s.el al2 vi2).1 : Nat)) ∧ KnPost base p F fs.length cf (blockC (tabOf fs) s.el al2 vi2).1 (blockC (tabOf fs) s.el al2 vi2).2 vi2 w' w'') :=
        fun al2 vi2 w' h1 h2 hb => hqs.2 al2 vi2 L l w' (hb.chk rfl) (hfr.keep (keepsLow hb.bel) (fun _ h => h)) (hL.keep (keepsLow hb.bel) (fun _ h => h)) h1 h2
      have hkn : ∀ w', KnPost base p F fs.length cf 0 al vi wr w' → ∃ A1 d1 A2 d2, w'.heap[p]? = some (.cells #[.slice F fs.length cf, .bool true, .slice A1 al.length d1, .slice A2 vi.length d2] 113 (0, 0)) ∧
          (∀ w'', Below w'.heap.size w' w'' → Calls Tryz.prog 38 #[.string (mkB s.name), .slice A1 al.length d1] w'' fun e w3 => e = .returned (.bool (al.contains s.name)) ∧ w3 = w'') := fun w' hb => by
        obtain ⟨v, s', q1, q2, q3, -⟩ := (hb.chk rfl).cells
        obtain ⟨B1, d1, rfl, hrow, -⟩ := owns_Row q2
        obtain ⟨B2, d2, rfl, hrow2, -⟩ := owns_Row q3
        exact ⟨B1, d1, B2, d2, q1, fun w'' hb' => isin_any al s.name B1 d1 w'' (hrow.keep (Keeps.of_below hb')) (by omega)⟩
      have hkv : ∀ al2 vi2 w', vi2.length ≤ 12 → KnPost base p F fs.length cf 0 al2 vi2 wr w' → ∃ A2 d2, w'.cell? ⟨p, 3, none⟩ = some (.slice A2 vi2.length d2) ∧
          (∀ w'', Below w'.heap.size w' w'' → Calls Tryz.prog 38 #[.string (mkB s.name), .slice A2 vi2.length d2] w'' fun e w3 => e = .returned (.bool (vi2.contains s.name)) ∧ w3 = w'') := fun al2 vi2 w' hlv hb => by
        obtain ⟨v, s', q1, q2, q3, -⟩ := (hb.chk rfl).cells
        obtain ⟨B2, d2, rfl, hrow2, -⟩ := owns_Row q3
        exact ⟨B2, d2, cell_of_row _ _ 3 _ _ _ q1, fun w'' hb' => isin_any vi2 s.name B2 d2 w'' (hrow2.keep (Keeps.of_below hb')) (by omega)⟩
      have HKN := Lib.hid hkn
      have HKV2 := Lib.hid hkv
      have hbot : Below wr.heap.size wr wr := Below.refl _ _
      clear hcells hnum hX hT hL hqs hse hs hst hp hpa hr0 hlf hfr hkn hkv hn1 hb0 hbx hbot
      unfold exprV at *
      unfold rstmtO at *
      obtain ⟨nm, hnm⟩ : ∃ nm, namedB s = nm := ⟨_, rfl⟩
      obtain ⟨rt, hrt⟩ : ∃ rt, rightB s = rt := ⟨_, rfl⟩
      obtain ⟨sh, hsh⟩ : ∃ sh, Shp s = sh := ⟨_, rfl⟩
      have HNM := Lib.hid hnm
      have HRT := Lib.hid hrt
      have HSH := Lib.hid hsh
      clear hnm hrt hsh
      go_upto_region 7 with (go_at_call 55; (with_reducible refine (HN.out _).mono ?_); rintro y w1 ⟨rfl, hb1⟩; have HK1 := Lib.hid ((hb1.block wr.heap.size (by simp)).trans HBK.out); have HP1 := Lib.hid (HPA.out.trans (KnPost.below (HPA.out.chk rfl) hb1)); obtain ⟨d0, d1, d2, d3, d4, d5, d6, d7⟩ := row8 HK1.out; clear hb1)
      go_cut [9] (fun v wx => v = .bool nm ∧ w1 = wx)
      case first =>
        cases g0 : ((mkB s.kind).toList == [118, 97, 114]) <;> cases g1 : ((mkB s.kind).toList == [115, 101, 116])
        all_goals
          have hf := HNM.out.symm
          unfold namedB at hf
          rw [g0, g1] at hf
          have HF := Lib.hid hf
          clear hf
          go_wp2_with fail
          go_meet
          exact ⟨by rw [HF.out]; rfl, rfl⟩
      case rest =>
        obtain ⟨rfl, rfl⟩ := hcut
        go_upto_region 8 with fail
        go_cut [10] (fun v wx => v = .bool rt ∧ w1 = wx)
        case first =>
          cases nm
          · cases g2 : (mkB s.name).toList.isEmpty
            all_goals
              have hf := HRT.out.symm
              unfold rightB at hf
              rw [HNM.out, g2] at hf
              have HF := Lib.hid hf
              clear hf
              go_wp2_with fail
              go_meet
              exact ⟨by rw [HF.out]; rfl, rfl⟩
          · cases b0
            all_goals
              have hf := HRT.out.symm
              unfold rightB at hf
              rw [HNM.out, HN0.out] at hf
              have HF := Lib.hid hf
              clear hf
              go_wp2_with fail
              go_meet
              exact ⟨by rw [HF.out]; rfl, rfl⟩
        case rest =>
          obtain ⟨rfl, rfl⟩ := hcut
          go_upto_block 2 with fail
          go_cut [10] (fun v wx => v = .bool sh ∧ w1 = wx)
          case first => as_aux_lemma =>
            by_cases h_sVar : s.kind = sVar
            · have HSR : Hid (sh = (rt && decide (s.th.length = 0) && decide (s.el.length = 0))) := show _ = _ by rw [← HSH.out, ← HRT.out, right_yes (.inl h_sVar), shp_named (.inl h_sVar)]
              have t_sVar : ((mkB s.kind).toList == [118, 97, 114]) = true := by rw [mkB_toList, h_sVar]; rfl
              clear h_sVar
              cases rt
              · have HF : Hid (sh = false) := show _ = _ by rw [HSR.out]; rfl
                go_wp2_with fail
                go_meet
                exact ⟨by rw [HF.out], rfl⟩
              · by_cases h3 : s.th.length = 0
                · have q3 : ((s.th.length : Int) == 0) = true := by rw [h3]; rfl
                  by_cases h4 : s.el.length = 0
                  · have q4 : ((s.el.length : Int) == 0) = true := by rw [h4]; rfl
                    have HF : Hid (sh = true) := show _ = _ by rw [HSR.out, decide_eq_true h3, decide_eq_true h4]; rfl
                    clear h3 h4
                    go_wp2_with fail
                    go_meet
                    exact ⟨by rw [HF.out], rfl⟩
                  · have q4 : ((s.el.length : Int) == 0) = false := beq_eq_false_iff_ne.2 (by omega)
                    have HF : Hid (sh = false) := show _ = _ by rw [HSR.out, decide_eq_false h4]; simp
                    clear h3 h4
                    go_wp2_with fail
                    go_meet
                    exact ⟨by rw [HF.out], rfl⟩
                · have q3 : ((s.th.length : Int) == 0) = false := beq_eq_false_iff_ne.2 (by omega)
                  have HF : Hid (sh = false) := show _ = _ by rw [HSR.out, decide_eq_false h3]; simp
                  clear h3
                  go_wp2_with fail
                  go_meet
                  exact ⟨by rw [HF.out], rfl⟩
            by_cases h_sSet : s.kind = sSet
            · have HSR : Hid (sh = (rt && decide (s.th.length = 0) && decide (s.el.length = 0))) := show _ = _ by rw [← HSH.out, ← HRT.out, right_yes (.inr h_sSet), shp_named (.inr h_sSet)]
              have t_sVar : ((mkB s.kind).toList == [118, 97, 114]) = false := by rw [mkB_toList]; exact beq_eq_false_iff_ne.2 h_sVar
              have t_sSet : ((mkB s.kind).toList == [115, 101, 116]) = true := by rw [mkB_toList, h_sSet]; rfl
              clear h_sVar h_sSet
              cases rt
              · have HF : Hid (sh = false) := show _ = _ by rw [HSR.out]; rfl
                go_wp2_with fail
                go_meet
                exact ⟨by rw [HF.out], rfl⟩
              · by_cases h3 : s.th.length = 0
                · have q3 : ((s.th.length : Int) == 0) = true := by rw [h3]; rfl
                  by_cases h4 : s.el.length = 0
                  · have q4 : ((s.el.length : Int) == 0) = true := by rw [h4]; rfl
                    have HF : Hid (sh = true) := show _ = _ by rw [HSR.out, decide_eq_true h3, decide_eq_true h4]; rfl
                    clear h3 h4
                    go_wp2_with fail
                    go_meet
                    exact ⟨by rw [HF.out], rfl⟩
                  · have q4 : ((s.el.length : Int) == 0) = false := beq_eq_false_iff_ne.2 (by omega)
                    have HF : Hid (sh = false) := show _ = _ by rw [HSR.out, decide_eq_false h4]; simp
                    clear h3 h4
                    go_wp2_with fail
                    go_meet
                    exact ⟨by rw [HF.out], rfl⟩
                · have q3 : ((s.th.length : Int) == 0) = false := beq_eq_false_iff_ne.2 (by omega)
                  have HF : Hid (sh = false) := show _ = _ by rw [HSR.out, decide_eq_false h3]; simp
                  clear h3
                  go_wp2_with fail
                  go_meet
                  exact ⟨by rw [HF.out], rfl⟩
            by_cases h_sReturn : s.kind = sReturn
            · have HSR : Hid (sh = (rt && decide (s.th.length = 0) && decide (s.el.length = 0))) := show _ = _ by rw [← HSH.out, ← HRT.out, right_no h_sVar h_sSet, shp_ret (.inl h_sReturn)]
              have t_sVar : ((mkB s.kind).toList == [118, 97, 114]) = false := by rw [mkB_toList]; exact beq_eq_false_iff_ne.2 h_sVar
              have t_sSet : ((mkB s.kind).toList == [115, 101, 116]) = false := by rw [mkB_toList]; exact beq_eq_false_iff_ne.2 h_sSet
              have t_sReturn : ((mkB s.kind).toList == [114, 101, 116, 117, 114, 110]) = true := by rw [mkB_toList, h_sReturn]; rfl
              clear h_sVar h_sSet h_sReturn
              cases rt
              · have HF : Hid (sh = false) := show _ = _ by rw [HSR.out]; rfl
                go_wp2_with fail
                go_meet
                exact ⟨by rw [HF.out], rfl⟩
              · by_cases h3 : s.th.length = 0
                · have q3 : ((s.th.length : Int) == 0) = true := by rw [h3]; rfl
                  by_cases h4 : s.el.length = 0
                  · have q4 : ((s.el.length : Int) == 0) = true := by rw [h4]; rfl
                    have HF : Hid (sh = true) := show _ = _ by rw [HSR.out, decide_eq_true h3, decide_eq_true h4]; rfl
                    clear h3 h4
                    go_wp2_with fail
                    go_meet
                    exact ⟨by rw [HF.out], rfl⟩
                  · have q4 : ((s.el.length : Int) == 0) = false := beq_eq_false_iff_ne.2 (by omega)
                    have HF : Hid (sh = false) := show _ = _ by rw [HSR.out, decide_eq_false h4]; simp
                    clear h3 h4
                    go_wp2_with fail
                    go_meet
                    exact ⟨by rw [HF.out], rfl⟩
                · have q3 : ((s.th.length : Int) == 0) = false := beq_eq_false_iff_ne.2 (by omega)
                  have HF : Hid (sh = false) := show _ = _ by rw [HSR.out, decide_eq_false h3]; simp
                  clear h3
                  go_wp2_with fail
                  go_meet
                  exact ⟨by rw [HF.out], rfl⟩
            by_cases h_sPrint : s.kind = sPrint
            · have HSR : Hid (sh = (rt && decide (s.th.length = 0) && decide (s.el.length = 0))) := show _ = _ by rw [← HSH.out, ← HRT.out, right_no h_sVar h_sSet, shp_ret (.inr h_sPrint)]
              have t_sVar : ((mkB s.kind).toList == [118, 97, 114]) = false := by rw [mkB_toList]; exact beq_eq_false_iff_ne.2 h_sVar
              have t_sSet : ((mkB s.kind).toList == [115, 101, 116]) = false := by rw [mkB_toList]; exact beq_eq_false_iff_ne.2 h_sSet
              have t_sReturn : ((mkB s.kind).toList == [114, 101, 116, 117, 114, 110]) = false := by rw [mkB_toList]; exact beq_eq_false_iff_ne.2 h_sReturn
              have t_sPrint : ((mkB s.kind).toList == [112, 114, 105, 110, 116]) = true := by rw [mkB_toList, h_sPrint]; rfl
              clear h_sVar h_sSet h_sReturn h_sPrint
              cases rt
              · have HF : Hid (sh = false) := show _ = _ by rw [HSR.out]; rfl
                go_wp2_with fail
                go_meet
                exact ⟨by rw [HF.out], rfl⟩
              · by_cases h3 : s.th.length = 0
                · have q3 : ((s.th.length : Int) == 0) = true := by rw [h3]; rfl
                  by_cases h4 : s.el.length = 0
                  · have q4 : ((s.el.length : Int) == 0) = true := by rw [h4]; rfl
                    have HF : Hid (sh = true) := show _ = _ by rw [HSR.out, decide_eq_true h3, decide_eq_true h4]; rfl
                    clear h3 h4
                    go_wp2_with fail
                    go_meet
                    exact ⟨by rw [HF.out], rfl⟩
                  · have q4 : ((s.el.length : Int) == 0) = false := beq_eq_false_iff_ne.2 (by omega)
                    have HF : Hid (sh = false) := show _ = _ by rw [HSR.out, decide_eq_false h4]; simp
                    clear h3 h4
                    go_wp2_with fail
                    go_meet
                    exact ⟨by rw [HF.out], rfl⟩
                · have q3 : ((s.th.length : Int) == 0) = false := beq_eq_false_iff_ne.2 (by omega)
                  have HF : Hid (sh = false) := show _ = _ by rw [HSR.out, decide_eq_false h3]; simp
                  clear h3
                  go_wp2_with fail
                  go_meet
                  exact ⟨by rw [HF.out], rfl⟩
            by_cases h_sWhile : s.kind = sWhile
            · have HSR : Hid (sh = (rt && decide (s.el.length = 0))) := show _ = _ by rw [← HSH.out, ← HRT.out, right_no h_sVar h_sSet, shp_while h_sWhile]
              have t_sVar : ((mkB s.kind).toList == [118, 97, 114]) = false := by rw [mkB_toList]; exact beq_eq_false_iff_ne.2 h_sVar
              have t_sSet : ((mkB s.kind).toList == [115, 101, 116]) = false := by rw [mkB_toList]; exact beq_eq_false_iff_ne.2 h_sSet
              have t_sReturn : ((mkB s.kind).toList == [114, 101, 116, 117, 114, 110]) = false := by rw [mkB_toList]; exact beq_eq_false_iff_ne.2 h_sReturn
              have t_sPrint : ((mkB s.kind).toList == [112, 114, 105, 110, 116]) = false := by rw [mkB_toList]; exact beq_eq_false_iff_ne.2 h_sPrint
              have t_sWhile : ((mkB s.kind).toList == [119, 104, 105, 108, 101]) = true := by rw [mkB_toList, h_sWhile]; rfl
              clear h_sVar h_sSet h_sReturn h_sPrint h_sWhile
              cases rt
              · have HF : Hid (sh = false) := show _ = _ by rw [HSR.out]; rfl
                go_wp2_with fail
                go_meet
                exact ⟨by rw [HF.out], rfl⟩
              · by_cases h4 : s.el.length = 0
                · have q4 : ((s.el.length : Int) == 0) = true := by rw [h4]; rfl
                  have HF : Hid (sh = true) := show _ = _ by rw [HSR.out, decide_eq_true h4]; rfl
                  clear h4
                  go_wp2_with fail
                  go_meet
                  exact ⟨by rw [HF.out], rfl⟩
                · have q4 : ((s.el.length : Int) == 0) = false := beq_eq_false_iff_ne.2 (by omega)
                  have HF : Hid (sh = false) := show _ = _ by rw [HSR.out, decide_eq_false h4]; simp
                  clear h4
                  go_wp2_with fail
                  go_meet
                  exact ⟨by rw [HF.out], rfl⟩
            by_cases h_sIf : s.kind = sIf
            · have HF : Hid (sh = rt) := show _ = _ by rw [← HSH.out, ← HRT.out, right_no h_sVar h_sSet, shp_if h_sIf]
              have t_sVar : ((mkB s.kind).toList == [118, 97, 114]) = false := by rw [mkB_toList]; exact beq_eq_false_iff_ne.2 h_sVar
              have t_sSet : ((mkB s.kind).toList == [115, 101, 116]) = false := by rw [mkB_toList]; exact beq_eq_false_iff_ne.2 h_sSet
              have t_sReturn : ((mkB s.kind).toList == [114, 101, 116, 117, 114, 110]) = false := by rw [mkB_toList]; exact beq_eq_false_iff_ne.2 h_sReturn
              have t_sPrint : ((mkB s.kind).toList == [112, 114, 105, 110, 116]) = false := by rw [mkB_toList]; exact beq_eq_false_iff_ne.2 h_sPrint
              have t_sWhile : ((mkB s.kind).toList == [119, 104, 105, 108, 101]) = false := by rw [mkB_toList]; exact beq_eq_false_iff_ne.2 h_sWhile
              have t_sIf : ((mkB s.kind).toList == [105, 102]) = true := by rw [mkB_toList, h_sIf]; rfl
              clear h_sVar h_sSet h_sReturn h_sPrint h_sWhile h_sIf
              go_wp2_with fail
              go_meet
              exact ⟨by rw [HF.out], rfl⟩
            have HF : Hid (sh = false) := show _ = _ by rw [← HSH.out]; exact shp_none h_sVar h_sSet h_sIf h_sWhile h_sReturn h_sPrint
            have t_sVar : ((mkB s.kind).toList == [118, 97, 114]) = false := by rw [mkB_toList]; exact beq_eq_false_iff_ne.2 h_sVar
            have t_sSet : ((mkB s.kind).toList == [115, 101, 116]) = false := by rw [mkB_toList]; exact beq_eq_false_iff_ne.2 h_sSet
            have t_sReturn : ((mkB s.kind).toList == [114, 101, 116, 117, 114, 110]) = false := by rw [mkB_toList]; exact beq_eq_false_iff_ne.2 h_sReturn
            have t_sPrint : ((mkB s.kind).toList == [112, 114, 105, 110, 116]) = false := by rw [mkB_toList]; exact beq_eq_false_iff_ne.2 h_sPrint
            have t_sWhile : ((mkB s.kind).toList == [119, 104, 105, 108, 101]) = false := by rw [mkB_toList]; exact beq_eq_false_iff_ne.2 h_sWhile
            have t_sIf : ((mkB s.kind).toList == [105, 102]) = false := by rw [mkB_toList]; exact beq_eq_false_iff_ne.2 h_sIf
            clear h_sVar h_sSet h_sReturn h_sPrint h_sWhile h_sIf
            go_wp2_with fail
            go_meet
            exact ⟨by rw [HF.out], rfl⟩
          case rest =>
            obtain ⟨rfl, rfl⟩ := hcut
            cases sh
            · have HF : Hid (blockC (tabOf fs) ss all vis = (3, al)) := show _ = _ by rw [HI.out, HST.out, stmtC_shape HSH.out]; rfl
              go_wp2_with fail
              go_ret
              rw [HF.out]
              exact ⟨rfl, (HPW.out.trans HP1.out).fail (by simp)⟩
            · by_cases he : exprC (tabOf fs) vi s.e = 0
              · have HE0 := Lib.hid he
                rw [he] at HEX
                clear he
                obtain ⟨kv, t0⟩ : ∃ kv, ((mkB s.kind).toList == [118, 97, 114]) = kv := ⟨_, rfl⟩
                go_upto_if 95 with (go_at_call 78; (with_reducible refine (HEX.out _ HP1.out).mono ?_); rintro y w2 ⟨rfl, hb2⟩; have HK2 := Lib.hid ((hb2.block wr.heap.size (by have := (Array.getElem?_eq_some_iff.1 HK1.out).1; omega)).trans HK1.out); have HP2 := Lib.hid (HP1.out.trans (KnPost.below (HP1.out.chk rfl) hb2)); obtain ⟨e0, e1, e2, e3, e4, e5, e6, e7⟩ := row8 HK2.out; clear hb2)
                have HKV := Lib.hid t0
                clear t0
                go_cut [12, 13] (fun _ _ wx => KnPost base p F fs.length cf 0 (allN s al) (allN s vi) wr wx ∧ (s.kind = sVar → al.contains s.name = false ∧ al.length < 12) ∧ wx.heap[wr.heap.size]? = some (.cells #[.string (mkB s.kind), .string (mkB s.name), .string (mkB s.e.kind), .int .i64 s.e.num, .string (mkB s.e.name), .slice X s.e.kids.length x, .slice T s.th.length t, .slice L s.el.length l] 97 (0, 0)))
                case first => as_aux_lemma =>
                  cases kv
                  case true =>
                    have hk : s.kind = sVar := by have := HKV.out; rw [mkB_toList] at this; exact beq_iff_eq.1 this
                    have HKK := Lib.hid hk
                    obtain ⟨v1, s1, h1, h2, h3, h4, h5, h6⟩ := (HP2.out.chk rfl).cells
                    obtain ⟨A1, d1, rfl, hrow1, -⟩ := owns_Row h2
                    obtain ⟨A2, d2, rfl, hrow2, -⟩ := owns_Row h3
                    have r2 : w2.cell? ⟨p, 2, none⟩ = some (.slice A1 al.length d1) := cell_of_row _ _ 2 _ _ _ h1
                    have HCON := Lib.hid (fun w'' (hb' : Below w2.heap.size w2 w'') => isin_any al s.name A1 d1 w'' (hrow1.keep (Keeps.of_below hb')) (by omega))
                    cases hc : al.contains s.name
                    · rw [hc] at HCON
                      have HC := Lib.hid hc
                      by_cases h12 : 12 ≤ al.length
                      · have z12 : (12 : Int) ≤ (al.length : Int) := by omega
                        have HF : Hid (blockC (tabOf fs) ss all vis = (8, al)) := show _ = _ by rw [HI.out, HST.out, stmtC_var HSH.out HE0.out hk, addC_full hc h12]; rfl
                        clear h1 h2 h3 h4 h5 h6 hrow1 hrow2 hk hc h12
                        go_wp2_with fail
                        go_quiet ((go_at_call 38; exact Calls.quiet_of_same (HCON.out _ (grow_drew (Below.refl _ _) _))))
                        go_wp2_with fail
                        go_ret
                        rw [HF.out]
                        exact ⟨rfl, (HPW.out.trans (HP2.out.trans (KnPost.below (HP2.out.chk rfl) (grow_drew (Below.refl _ _) _)))).fail (by simp)⟩
                      · have z12 : ¬ (12 : Int) ≤ (al.length : Int) := by omega
                        have H12 := Lib.hid h12
                        have H1 := Lib.hid h1
                        have H2 := Lib.hid h2
                        have H3 := Lib.hid h3
                        have H4 := Lib.hid h4
                        have H5 := Lib.hid h5
                        have H6 := Lib.hid h6
                        clear h1 h2 h3 h4 h5 h6 hrow1 hrow2 hk hc h12
                        go_wp2_with fail
                        go_quiet ((go_at_call 38; exact Calls.quiet_of_same (HCON.out _ (grow_drew (Below.refl _ _) _))))
                        rename_i nq _
                        go_upto_region 29 with fail
                        have hp3 : KnPost base p F fs.length cf 0 al vi wr (w2.drewN nq) := HP2.out.trans (KnPost.below (HP2.out.chk rfl) (grow_drew (Below.refl _ _) nq))
                        have hk3 : (w2.drewN nq).heap[wr.heap.size]? = _ := HK2.out
                        have g1 : (w2.drewN nq).heap[p]? = _ := H1.out
                        have g2 : (w2.drewN nq).ownsRow base 9 1 _ al.length (strVs al) := H2.out
                        have g3 : (w2.drewN nq).ownsRow base 9 1 _ vi.length (strVs vi) := H3.out
                        obtain ⟨w3, hw3⟩ : ∃ w3, w2.drewN nq = w3 := ⟨_, rfl⟩
                        rw [hw3] at hp3 hk3 g1 g2 g3
                        rw [hw3]
                        have hlow := (hp3.chk rfl).low
                        have hplt := (hp3.chk rfl).lt
                        have HP3 := Lib.hid hp3
                        have HK3 := Lib.hid hk3
                        have G1 := Lib.hid g1
                        have G2 := Lib.hid g2
                        have G3 := Lib.hid g3
                        have F1 := Lib.hid (cell_of_row _ _ 1 _ _ _ hk3)
                        have F2 := Lib.hid (cell_of_row _ _ 2 _ _ _ g1)
                        have HOA : Hid ((w3.drew.alloc (.cells #[.string (mkB s.name)] 9)).ownsRow base 9 1 (.slice A1 al.length d1) al.length (strVs al)) := World.ownsRow.alloc (w := w3.drew) g2 _
                        have HNW : Hid (∀ j u, [Value.string (mkB s.name)][j]? = some u → (w3.drew.alloc (.cells #[.string (mkB s.name)] 9)).cell? ((⟨w3.heap.size, 0, none⟩ : Addr).add j) = some u) := cell_one_new w3.drew _ _
                        have HOC : Hid (∀ u ∈ [Value.string (mkB s.name)], u.oneCell' = true) := fun u hu => by simp at hu; subst hu; rfl
                        clear hp3 hk3 g1 g2 g3 hw3 HCON
                        go_region_held3 (fun w' => w'.cell? ⟨p, 2, none⟩ = some (.slice A1 al.length d1) ∧ w'.cell? ⟨wr.heap.size, 1, none⟩ = some (.string (mkB s.name)))
                          (first
                            | exact ⟨J2.out, J1.out⟩
                            | exact ⟨Keeps.alloc _ _ _ _ F2.out, Keeps.alloc _ _ _ _ F1.out⟩
                            | exact ⟨F2.out, F1.out⟩)
                          (first
                            | (refine step_append_lies _ rfl _ _ 35 rfl base 9 i0 _ 1 16 Tryz.underlying35 hi hz0 hz1 hz2 rfl (by decide) _ al.length (strVs al) rfl HOA.out ⟨w3.heap.size, 0, none⟩ 1 1 [.string (mkB s.name)] rfl rfl HNW.out HOC.out (by decide) (by unfold maxLen; omega) (by omega) (by show base ≤ (w3.drew.alloc _).heap.size; simp; omega) _ rfl ?_; intro g cap w4 hown hgrow hat hlt; obtain ⟨hold4, hb4, hkp4, hkn4⟩ := kn_all (w := w3.drew) hlow hplt G1.out G2.out G3.out H4.out H5.out H6.out hown hgrow hat; have J1 := Lib.hid (cell_of_row _ _ 1 _ _ _ (hkp4 _ _ _ _ HWP.out (by decide) HK3.out)); have J2 := Lib.hid (cell_of_row _ _ 2 _ _ _ hold4); have HO4 := Lib.hid hold4; have HB4 := Lib.hid hb4; have HKP4 := Lib.hid hkp4; have HKN4 := Lib.hid hkn4; clear hown hgrow hat hlt hold4 hb4 hkp4 hkn4))
                        have y4 := row_frozen HO4.out 2
                        have x4 : w4.cell? ⟨p, 2, none⟩ = some (.slice A1 al.length d1) := cell_of_row _ _ 2 _ _ _ HO4.out
                        clear F1 F2 J1 J2 HOA HNW HNM HRT
                        go_upto_region 31 with fail
                        have hk5 := KpC.store p 2 w4 (.slice (some ⟨g, 0, none⟩) (al.length + 1) cap) _ _ _ _ HWP.out (by decide) (HKP4.out _ _ _ _ HWP.out (by decide) HK3.out)
                        have hb5 : Below base w3 (w4.setCell ⟨p, 2, none⟩ (.slice (some ⟨g, 0, none⟩) (al.length + 1) cap)) := (((Below.refl base w3).drew).trans HB4.out).setCell hlow _
                        have hkp5 : KpC p w3 (w4.setCell ⟨p, 2, none⟩ (.slice (some ⟨g, 0, none⟩) (al.length + 1) cap)) := KpC.trans (b := w4) HKP4.out (KpC.store p 2 w4 _)
                        have hkn5 := HKN4.out
                        obtain ⟨w5, hw5⟩ : ∃ w5, w4.setCell ⟨p, 2, none⟩ (.slice (some ⟨g, 0, none⟩) (al.length + 1) cap) = w5 := ⟨_, rfl⟩
                        rw [hw5] at hk5 hb5 hkp5 hkn5
                        rw [hw5]
                        obtain ⟨v5, s5, k1, k2, k3, k4, k5, k6⟩ := hkn5.cells
                        obtain ⟨A5, d5, rfl, -, -⟩ := owns_Row k3
                        have hplt5 := hkn5.lt
                        have HK5 := Lib.hid hk5
                        have HB5 := Lib.hid hb5
                        have HKP5 := Lib.hid hkp5
                        have G1b := Lib.hid k1
                        have G2b := Lib.hid k2
                        have G3b := Lib.hid k3
                        have H4b := Lib.hid k4
                        have H5b := Lib.hid k5
                        have H6b := Lib.hid k6
                        have F1b := Lib.hid (cell_of_row _ _ 1 _ _ _ hk5)
                        have F3b := Lib.hid (cell_of_row _ _ 3 _ _ _ k1)
                        have HOB : Hid ((w5.drew.alloc (.cells #[.string (mkB s.name)] 9)).ownsRow base 9 1 (.slice A5 vi.length d5) vi.length (strVs vi)) := World.ownsRow.alloc (w := w5.drew) k3 _
                        have HNB : Hid (∀ j u, [Value.string (mkB s.name)][j]? = some u → (w5.drew.alloc (.cells #[.string (mkB s.name)] 9)).cell? ((⟨w5.heap.size, 0, none⟩ : Addr).add j) = some u) := cell_one_new w5.drew _ _
                        clear hk5 hb5 hkp5 hkn5 k1 k2 k3 k4 k5 k6 hw5 HKN4 HKP4 HB4 HO4 x4 y4 HK3 G1 G2 G3 H1 H2 H3 H4 H5 H6
                        go_region_held3 (fun w' => w'.cell? ⟨p, 3, none⟩ = some (.slice A5 vi.length d5) ∧ w'.cell? ⟨wr.heap.size, 1, none⟩ = some (.string (mkB s.name)))
                          (first
                            | exact ⟨J4.out, J3.out⟩
                            | exact ⟨Keeps.alloc _ _ _ _ F3b.out, Keeps.alloc _ _ _ _ F1b.out⟩
                            | exact ⟨F3b.out, F1b.out⟩)
                          (first
                            | (refine step_append_lies _ rfl _ _ 35 rfl base 9 i0 _ 1 16 Tryz.underlying35 hi hz0 hz1 hz2 rfl (by decide) _ vi.length (strVs vi) rfl HOB.out ⟨w5.heap.size, 0, none⟩ 1 1 [.string (mkB s.name)] rfl rfl HNB.out HOC.out (by decide) (by unfold maxLen; omega) (by omega) (by show base ≤ (w5.drew.alloc _).heap.size; simp; omega) _ rfl ?_; intro g6 cap6 w6 hown hgrow hat hlt; obtain ⟨hold6, hb6, hkp6, hkn6⟩ := kn_vis (w := w5.drew) hlow hplt5 G1b.out G2b.out G3b.out H4b.out H5b.out H6b.out hown hgrow hat; have J3 := Lib.hid (cell_of_row _ _ 1 _ _ _ (hkp6 _ _ _ _ HWP.out (by decide) HK5.out)); have J4 := Lib.hid (cell_of_row _ _ 3 _ _ _ hold6); have HO6 := Lib.hid hold6; have HB6 := Lib.hid hb6; have HKP6 := Lib.hid hkp6; have HKN6 := Lib.hid hkn6; clear hown hgrow hat hlt hold6 hb6 hkp6 hkn6))
                        have y6 := row_frozen HO6.out 3
                        have x6 : w6.cell? ⟨p, 3, none⟩ = some (.slice A5 vi.length d5) := cell_of_row _ _ 3 _ _ _ HO6.out
                        go_wp2_with fail
                        go_meet
                        refine ⟨?_, fun _ => ⟨HC.out, by have := H12.out; omega⟩, KpC.store p 3 w6 _ _ _ _ _ HWP.out (by decide) (HKP6.out _ _ _ _ HWP.out (by decide) HK5.out)⟩
                        unfold allN
                        rw [if_pos HKK.out, if_pos HKK.out]
                        exact HP3.out.trans ⟨(HB5.out.trans (((Below.refl base w5).drew).trans HB6.out)).setCell hlow _, HKP5.out.trans (KpC.trans (b := w6) HKP6.out (KpC.store p 3 w6 _)), fun _ => HKN6.out⟩
                    · rw [hc] at HCON
                      have HF : Hid (blockC (tabOf fs) ss all vis = (7, al)) := show _ = _ by rw [HI.out, HST.out, stmtC_var HSH.out HE0.out hk, addC_has hc]; rfl
                      clear h1 h2 h3 h4 h5 h6 hrow1 hrow2 hk hc
                      go_wp2_with fail
                      go_quiet ((go_at_call 38; exact Calls.quiet_of_same (HCON.out _ (grow_drew (Below.refl _ _) _))))
                      go_wp2_with fail
                      go_ret
                      rw [HF.out]
                      exact ⟨rfl, (HPW.out.trans (HP2.out.trans (KnPost.below (HP2.out.chk rfl) (grow_drew (Below.refl _ _) _)))).fail (by simp)⟩
                  case false =>
                    have hk : s.kind ≠ sVar := by have := HKV.out; rw [mkB_toList] at this; exact beq_eq_false_iff_ne.1 this
                    have HKK := Lib.hid hk
                    clear hk
                    go_wp2_with fail
                    go_meet
                    refine ⟨?_, fun h => absurd h HKK.out, HK2.out⟩
                    unfold allN
                    rw [if_neg HKK.out, if_neg HKK.out]
                    exact HP2.out
                case rest => as_aux_lemma =>
                  obtain ⟨hpc, hvar, hkc⟩ := hcut
                  have HVAR := Lib.hid hvar
                  obtain ⟨al2, hal2⟩ : ∃ a, allN s al = a := ⟨_, rfl⟩
                  obtain ⟨vi2, hvi2⟩ : ∃ a, allN s vi = a := ⟨_, rfl⟩
                  have hlen2 : al2.length ≤ 12 ∧ vi2.length ≤ al2.length := by
                    rw [← hal2, ← hvi2]
                    unfold allN
                    by_cases hk : s.kind = sVar
                    · have := (hvar hk).2
                      rw [if_pos hk, if_pos hk]; simp; omega
                    · rw [if_neg hk, if_neg hk]; exact ⟨hal, hvl⟩
                  rw [hal2, hvi2] at hpc
                  have HA2 := Lib.hid hal2
                  have HV2 := Lib.hid hvi2
                  have hl12 := hlen2.1
                  have hl13 := hlen2.2
                  have HPC := Lib.hid hpc
                  have HKC := Lib.hid hkc
                  obtain ⟨e0, e1, e2, e3, e4, e5, e6, e7⟩ := row8 hkc
                  obtain ⟨B2, d2, f3, hcon⟩ := HKV2.out al2 vi2 wc (by omega) hpc
                  have HCON := Lib.hid hcon
                  obtain ⟨ks, g1⟩ : ∃ ks, ((mkB s.kind).toList == [115, 101, 116]) = ks := ⟨_, rfl⟩
                  obtain ⟨cn, hcn⟩ : ∃ cn, vi2.contains s.name = cn := ⟨_, rfl⟩
                  rw [hcn] at HCON
                  have HCN := Lib.hid hcn
                  clear hpc hvar hkc hal2 hvi2 hlen2 hcon hcn HNM HRT
                  go_upto_region 33 with fail
                  have HKS := Lib.hid g1
                  go_cut [145] (fun v wx => v = .bool (ks && !cn) ∧ ∃ q, wc.drewN q = wx)
                  case first =>
                    cases ks
                    · go_quiet (fail)
                      go_wp2_with fail
                      go_meet
                      exact ⟨rfl, _, rfl⟩
                    · go_quiet ((go_at_call 38; exact Calls.quiet_of_same (HCON.out _ (grow_drew (Below.refl _ _) _))))
                      go_wp2_with fail
                      go_meet
                      exact ⟨rfl, _, rfl⟩
                  case rest =>
                    clear g1
                    obtain ⟨rfl, nq, hw⟩ := hcut
                    subst hw
                    have HP7 := Lib.hid (HPC.out.trans (KnPost.below (HPC.out.chk rfl) (grow_drew (Below.refl _ _) nq)))
                    have HK7 : Hid ((wc.drewN nq).heap[wr.heap.size]? = _) := HKC.out
                    by_cases hbad : ks = true ∧ cn = false
                    · obtain ⟨rfl, rfl⟩ := hbad
                      have hkset : s.kind = sSet := by have := HKS.out; rw [mkB_toList] at this; exact beq_iff_eq.1 this
                      have hv0 : vi2 = vi := by rw [← HV2.out]; unfold allN; rw [if_neg (by rw [hkset]; decide)]
                      have HF : Hid (blockC (tabOf fs) ss all vis = (6, al)) := show _ = _ by rw [HI.out, HST.out, stmtC_set HSH.out HE0.out hkset (hv0 ▸ HCN.out)]; rfl
                      clear hkset hv0
                      go_wp2_with fail
                      go_ret
                      rw [HF.out]
                      exact ⟨rfl, (HPW.out.trans HP7.out).fail (by simp)⟩
                    · have hbb : (ks && !cn) = false := by cases ks <;> cases cn <;> simp_all
                      rw [hbb]
                      have HSTM : Hid (stmtC (tabOf fs) s al vi = if (blockC (tabOf fs) s.th al2 vi2).1 = 0 then ((blockC (tabOf fs) s.el (blockC (tabOf fs) s.th al2 vi2).2 vi2).1, (blockC (tabOf fs) s.el (blockC (tabOf fs) s.th al2 vi2).2 vi2).2, vi2) else ((blockC (tabOf fs) s.th al2 vi2).1, (blockC (tabOf fs) s.th al2 vi2).2, vi2)) := show _ = _ by
                        have := stmtC_then (al := al) HSH.out HE0.out HVAR.out (fun hset => by
                          have hv0 : vi2 = vi := by rw [← HV2.out]; unfold allN; rw [if_neg (by rw [hset]; decide)]
                          have h1 : ks = true := by rw [← HKS.out, mkB_toList, hset]; rfl
                          have h2 : cn = true := by cases cn; exact absurd ⟨h1, rfl⟩ hbad; rfl
                          rw [← hv0, HCN.out, h2])
                        rw [HA2.out, HV2.out] at this
                        exact this
                      clear hbb hbad
                      have hth := HTH.out al2 vi2 _ hl12 hl13 HP7.out
                      have hlb := leftB_any (tabOf fs) s.th al2 vi2
                      have hl14 := hlb.2.1 hl12
                      have hl15 := Nat.le_trans hl13 hlb.2.2
                      obtain ⟨zt, hzt⟩ : ∃ z, blockC (tabOf fs) s.th al2 vi2 = z := ⟨_, rfl⟩
                      rw [hzt] at hth HSTM hl14 hl15
                      clear hzt hlb
                      by_cases hz : zt.1 = 0
                      · rw [if_pos hz] at HSTM
                        rw [hz] at hth
                        have HTC := Lib.hid hth
                        have HEL2 := Lib.hid (fun w' => HEL.out zt.2 vi2 w' hl14 hl15)
                        obtain ⟨ze, hze⟩ : ∃ z, blockC (tabOf fs) s.el zt.2 vi2 = z := ⟨_, rfl⟩
                        rw [hze] at HEL2 HSTM
                        clear hth hz hze
                        by_cases hz2 : ze.1 = 0
                        · rw [hz2] at HEL2 HSTM
                          clear hz2
                          go_wp2_with (first
                            | (go_at_call 56; (with_reducible refine HTC.out.mono ?_); rintro x1 w8 ⟨rfl, hp8⟩; have HP8 := Lib.hid (HP7.out.trans hp8); have hk8 := hp8.kp _ _ _ _ HWP.out (by decide) HK7.out; obtain ⟨i0', i1', i2', i3', i4', i5', i6', i7'⟩ := row8 hk8; clear hp8 hk8)
                            | (go_at_call 56; (with_reducible refine (HEL2.out _ HP8.out).mono ?_); rintro x2 w9 ⟨rfl, hp9⟩; have HP9 := Lib.hid (HP8.out.trans hp9); clear hp9))
                          go_roundw
                          case rel =>
                            have hl := HLF.out
                            rw [HSTM.out] at hl
                            obtain ⟨m2, hm2⟩ := hl.2.2.2.2
                            refine ⟨k + 1, ze.2, vi2, more ++ m2, by omega, by go_num, ?_, hl.2.1 hal, hl.2.2.1 hvl, by simp only at hm2; rw [hm2, HMR.out, List.append_assoc], HPW.out.trans HP9.out⟩
                            rw [HI.out, HST.out, HSTM.out]; rfl
                          case measure => simp [intOf]; omega
                        · have hpos : (0 : Int) < ((ze.1 : Nat) : Int) := by omega
                          have HF : Hid (blockC (tabOf fs) ss all vis = (ze.1, ze.2)) := show _ = _ by rw [HI.out, HST.out, HSTM.out, if_neg hz2]
                          have HNE := Lib.hid hz2
                          clear hz2
                          go_wp2_with (first
                            | (go_at_call 56; (with_reducible refine HTC.out.mono ?_); rintro x1 w8 ⟨rfl, hp8⟩; have HP8 := Lib.hid (HP7.out.trans hp8); have hk8 := hp8.kp _ _ _ _ HWP.out (by decide) HK7.out; obtain ⟨i0', i1', i2', i3', i4', i5', i6', i7'⟩ := row8 hk8; clear hp8 hk8)
                            | (go_at_call 56; (with_reducible refine (HEL2.out _ HP8.out).mono ?_); rintro x2 w9 ⟨rfl, hp9⟩; have HP9 := Lib.hid (HP8.out.trans hp9); clear hp9))
                          go_ret
                          rw [HF.out]
                          exact ⟨rfl, (HPW.out.trans HP9.out).fail HNE.out⟩
                      · rw [if_neg hz] at HSTM
                        have hpos : (0 : Int) < ((zt.1 : Nat) : Int) := by omega
                        have hnz : (((zt.1 : Nat) : Int) == 0) = false := beq_eq_false_iff_ne.2 (by omega)
                        have HF : Hid (blockC (tabOf fs) ss all vis = (zt.1, zt.2)) := show _ = _ by rw [HI.out, HST.out, HSTM.out, if_neg hz]
                        have HNE := Lib.hid hz
                        have HTC := Lib.hid hth
                        clear hz hth
                        go_wp2_with (go_at_call 56; (with_reducible refine HTC.out.mono ?_); rintro x1 w8 ⟨rfl, hp8⟩; have HP8 := Lib.hid (HP7.out.trans hp8); clear hp8)
                        go_ret
                        rw [HF.out]
                        exact ⟨rfl, (HPW.out.trans HP8.out).fail HNE.out⟩
              · have hpos : (0 : Int) < ((exprC (tabOf fs) vi s.e : Nat) : Int) := by omega
                have HF : Hid (blockC (tabOf fs) ss all vis = (exprC (tabOf fs) vi s.e, al)) := show _ = _ by rw [HI.out, HST.out, stmtC_expr HSH.out he, if_neg he]
                have HNE := Lib.hid he
                clear he
                go_wp2_with (go_at_call 78; (with_reducible refine (HEX.out _ HP1.out).mono ?_); rintro y w2 ⟨rfl, hb2⟩; have HP2 := Lib.hid (HP1.out.trans (KnPost.below (HP1.out.chk rfl) hb2)); clear hb2)
                go_ret
                rw [HF.out]
                exact ⟨rfl, (HPW.out.trans HP2.out).fail HNE.out⟩
    · have hk' : k = ss.length := by omega
      subst hk'
      have HF : Hid (blockC (tabOf fs) ss all vis = (0, al)) := show _ = _ by rw [HI.out, List.drop_length, blockC_nil]
      obtain ⟨v, s, q1, q2, q3, q4, q5, q6⟩ := (hp.chk rfl).cells
      have hmr := HMR.out
      subst hmr
      obtain ⟨B', d', rfl, -, hcap⟩ := owns_Row q3
      have hcut := owns_cut q3
      have r2 : wr.cell? ⟨p, 3, none⟩ = some (.slice B' (vis ++ more).length d') := cell_of_row _ _ 3 _ _ _ q1
      have y2 := row_frozen q1 3
      have hc1 : (vis.length : Int) ≤ (d' : Int) := by simp at hcap; omega
      have hlow := (hp.chk rfl).low
      have hplt := (hp.chk rfl).lt
      have HP := Lib.hid hp
      have HC2 := Lib.hid hcut
      have HO := Lib.hid q2
      have H1 := Lib.hid q1
      have H4 := Lib.hid q4
      have H5 := Lib.hid q5
      have H6 := Lib.hid q6
      clear q1 q2 q3 q4 q5 q6 hcut hp hcap
      go_wp2_with fail
      go_ret
      rw [HF.out]
      refine ⟨rfl, HP.out.bel.setCell hlow _, HP.out.kp.trans (KpC.store p 3 wr _), fun _ => ⟨hlow, by simp; omega, _, _, row_set (j := 3) _ H1.out (by simp), setRow_owns _ HO.out H4.out, setRow_owns _ HC2.out (own_len (n := (vis ++ more).length) ▸ H5.out), H4.out, own_len (n := (vis ++ more).length) ▸ H5.out, own_len (n := (vis ++ more).length) ▸ H6.out⟩⟩
theorem rblock_any (base p : Nat) (fs : List PFun) (F : Option Addr) (cf : Nat) (hf : fs.length ≤ 10) (ss : List PStmt) (hlen : ss.length ≤ 30) (h : ∀ s ∈ ss, SmS s) : RBlock base p fs F cf ss := by
  have each : ∀ s : PStmt, SmS s → RBlock base p fs F cf s.th ∧ RBlock base p fs F cf s.el := by
    intro s
    induction s using PStmt.ind with
    | h s iht ihl =>
      intro hsm
      exact ⟨rblock_list base p fs F cf hf s.th hsm.lenT (fun k hk => (hsm.kidT k hk).expr) (fun k hk => iht k hk (hsm.kidT k hk)), rblock_list base p fs F cf hf s.el hsm.lenL (fun k hk => (hsm.kidL k hk).expr) (fun k hk => ihl k hk (hsm.kidL k hk))⟩
  exact rblock_list base p fs F cf hf ss hlen (fun s hs => (h s hs).expr) (fun s hs => each s (h s hs))

end Go.Proofs.YteifmgcbafemeaaGreatDoor
