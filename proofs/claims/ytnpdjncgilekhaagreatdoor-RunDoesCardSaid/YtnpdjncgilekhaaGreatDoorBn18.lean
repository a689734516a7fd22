import Derived.Deep.AppendLies
import Derived.Test.YtnpdjncgilekhaaGreatDoorBn17
namespace Go.Proofs.YtnpdjncgilekhaaGreatDoor
open Go.RowKit

/-! the document's check of statements -/
structure KnPost (base p : Nat) (F : Option Addr) (nf cf : Nat) (c : Nat) (all vis : List Nm) (w w' : World) : Prop where
  bel : Below base w w'
  kp : KpC p w w'
  chk : c = 0 → KnAt base p F nf cf all vis w'
theorem KnPost.below {base p nf cf : Nat} {F : Option Addr} {all vis : List Nm} {w w' : World} (h : KnAt base p F nf cf all vis w) (hb : Below w.heap.size w w') : KnPost base p F nf cf 0 all vis w w' := ⟨hb.mono h.base_le, KpC.below hb, fun _ => h.keep hb⟩
theorem KnPost.trans {base p nf cf c : Nat} {F : Option Addr} {all vis all' vis' : List Nm} {w w' w'' : World} (h : KnPost base p F nf cf 0 all vis w w') (k : KnPost base p F nf cf c all' vis' w' w'') : KnPost base p F nf cf c all' vis' w w'' := ⟨h.bel.trans k.bel, h.kp.trans k.kp, k.chk⟩
theorem KnPost.fail {base p nf cf c d : Nat} {F : Option Addr} {all vis all' vis' : List Nm} {w w' : World} (h : KnPost base p F nf cf d all vis w w') (hc : c ≠ 0) : KnPost base p F nf cf c all' vis' w w' := ⟨h.bel, h.kp, fun e => absurd e hc⟩
def rstmtO (s : PStmt) (X : Option Addr) (x : Nat) (T : Option Addr) (t : Nat) (L : Option Addr) (l : Nat) : Obj := .cells #[.string (mkB s.kind), .string (mkB s.name), .string (mkB s.e.kind), .int .i64 s.e.num, .string (mkB s.e.name), .slice X s.e.kids.length x, .slice T s.th.length t, .slice L s.el.length l] 97
def RBlock (base p : Nat) (fs : List PFun) (F : Option Addr) (cf : Nat) (ss : List PStmt) : Prop := ∀ (all vis : List Nm) (A : Option Addr) (c : Nat) (w : World), KnAt base p F fs.length cf all vis w → RdF w (fun k => k < base) fs F → RdS w (fun k => k < base) ss A → all.length ≤ 12 → vis.length ≤ all.length →
  Calls Tryz.prog 56 #[.pointer (some ⟨p, 0, none⟩), .slice A ss.length c] w fun e w' => e = .returned (.int .i64 ((blockC (tabOf fs) ss all vis).1 : Nat)) ∧ KnPost base p F fs.length cf (blockC (tabOf fs) ss all vis).1 (blockC (tabOf fs) ss all vis).2 vis w w'
def namedB (s : PStmt) : Bool := ((mkB s.kind).toList == [118, 97, 114]) || ((mkB s.kind).toList == [115, 101, 116])
def rightB (s : PStmt) : Bool := if namedB s then nmOk s.name else (mkB s.name).toList.isEmpty
theorem named_yes {s : PStmt} (h : s.kind = sVar ∨ s.kind = sSet) : namedB s = true := by
  unfold namedB; rw [mkB_toList]; rcases h with h | h <;> rw [h] <;> rfl
theorem named_no {s : PStmt} (h0 : s.kind ≠ sVar) (h1 : s.kind ≠ sSet) : namedB s = false := by
  unfold namedB; rw [mkB_toList, Bool.or_eq_false_iff]; exact ⟨beq_eq_false_iff_ne.2 h0, beq_eq_false_iff_ne.2 h1⟩
theorem right_yes {s : PStmt} (h : s.kind = sVar ∨ s.kind = sSet) : rightB s = nmOk s.name := by unfold rightB; rw [named_yes h]; rfl
theorem right_no {s : PStmt} (h0 : s.kind ≠ sVar) (h1 : s.kind ≠ sSet) : rightB s = s.name.isEmpty := by unfold rightB; rw [named_no h0 h1, mkB_toList]; rfl
/-- After the statement itself. -/
def allN (s : PStmt) (al : List Nm) : List Nm := if s.kind = sVar then al ++ [s.name] else al
theorem stmtC_then {fs : Tab} {s : PStmt} {al vi : List Nm} (h : Shp s = true) (he : exprC fs vi s.e = 0) (hv : s.kind = sVar → al.contains s.name = false ∧ al.length < 12) (hs : s.kind = sSet → vi.contains s.name = true) :
    stmtC fs s al vi = if (blockC fs s.th (allN s al) (allN s vi)).1 = 0 then ((blockC fs s.el (blockC fs s.th (allN s al) (allN s vi)).2 (allN s vi)).1, (blockC fs s.el (blockC fs s.th (allN s al) (allN s vi)).2 (allN s vi)).2, allN s vi) else ((blockC fs s.th (allN s al) (allN s vi)).1, (blockC fs s.th (allN s al) (allN s vi)).2, allN s vi) := by
  by_cases hk : s.kind = sVar
  · have h3 := h
    unfold Shp at h3
    rw [hk] at h3
    obtain ⟨l1, l2⟩ := shaped_var h3
    rw [stmtC_var h he hk, addC_yes (hv hk).1 (by have := (hv hk).2; omega), List.length_eq_zero_iff.1 l1, List.length_eq_zero_iff.1 l2]
    unfold allN
    rw [if_pos hk, if_pos hk, blockC_nil, blockC_nil]
    rfl
  · rw [stmtC_rest h he hk hs]
    unfold allN
    rw [if_neg hk, if_neg hk]
theorem own_g {g n cap : Nat} : (Value.slice (some ⟨g, 0, none⟩) n cap).ownBlock = some g := rfl
/-- A name more among all; the store follows. -/
theorem kn_all {base p nf cf : Nat} {F : Option Addr} {al vi : List Nm} {x : Nm} {w w4 : World} {v s : Value} {o : Obj} {g cap : Nat} (hlow : base ≤ p) (hlt : p < w.heap.size)
    (h1 : w.heap[p]? = some (.cells #[.slice F nf cf, .bool true, v, s] 113 (0, 0))) (h2 : w.ownsRow base 9 1 v al.length (strVs al)) (h3 : w.ownsRow base 9 1 s vi.length (strVs vi)) (h4 : v.ownBlock ≠ some p) (h5 : s.ownBlock ≠ some p) (h6 : s.ownBlock = none ∨ v.ownBlock ≠ s.ownBlock)
    (hown : w4.ownsRow base 9 1 (.slice (some ⟨g, 0, none⟩) (al.length + 1) cap) (al.length + 1) (strVs al ++ [.string (mkB x)])) (hg : (w.alloc o).grownBy w4 v.ownBlock) (hat : v.ownBlock = some g ∨ g = (w.alloc o).heap.size) :
    w4.heap[p]? = some (.cells #[.slice F nf cf, .bool true, v, s] 113 (0, 0)) ∧ Below base w w4 ∧ KpC p w w4 ∧
    KnAt base p F nf cf (al ++ [x]) vi (w4.setCell ⟨p, 2, none⟩ (.slice (some ⟨g, 0, none⟩) (al.length + 1) cap)) := by
  have hold : w4.heap[p]? = some (.cells #[.slice F nf cf, .bool true, v, s] 113 (0, 0)) := by
    rw [hg.block p (by simp; omega) (fun q => h4 q.symm), old_block _ _ hlt]; exact h1
  have hb : Below base w w4 := Below.grown ((Below.refl base w).alloc (by omega) _) hg (by simp; omega) (fun k hk => (h2.lt k hk).1)
  have hs4 : w.heap.size ≤ w4.heap.size := hb.size
  have hne : (Value.slice (some ⟨g, 0, none⟩) (al.length + 1) cap).ownBlock ≠ some p := by
    rw [own_g]
    rcases hat with e | e
    · rw [← e]; exact h4
    · rw [e]; intro q; simp at q; omega
  have hap : s.ownBlock = none ∨ (Value.slice (some ⟨g, 0, none⟩) (al.length + 1) cap).ownBlock ≠ s.ownBlock := by
    rcases h6 with q | q
    · exact .inl q
    · right
      rw [own_g]
      rcases hat with e | e
      · rw [← e]; exact q
      · rw [e]; intro q2; have := (h3.lt _ q2.symm).2; simp at this; omega
  have ho3 : w4.ownsRow base 9 1 s vi.length (strVs vi) := (h3.alloc _).kept hg (by rcases h6 with q | q; exact .inl q; exact .inr (fun e => q e.symm))
  refine ⟨hold, hb, KpC.append h2 hg, hlow, by simp; omega, _, _, row_set (j := 2) (cs' := #[.slice F nf cf, .bool true, .slice (some ⟨g, 0, none⟩) (al.length + 1) cap, s]) _ hold (by simp), ?_, setRow_owns _ ho3 h5, hne, h5, hap⟩
  have hown' : w4.ownsRow base 9 1 (.slice (some ⟨g, 0, none⟩) (al.length + 1) cap) (al ++ [x]).length (strVs (al ++ [x])) := by rw [strVs_snoc, List.length_append]; exact hown
  exact setRow_owns _ hown' hne
theorem kn_vis {base p nf cf : Nat} {F : Option Addr} {al vi : List Nm} {x : Nm} {w w4 : World} {v s : Value} {o : Obj} {g cap : Nat} (hlow : base ≤ p) (hlt : p < w.heap.size)
    (h1 : w.heap[p]? = some (.cells #[.slice F nf cf, .bool true, v, s] 113 (0, 0))) (h2 : w.ownsRow base 9 1 v al.length (strVs al)) (h3 : w.ownsRow base 9 1 s vi.length (strVs vi)) (h4 : v.ownBlock ≠ some p) (h5 : s.ownBlock ≠ some p) (h6 : s.ownBlock = none ∨ v.ownBlock ≠ s.ownBlock)
    (hown : w4.ownsRow base 9 1 (.slice (some ⟨g, 0, none⟩) (vi.length + 1) cap) (vi.length + 1) (strVs vi ++ [.string (mkB x)])) (hg : (w.alloc o).grownBy w4 s.ownBlock) (hat : s.ownBlock = some g ∨ g = (w.alloc o).heap.size) :
    w4.heap[p]? = some (.cells #[.slice F nf cf, .bool true, v, s] 113 (0, 0)) ∧ Below base w w4 ∧ KpC p w w4 ∧
    KnAt base p F nf cf al (vi ++ [x]) (w4.setCell ⟨p, 3, none⟩ (.slice (some ⟨g, 0, none⟩) (vi.length + 1) cap)) := by
  have hold : w4.heap[p]? = some (.cells #[.slice F nf cf, .bool true, v, s] 113 (0, 0)) := by
    rw [hg.block p (by simp; omega) (fun q => h5 q.symm), old_block _ _ hlt]; exact h1
  have hb : Below base w w4 := Below.grown ((Below.refl base w).alloc (by omega) _) hg (by simp; omega) (fun k hk => (h3.lt k hk).1)
  have hs4 : w.heap.size ≤ w4.heap.size := hb.size
  have hne : (Value.slice (some ⟨g, 0, none⟩) (vi.length + 1) cap).ownBlock ≠ some p := by
    rw [own_g]
    rcases hat with e | e
    · rw [← e]; exact h5
    · rw [e]; intro q; simp at q; omega
  have hap : v.ownBlock ≠ (Value.slice (some ⟨g, 0, none⟩) (vi.length + 1) cap).ownBlock := by
    rw [own_g]
    rcases hat with e | e
    · rcases h6 with q | q
      · rw [q] at e; cases e
      · rw [← e]; exact q
    · rw [e]; intro q2; have := (h2.lt _ q2).2; simp at this; omega
  have ho3 : w4.ownsRow base 9 1 v al.length (strVs al) := (h2.alloc _).kept hg (by
    rcases h6 with q | q
    · rw [q]; cases v.ownBlock <;> simp
    · exact .inr q)
  refine ⟨hold, hb, KpC.append h3 hg, hlow, by simp; omega, _, _, row_set (j := 3) (cs' := #[.slice F nf cf, .bool true, v, .slice (some ⟨g, 0, none⟩) (vi.length + 1) cap]) _ hold (by simp), setRow_owns _ ho3 h4, ?_, h4, hne, .inr hap⟩
  have hown' : w4.ownsRow base 9 1 (.slice (some ⟨g, 0, none⟩) (vi.length + 1) cap) (vi ++ [x]).length (strVs (vi ++ [x])) := by rw [strVs_snoc, List.length_append]; exact hown
  exact setRow_owns _ hown' hne

set_option maxHeartbeats 16000000 in
set_option maxRecDepth 100000 in
theorem rblock_list (base p : Nat) (fs : List PFun) (F : Option Addr) (cf : Nat) (hf : fs.length ≤ 10) (ss : List PStmt) (hlen : ss.length ≤ 30) (hsm : ∀ s ∈ ss, SmE s.e) (hq : ∀ s ∈ ss, RBlock base p fs F cf s.th ∧ RBlock base p fs F cf s.el) : RBlock base p fs F cf ss := by
  intro all vis A c w hC hF hr hal hvl
  obtain ⟨i0, hi, hz0, hz1, hz2⟩ := info_parts strInfo2
  obtain ⟨v, s, q1, -, q3, -⟩ := hC.cells
  obtain ⟨B, d, rfl, -, -⟩ := owns_Row q3
  have p3 : w.cell? ⟨p, 3, none⟩ = some (.slice B vis.length d) := cell_of_row _ _ 3 _ _ _ q1
  have HP0 : Hid (KnPost base p F fs.length cf 0 all vis w w) := KnPost.below hC (Below.refl _ _)
  have HQ := Lib.hid hq
  have HR := Lib.hid hr
  have HFF := Lib.hid hF
  have HSM := Lib.hid hsm
  have HAL := Lib.hid (And.intro hal hvl)
  have hv12 : vis.length ≤ 12 := by omega
  clear q1 q3 hq hr hC hal hvl hF hsm
  go_enter Tryz.func56, Tryz.ntmps56
  go_wp2_with fail
  go_loopw [6, 7, 8, 9, 10, 11, 12, 13] (fun i _ _ _ _ _ _ _ wr => ∃ (k : Nat) (al vi more : List Nm), k ≤ ss.length ∧ i = .int .i64 k ∧ blockC (tabOf fs) ss all vis = blockC (tabOf fs) (ss.drop k) al vi ∧ al.length ≤ 12 ∧ vi.length ≤ al.length ∧ vi = vis ++ more ∧ KnPost base p F fs.length cf 0 al vi w wr) (fun i _ _ _ _ _ _ _ _ => ss.length - (intOf i).toNat)
  case atStart => exact ⟨0, all, vis, [], Nat.zero_le _, rfl, by simp, HAL.out.1, HAL.out.2, by simp, HP0.out⟩
  case round =>
    obtain ⟨k, al, vi, more, hk, rfl, hI, hal, hvl, hmore, hp⟩ := hrel
    have HI := Lib.hid hI
    have HMR := Lib.hid hmore
    clear hI hmore
    by_cases hlt : k < ss.length
    · obtain ⟨b', off, X, x, T, t, L, l, rfl, -, hcells, hnum, hX, hT, hL⟩ := (HR.out.keep (keepsLow hp.bel) (fun _ h => h)).at hlt
      obtain ⟨c0, c1, c2, c3, c4, c5, c6, c7⟩ := cells_stmt hcells
      have hlt' : (k : Int) < (ss.length : Int) := by omega
      have hst := blockC_step (fs := tabOf fs) hlt al vi
      have hqs := HQ.out ss[k] (List.getElem_mem hlt)
      have hse := HSM.out ss[k] (List.getElem_mem hlt)
      obtain ⟨s, hs⟩ : ∃ s, ss[k] = s := ⟨_, rfl⟩
      rw [hs] at hcells hnum hX hT hL c0 c1 c2 c3 c4 c5 c6 c7 hst hqs hse
      have HST := Lib.hid hst
      have hn1 : ∀ w', Calls Tryz.prog 55 #[.string (mkB s.name)] w' (Ret (.bool (nmOk s.name)) w') := fun w' => IsName_any s.name w'
      obtain ⟨b0, hb0⟩ : ∃ b, nmOk s.name = b := ⟨_, rfl⟩
      rw [hb0] at hn1
      have HN := Lib.hid hn1
      have HN0 := Lib.hid hb0
      have hbx : Below wr.heap.size wr (wr.alloc (rstmtO s X x T t L l)) := grow_alloc (grow_refl _) _
      have HBK := Lib.hid (heap_alloc_new wr (rstmtO s X x T t L l))
      have hr0 : KnPost base p F fs.length cf 0 al vi wr wr := KnPost.below (hp.chk rfl) (Below.refl _ _)
      have hpa : KnPost base p F fs.length cf 0 al vi wr (wr.alloc (rstmtO s X x T t L l)) := hr0.trans (KnPost.below (hp.chk rfl) hbx)
      have HPA := Lib.hid hpa
      have HPW := Lib.hid hp
      have HWP : Hid (wr.heap.size ≠ p) := show _ ≠ _ by have := (hp.chk rfl).lt; omega
      have hlf := left_any (tabOf fs) s al vi
      have HLF := Lib.hid hlf
      have hfr := HFF.out.keep (keepsLow hp.bel) (fun _ h => h)
      have HEX : Hid (∀ w', KnPost base p F fs.length cf 0 al vi wr w' → Calls Tryz.prog 78 #[.pointer (some ⟨p, 0, none⟩), exprV s.e X x] w' (Ret (.int .i64 (exprC (tabOf fs) vi s.e : Nat)) w')) := fun w' hb =>
        rexpr_any base p fs F cf hf al vi (by omega) s.e hse _ X x w' (hb.chk rfl) (hfr.keep (keepsLow hb.bel) (fun _ h => h)) (hX.keep (keepsLow hb.bel) (fun _ h => h))
      have HTH : Hid (∀ al2 vi2 w', al2.length ≤ 12 → vi2.length ≤ al2.length → KnPost base p F fs.length cf 0 al2 vi2 wr w' → Calls Tryz.prog 56 #[.pointer (some ⟨p, 0, none⟩), .slice T s.th.length t] w' fun e w'' => e = .returned (.int .i64 ((blockC (tabOf fs) s.th al2 vi2).1 : Nat)) ∧ KnPost base p F fs.length cf (blockC (tabOf fs) s.th al2 vi2).1 (blockC (tabOf fs) s.th al2 vi2).2 vi2 w' w'') :=
        fun al2 vi2 w' h1 h2 hb => hqs.1 al2 vi2 T t w' (hb.chk rfl) (hfr.keep (keepsLow hb.bel) (fun _ h => h)) (hT.keep (keepsLow hb.bel) (fun _ h => h)) h1 h2
      have HEL : Hid (∀ al2 vi2 w', al2.length ≤ 12 → vi2.length ≤ al2.length → KnPost base p F fs.length cf 0 al2 vi2 wr w' → Calls Tryz.prog 56 #[.pointer (some ⟨p, 0, none⟩), .slice L s.el.length l] w' fun e w'' => e = .returned (.int .i64 ((blockC (tabOf fs) s.el al2 vi2).1 : Nat)) ∧ KnPost base p F fs.length cf (blockC (tabOf fs) s.el al2 vi2).1 (blockC (tabOf fs) s.el al2 vi2).2 vi2 w' w'') :=
        fun al2 vi2 w' h1 h2 hb => hqs.2 al2 vi2 L l w' (hb.chk rfl) (hfr.keep (keepsLow hb.bel) (fun _ h => h)) (hL.keep (keepsLow hb.bel) (fun _ h => h)) h1 h2
      have hkn : ∀ w', KnPost base p F fs.length cf 0 al vi wr w' → ∃ A1 d1 A2 d2, w'.heap[p]? = some (.cells #[.slice F fs.length cf, .bool true, .slice A1 al.length d1, .slice A2 vi.length d2] 113 (0, 0)) ∧
          (∀ w'', Below w'.heap.size w' w'' → Calls Tryz.prog 38 #[.string (mkB s.name), .slice A1 al.length d1] w'' fun e w3 => e = .returned (.bool (al.contains s.name)) ∧ w3 = w'') := fun w' hb => by
        obtain ⟨v, s', q1, q2, q3, -⟩ := (hb.chk rfl).cells
        obtain ⟨B1, d1, rfl, hrow, -⟩ := owns_Row q2
        obtain ⟨B2, d2, rfl, hrow2, -⟩ := owns_Row q3
        exact ⟨B1, d1, B2, d2, q1, fun w'' hb' => isin_any al s.name B1 d1 w'' (hrow.keep (Keeps.of_below hb')) (by omega)⟩
      have hkv : ∀ al2 vi2 w', vi2.length ≤ 12 → KnPost base p F fs.length cf 0 al2 vi2 wr w' → ∃ A2 d2, w'.cell? ⟨p, 3, none⟩ = some (.slice A2 vi2.length d2) ∧
          (∀ w'', Below w'.heap.size w' w'' → Calls Tryz.prog 38 #[.string (mkB s.name), .slice A2 vi2.length d2] w'' fun e w3 => e = .returned (.bool (vi2.contains s.name)) ∧ w3 = w'') := fun al2 vi2 w' hlv hb => by
        obtain ⟨v, s', q1, q2, q3, -⟩ := (hb.chk rfl).cells
        obtain ⟨B2, d2, rfl, hrow2, -⟩ := owns_Row q3
        exact ⟨B2, d2, cell_of_row _ _ 3 _ _ _ q1, fun w'' hb' => isin_any vi2 s.name B2 d2 w'' (hrow2.keep (Keeps.of_below hb')) (by omega)⟩
      have HKN := Lib.hid hkn
      have HKV2 := Lib.hid hkv
      have hbot : Below wr.heap.size wr wr := Below.refl _ _
      clear hcells hnum hX hT hL hqs hse hs hst hp hpa hr0 hlf hfr hkn hkv hn1 hb0 hbx hbot
      unfold exprV at *
      unfold rstmtO at *
      obtain ⟨nm, hnm⟩ : ∃ nm, namedB s = nm := ⟨_, rfl⟩
      obtain ⟨rt, hrt⟩ : ∃ rt, rightB s = rt := ⟨_, rfl⟩
      obtain ⟨sh, hsh⟩ : ∃ sh, Shp s = sh := ⟨_, rfl⟩
      have HNM := Lib.hid hnm
      have HRT := Lib.hid hrt
      have HSH := Lib.hid hsh
      clear hnm hrt hsh
      go_upto_region 7 with (go_at_call 55; (with_reducible refine (HN.out _).mono ?_); rintro y w1 ⟨rfl, hb1⟩; have HK1 := Lib.hid ((hb1.block wr.heap.size (by simp)).trans HBK.out); have HP1 := Lib.hid (HPA.out.trans (KnPost.below (HPA.out.chk rfl) hb1)); obtain ⟨d0, d1, d2, d3, d4, d5, d6, d7⟩ := row8 HK1.out; clear hb1)
      go_cut [9] (fun v wx => v = .bool nm ∧ w1 = wx)
      case first =>
        cases g0 : ((mkB s.kind).toList == [118, 97, 114]) <;> cases g1 : ((mkB s.kind).toList == [115, 101, 116])
        all_goals
          have hf := HNM.out.symm
          unfold namedB at hf
          rw [g0, g1] at hf
          have HF := Lib.hid hf
          clear hf
          go_wp2_with fail
          go_meet
          exact ⟨by rw [HF.out]; rfl, rfl⟩
      case rest =>
        obtain ⟨rfl, rfl⟩ := hcut
        go_upto_region 8 with fail
        go_cut [10] (fun v wx => v = .bool rt ∧ w1 = wx)
        case first =>
          cases nm
          · cases g2 : (mkB s.name).toList.isEmpty
            all_goals
              have hf := HRT.out.symm
              unfold rightB at hf
              rw [HNM.out, g2] at hf
              have HF := Lib.hid hf
              clear hf
              go_wp2_with fail
              go_meet
              exact ⟨by rw [HF.out]; rfl, rfl⟩
          · cases b0
            all_goals
              have hf := HRT.out.symm
              unfold rightB at hf
              rw [HNM.out, HN0.out] at hf
              have HF := Lib.hid hf
              clear hf
              go_wp2_with fail
              go_meet
              exact ⟨by rw [HF.out]; rfl, rfl⟩
        case rest =>
          obtain ⟨rfl, rfl⟩ := hcut
          go_upto_block 2 with fail
          go_cut [10] (fun v wx => v = .bool sh ∧ w1 = wx)
          case first => as_aux_lemma =>
            by_cases h_sVar : s.kind = sVar
            · have HSR : Hid (sh = (rt && decide (s.th.length = 0) && decide (s.el.length = 0))) := show _ = _ by rw [← HSH.out, ← HRT.out, right_yes (.inl h_sVar), shp_named (.inl h_sVar)]
              have t_sVar : ((mkB s.kind).toList == [118, 97, 114]) = true := by rw [mkB_toList, h_sVar]; rfl
              clear h_sVar
              cases rt
              · have HF : Hid (sh = false) := show _ = _ by rw [HSR.out]; rfl
                go_wp2_with fail
                go_meet
                exact ⟨by rw [HF.out], rfl⟩
              · by_cases h3 : s.th.length = 0
                · have q3 : ((s.th.length : Int) == 0) = true := by rw [h3]; rfl
                  by_cases h4 : s.el.length = 0
                  · have q4 : ((s.el.length : Int) == 0) = true := by rw [h4]; rfl
                    have HF : Hid (sh = true) := show _ = _ by rw [HSR.out, decide_eq_true h3, decide_eq_true h4]; rfl
                    clear h3 h4
                    go_wp2_with fail
                    go_meet
                    exact ⟨by rw [HF.out], rfl⟩
                  · have q4 : ((s.el.length : Int) == 0) = false := beq_eq_false_iff_ne.2 (by omega)
                    have HF : Hid (sh = false) := show _ = _ by rw [HSR.out, decide_eq_false h4]; simp
                    clear h3 h4
                    go_wp2_with fail
                    go_meet
                    exact ⟨by rw [HF.out], rfl⟩
                · have q3 : ((s.th.length : Int) == 0) = false := beq_eq_false_iff_ne.2 (by omega)
                  have HF : Hid (sh = false) := show _ = _ by rw [HSR.out, decide_eq_false h3]; simp
                  clear h3
                  go_wp2_with fail
                  go_meet
                  exact ⟨by rw [HF.out], rfl⟩
            by_cases h_sSet : s.kind = sSet
            · have HSR : Hid (sh = (rt && decide (s.th.length = 0) && decide (s.el.length = 0))) := show _ = _ by rw [← HSH.out, ← HRT.out, right_yes (.inr h_sSet), shp_named (.inr h_sSet)]
              have t_sVar : ((mkB s.kind).toList == [118, 97, 114]) = false := by rw [mkB_toList]; exact beq_eq_false_iff_ne.2 h_sVar
              have t_sSet : ((mkB s.kind).toList == [115, 101, 116]) = true := by rw [mkB_toList, h_sSet]; rfl
              clear h_sVar h_sSet
              cases rt
              · have HF : Hid (sh = false) := show _ = _ by rw [HSR.out]; rfl
                go_wp2_with fail
                go_meet
                exact ⟨by rw [HF.out], rfl⟩
              · by_cases h3 : s.th.length = 0
                · have q3 : ((s.th.length : Int) == 0) = true := by rw [h3]; rfl
                  by_cases h4 : s.el.length = 0
                  · have q4 : ((s.el.length : Int) == 0) = true := by rw [h4]; rfl
                    have HF : Hid (sh = true) := show _ = _ by rw [HSR.out, decide_eq_true h3, decide_eq_true h4]; rfl
                    clear h3 h4
                    go_wp2_with fail
                    go_meet
                    exact ⟨by rw [HF.out], rfl⟩
                  · have q4 : ((s.el.length : Int) == 0) = false := beq_eq_false_iff_ne.2 (by omega)
                    have HF : Hid (sh = false) := show _ = _ by rw [HSR.out, decide_eq_false h4]; simp
                    clear h3 h4
                    go_wp2_with fail
                    go_meet
                    exact ⟨by rw [HF.out], rfl⟩
                · have q3 : ((s.th.length : Int) == 0) = false := beq_eq_false_iff_ne.2 (by omega)
                  have HF : Hid (sh = false) := show _ = _ by rw [HSR.out, decide_eq_false h3]; simp
                  clear h3
                  go_wp2_with fail
                  go_meet
                  exact ⟨by rw [HF.out], rfl⟩
            by_cases h_sReturn : s.kind = sReturn
            · have HSR : Hid (sh = (rt && decide (s.th.length = 0) && decide (s.el.length = 0))) := show _ = _ by rw [← HSH.out, ← HRT.out, right_no h_sVar h_sSet, shp_ret (.inl h_sReturn)]
              have t_sVar : ((mkB s.kind).toList == [118, 97, 114]) = false := by rw [mkB_toList]; exact beq_eq_false_iff_ne.2 h_sVar
              have t_sSet : ((mkB s.kind).toList == [115, 101, 116]) = false := by rw [mkB_toList]; exact beq_eq_false_iff_ne.2 h_sSet
              have t_sReturn : ((mkB s.kind).toList == [114, 101, 116, 117, 114, 110]) = true := by rw [mkB_toList, h_sReturn]; rfl
              clear h_sVar h_sSet h_sReturn
              cases rt
              · have HF : Hid (sh = false) := show _ = _ by rw [HSR.out]; rfl
                go_wp2_with fail
                go_meet
                exact ⟨by rw [HF.out], rfl⟩
              · by_cases h3 : s.th.length = 0
                · have q3 : ((s.th.length : Int) == 0) = true := by rw [h3]; rfl
                  by_cases h4 : s.el.length = 0
                  · have q4 : ((s.el.length : Int) == 0) = true := by rw [h4]; rfl
                    have HF : Hid (sh = true) := show _ = _ by rw [HSR.out, decide_eq_true h3, decide_eq_true h4]; rfl
                    clear h3 h4
                    go_wp2_with fail
                    go_meet
                    exact ⟨by rw [HF.out], rfl⟩
                  · have q4 : ((s.el.length : Int) == 0) = false := beq_eq_false_iff_ne.2 (by omega)
                    have HF : Hid (sh = false) := show _ = _ by rw [HSR.out, decide_eq_false h4]; simp
                    clear h3 h4
                    go_wp2_with fail
                    go_meet
                    exact ⟨by rw [HF.out], rfl⟩
                · have q3 : ((s.th.length : Int) == 0) = false := beq_eq_false_iff_ne.2 (by omega)
                  have HF : Hid (sh = false) := show _ = _ by rw [HSR.out, decide_eq_false h3]; simp
                  clear h3
                  go_wp2_with fail
                  go_meet
                  exact ⟨by rw [HF.out], rfl⟩
            by_cases h_sPrint : s.kind = sPrint
            · have HSR : Hid (sh = (rt && decide (s.th.length = 0) && decide (s.el.length = 0))) := show _ = _ by rw [← HSH.out, ← HRT.out, right_no h_sVar h_sSet, shp_ret (.inr h_sPrint)]
              have t_sVar : ((mkB s.kind).toList == [118, 97, 114]) = false := by rw [mkB_toList]; exact beq_eq_false_iff_ne.2 h_sVar
              have t_sSet : ((mkB s.kind).toList == [115, 101, 116]) = false := by rw [mkB_toList]; exact beq_eq_false_iff_ne.2 h_sSet
              have t_sReturn : ((mkB s.kind).toList == [114, 101, 116, 117, 114, 110]) = false := by rw [mkB_toList]; exact beq_eq_false_iff_ne.2 h_sReturn
              have t_sPrint : ((mkB s.kind).toList == [112, 114, 105, 110, 116]) = true := by rw [mkB_toList, h_sPrint]; rfl
              clear h_sVar h_sSet h_sReturn h_sPrint
              cases rt
              · have HF : Hid (sh = false) := show _ = _ by rw [HSR.out]; rfl
                go_wp2_with fail
                go_meet
                exact ⟨by rw [HF.out], rfl⟩
              · by_cases h3 : s.th.length = 0
                · have q3 : ((s.th.length : Int) == 0) = true := by rw [h3]; rfl
                  by_cases h4 : s.el.length = 0
                  · have q4 : ((s.el.length : Int) == 0) = true := by rw [h4]; rfl
                    have HF : Hid (sh = true) := show _ = _ by rw [HSR.out, decide_eq_true h3, decide_eq_true h4]; rfl
                    clear h3 h4
                    go_wp2_with fail
                    go_meet
                    exact ⟨by rw [HF.out], rfl⟩
                  · have q4 : ((s.el.length : Int) == 0) = false := beq_eq_false_iff_ne.2 (by omega)
                    have HF : Hid (sh = false) := show _ = _ by rw [HSR.out, decide_eq_false h4]; simp
                    clear h3 h4
                    go_wp2_with fail
                    go_meet
                    exact ⟨by rw [HF.out], rfl⟩
                · have q3 : ((s.th.length : Int) == 0) = false := beq_eq_false_iff_ne.2 (by omega)
                  have HF : Hid (sh = false) := show _ = _ by rw [HSR.out, decide_eq_false h3]; simp
                  clear h3
                  go_wp2_with fail
                  go_meet
                  exact ⟨by rw [HF.out], rfl⟩
            by_cases h_sWhile : s.kind = sWhile
            · have HSR : Hid (sh = (rt && decide (s.el.length = 0))) := show _ = _ by rw [← HSH.out, ← HRT.out, right_no h_sVar h_sSet, shp_while h_sWhile]
              have t_sVar : ((mkB s.kind).toList == [118, 97, 114]) = false := by rw [mkB_toList]; exact beq_eq_false_iff_ne.2 h_sVar
              have t_sSet : ((mkB s.kind).toList == [115, 101, 116]) = false := by rw [mkB_toList]; exact beq_eq_false_iff_ne.2 h_sSet
              have t_sReturn : ((mkB s.kind).toList == [114, 101, 116, 117, 114, 110]) = false := by rw [mkB_toList]; exact beq_eq_false_iff_ne.2 h_sReturn
              have t_sPrint : ((mkB s.kind).toList == [112, 114, 105, 110, 116]) = false := by rw [mkB_toList]; exact beq_eq_false_iff_ne.2 h_sPrint
              have t_sWhile : ((mkB s.kind).toList == [119, 104, 105, 108, 101]) = true := by rw [mkB_toList, h_sWhile]; rfl
              clear h_sVar h_sSet h_sReturn h_sPrint h_sWhile
              cases rt
              · have HF : Hid (sh = false) := show _ = _ by rw [HSR.out]; rfl
                go_wp2_with fail
                go_meet
                exact ⟨by rw [HF.out], rfl⟩
              · by_cases h4 : s.el.length = 0
                · have q4 : ((s.el.length : Int) == 0) = true := by rw [h4]; rfl
                  have HF : Hid (sh = true) := show _ = _ by rw [HSR.out, decide_eq_true h4]; rfl
                  clear h4
                  go_wp2_with fail
                  go_meet
                  exact ⟨by rw [HF.out], rfl⟩
                · have q4 : ((s.el.length : Int) == 0) = false := beq_eq_false_iff_ne.2 (by omega)
                  have HF : Hid (sh = false) := show _ = _ by rw [HSR.out, decide_eq_false h4]; simp
                  clear h4
                  go_wp2_with fail
                  go_meet
                  exact ⟨by rw [HF.out], rfl⟩
            by_cases h_sIf : s.kind = sIf
            · have HF : Hid (sh = rt) := show _ = _ by rw [← HSH.out, ← HRT.out, right_no h_sVar h_sSet, shp_if h_sIf]
              have t_sVar : ((mkB s.kind).toList == [118, 97, 114]) = false := by rw [mkB_toList]; exact beq_eq_false_iff_ne.2 h_sVar
              have t_sSet : ((mkB s.kind).toList == [115, 101, 116]) = false := by rw [mkB_toList]; exact beq_eq_false_iff_ne.2 h_sSet
              have t_sReturn : ((mkB s.kind).toList == [114, 101, 116, 117, 114, 110]) = false := by rw [mkB_toList]; exact beq_eq_false_iff_ne.2 h_sReturn
              have t_sPrint : ((mkB s.kind).toList == [112, 114, 105, 110, 116]) = false := by rw [mkB_toList]; exact beq_eq_false_iff_ne.2 h_sPrint
              have t_sWhile : ((mkB s.kind).toList == [119, 104, 105, 108, 101]) = false := by rw [mkB_toList]; exact beq_eq_false_iff_ne.2 h_sWhile
              have t_sIf : ((mkB s.kind).toList == [105, 102]) = true := by rw [mkB_toList, h_sIf]; rfl
              clear h_sVar h_sSet h_sReturn h_sPrint h_sWhile h_sIf
              go_wp2_with fail
              go_meet
              exact ⟨by rw [HF.out], rfl⟩
            have HF : Hid (sh = false) := show _ = _ by rw [← HSH.out]; exact shp_none h_sVar h_sSet h_sIf h_sWhile h_sReturn h_sPrint
            have t_sVar : ((mkB s.kind).toList == [118, 97, 114]) = false := by rw [mkB_toList]; exact beq_eq_false_iff_ne.2 h_sVar
            have t_sSet : ((mkB s.kind).toList == [115, 101, 116]) = false := by rw [mkB_toList]; exact beq_eq_false_iff_ne.2 h_sSet
            have t_sReturn : ((mkB s.kind).toList == [114, 101, 116, 117, 114, 110]) = false := by rw [mkB_toList]; exact beq_eq_false_iff_ne.2 h_sReturn
            have t_sPrint : ((mkB s.kind).toList == [112, 114, 105, 110, 116]) = false := by rw [mkB_toList]; exact beq_eq_false_iff_ne.2 h_sPrint
            have t_sWhile : ((mkB s.kind).toList == [119, 104, 105, 108, 101]) = false := by rw [mkB_toList]; exact beq_eq_false_iff_ne.2 h_sWhile
            have t_sIf : ((mkB s.kind).toList == [105, 102]) = false := by rw [mkB_toList]; exact beq_eq_false_iff_ne.2 h_sIf
            clear h_sVar h_sSet h_sReturn h_sPrint h_sWhile h_sIf
            go_wp2_with fail
            go_meet
            exact ⟨by rw [HF.out], rfl⟩
          case rest =>
            obtain ⟨rfl, rfl⟩ := hcut
            cases sh
            · have HF : Hid (blockC (tabOf fs) ss all vis = (3, al)) := show _ = _ by rw [HI.out, HST.out, stmtC_shape HSH.out]; rfl
              go_wp2_with fail
              go_ret
              rw [HF.out]
              exact ⟨rfl, (HPW.out.trans HP1.out).fail (by simp)⟩
            · by_cases he : exprC (tabOf fs) vi s.e = 0
              · have HE0 := Lib.hid he
                rw [he] at HEX
                clear he
                obtain ⟨kv, t0⟩ : ∃ kv, ((mkB s.kind).toList == [118, 97, 114]) = kv := ⟨_, rfl⟩
                go_upto_if 95 with (go_at_call 78; (with_reducible refine (HEX.out _ HP1.out).mono ?_); rintro y w2 ⟨rfl, hb2⟩; have HK2 := Lib.hid ((hb2.block wr.heap.size (by have := (Array.getElem?_eq_some_iff.1 HK1.out).1; omega)).trans HK1.out); have HP2 := Lib.hid (HP1.out.trans (KnPost.below (HP1.out.chk rfl) hb2)); obtain ⟨e0, e1, e2, e3, e4, e5, e6, e7⟩ := row8 HK2.out; clear hb2)
                have HKV := Lib.hid t0
                clear t0
                go_cut [12, 13] (fun _ _ wx => KnPost base p F fs.length cf 0 (allN s al) (allN s vi) wr wx ∧ (s.kind = sVar → al.contains s.name = false ∧ al.length < 12) ∧ wx.heap[wr.heap.size]? = some (.cells #[.string (mkB s.kind), .string (mkB s.name), .string (mkB s.e.kind), .int .i64 s.e.num, .string (mkB s.e.name), .slice X s.e.kids.length x, .slice T s.th.length t, .slice L s.el.length l] 97 (0, 0)))
                case first => as_aux_lemma =>
                  cases kv
                  case true =>
                    have hk : s.kind = sVar := by have := HKV.out; rw [mkB_toList] at this; exact beq_iff_eq.1 this
                    have HKK := Lib.hid hk
                    obtain ⟨v1, s1, h1, h2, h3, h4, h5, h6⟩ := (HP2.out.chk rfl).cells
                    obtain ⟨A1, d1, rfl, hrow1, -⟩ := owns_Row h2
                    obtain ⟨A2, d2, rfl, hrow2, -⟩ := owns_Row h3
                    have r2 : w2.cell? ⟨p, 2, none⟩ = some (.slice A1 al.length d1) := cell_of_row _ _ 2 _ _ _ h1
                    have HCON := Lib.hid (fun w'' (hb' : Below w2.heap.size w2 w'') => isin_any al s.name A1 d1 w'' (hrow1.keep (Keeps.of_below hb')) (by omega))
                    cases hc : al.contains s.name
                    · rw [hc] at HCON
                      have HC := Lib.hid hc
                      by_cases h12 : 12 ≤ al.length
                      · have z12 : (12 : Int) ≤ (al.length : Int) := by omega
                        have HF : Hid (blockC (tabOf fs) ss all vis = (8, al)) := show _ = _ by rw [HI.out, HST.out, stmtC_var HSH.out HE0.out hk, addC_full hc h12]; rfl
                        clear h1 h2 h3 h4 h5 h6 hrow1 hrow2 hk hc h12
                        go_wp2_with fail
                        go_quiet ((go_at_call 38; exact Calls.quiet_of_same (HCON.out _ (grow_drew (Below.refl _ _) _))))
                        go_wp2_with fail
                        go_ret
                        rw [HF.out]
                        exact ⟨rfl, (HPW.out.trans (HP2.out.trans (KnPost.below (HP2.out.chk rfl) (grow_drew (Below.refl _ _) _)))).fail (by simp)⟩
                      · have z12 : ¬ (12 : Int) ≤ (al.length : Int) := by omega
                        have H12 := Lib.hid h12
                        have H1 := Lib.hid h1
                        have H2 := Lib.hid h2
                        have H3 := Lib.hid h3
                        have H4 := Lib.hid h4
                        have H5 := Lib.hid h5
                        have H6 := Lib.hid h6
                        clear h1 h2 h3 h4 h5 h6 hrow1 hrow2 hk hc h12
                        go_wp2_with fail
                        go_quiet ((go_at_call 38; exact Calls.quiet_of_same (HCON.out _ (grow_drew (Below.refl _ _) _))))
                        rename_i nq _
                        go_upto_region 29 with fail
                        have hp3 : KnPost base p F fs.length cf 0 al vi wr (w2.drewN nq) := HP2.out.trans (KnPost.below (HP2.out.chk rfl) (grow_drew (Below.refl _ _) nq))
                        have hk3 : (w2.drewN nq).heap[wr.heap.size]? = _ := HK2.out
                        have g1 : (w2.drewN nq).heap[p]? = _ := H1.out
                        have g2 : (w2.drewN nq).ownsRow base 9 1 _ al.length (strVs al) := H2.out
                        have g3 : (w2.drewN nq).ownsRow base 9 1 _ vi.length (strVs vi) := H3.out
                        obtain ⟨w3, hw3⟩ : ∃ w3, w2.drewN nq = w3 := ⟨_, rfl⟩
                        rw [hw3] at hp3 hk3 g1 g2 g3
                        rw [hw3]
                        have hlow := (hp3.chk rfl).low
                        have hplt := (hp3.chk rfl).lt
                        have HP3 := Lib.hid hp3
                        have HK3 := Lib.hid hk3
                        have G1 := Lib.hid g1
                        have G2 := Lib.hid g2
                        have G3 := Lib.hid g3
                        have F1 := Lib.hid (cell_of_row _ _ 1 _ _ _ hk3)
                        have F2 := Lib.hid (cell_of_row _ _ 2 _ _ _ g1)
                        have HOA : Hid ((w3.drew.alloc (.cells #[.string (mkB s.name)] 9)).ownsRow base 9 1 (.slice A1 al.length d1) al.length (strVs al)) := World.ownsRow.alloc (w := w3.drew) g2 _
                        have HNW : Hid (∀ j u, [Value.string (mkB s.name)][j]? = some u → (w3.drew.alloc (.cells #[.string (mkB s.name)] 9)).cell? ((⟨w3.heap.size, 0, none⟩ : Addr).add j) = some u) := cell_one_new w3.drew _ _
                        have HOC : Hid (∀ u ∈ [Value.string (mkB s.name)], u.oneCell' = true) := fun u hu => by simp at hu; subst hu; rfl
                        clear hp3 hk3 g1 g2 g3 hw3 HCON
                        go_region_held3 (fun w' => w'.cell? ⟨p, 2, none⟩ = some (.slice A1 al.length d1) ∧ w'.cell? ⟨wr.heap.size, 1, none⟩ = some (.string (mkB s.name)))
                          (first
                            | exact ⟨J2.out, J1.out⟩
                            | exact ⟨Keeps.alloc _ _ _ _ F2.out, Keeps.alloc _ _ _ _ F1.out⟩
                            | exact ⟨F2.out, F1.out⟩)
                          (first
                            | (refine step_append_lies _ rfl _ _ 35 rfl base 9 i0 _ 1 16 Tryz.underlying35 hi hz0 hz1 hz2 rfl (by decide) _ al.length (strVs al) rfl HOA.out ⟨w3.heap.size, 0, none⟩ 1 1 [.string (mkB s.name)] rfl rfl HNW.out HOC.out (by decide) (by unfold maxLen; omega) (by omega) (by show base ≤ (w3.drew.alloc _).heap.size; simp; omega) _ rfl ?_; intro g cap w4 hown hgrow hat hlt; obtain ⟨hold4, hb4, hkp4, hkn4⟩ := kn_all (w := w3.drew) hlow hplt G1.out G2.out G3.out H4.out H5.out H6.out hown hgrow hat; have J1 := Lib.hid (cell_of_row _ _ 1 _ _ _ (hkp4 _ _ _ _ HWP.out (by decide) HK3.out)); have J2 := Lib.hid (cell_of_row _ _ 2 _ _ _ hold4); have HO4 := Lib.hid hold4; have HB4 := Lib.hid hb4; have HKP4 := Lib.hid hkp4; have HKN4 := Lib.hid hkn4; clear hown hgrow hat hlt hold4 hb4 hkp4 hkn4))
                        have y4 := row_frozen HO4.out 2
                        have x4 : w4.cell? ⟨p, 2, none⟩ = some (.slice A1 al.length d1) := cell_of_row _ _ 2 _ _ _ HO4.out
                        clear F1 F2 J1 J2 HOA HNW HNM HRT
                        go_upto_region 31 with fail
                        have hk5 := KpC.store p 2 w4 (.slice (some ⟨g, 0, none⟩) (al.length + 1) cap) _ _ _ _ HWP.out (by decide) (HKP4.out _ _ _ _ HWP.out (by decide) HK3.out)
                        have hb5 : Below base w3 (w4.setCell ⟨p, 2, none⟩ (.slice (some ⟨g, 0, none⟩) (al.length + 1) cap)) := (((Below.refl base w3).drew).trans HB4.out).setCell hlow _
                        have hkp5 : KpC p w3 (w4.setCell ⟨p, 2, none⟩ (.slice (some ⟨g, 0, none⟩) (al.length + 1) cap)) := KpC.trans (b := w4) HKP4.out (KpC.store p 2 w4 _)
                        have hkn5 := HKN4.out
                        obtain ⟨w5, hw5⟩ : ∃ w5, w4.setCell ⟨p, 2, none⟩ (.slice (some ⟨g, 0, none⟩) (al.length + 1) cap) = w5 := ⟨_, rfl⟩
                        rw [hw5] at hk5 hb5 hkp5 hkn5
                        rw [hw5]
                        obtain ⟨v5, s5, k1, k2, k3, k4, k5, k6⟩ := hkn5.cells
                        obtain ⟨A5, d5, rfl, -, -⟩ := owns_Row k3
                        have hplt5 := hkn5.lt
                        have HK5 := Lib.hid hk5
                        have HB5 := Lib.hid hb5
                        have HKP5 := Lib.hid hkp5
                        have G1b := Lib.hid k1
                        have G2b := Lib.hid k2
                        have G3b := Lib.hid k3
                        have H4b := Lib.hid k4
                        have H5b := Lib.hid k5
                        have H6b := Lib.hid k6
                        have F1b := Lib.hid (cell_of_row _ _ 1 _ _ _ hk5)
                        have F3b := Lib.hid (cell_of_row _ _ 3 _ _ _ k1)
                        have HOB : Hid ((w5.drew.alloc (.cells #[.string (mkB s.name)] 9)).ownsRow base 9 1 (.slice A5 vi.length d5) vi.length (strVs vi)) := World.ownsRow.alloc (w := w5.drew) k3 _
                        have HNB : Hid (∀ j u, [Value.string (mkB s.name)][j]? = some u → (w5.drew.alloc (.cells #[.string (mkB s.name)] 9)).cell? ((⟨w5.heap.size, 0, none⟩ : Addr).add j) = some u) := cell_one_new w5.drew _ _
                        clear hk5 hb5 hkp5 hkn5 k1 k2 k3 k4 k5 k6 hw5 HKN4 HKP4 HB4 HO4 x4 y4 HK3 G1 G2 G3 H1 H2 H3 H4 H5 H6
                        go_region_held3 (fun w' => w'.cell? ⟨p, 3, none⟩ = some (.slice A5 vi.length d5) ∧ w'.cell? ⟨wr.heap.size, 1, none⟩ = some (.string (mkB s.name)))
                          (first
                            | exact ⟨J4.out, J3.out⟩
                            | exact ⟨Keeps.alloc _ _ _ _ F3b.out, Keeps.alloc _ _ _ _ F1b.out⟩
                            | exact ⟨F3b.out, F1b.out⟩)
                          (first
                            | (refine step_append_lies _ rfl _ _ 35 rfl base 9 i0 _ 1 16 Tryz.underlying35 hi hz0 hz1 hz2 rfl (by decide) _ vi.length (strVs vi) rfl HOB.out ⟨w5.heap.size, 0, none⟩ 1 1 [.string (mkB s.name)] rfl rfl HNB.out HOC.out (by decide) (by unfold maxLen; omega) (by omega) (by show base ≤ (w5.drew.alloc _).heap.size; simp; omega) _ rfl ?_; intro g6 cap6 w6 hown hgrow hat hlt; obtain ⟨hold6, hb6, hkp6, hkn6⟩ := kn_vis (w := w5.drew) hlow hplt5 G1b.out G2b.out G3b.out H4b.out H5b.out H6b.out hown hgrow hat; have J3 := Lib.hid (cell_of_row _ _ 1 _ _ _ (hkp6 _ _ _ _ HWP.out (by decide) HK5.out)); have J4 := Lib.hid (cell_of_row _ _ 3 _ _ _ hold6); have HO6 := Lib.hid hold6; have HB6 := Lib.hid hb6; have HKP6 := Lib.hid hkp6; have HKN6 := Lib.hid hkn6; clear hown hgrow hat hlt hold6 hb6 hkp6 hkn6))
                        have y6 := row_frozen HO6.out 3
                        have x6 : w6.cell? ⟨p, 3, none⟩ = some (.slice A5 vi.length d5) := cell_of_row _ _ 3 _ _ _ HO6.out
                        go_wp2_with fail
                        go_meet
                        refine ⟨?_, fun _ => ⟨HC.out, by have := H12.out; omega⟩, KpC.store p 3 w6 _ _ _ _ _ HWP.out (by decide) (HKP6.out _ _ _ _ HWP.out (by decide) HK5.out)⟩
                        unfold allN
                        rw [if_pos HKK.out, if_pos HKK.out]
                        exact HP3.out.trans ⟨(HB5.out.trans (((Below.refl base w5).drew).trans HB6.out)).setCell hlow _, HKP5.out.trans (KpC.trans (b := w6) HKP6.out (KpC.store p 3 w6 _)), fun _ => HKN6.out⟩
                    · rw [hc] at HCON
                      have HF : Hid (blockC (tabOf fs) ss all vis = (7, al)) := show _ = _ by rw [HI.out, HST.out, stmtC_var HSH.out HE0.out hk, addC_has hc]; rfl
                      clear h1 h2 h3 h4 h5 h6 hrow1 hrow2 hk hc
                      go_wp2_with fail
                      go_quiet ((go_at_call 38; exact Calls.quiet_of_same (HCON.out _ (grow_drew (Below.refl _ _) _))))
                      go_wp2_with fail
                      go_ret
                      rw [HF.out]
                      exact ⟨rfl, (HPW.out.trans (HP2.out.trans (KnPost.below (HP2.out.chk rfl) (grow_drew (Below.refl _ _) _)))).fail (by simp)⟩
                  case false =>
                    have hk : s.kind ≠ sVar := by have := HKV.out; rw [mkB_toList] at this; exact beq_eq_false_iff_ne.1 this
                    have HKK := Lib.hid hk
                    clear hk
                    go_wp2_with fail
                    go_meet
                    refine ⟨?_, fun h => absurd h HKK.out, HK2.out⟩
                    unfold allN
                    rw [if_neg HKK.out, if_neg HKK.out]
                    exact HP2.out
                case rest => as_aux_lemma =>
                  obtain ⟨hpc, hvar, hkc⟩ := hcut
                  have HVAR := Lib.hid hvar
                  obtain ⟨al2, hal2⟩ : ∃ a, allN s al = a := ⟨_, rfl⟩
                  obtain ⟨vi2, hvi2⟩ : ∃ a, allN s vi = a := ⟨_, rfl⟩
                  have hlen2 : al2.length ≤ 12 ∧ vi2.length ≤ al2.length := by
                    rw [← hal2, ← hvi2]
                    unfold allN
                    by_cases hk : s.kind = sVar
                    · have := (hvar hk).2
                      rw [if_pos hk, if_pos hk]; simp; omega
                    · rw [if_neg hk, if_neg hk]; exact ⟨hal, hvl⟩
                  rw [hal2, hvi2] at hpc
                  have HA2 := Lib.hid hal2
                  have HV2 := Lib.hid hvi2
                  have hl12 := hlen2.1
                  have hl13 := hlen2.2
                  have HPC := Lib.hid hpc
                  have HKC := Lib.hid hkc
                  obtain ⟨e0, e1, e2, e3, e4, e5, e6, e7⟩ := row8 hkc
                  obtain ⟨B2, d2, f3, hcon⟩ := HKV2.out al2 vi2 wc (by omega) hpc
                  have HCON := Lib.hid hcon
                  obtain ⟨ks, g1⟩ : ∃ ks, ((mkB s.kind).toList == [115, 101, 116]) = ks := ⟨_, rfl⟩
                  obtain ⟨cn, hcn⟩ : ∃ cn, vi2.contains s.name = cn := ⟨_, rfl⟩
                  rw [hcn] at HCON
                  have HCN := Lib.hid hcn
                  clear hpc hvar hkc hal2 hvi2 hlen2 hcon hcn HNM HRT
                  go_upto_region 33 with fail
                  have HKS := Lib.hid g1
                  go_cut [145] (fun v wx => v = .bool (ks && !cn) ∧ ∃ q, wc.drewN q = wx)
                  case first =>
                    cases ks
                    · go_quiet (fail)
                      go_wp2_with fail
                      go_meet
                      exact ⟨rfl, _, rfl⟩
                    · go_quiet ((go_at_call 38; exact Calls.quiet_of_same (HCON.out _ (grow_drew (Below.refl _ _) _))))
                      go_wp2_with fail
                      go_meet
                      exact ⟨rfl, _, rfl⟩
                  case rest =>
                    clear g1
                    obtain ⟨rfl, nq, hw⟩ := hcut
                    subst hw
                    have HP7 := Lib.hid (HPC.out.trans (KnPost.below (HPC.out.chk rfl) (grow_drew (Below.refl _ _) nq)))
                    have HK7 : Hid ((wc.drewN nq).heap[wr.heap.size]? = _) := HKC.out
                    by_cases hbad : ks = true ∧ cn = false
                    · obtain ⟨rfl, rfl⟩ := hbad
                      have hkset : s.kind = sSet := by have := HKS.out; rw [mkB_toList] at this; exact beq_iff_eq.1 this
                      have hv0 : vi2 = vi := by rw [← HV2.out]; unfold allN; rw [if_neg (by rw [hkset]; decide)]
                      have HF : Hid (blockC (tabOf fs) ss all vis = (6, al)) := show _ = _ by rw [HI.out, HST.out, stmtC_set HSH.out HE0.out hkset (hv0 ▸ HCN.out)]; rfl
                      clear hkset hv0
                      go_wp2_with fail
                      go_ret
                      rw [HF.out]
                      exact ⟨rfl, (HPW.out.trans HP7.out).fail (by simp)⟩
                    · have hbb : (ks && !cn) = false := by cases ks <;> cases cn <;> simp_all
                      rw [hbb]
                      have HSTM : Hid (stmtC (tabOf fs) s al vi = if (blockC (tabOf fs) s.th al2 vi2).1 = 0 then ((blockC (tabOf fs) s.el (blockC (tabOf fs) s.th al2 vi2).2 vi2).1, (blockC (tabOf fs) s.el (blockC (tabOf fs) s.th al2 vi2).2 vi2).2, vi2) else ((blockC (tabOf fs) s.th al2 vi2).1, (blockC (tabOf fs) s.th al2 vi2).2, vi2)) := show _ = _ by
                        have := stmtC_then (al := al) HSH.out HE0.out HVAR.out (fun hset => by
                          have hv0 : vi2 = vi := by rw [← HV2.out]; unfold allN; rw [if_neg (by rw [hset]; decide)]
                          have h1 : ks = true := by rw [← HKS.out, mkB_toList, hset]; rfl
                          have h2 : cn = true := by cases cn; exact absurd ⟨h1, rfl⟩ hbad; rfl
                          rw [← hv0, HCN.out, h2])
                        rw [HA2.out, HV2.out] at this
                        exact this
                      clear hbb hbad
                      have hth := HTH.out al2 vi2 _ hl12 hl13 HP7.out
                      have hlb := leftB_any (tabOf fs) s.th al2 vi2
                      have hl14 := hlb.2.1 hl12
                      have hl15 := Nat.le_trans hl13 hlb.2.2
                      obtain ⟨zt, hzt⟩ : ∃ z, blockC (tabOf fs) s.th al2 vi2 = z := ⟨_, rfl⟩
                      rw [hzt] at hth HSTM hl14 hl15
                      clear hzt hlb
                      by_cases hz : zt.1 = 0
                      · rw [if_pos hz] at HSTM
                        rw [hz] at hth
                        have HTC := Lib.hid hth
                        have HEL2 := Lib.hid (fun w' => HEL.out zt.2 vi2 w' hl14 hl15)
                        obtain ⟨ze, hze⟩ : ∃ z, blockC (tabOf fs) s.el zt.2 vi2 = z := ⟨_, rfl⟩
                        rw [hze] at HEL2 HSTM
                        clear hth hz hze
                        by_cases hz2 : ze.1 = 0
                        · rw [hz2] at HEL2 HSTM
                          clear hz2
                          go_wp2_with (first
                            | (go_at_call 56; (with_reducible refine HTC.out.mono ?_); rintro x1 w8 ⟨rfl, hp8⟩; have HP8 := Lib.hid (HP7.out.trans hp8); have hk8 := hp8.kp _ _ _ _ HWP.out (by decide) HK7.out; obtain ⟨i0', i1', i2', i3', i4', i5', i6', i7'⟩ := row8 hk8; clear hp8 hk8)
                            | (go_at_call 56; (with_reducible refine (HEL2.out _ HP8.out).mono ?_); rintro x2 w9 ⟨rfl, hp9⟩; have HP9 := Lib.hid (HP8.out.trans hp9); clear hp9))
                          go_roundw
                          case rel =>
                            have hl := HLF.out
                            rw [HSTM.out] at hl
                            obtain ⟨m2, hm2⟩ := hl.2.2.2.2
                            refine ⟨k + 1, ze.2, vi2, more ++ m2, by omega, by go_num, ?_, hl.2.1 hal, hl.2.2.1 hvl, by simp only at hm2; rw [hm2, HMR.out, List.append_assoc], HPW.out.trans HP9.out⟩
                            rw [HI.out, HST.out, HSTM.out]; rfl
                          case measure => simp [intOf]; omega
                        · have hpos : (0 : Int) < ((ze.1 : Nat) : Int) := by omega
                          have HF : Hid (blockC (tabOf fs) ss all vis = (ze.1, ze.2)) := show _ = _ by rw [HI.out, HST.out, HSTM.out, if_neg hz2]
                          have HNE := Lib.hid hz2
                          clear hz2
                          go_wp2_with (first
                            | (go_at_call 56; (with_reducible refine HTC.out.mono ?_); rintro x1 w8 ⟨rfl, hp8⟩; have HP8 := Lib.hid (HP7.out.trans hp8); have hk8 := hp8.kp _ _ _ _ HWP.out (by decide) HK7.out; obtain ⟨i0', i1', i2', i3', i4', i5', i6', i7'⟩ := row8 hk8; clear hp8 hk8)
                            | (go_at_call 56; (with_reducible refine (HEL2.out _ HP8.out).mono ?_); rintro x2 w9 ⟨rfl, hp9⟩; have HP9 := Lib.hid (HP8.out.trans hp9); clear hp9))
                          go_ret
                          rw [HF.out]
                          exact ⟨rfl, (HPW.out.trans HP9.out).fail HNE.out⟩
                      · rw [if_neg hz] at HSTM
                        have hpos : (0 : Int) < ((zt.1 : Nat) : Int) := by omega
                        have hnz : (((zt.1 : Nat) : Int) == 0) = false := beq_eq_false_iff_ne.2 (by omega)
                        have HF : Hid (blockC (tabOf fs) ss all vis = (zt.1, zt.2)) := show _ = _ by rw [HI.out, HST.out, HSTM.out, if_neg hz]
                        have HNE := Lib.hid hz
                        have HTC := Lib.hid hth
                        clear hz hth
                        go_wp2_with (go_at_call 56; (with_reducible refine HTC.out.mono ?_); rintro x1 w8 ⟨rfl, hp8⟩; have HP8 := Lib.hid (HP7.out.trans hp8); clear hp8)
                        go_ret
                        rw [HF.out]
                        exact ⟨rfl, (HPW.out.trans HP8.out).fail HNE.out⟩
              · have hpos : (0 : Int) < ((exprC (tabOf fs) vi s.e : Nat) : Int) := by omega
                have HF : Hid (blockC (tabOf fs) ss all vis = (exprC (tabOf fs) vi s.e, al)) := show _ = _ by rw [HI.out, HST.out, stmtC_expr HSH.out he, if_neg he]
                have HNE := Lib.hid he
                clear he
                go_wp2_with (go_at_call 78; (with_reducible refine (HEX.out _ HP1.out).mono ?_); rintro y w2 ⟨rfl, hb2⟩; have HP2 := Lib.hid (HP1.out.trans (KnPost.below (HP1.out.chk rfl) hb2)); clear hb2)
                go_ret
                rw [HF.out]
                exact ⟨rfl, (HPW.out.trans HP2.out).fail HNE.out⟩
    · have hk' : k = ss.length := by omega
      subst hk'
      have HF : Hid (blockC (tabOf fs) ss all vis = (0, al)) := show _ = _ by rw [HI.out, List.drop_length, blockC_nil]
      obtain ⟨v, s, q1, q2, q3, q4, q5, q6⟩ := (hp.chk rfl).cells
      have hmr := HMR.out
      subst hmr
      obtain ⟨B', d', rfl, -, hcap⟩ := owns_Row q3
      have hcut := owns_cut q3
      have r2 : wr.cell? ⟨p, 3, none⟩ = some (.slice B' (vis ++ more).length d') := cell_of_row _ _ 3 _ _ _ q1
      have y2 := row_frozen q1 3
      have hc1 : (vis.length : Int) ≤ (d' : Int) := by simp at hcap; omega
      have hlow := (hp.chk rfl).low
      have hplt := (hp.chk rfl).lt
      have HP := Lib.hid hp
      have HC2 := Lib.hid hcut
      have HO := Lib.hid q2
      have H1 := Lib.hid q1
      have H4 := Lib.hid q4
      have H5 := Lib.hid q5
      have H6 := Lib.hid q6
      clear q1 q2 q3 q4 q5 q6 hcut hp hcap
      go_wp2_with fail
      go_ret
      rw [HF.out]
      refine ⟨rfl, HP.out.bel.setCell hlow _, HP.out.kp.trans (KpC.store p 3 wr _), fun _ => ⟨hlow, by simp; omega, _, _, row_set (j := 3) _ H1.out (by simp), setRow_owns _ HO.out H4.out, setRow_owns _ HC2.out (own_len (n := (vis ++ more).length) ▸ H5.out), H4.out, own_len (n := (vis ++ more).length) ▸ H5.out, own_len (n := (vis ++ more).length) ▸ H6.out⟩⟩
theorem rblock_any (base p : Nat) (fs : List PFun) (F : Option Addr) (cf : Nat) (hf : fs.length ≤ 10) (ss : List PStmt) (hlen : ss.length ≤ 30) (h : ∀ s ∈ ss, SmS s) : RBlock base p fs F cf ss := by
  have each : ∀ s : PStmt, SmS s → RBlock base p fs F cf s.th ∧ RBlock base p fs F cf s.el := by
    intro s
    induction s using PStmt.ind with
    | h s iht ihl =>
      intro hsm
      exact ⟨rblock_list base p fs F cf hf s.th hsm.lenT (fun k hk => (hsm.kidT k hk).expr) (fun k hk => iht k hk (hsm.kidT k hk)), rblock_list base p fs F cf hf s.el hsm.lenL (fun k hk => (hsm.kidL k hk).expr) (fun k hk => ihl k hk (hsm.kidL k hk))⟩
  exact rblock_list base p fs F cf hf ss hlen (fun s hs => (h s hs).expr) (fun s hs => each s (h s hs))

end Go.Proofs.YtnpdjncgilekhaaGreatDoor

namespace Go.Proofs.YtnpdjncgilekhaaGreatDoor
open Go.RowKit

/-! the document's check of a function -/
theorem all_step {ps : List Nm} {k : Nat} (h : k < ps.length) : (ps.take (k + 1)).all nmOk = ((ps.take k).all nmOk && nmOk ps[k]) := by
  rw [List.take_succ_eq_append_getElem h, List.all_append]; simp
theorem all_bad {ps : List Nm} {k : Nat} (h : k < ps.length) (hb : nmOk ps[k] = false) : ps.all nmOk = false := by
  rw [List.all_eq_false]
  exact ⟨ps[k], List.getElem_mem h, by rw [hb]; decide⟩
theorem funC_bad {t : Tab} {ah : List PFun} {f : PFun} (h : (nmOk f.name && f.params.all nmOk) = false) : funC t ah f = 5 := by
  have h1 : namesC f ah = 5 := by unfold namesC; rw [h]; rfl
  unfold funC; rw [h1]; rfl
theorem funC_there {t : Tab} {ah : List PFun} {f : PFun} (h : (nmOk f.name && f.params.all nmOk) = true) (h2 : (ah.any fun g => g.name == f.name) = true) : funC t ah f = 7 := by
  have h1 : namesC f ah = 7 := by unfold namesC; rw [if_pos h, if_pos h2]
  unfold funC; rw [h1]; rfl
theorem funC_many {t : Tab} {ah : List PFun} {f : PFun} (h : (nmOk f.name && f.params.all nmOk) = true) (h2 : (ah.any fun g => g.name == f.name) = false) (h3 : 4 < f.params.length) : funC t ah f = 9 := by
  have h1 : namesC f ah = 9 := by unfold namesC; rw [if_pos h, h2, if_neg (by decide), if_pos h3]
  unfold funC; rw [h1]; rfl
theorem funC_dup {t : Tab} {ah : List PFun} {f : PFun} (h : (nmOk f.name && f.params.all nmOk) = true) (h2 : (ah.any fun g => g.name == f.name) = false) (h3 : ¬ 4 < f.params.length) (h4 : dupC [] f.params = true) : funC t ah f = 7 := by
  have h1 : namesC f ah = 7 := by rw [namesC_rest h h2 h3, h4]; rfl
  unfold funC; rw [h1]; rfl
theorem funC_well {t : Tab} {ah : List PFun} {f : PFun} (h : (nmOk f.name && f.params.all nmOk) = true) (h2 : (ah.any fun g => g.name == f.name) = false) (h3 : ¬ 4 < f.params.length) (h4 : dupC [] f.params = false) : funC t ah f = (blockC t f.body f.params f.params).1 := by
  have h1 : namesC f ah = 0 := by rw [namesC_rest h h2 h3, h4]; rfl
  unfold funC; rw [h1]; rfl
def anyH (fs : List PFun) (x : Nm) (j : Nat) : Bool := (fs.take j).any fun g => g.name == x
theorem anyH_step {fs : List PFun} {x : Nm} {k : Nat} (h : k < fs.length) : anyH fs x (k + 1) = (anyH fs x k || (fs[k].name == x)) := by
  unfold anyH
  rw [List.take_succ_eq_append_getElem h, List.any_append]; simp
theorem anyH_there {fs : List PFun} {x : Nm} {k : Nat} (h : k < fs.length) (hx : (fs[k].name == x) = true) : (fs.any fun g => g.name == x) = true := by
  rw [List.any_eq_true]; exact ⟨fs[k], List.getElem_mem h, hx⟩
/-- The Known that funError makes: two rows of the same names, each its own. -/
theorem kn_made {w1 w2 : World} {base nf cf : Nat} {F : Option Addr} {ps : List Nm} {v1 v2 : Value} (hb : base ≤ w1.heap.size) (hb2 : Below w1.heap.size w1 w2)
    (h1 : w1.ownsRow base 9 1 v1 ps.length (strVs ps)) (h2 : w2.ownsRow w1.heap.size 9 1 v2 ps.length (strVs ps)) :
    KnAt base w2.heap.size F nf cf ps ps (w2.alloc (.cells #[.slice F nf cf, .bool true, v1, v2] 113)) := by
  have s2 := hb2.size
  have o1 := ownsRow_below h1 hb2
  have o2 := owned_mono h2 (base' := base) hb
  refine ⟨by omega, by simp, v1, v2, heap_alloc_new w2 _, o1.alloc _, o2.alloc _, fun e => by have := (o1.lt _ e).2; omega, fun e => by have := (o2.lt _ e).2; omega, ?_⟩
  cases hv : v2.ownBlock with
  | none => exact .inl rfl
  | some g =>
    refine .inr fun e => ?_
    have a1 := (h1.lt _ e).2
    have a2 := (h2.lt _ hv).1
    omega
set_option maxHeartbeats 8000000 in
set_option maxRecDepth 100000 in
theorem funError_any (fs ah : List PFun) (hf : fs.length ≤ 10) (hah : ah.length ≤ 10) (f : PFun) (hsm : SmF f) (S : Nat → Prop) (F : Option Addr) (cf : Nat) (A : Option Addr) (ca : Nat) (P : Option Addr) (p : Nat) (B : Option Addr) (c : Nat) (w : World)
    (hF : RdF w S fs F) (hA : RdF w S ah A) (hp : RdT w S f.params P) (hB : RdS w S f.body B) :
    Calls Tryz.prog 27 #[funV f P p B c, .slice A ah.length ca, .slice F fs.length cf, .bool true] w (Ret (.int .i64 ((funC (tabOf fs) ah f : Nat) : Int)) w) := by
  have h8 := hsm.params
  have hb0 : Below w.heap.size w (w.alloc (rfunO f P p B c)) := grow_alloc (grow_refl _) _
  have HB0 := Lib.hid hb0
  have HBK := Lib.hid (heap_alloc_new w (rfunO f P p B c))
  have HNA : Hid (∀ w', Calls Tryz.prog 55 #[.string (mkB f.name)] w' (Ret (.bool (nmOk f.name)) w')) := fun w' => IsName_any f.name w'
  have HRW : Hid (∀ w', Below w.heap.size w w' → Row w' P (strVs f.params)) := fun w' hb => rdT_row (hp.keep ((Keeps.of_below hb).in S) (fun _ h => h))
  have HRA : Hid (∀ w', Below w.heap.size w w' → RdF w' S ah A) := fun w' hb => hA.keep ((Keeps.of_below hb).in S) (fun _ h => h)
  have HRF : Hid (RdF w (fun k => k < w.heap.size) fs F) := (hF.lt).keep ((Keeps.refl _).in _) (fun k hk => hk.2)
  have HRB : Hid (RdS w (fun k => k < w.heap.size) f.body B) := (hB.lt).keep ((Keeps.refl _).in _) (fun k hk => hk.2)
  have HSB : Hid (f.body.length ≤ 30 ∧ ∀ s ∈ f.body, SmS s) := ⟨hsm.body, hsm.stmts⟩
  clear hF hA hp hB hb0 hsm
  unfold funV
  unfold rfunO at *
  cases hn : nmOk f.name
  · have HF : Hid (funC (tabOf fs) ah f = 5) := show _ = _ from funC_bad (by rw [hn]; rfl)
    rw [hn] at HNA
    clear hn
    go_enter Tryz.func27, Tryz.ntmps27
    go_wp2_with (go_at_call 55; (with_reducible refine (HNA.out _).mono ?_); rintro y w1 ⟨rfl, hb1⟩)
    go_ret
    exact ⟨by rw [HF.out]; rfl, grow_trans HB0.out hb1⟩
  · have HNM := Lib.hid hn
    rw [hn] at HNA
    clear hn
    go_enter Tryz.func27, Tryz.ntmps27
    go_wp2_with (go_at_call 55; (with_reducible refine (HNA.out _).mono ?_); rintro y w1 ⟨rfl, hb1⟩; have HB1 := Lib.hid (grow_trans HB0.out hb1); have HX1 := Lib.hid ((hb1.block w.heap.size (by simp)).trans HBK.out); clear hb1)
    obtain ⟨wo, rfl⟩ : ∃ wo : World, wo = w1 := ⟨_, rfl⟩
    go_loopw [10, 11] (fun i _ wr => ∃ k : Nat, k ≤ f.params.length ∧ i = .int .i64 k ∧ (f.params.take k).all nmOk = true ∧ Below wo.heap.size wo wr) (fun i _ _ => f.params.length - (intOf i).toNat)
    case atStart => exact ⟨0, Nat.zero_le _, rfl, rfl, grow_refl _⟩
    case round =>
      obtain ⟨k, hk, rfl, hall, hbel⟩ := hrel
      have HALL := Lib.hid hall
      have HBL := Lib.hid hbel
      have HX2 := Lib.hid ((hbel.block w.heap.size (Array.getElem?_eq_some_iff.1 HX1.out).1).trans HX1.out)
      obtain ⟨d0, d1, d2⟩ := row3 HX2.out
      clear hall hbel
      by_cases hlt : k < f.params.length
      · obtain ⟨b, off, rfl, hc⟩ := (HRW.out _ (grow_trans HB1.out HBL.out)) k _ (strVs_get hlt)
        have hlt' : (k : Int) < (f.params.length : Int) := by omega
        have hst := all_step hlt
        cases hx : nmOk f.params[k]
        · have HF : Hid (funC (tabOf fs) ah f = 5) := show _ = _ from funC_bad (by rw [all_bad hlt hx]; simp)
          have HN : Hid (∀ w', Calls Tryz.prog 55 #[.string (mkB f.params[k])] w' (Ret (.bool false) w')) := fun w' => hx ▸ IsName_any f.params[k] w'
          clear hx hst
          go_wp2_with (go_at_call 55; (with_reducible refine (HN.out _).mono ?_); rintro y w2 ⟨rfl, hb2⟩)
          go_ret
          exact ⟨by rw [HF.out]; rfl, grow_trans HB1.out (grow_trans HBL.out hb2)⟩
        · have HN : Hid (∀ w', Calls Tryz.prog 55 #[.string (mkB f.params[k])] w' (Ret (.bool true) w')) := fun w' => hx ▸ IsName_any f.params[k] w'
          have HS : Hid ((f.params.take (k + 1)).all nmOk = true) := show _ = _ by rw [hst, HALL.out, hx]; rfl
          clear hx hst
          go_wp2_with (go_at_call 55; (with_reducible refine (HN.out _).mono ?_); rintro y w2 ⟨rfl, hb2⟩)
          go_roundw
          case rel => exact ⟨k + 1, by omega, by go_num, HS.out, grow_trans HBL.out hb2⟩
          case measure => simp [intOf]; omega
      · have hk' : k = f.params.length := by omega
        subst hk'
        have HOK : Hid ((nmOk f.name && f.params.all nmOk) = true) := show _ = _ by have := HALL.out; rw [List.take_length] at this; rw [HNM.out, this]; rfl
        have HBW := Lib.hid (grow_trans HB1.out HBL.out)
        clear HX1 HB0 HB1 HBL HALL HNA HNM
        go_wp2_with fail
        obtain ⟨wp, rfl⟩ : ∃ wp : World, wp = wr := ⟨_, rfl⟩
        go_loopw [12] (fun i wt => ∃ (j m : Nat), j ≤ ah.length ∧ i = .int .i64 j ∧ anyH ah f.name j = false ∧ wt = wp.drewN m) (fun i _ => ah.length - (intOf i).toNat)
        case atStart => exact ⟨0, 0, Nat.zero_le _, rfl, rfl, rfl⟩
        case round =>
          obtain ⟨j, m, hj, rfl, hany, rfl⟩ := hrel
          have HANY := Lib.hid hany
          clear hany
          by_cases hlt2 : j < ah.length
          · obtain ⟨b2, off2, P2, p2, B2, c2, rfl, -, hcells2, -⟩ := (HRA.out _ HBW.out) j hlt2
            obtain ⟨g0, -, -⟩ := cells_fun hcells2
            have hlt2' : (j : Int) < (ah.length : Int) := by omega
            have hst := anyH_step (x := f.name) hlt2
            cases hx : (ah[j].name == f.name)
            · have q1 : ((mkB ah[j].name).toList == (mkB f.name).toList) = false := by rw [mkB_toList, mkB_toList]; exact hx
              have HS : Hid (anyH ah f.name (j + 1) = false) := show _ = _ by rw [hst, HANY.out, hx]; rfl
              clear hx hst hcells2
              go_wp2_with fail
              go_quiet (fail)
              go_wp2_with fail
              go_roundw
              case rel => exact ⟨j + 1, _, by omega, by go_num, HS.out, rfl⟩
              case measure => simp [intOf]; omega
            · have q1 : ((mkB ah[j].name).toList == (mkB f.name).toList) = true := by rw [mkB_toList, mkB_toList]; exact hx
              have HF : Hid (funC (tabOf fs) ah f = 7) := show _ = _ from funC_there HOK.out (anyH_there hlt2 hx)
              clear hx hst hcells2
              go_wp2_with fail
              go_quiet (fail)
              go_wp2_with fail
              go_ret
              exact ⟨by rw [HF.out]; rfl, grow_drew (grow_drew HBW.out _) _⟩
          · have hj' : j = ah.length := by omega
            subst hj'
            have HNO : Hid ((ah.any fun g => g.name == f.name) = false) := show _ = _ by have := HANY.out; unfold anyH at this; rwa [List.take_length] at this
            have HBD := Lib.hid (grow_drew HBW.out m)
            have HXD : Hid ((wp.drewN m).heap[w.heap.size]? = _) := HX2.out
            obtain ⟨wq, hwq⟩ : ∃ wq, wp.drewN m = wq := ⟨_, rfl⟩
            rw [hwq] at HBD HXD
            rw [hwq]
            obtain ⟨e0, e1, e2⟩ := row3 HXD.out
            clear hwq HANY d0 d1 d2 HX2 HBW
            by_cases h4 : 4 < f.params.length
            · have q4 : (4 : Int) < (f.params.length : Int) := by omega
              have HF : Hid (funC (tabOf fs) ah f = 9) := show _ = _ from funC_many HOK.out HNO.out h4
              clear h4
              go_wp2_with fail
              go_ret
              exact ⟨by rw [HF.out]; rfl, HBD.out⟩
            · have q4 : ¬ (4 : Int) < (f.params.length : Int) := by omega
              have H4 := Lib.hid h4
              have hsz : w.heap.size < wq.heap.size := (Array.getElem?_eq_some_iff.1 HXD.out).1
              clear h4
              go_wp2_with fail
              go_loopw [13, 14] (fun v i wt => ∃ j : Nat, j ≤ f.params.length ∧ i = .int .i64 j ∧ dupC [] f.params = dupC (f.params.take j) (f.params.drop j) ∧ wt.ownsRow wq.heap.size 9 1 v (f.params.take j).length (strVs (f.params.take j)) ∧ Below wq.heap.size wq wt) (fun _ i _ => f.params.length - (intOf i).toNat)
              case atStart => exact ⟨0, Nat.zero_le _, rfl, by simp, World.ownsRow_nil _ _ _ _, Below.refl _ _⟩
              case round =>
                obtain ⟨k, hk3, rfl, hdup, hown, hbel⟩ := hrel
                obtain ⟨A1, c1, rfl, hrow, hcap⟩ := owns_Row hown
                have HO := Lib.hid hown
                have HB := Lib.hid hbel
                have HDU := Lib.hid hdup
                have HR1 := Lib.hid hrow
                have HX := Lib.hid ((hbel.block w.heap.size hsz).trans HXD.out)
                obtain ⟨f0, f1, f2⟩ := row3 HX.out
                have hbz := hbel.size
                clear hown hbel hdup hrow
                by_cases hlt3 : k < f.params.length
                · obtain ⟨b3, off3, rfl, hc3⟩ := (HRW.out _ (grow_trans HBD.out HB.out)) k _ (strVs_get hlt3)
                  have hlt3' : (k : Int) < (f.params.length : Int) := by omega
                  have hst := dupC_step hlt3
                  have htk : (f.params.take k).length ≤ 8 := by rw [List.length_take]; omega
                  have hsn : f.params.take (k + 1) = f.params.take k ++ [f.params[k]] := List.take_succ_eq_append_getElem hlt3
                  obtain ⟨x, hx⟩ : ∃ x, f.params[k] = x := ⟨_, rfl⟩
                  obtain ⟨tk, htk2⟩ : ∃ tk, f.params.take k = tk := ⟨_, rfl⟩
                  rw [hx] at hc3 hst hsn
                  rw [htk2] at HO HR1 hcap htk hst hsn HDU
                  rw [htk2]
                  have HIN := Lib.hid (isin_any tk x A1 c1 wr HR1.out (by omega))
                  have HSN := Lib.hid hsn
                  clear hx htk2 hsn
                  cases hcn : tk.contains x
                  · rw [hcn] at HIN
                    have HS : Hid (dupC tk (f.params.drop k) = dupC (f.params.take (k + 1)) (f.params.drop (k + 1))) := show _ = _ by rw [hst, hcn]; rfl
                    have HNW : Hid (Row (wr.alloc (.cells #[.string (mkB x)] 9)) (some ⟨wr.heap.size, 0, none⟩) (strVs [x])) := Row.new wr (strVs [x]).toArray 9
                    clear hcn hst hcap
                    go_wp2_with (first
                      | (go_at_call 38; (with_reducible refine HIN.out.mono ?_); rintro y w3 ⟨rfl, rfl⟩)
                      | (at_builtin; (refine wpList_append_strs rfl _ _ rfl wq.heap.size _ tk [x] rfl (HO.out.alloc _) (some ⟨_, 0, none⟩) 1 rfl HNW.out (by simp; omega) (by simp; omega) ?_; intro A3 n3 c3' w3 g1 g2 g3; have HO3 := Lib.hid g1; have HB3 := Lib.hid (Below.grown (HB.out.alloc hbz (.cells #[.string (mkB x)] 9)) g2 (by simp; omega) (fun k hk => (HO.out.lt k hk).1)); clear g1 g2 g3)))
                    go_roundw
                    case rel => exact ⟨k + 1, by omega, by go_num, HDU.out.trans HS.out, by rw [HSN.out]; exact HO3.out, HB3.out⟩
                    case measure => simp [intOf]; omega
                  · rw [hcn] at HIN
                    have HF : Hid (funC (tabOf fs) ah f = 7) := show _ = _ from funC_dup HOK.out HNO.out H4.out (by rw [HDU.out, hst, hcn]; rfl)
                    clear hcn hst hcap
                    go_wp2_with (go_at_call 38; (with_reducible refine HIN.out.mono ?_); rintro y w3 ⟨rfl, rfl⟩)
                    go_ret
                    exact ⟨by rw [HF.out]; rfl, grow_trans HBD.out HB.out⟩
                · have hk' : k = f.params.length := by omega
                  subst hk'
                  have hdu := HDU.out
                  rw [List.take_length, List.drop_length, dupC] at hdu
                  have HF : Hid (funC (tabOf fs) ah f = (blockC (tabOf fs) f.body f.params f.params).1) := show _ = _ from funC_well HOK.out HNO.out H4.out hdu
                  have hto := HO.out
                  have htr := HR1.out
                  rw [List.take_length] at hto htr hcap
                  rw [List.take_length]
                  have HTO := Lib.hid hto
                  have HTR := Lib.hid htr
                  have HNI : Hid (wr.ownsRow wr.heap.size 9 1 (.slice none 0 0) ([] : List Nm).length (strVs [])) := World.ownsRow_nil _ _ _ _
                  have HWB := Lib.hid (grow_trans HBD.out HB.out)
                  clear hdu hto htr HO HR1 HDU
                  go_wp2_with (first
                    | (at_builtin; (refine wpList_append_strs rfl _ _ rfl wr.heap.size _ [] f.params rfl HNI.out _ _ rfl HTR.out (by simp; omega) (Nat.le_refl _) ?_; intro A3 n3 c3' w3 g1 g2 g3; have HO3 := Lib.hid (show w3.ownsRow wr.heap.size 9 1 (.slice A3 n3 c3') f.params.length (strVs f.params) from g1); have HB3 := Lib.hid (Below.grown (Below.refl wr.heap.size wr) g2 (Nat.le_refl _) (fun k hk => by cases hk)); obtain ⟨A4, c4, e4, hr4, hc4⟩ := owns_Row HO3.out; injection e4 with e5 e6 e7; subst e5; subst e6; subst e7; clear g1 g2 g3 hr4 hc4; obtain ⟨x0, x1, x2⟩ := row3 ((HB3.out.block w.heap.size (Nat.lt_of_lt_of_le hsz hbz)).trans HX.out); have x2' := Keeps.alloc w3 (.cells #[.slice F fs.length cf, .bool true, .slice A1 f.params.length c1, .slice A3 f.params.length c3'] 113) _ _ x2; have HBA := Lib.hid (grow_alloc (grow_trans HWB.out HB3.out) (.cells #[.slice F fs.length cf, .bool true, .slice A1 f.params.length c1, .slice A3 f.params.length c3'] 113)); have HBLK := Lib.hid (rblock_any wq.heap.size w3.heap.size fs F cf hf f.body HSB.out.1 HSB.out.2 f.params f.params B c _ (kn_made (base := wq.heap.size) (F := F) (nf := fs.length) (cf := cf) hbz HB3.out HTO.out HO3.out) (HRF.out.keep ((Keeps.of_below HBA.out).in _) (fun k hk => Nat.lt_trans hk hsz)) (HRB.out.keep ((Keeps.of_below HBA.out).in _) (fun k hk => Nat.lt_trans hk hsz)) (by omega) (Nat.le_refl _))))
                    | (go_at_call 56; (with_reducible refine HBLK.out.mono ?_); rintro y w4 ⟨rfl, hp4⟩; have HB4 := Lib.hid (HBA.out.trans (hp4.bel.mono (Nat.le_of_lt hsz))); clear hp4))
                  go_ret
                  exact ⟨by rw [HF.out]; rfl, HB4.out⟩
end Go.Proofs.YtnpdjncgilekhaaGreatDoor

namespace Go.Proofs.YtnpdjncgilekhaaGreatDoor
open Go.RowKit

def faultV (c a : Int) : Value := .agg #[.int .i64 c, .int .i64 a]
theorem rdF_take {w : World} {S : Nat → Prop} {fs : List PFun} {A : Option Addr} (h : RdF w S fs A) (k : Nat) : RdF w S (fs.take k) A := fun i hi => by
  rw [List.length_take] at hi
  have := h i (by omega)
  simpa [List.getElem_take] using this
theorem bare_r (c : Int) (w : World) : Calls Tryz.prog 18 #[.int .i64 c] w (Ret (faultV c (-1)) w) := by
  unfold faultV
  go_enter Tryz.func18, Tryz.ntmps18
  go_wp2_with fail
  go_returns
  exact ⟨rfl, (Below.refl _ _).alloc (Nat.le_refl _) _⟩
theorem fine_r (w : World) : Calls Tryz.prog 28 #[] w (Ret (faultV 0 (-1)) w) := by
  unfold faultV
  go_enter Tryz.func28, Tryz.ntmps28
  go_wp2_with fail
  go_returns
  exact ⟨rfl, (Below.refl _ _).alloc (Nat.le_refl _) _⟩
set_option maxHeartbeats 8000000 in
set_option maxRecDepth 100000 in
theorem ProgramFault_any (fs : List PFun) (hf : fs.length ≤ 10) (hsm : ∀ f ∈ fs, SmF f) (S : Nat → Prop) (A : Option Addr) (c : Nat) (hc : fs.length ≤ c) (w : World) (hr : RdF w S fs A) :
    Calls Tryz.prog 10 #[.slice A fs.length c] w (Ret (faultV ((progC fs).1 : Nat) (progC fs).2) w) := by
  have HBR : Hid (∀ w', Calls Tryz.prog 18 #[.int .i64 8] w' (Ret (faultV 8 (-1)) w')) := fun w' => bare_r 8 w'
  have HFI : Hid (∀ w', Calls Tryz.prog 28 #[] w' (Ret (faultV 0 (-1)) w')) := fun w' => fine_r w'
  by_cases h8 : 8 < fs.length
  · have q8 : (8 : Int) < (fs.length : Int) := by omega
    have HP : Hid (progC fs = (8, -1)) := show _ = _ by unfold progC; rw [if_pos h8]
    clear h8 hr hsm hc
    unfold faultV at HBR
    go_enter Tryz.func10, Tryz.ntmps10
    go_wp2_with (go_at_call 18; (with_reducible refine (HBR.out _).mono ?_); rintro y w1 ⟨rfl, hb1⟩; have hx := (hb1.block w.heap.size (by simp)).trans (heap_alloc_new w (.cells #[.int .i64 0, .int .i64 0] 32)); have x0 := cell_of_row _ _ 0 _ _ _ hx; have x1 := cell_of_row _ _ 1 _ _ _ hx; have y0 := row_frozen hx 0; have y1 := row_frozen hx 1; have HX := Lib.hid hx; have HB1 := Lib.hid (grow_trans (grow_alloc (grow_refl w) _) hb1); clear hx hb1)
    have hr2 := row_set (j := 1) (cs' := #[.int .i64 8, .int .i64 (-1)]) (.int .i64 (-1)) (row_set (j := 0) (cs' := #[.int .i64 8, .int .i64 0]) (.int .i64 8) HX.out (by simp)) (by simp)
    have z0 := cell_of_row _ _ 0 _ _ _ hr2
    have z1 := cell_of_row _ _ 1 _ _ _ hr2
    clear hr2 x0 x1 y0 y1
    refine bodyPost_ret (by simp [results, Tryz.results10, go_sem, z0, z1]; try rfl) rfl ?_
    exact ⟨by rw [HP.out]; rfl, (HB1.out.setCell (Nat.le_refl _) _).setCell (Nat.le_refl _) _⟩
  · have q8 : ¬ (8 : Int) < (fs.length : Int) := by omega
    have HP : Hid (progC fs = progFrom (tabOf fs) [] fs) := show _ = _ by unfold progC; rw [if_neg h8]
    have HSM := Lib.hid hsm
    have HR := Lib.hid hr
    clear h8 hr hsm
    unfold faultV at HFI
    go_enter Tryz.func10, Tryz.ntmps10
    go_wp2_with fail
    have hx := heap_alloc_new w (.cells #[.int .i64 0, .int .i64 0] 32)
    have hbb : Below w.heap.size w (w.alloc (.cells #[.int .i64 0, .int .i64 0] 32)) := grow_alloc (grow_refl _) _
    have HX0 := Lib.hid hx
    have HBB := Lib.hid hbb
    clear hx hbb
    go_loopw [3, 4] (fun i _ wr => ∃ k : Nat, k ≤ fs.length ∧ i = .int .i64 k ∧ progC fs = progFrom (tabOf fs) (fs.take k) (fs.drop k) ∧ Below w.heap.size w wr ∧ wr.heap[w.heap.size]? = some (.cells #[.int .i64 0, .int .i64 0] 32 (0, 0))) (fun i _ _ => fs.length - (intOf i).toNat)
    case atStart => exact ⟨0, Nat.zero_le _, rfl, by rw [HP.out]; simp, HBB.out, HX0.out⟩
    case round =>
      obtain ⟨k, hk, rfl, hI, hbel, hxr⟩ := hrel
      have HI := Lib.hid hI
      have HB := Lib.hid hbel
      have HX := Lib.hid hxr
      clear hI hbel hxr
      by_cases hlt : k < fs.length
      · have hrd := HR.out.keep ((Keeps.of_below HB.out).in S) (fun _ h => h)
        obtain ⟨b, off, P, p, B, d, rfl, -, hcells, hprm, hbody⟩ := hrd k hlt
        obtain ⟨c0, c1, c2⟩ := cells_fun hcells
        have hlt' : (k : Int) < (fs.length : Int) := by omega
        have hkc : (k : Int) ≤ (c : Int) := by omega
        have hst := progFrom_step (t := tabOf fs) hlt
        have hsf := HSM.out fs[k] (List.getElem_mem hlt)
        obtain ⟨f, hf2⟩ : ∃ f, fs[k] = f := ⟨_, rfl⟩
        rw [hf2] at hcells hprm hbody c0 c1 c2 hst hsf
        have hfe := funError_any fs (fs.take k) hf (by rw [List.length_take]; omega) f hsf S (some ⟨b, off, none⟩) c (some ⟨b, off, none⟩) c P p B d wr.drew (hrd.keep ((Keeps.of_below ((Below.refl wr.heap.size wr).drew)).in S) (fun _ h => h)) (rdF_take (hrd.keep ((Keeps.of_below ((Below.refl wr.heap.size wr).drew)).in S) (fun _ h => h)) k) (hprm.keep ((Keeps.of_below ((Below.refl wr.heap.size wr).drew)).in S) (fun _ h => h)) (hbody.keep ((Keeps.of_below ((Below.refl wr.heap.size wr).drew)).in S) (fun _ h => h))
        rw [List.length_take, Nat.min_eq_left hk] at hfe
        obtain ⟨z, hz⟩ : ∃ z, funC (tabOf fs) (fs.take k) f = z := ⟨_, rfl⟩
        rw [hz] at hfe hst
        unfold funV at hfe
        have HFE := Lib.hid hfe
        have HCE := Lib.hid hcells
        have HST := Lib.hid hst
        clear hrd hcells hprm hbody hf2 hsf hfe hz hst
        go_upto_region 6 with fail
        go_cut [4] (fun v wx => v = .int .i64 (z : Int) ∧ Below wr.heap.size wr wx)
        case first =>
          go_region_held3 (fun w' => w'.cell? ⟨b, off + k * 3, none⟩ = some (.string (mkB f.name)) ∧ w'.cell? ⟨b, off + k * 3 + 1, none⟩ = some (.slice P f.params.length p) ∧ w'.cell? ⟨b, off + k * 3 + 2, none⟩ = some (.slice B f.body.length d))
            (first
              | exact ⟨c0, c1, c2⟩
              | exact cells_fun (HCE.out.keep fun a v _ hv => Keeps.of_below hB1 a v hv))
            (first | (go_at_call 27; (with_reducible refine HFE.out.mono ?_); rintro y w11 ⟨rfl, hB0⟩; have hB1 : Below wr.heap.size wr w11 := grow_trans ((Below.refl wr.heap.size wr).drew) hB0))
          go_wp2_with fail
          go_meet
          exact ⟨rfl, hB1⟩
        case rest =>
          obtain ⟨rfl, hb2⟩ := hcut
          have HX2 := Lib.hid ((hb2.block w.heap.size (Array.getElem?_eq_some_iff.1 HX.out).1).trans HX.out)
          have HB2 := Lib.hid (grow_trans HB.out hb2)
          clear hb2 c0 c1 c2
          by_cases hz0 : z = 0
          · subst hz0
            have hs := HST.out
            rw [if_pos rfl] at hs
            have HS := Lib.hid hs
            clear hs
            go_wp2_with fail
            go_roundw
            case rel => exact ⟨k + 1, by omega, by go_num, HI.out.trans HS.out, HB2.out, HX2.out⟩
            case measure => simp [intOf]; omega
          · have hz1 : (0 : Int) < ((z : Nat) : Int) := by omega
            have HF : Hid (progC fs = (z, (k : Int))) := show _ = _ by rw [HI.out, HST.out, if_neg hz0]
            have x0 := cell_of_row _ _ 0 _ _ _ HX2.out
            have x1 := cell_of_row _ _ 1 _ _ _ HX2.out
            have y0 := row_frozen HX2.out 0
            have y1 := row_frozen HX2.out 1
            clear hz0
            go_wp2_with fail
            have hr2 := row_set (j := 1) (cs' := #[.int .i64 (z : Int), .int .i64 (k : Int)]) (.int .i64 (k : Int)) (row_set (j := 0) (cs' := #[.int .i64 (z : Int), .int .i64 0]) (.int .i64 (z : Int)) HX2.out (by simp)) (by simp)
            have z0 := cell_of_row _ _ 0 _ _ _ hr2
            have z1 := cell_of_row _ _ 1 _ _ _ hr2
            clear hr2 x0 x1 y0 y1
            refine bodyPost_ret (by simp [results, Tryz.results10, go_sem, z0, z1]; try rfl) rfl ?_
            exact ⟨by rw [HF.out]; rfl, (HB2.out.setCell (Nat.le_refl _) _).setCell (Nat.le_refl _) _⟩
      · have hk' : k = fs.length := by omega
        subst hk'
        have HF : Hid (progC fs = (0, -1)) := show _ = _ by rw [HI.out, List.drop_length, progFrom]
        clear HI
        go_wp2_with (go_at_call 28; (with_reducible refine (HFI.out _).mono ?_); rintro y w1 ⟨rfl, hb1⟩; have hx := (hb1.block w.heap.size (Array.getElem?_eq_some_iff.1 HX.out).1).trans HX.out; have x0 := cell_of_row _ _ 0 _ _ _ hx; have x1 := cell_of_row _ _ 1 _ _ _ hx; have y0 := row_frozen hx 0; have y1 := row_frozen hx 1; have HX2 := Lib.hid hx; have HB1 := Lib.hid (grow_trans HB.out hb1); clear hx hb1)
        have hr2 := row_set (j := 1) (cs' := #[.int .i64 0, .int .i64 (-1)]) (.int .i64 (-1)) (row_set (j := 0) (cs' := #[.int .i64 0, .int .i64 0]) (.int .i64 0) HX2.out (by simp)) (by simp)
        have z0 := cell_of_row _ _ 0 _ _ _ hr2
        have z1 := cell_of_row _ _ 1 _ _ _ hr2
        clear hr2 x0 x1 y0 y1
        refine bodyPost_ret (by simp [results, Tryz.results10, go_sem, z0, z1]; try rfl) rfl ?_
        exact ⟨by rw [HF.out]; rfl, (HB1.out.setCell (Nat.le_refl _) _).setCell (Nat.le_refl _) _⟩
end Go.Proofs.YtnpdjncgilekhaaGreatDoor

namespace Go.Proofs.YtnpdjncgilekhaaGreatDoor
open Go.RowKit

/-! the closed fact -/
def ckE : PExpr := ⟨xName, 0, [97], []⟩
def ckS : PStmt := ⟨sReturn, [], ckE, [], []⟩
def ckF : PFun := ⟨[102], [], [ckS]⟩
theorem ckF_prog : progC [ckF] = (6, 0) := by
  have h1 : nmOk [102] = true := by decide
  have h2 : bareB ckE = true := by decide
  have h3 : exprC (tabOf [ckF]) [] ckE = 6 := by
    rw [exprC_eq, h2, if_pos rfl]
    rw [show ckE.kids = [] from rfl, kidsC_nil, if_pos rfl]
    decide
  have h4 : (stmtC (tabOf [ckF]) ckS [] []).1 = 6 := by
    rw [stmtC_eq]
    rw [show ckS.e = ckE from rfl, h3]
    decide
  have h5 : funC (tabOf [ckF]) [] ckF = 6 := by
    unfold funC
    have hn : namesC ckF [] = 0 := by decide
    rw [if_pos hn]
    show (blockC (tabOf [ckF]) [ckS] [] []).1 = 6
    rw [blockC_cons, if_neg (by rw [h4]; decide)]
    exact h4
  unfold progC
  rw [if_neg (by decide), progFrom, if_neg (by rw [h5]; decide), h5]
  rfl
theorem ckF_small : SmF ckF where
  name := by decide
  params := by decide
  texts := by decide
  body := by decide
  stmts := fun s hs => by
    have : s = ckS := by simpa [ckF] using hs
    subst this
    exact ⟨ckS, by decide, by decide, ⟨ckE, by decide, by decide, (fun k hk => by cases hk)⟩, by decide, by decide, (fun k hk => by cases hk), (fun k hk => by cases hk)⟩
def ckO1 : Obj := .cells #[.string ⟨#[114, 101, 116, 117, 114, 110]⟩, .string ⟨#[]⟩, .string ⟨#[110, 97, 109, 101]⟩, .int .i64 0, .string ⟨#[97]⟩, .slice none 0 0, .slice none 0 0, .slice none 0 0] 58
def ckO2 (h : Nat) : Obj := .cells #[.string ⟨#[102]⟩, .slice none 0 0, .slice (some ⟨h, 0, none⟩) 1 1] 39
theorem ck_laid (w : World) : RdG ((w.alloc ckO1).alloc (ckO2 w.heap.size)) (fun _ => True) [ckF] (some ⟨w.heap.size + 1, 0, none⟩) := fun i hi => by
  have hi0 : i = 0 := by simp at hi; omega
  subst hi0
  have hb1 : ((w.alloc ckO1).alloc (ckO2 w.heap.size)).heap[w.heap.size]? = some ckO1 := (old_block _ _ (by simp)).trans (new_block _ _ rfl)
  have hb2 : ((w.alloc ckO1).alloc (ckO2 w.heap.size)).heap[w.heap.size + 1]? = some (ckO2 w.heap.size) := new_block _ _ (by simp)
  refine ⟨w.heap.size + 1, 0, none, 0, some ⟨w.heap.size, 0, none⟩, 1, rfl, trivial, fun j u hj => ?_, fun k hk => by simp [ckF] at hk, ⟨fun _ => rfl, by simp [ckF]⟩, ?_⟩
  · rw [show 0 + 0 * 3 + j = j by omega, cell_of_row _ _ j _ _ _ hb2, ← Array.getElem?_toList]; exact hj
  · refine ⟨[ckS], _, w.heap.size, 0, fun _ => none, fun _ => none, fun _ => none, fun _ => 0, fun _ => 0, fun _ => 0, fun _ => ⟨rfl, trivial⟩, fun k hk j u hj => ?_, fun k hk => ?_, fun k hk => ?_, fun k hk => ?_, fun k hk => ?_⟩
    all_goals
      have hk0 : k = 0 := by simp at hk; omega
      subst hk0
    · rw [show 0 + 0 * 8 + j = j by omega, cell_of_row _ _ j _ _ _ hb1, ← Array.getElem?_toList]; exact hj
    · exact ⟨by show (-9223372036854775808 : Int) ≤ 0; decide, by show (0 : Int) ≤ 9223372036854775807; decide⟩
    · exact RdE.nil _ _ _
    · exact RdS.nil _ _ _
    · exact RdS.nil _ _ _
set_option maxHeartbeats 2000000 in
set_option maxRecDepth 100000 in
theorem checked_any (E : Nat → Addr) (w : World) (hE : Laid E w) : Calls Tryz.prog 5 #[] w (Ret (.bool true) w) := by
  have hb : Below w.heap.size w ((w.alloc ckO1).alloc (ckO2 w.heap.size)) := grow_alloc (grow_alloc (grow_refl _) _) _
  have HB := Lib.hid hb
  have H1 : Hid (∀ w', Below w.heap.size w w' → Calls Tryz.prog 9 #[.slice none 0 0] w' (ProgPost E [] w')) := fun w' hb =>
    Program_any E [] (by simp) (fun _ => True) none 0 (by simp) (by simp) w' (hE.keep hb) (fun i hi => by simp at hi)
  have H2 : Hid (∀ w', Below ((w.alloc ckO1).alloc (ckO2 w.heap.size)).heap.size ((w.alloc ckO1).alloc (ckO2 w.heap.size)) w' → Calls Tryz.prog 9 #[.slice (some ⟨w.heap.size + 1, 0, none⟩) 1 1] w' (ProgPost E [ckF] w')) := fun w' hb' =>
    Program_any E [ckF] (fun f hf => by simp at hf; subst hf; exact ckF_small) (fun _ => True) (some ⟨w.heap.size + 1, 0, none⟩) 1 (by simp) (by simp) w' (hE.keep (grow_trans hb hb')) ((ck_laid w).keep ((Keeps.of_below hb').in _) (fun _ h => h))
  have HC : Hid (∀ w' v, Below w.heap.size w w' → ErrIs E w' v 0 (-1) → Calls Tryz.prog 21 #[v, .int .i64 0] w' (Ret (.bool true) w')) := fun w' v hb' hv => by
    have := coded_any E w' (hE.keep hb') v 0 (-1) 0 hv
    exact this
  have HF : Hid (∀ w' v, Below w.heap.size w w' → ErrIs E w' v 6 0 → Calls Tryz.prog 8 #[v, .agg #[.int .i64 6, .int .i64 0]] w' (Ret (.bool true) w')) := fun w' v hb' hv => by
    have := faulted_any E w' (hE.keep hb') v 6 0 6 0 hv
    exact this
  have HP := Lib.hid ckF_prog
  clear hE hb
  unfold ckO1 ckO2 at *
  go_enter Tryz.func5, Tryz.ntmps5
  go_wp2_with (first
    | (go_at_call 9; (with_reducible refine (H1.out _ HB.out).mono ?_); rintro y w1 ⟨v1, rfl, he1, hb1, hn1⟩; have HE1 := Lib.hid he1; clear he1 hn1)
    | (go_at_call 21; (with_reducible refine (HC.out _ _ (grow_trans HB.out hb1) HE1.out).mono ?_); rintro y w2 ⟨rfl, hb2⟩)
    | (go_at_call 9; (with_reducible refine (H2.out _ (grow_trans hb1 hb2)).mono ?_); rintro y w3 ⟨v3, rfl, he3, hb3, hn3⟩; rw [HP.out] at he3; have HE3 := Lib.hid he3; clear he3 hn3)
    | (go_at_call 8; (with_reducible refine (HF.out _ _ (grow_trans (grow_trans (grow_trans HB.out hb1) hb2) hb3) HE3.out).mono ?_); rintro y w4 ⟨rfl, hb4⟩))
  go_ret
  exact ⟨rfl, grow_trans (grow_trans (grow_trans (grow_trans HB.out hb1) hb2) hb3) hb4⟩
end Go.Proofs.YtnpdjncgilekhaaGreatDoor

namespace Go.Proofs.YtnpdjncgilekhaaGreatDoor
open Go.RowKit

theorem same_strs (xs : List Nm) : sameS (xs.map mkB) (xs.map mkB) = true := by
  unfold sameS; exact beq_self_eq_true _
theorem same_any (xs : List Nm) (A B : Option Addr) (c d : Nat) (w : World) (hr : Row w A (strVs xs)) (hs : Row w B (strVs xs)) (hn : xs.length ≤ 1000000) :
    Calls Tryz.prog 11 #[.slice A xs.length c, .slice B xs.length d] w (Quiet (.bool true) w) := by
  rw [strVs_mk] at hr hs
  have h := SameTexts_any A B (xs.map mkB) (xs.map mkB) c d w hr hs (by simpa using hn) (by simpa using hn)
  rw [same_strs] at h
  simpa using h
theorem same_ret (xs : List Nm) (A B : Option Addr) (c d : Nat) (w : World) (hr : Row w A (strVs xs)) (hs : Row w B (strVs xs)) (hn : xs.length ≤ 1000000) :
    Calls Tryz.prog 11 #[.slice A xs.length c, .slice B xs.length d] w (Ret (.bool true) w) :=
  (same_any xs A B c d w hr hs hn).mono fun e w' h => by
    obtain ⟨rfl, n, rfl⟩ := h
    exact ⟨rfl, grow_drew (grow_refl _) n⟩
theorem faulted_same (E : Nat → Addr) (w : World) (h : Laid E w) (v : Value) (c a : Int) (hv : ErrIs E w v c a) :
    Calls Tryz.prog 8 #[v, faultV c a] w (Ret (.bool true) w) := by
  have := faulted_any E w h v c a c a hv
  simpa [faultV] using this
set_option maxHeartbeats 8000000 in
set_option maxRecDepth 100000 in
theorem CheckTells_walk (E : Nat → Addr) (fs : List PFun) (A : Option Addr) (c : Nat) (hc : fs.length ≤ c) (w : World) (hE : Laid E w) (hr : RdF w (fun _ => True) fs A) :
    Calls Tryz.prog 3 #[.slice A fs.length c] w (Ret (.bool true) w) := by
  have HS := Lib.hid (checked_any E w hE)
  have HLG : Hid (∀ w', Below w.heap.size w w' → Calls Tryz.prog 6 #[.slice A fs.length c, .int .i64 300] w' (Ret (.int .i64 (if largeP fs 300 then 1 else 0)) w')) := fun w' hb =>
    Large_any fs 300 (by omega) (fun _ => True) A c w' (hr.keep ((Keeps.of_below hb).in _) (fun _ h => h))
  cases hp : largeP fs 300
  · obtain ⟨h10, hsm, hsum, hszs⟩ := largeP_small (by omega) hp
    have HAS : Hid (∀ w', Below w.heap.size w w' → Calls Tryz.prog 7 #[.slice A fs.length c] w' fun x w'' => ∃ B d, x = .returned (.slice B fs.length d) ∧ fs.length ≤ d ∧ RdG w'' (newAt w') fs B ∧ Below w'.heap.size w' w'') := fun w' hb =>
      AsFuns_cap fs h10 hsm (fun _ => True) A c w' (hr.keep ((Keeps.of_below hb).in _) (fun _ h => h))
    have HPR : Hid (∀ w' w'' B d, Below w.heap.size w w'' → fs.length ≤ d → RdG w'' (newAt w') fs B → Calls Tryz.prog 9 #[.slice B fs.length d] w'' (ProgPost E fs w'')) := fun w' w'' B d hb hd hg =>
      Program_any E fs hsm (newAt w') B d (by omega) hd w'' (hE.keep hb) hg
    have HPF : Hid (∀ w', Below w.heap.size w w' → Calls Tryz.prog 10 #[.slice A fs.length c] w' (Ret (faultV ((progC fs).1 : Nat) (progC fs).2) w')) := fun w' hb =>
      ProgramFault_any fs h10 hsm (fun _ => True) A c hc w' (hr.keep ((Keeps.of_below hb).in _) (fun _ h => h))
    have HFT : Hid (∀ w' v, Below w.heap.size w w' → ErrIs E w' v (progC fs).1 (progC fs).2 → Calls Tryz.prog 8 #[v, faultV ((progC fs).1 : Nat) (progC fs).2] w' (Ret (.bool true) w')) := fun w' v hb hv =>
      faulted_same E w' (hE.keep hb) v _ _ hv
    rw [hp] at HLG
    have HSM := Lib.hid hsm
    have HSZ := Lib.hid hszs
    have HR := Lib.hid hr
    clear hr hE hp hsm hsum hszs
    obtain ⟨fv, hfv⟩ : ∃ fv, faultV ((progC fs).1 : Nat) (progC fs).2 = fv := ⟨_, rfl⟩
    rw [hfv] at HPF HFT
    clear hfv
    go_enter Tryz.func3, Tryz.ntmps3
    go_wp2_with (first
      | (go_at_call 5; (with_reducible refine HS.out.mono ?_); rintro x w1 ⟨rfl, hb1⟩)
      | (go_at_call 6; (with_reducible refine (HLG.out _ hb1).mono ?_); rintro x w2 ⟨rfl, hb2⟩)
      | (go_at_call 7; (with_reducible refine (HAS.out _ (grow_trans hb1 hb2)).mono ?_); rintro x w3 ⟨B, d, rfl, hd, hg, hb3⟩; have HG := Lib.hid hg; clear hg)
      | (go_at_call 9; (with_reducible refine (HPR.out _ _ _ _ (grow_trans (grow_trans hb1 hb2) hb3) hd HG.out).mono ?_); rintro x w4 ⟨v4, rfl, he4, hb4, -⟩; have HE4 := Lib.hid he4; clear he4)
      | (go_at_call 10; (with_reducible refine (HPF.out _ (grow_trans (grow_trans (grow_trans hb1 hb2) hb3) hb4)).mono ?_); rintro x w5 ⟨rfl, hb5⟩)
      | (go_at_call 8; (with_reducible refine (HFT.out _ _ (grow_trans (grow_trans (grow_trans (grow_trans hb1 hb2) hb3) hb4) hb5) (HE4.out.keep (Keeps.of_below hb5))).mono ?_); rintro x w6 ⟨rfl, hb6⟩))
    have HB6 := Lib.hid (grow_trans (grow_trans (grow_trans (grow_trans (grow_trans hb1 hb2) hb3) hb4) hb5) hb6)
    have HGG := Lib.hid (HG.out.keep ((Keeps.of_below (grow_trans (grow_trans hb4 hb5) hb6)).in _) (fun _ h => h))
    obtain ⟨wo, rfl⟩ : ∃ wo : World, wo = w6 := ⟨_, rfl⟩
    have HRR := Lib.hid (HR.out.keep ((Keeps.of_below HB6.out).in _) (fun _ h => h))
    clear hb1 hb2 hb3 hb4 hb5 hb6 HG HPR HAS HLG HS HPF HFT HE4 HR
    go_loopw [5] (fun i wr => ∃ k : Nat, k ≤ fs.length ∧ i = .int .i64 k ∧ Below wo.heap.size wo wr) (fun i _ => fs.length - (intOf i).toNat)
    case atStart => exact ⟨0, Nat.zero_le _, rfl, grow_refl _⟩
    case round =>
      obtain ⟨k, hk, rfl, hbel⟩ := hrel
      by_cases hlt : k < fs.length
      · obtain ⟨b, off, P, p, B', d', rfl, -, hcells, hprm, hok, hbody⟩ := (HGG.out.keep ((Keeps.of_below hbel).in _) (fun _ h => h)) k hlt
        obtain ⟨bl, offl, Pl, pl, Bl, dl, rfl, -, hcellsl, hprml, hbodyl⟩ := (HRR.out.keep ((Keeps.of_below hbel).in _) (fun _ h => h)) k hlt
        obtain ⟨c0, c1, c2⟩ := cells_fun hcells
        obtain ⟨e0, e1, e2⟩ := cells_fun hcellsl
        have hlt' : (k : Int) < (fs.length : Int) := by omega
        have hsf := HSM.out fs[k] (List.getElem_mem hlt)
        have hzf := HSZ.out fs[k] (List.getElem_mem hlt)
        obtain ⟨f, hf⟩ : ∃ f, fs[k] = f := ⟨_, rfl⟩
        rw [hf] at hcells hprm hok hbody c0 c1 c2 hsf hzf hcellsl hprml hbodyl e0 e1 e2
        have hb00 : Below wr.heap.size wr wr.drew := (Below.refl wr.heap.size wr).drew
        have HV : Hid (∀ w', Below wr.heap.size wr w' → Calls Tryz.prog 12 #[funV f P p B' d'] w' (RetT (varsP f) w')) := fun w' hb =>
          Vars_any f hsf (by omega) _ P p B' d' w' (hprm.keep ((Keeps.of_below hb).in _) (fun _ h => h)) hok (hbody.keep ((Keeps.of_below hb).in _) (fun _ h => h))
        have HVL : Hid (∀ w', Below wr.heap.size wr w' → Calls Tryz.prog 13 #[funV f Pl pl Bl dl] w' (RetT (varsP f) w')) := fun w' hb =>
          VarsOf_any f hsf (by omega) _ Pl pl Bl dl w' (hprml.keep ((Keeps.of_below hb).in _) (fun _ h => h)) (hbodyl.keep ((Keeps.of_below hb).in _) (fun _ h => h))
        have HC : Hid (∀ w', Below wr.heap.size wr w' → Calls Tryz.prog 14 #[funV f P p B' d'] w' (RetT (callsP f) w')) := fun w' hb =>
          Calls_any f hsf (by omega) _ P p B' d' w' (hbody.keep ((Keeps.of_below hb).in _) (fun _ h => h))
        have HCL : Hid (∀ w', Below wr.heap.size wr w' → Calls Tryz.prog 15 #[funV f Pl pl Bl dl] w' (RetT (callsP f) w')) := fun w' hb =>
          CallsOf_any f hsf (by omega) _ Pl pl Bl dl w' (hbodyl.keep ((Keeps.of_below hb).in _) (fun _ h => h))
        have hvl := vars_len hsf (by omega)
        have hcl := calls_len (f := f) (by omega)
        have HSV : Hid (∀ w' A1 A2 c1 c2, Row w' A1 (strVs (varsP f)) → Row w' A2 (strVs (varsP f)) → Calls Tryz.prog 11 #[.slice A1 (varsP f).length c1, .slice A2 (varsP f).length c2] w' (Ret (.bool true) w')) := fun w' A1 A2 c1 c2 h1 h2 =>
          same_ret (varsP f) A1 A2 c1 c2 w' h1 h2 (by omega)
        have HSC : Hid (∀ w' A1 A2 c1 c2, Row w' A1 (strVs (callsP f)) → Row w' A2 (strVs (callsP f)) → Calls Tryz.prog 11 #[.slice A1 (callsP f).length c1, .slice A2 (callsP f).length c2] w' (Ret (.bool true) w')) := fun w' A1 A2 c1 c2 h1 h2 =>
          same_ret (callsP f) A1 A2 c1 c2 w' h1 h2 (by omega)
        have HCE := Lib.hid hcells
        have HCEL := Lib.hid hcellsl
        unfold funV at HV HC HVL HCL
        clear hcells hprm hok hbody hsf hzf hf hcellsl hprml hbodyl hvl hcl
        go_upto_region 10 with fail
        go_cut [54] (fun v wx => v = .bool false ∧ Below wr.heap.size wr wx)
        case first =>
          go_region_held3 (fun w' => Below wr.heap.size wr w' ∧ w'.cell? ⟨b, off + k * 3, none⟩ = some (.string (mkB f.name)) ∧ w'.cell? ⟨b, off + k * 3 + 1, none⟩ = some (.slice P f.params.length p) ∧ w'.cell? ⟨b, off + k * 3 + 2, none⟩ = some (.slice B' f.body.length d') ∧ w'.cell? ⟨bl, offl + k * 3, none⟩ = some (.string (mkB f.name)) ∧ w'.cell? ⟨bl, offl + k * 3 + 1, none⟩ = some (.slice Pl f.params.length pl) ∧ w'.cell? ⟨bl, offl + k * 3 + 2, none⟩ = some (.slice Bl f.body.length dl))
            (first
              | exact ⟨hb00, c0, c1, c2, e0, e1, e2⟩
              | (go_split_ands
                 refine ⟨?_, ?_, ?_, ?_, ?_, ?_, ?_⟩
                 all_goals (first | assumption | exact Keeps.of_below hbT _ _ (by assumption) | exact grow_trans (by assumption) hbT)))
            (first
              | (go_at_call 12; (with_reducible refine (HV.out _ (by first | assumption | (go_split_ands; assumption))).mono ?_); rintro y w11 ⟨A5, c5, rfl, hrow5, hcap5, hbT⟩; have HR5 := Lib.hid hrow5; clear hrow5)
              | (go_at_call 13; (with_reducible refine (HVL.out _ (by first | assumption | (go_split_ands; assumption))).mono ?_); rintro y w12 ⟨A6, c6, rfl, hrow6, hcap6, hbT⟩; have HR6 := Lib.hid hrow6; have HR56 := Lib.hid (HR5.out.keep (Keeps.of_below hbT)); clear hrow6)
              | (go_at_call 14; (with_reducible refine (HC.out _ (by first | assumption | (go_split_ands; assumption))).mono ?_); rintro y w13 ⟨A7, c7, rfl, hrow7, hcap7, hbT⟩; have HR7 := Lib.hid hrow7; clear hrow7)
              | (go_at_call 15; (with_reducible refine (HCL.out _ (by first | assumption | (go_split_ands; assumption))).mono ?_); rintro y w14 ⟨A8, c8, rfl, hrow8, hcap8, hbT⟩; have HR8 := Lib.hid hrow8; have HR78 := Lib.hid (HR7.out.keep (Keeps.of_below hbT)); clear hrow8)
              | (go_at_call 11; (with_reducible refine (HSV.out _ _ _ _ _ HR56.out HR6.out).mono ?_); rintro y w15 ⟨rfl, hbT⟩)
              | (go_at_call 11; (with_reducible refine (HSC.out _ _ _ _ _ HR78.out HR8.out).mono ?_); rintro y w16 ⟨rfl, hbT⟩))
          all_goals go_wp2_with fail
          all_goals go_meet
          all_goals go_split_ands
          all_goals exact ⟨rfl, by assumption⟩
        case rest =>
          obtain ⟨rfl, hb2⟩ := hcut
          have HB2 := Lib.hid (grow_trans hbel hb2)
          clear hb2 c0 c1 c2 e0 e1 e2
          go_wp2_with fail
          go_roundw
          case rel => exact ⟨k + 1, by omega, by go_num, HB2.out⟩
          case measure => simp [intOf]; omega
      · have hk' : k = fs.length := by omega
        subst hk'
        go_wp2_with fail
        go_ret
        exact ⟨rfl, grow_trans HB6.out hbel⟩
  · rw [hp] at HLG
    clear hr hE hp
    go_enter Tryz.func3, Tryz.ntmps3
    go_wp2_with (first
      | (go_at_call 5; (with_reducible refine HS.out.mono ?_); rintro x w1 ⟨rfl, hb1⟩)
      | (go_at_call 6; (with_reducible refine (HLG.out _ hb1).mono ?_); rintro x w2 ⟨rfl, hb2⟩))
    go_ret
    exact ⟨rfl, grow_trans hb1 hb2⟩
end Go.Proofs.YtnpdjncgilekhaaGreatDoor
