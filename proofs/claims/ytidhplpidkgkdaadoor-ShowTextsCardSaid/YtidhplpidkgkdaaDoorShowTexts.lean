import Derived.Test.YtidhplpidkgkdaaDoorTextL
import Derived.Test.YtidhplpidkgkdaaDoorRefPr
import Derived.Test.YtidhplpidkgkdaaDoorTreeLg
namespace Go.Proofs.YtidhplpidkgkdaaDoor
open Go.RowKit

theorem RdE.of1 {w : World} {S : Nat → Prop} {b off : Nat} {k : PExpr} {B : Option Addr} {c : Nat} (hS : S b) (h : CellsAt w b off (exprL k B c)) (hn : okN k.num) (hr : RdE w S k.kids B) : RdE w S [k] (some ⟨b, off, none⟩) := by
  refine ⟨_, _, b, off, fun _ => B, fun _ => c, fun _ => ⟨rfl, hS⟩, fun i hi => ?_, fun i hi => ?_, fun i hi => ?_⟩
  all_goals
    obtain rfl : i = 0 := by simp at hi; omega
    simpa using ‹_›
theorem RdE.of2 {w : World} {S : Nat → Prop} {b off : Nat} {k m : PExpr} {B B2 : Option Addr} {c c2 : Nat} (hS : S b) (h : CellsAt w b off (exprL k B c)) (hn : okN k.num) (hr : RdE w S k.kids B)
    (h2 : CellsAt w b (off + 4) (exprL m B2 c2)) (hn2 : okN m.num) (hr2 : RdE w S m.kids B2) : RdE w S [k, m] (some ⟨b, off, none⟩) := by
  refine ⟨_, _, b, off, fun i => if i = 0 then B else B2, fun i => if i = 0 then c else c2, fun _ => ⟨rfl, hS⟩, fun i hi => ?_, fun i hi => ?_, fun i hi => ?_⟩
  all_goals
    rcases (by simp at hi; omega : i = 0 ∨ i = 1) with rfl | rfl
  · simpa using h
  · simpa using h2
  · simpa using hn
  · simpa using hn2
  · simpa using hr
  · simpa using hr2
theorem cellsAt_of {w : World} {b : Nat} {cs : Array Value} {T : TypeId} {fz : Nat × Nat} (h : w.heap[b]? = some (.cells cs T fz)) (o : Nat) (l : List Value) (hl : ∀ (j : Nat) (u : Value), l[j]? = some u → cs[o + j]? = some u) : CellsAt w b o l := fun j u hj =>
  (cell_of_row w b (o + j) cs T fz h).trans (hl j u hj)
def shA : PExpr := ⟨xName, 0, [97], []⟩
def sh2 : PExpr := ⟨xNum, 2, [], []⟩
def shP : PExpr := ⟨xTwo, 0, [43], [shA, sh2]⟩
def shB : PExpr := ⟨xName, 0, [98], []⟩
def shM : PExpr := ⟨xOne, 0, [45], [shB]⟩
def shE : PExpr := ⟨xTwo, 0, [42], [shP, shM]⟩
theorem shE_text : textE shE = [40, 97, 32, 43, 32, 50, 41, 32, 42, 32, 45, 98] := by decide +kernel
theorem shE_ok : OkE shE := by
  have z : okN 0 := by unfold okN; omega
  have t : okN 2 := by unfold okN; omega
  have hA : OkE shA := ⟨_, z, fun k hk => by cases hk⟩
  have h2 : OkE sh2 := ⟨_, t, fun k hk => by cases hk⟩
  have hB : OkE shB := ⟨_, z, fun k hk => by cases hk⟩
  have hP : OkE shP := ⟨_, z, fun k hk => by
    simp only [shP, List.mem_cons, List.not_mem_nil, or_false] at hk
    rcases hk with rfl | rfl
    · exact hA
    · exact h2⟩
  have hM : OkE shM := ⟨_, z, fun k hk => by
    simp only [shM, List.mem_cons, List.not_mem_nil, or_false] at hk
    subst hk; exact hB⟩
  exact ⟨_, z, fun k hk => by
    simp only [shE, List.mem_cons, List.not_mem_nil, or_false] at hk
    rcases hk with rfl | rfl
    · exact hP
    · exact hM⟩
set_option maxRecDepth 100000 in
theorem shE_laid (w : World) : RdE ((((w.alloc (.cells #[.string ⟨#[110, 97, 109, 101]⟩, .int .i64 0, .string ⟨#[97]⟩, .slice none 0 0, .string ⟨#[110, 117, 109]⟩, .int .i64 2, .string ⟨#[]⟩, .slice none 0 0] 46)).alloc (.cells #[.string ⟨#[110, 97, 109, 101]⟩, .int .i64 0, .string ⟨#[98]⟩, .slice none 0 0] 46)).alloc
    (.cells #[.string ⟨#[116, 119, 111]⟩, .int .i64 0, .string ⟨#[43]⟩, .slice (some ⟨w.heap.size, 0, none⟩) 2 2, .string ⟨#[111, 110, 101]⟩, .int .i64 0, .string ⟨#[45]⟩, .slice (some ⟨w.heap.size + 1, 0, none⟩) 1 1] 46)).alloc
    (.cells #[.string ⟨#[116, 119, 111]⟩, .int .i64 0, .string ⟨#[42]⟩, .slice (some ⟨w.heap.size + 1 + 1, 0, none⟩) 2 2] 46)) (fun _ => True) shE.kids (some ⟨w.heap.size + 1 + 1, 0, none⟩) := by
  have e : ∀ (W : World) (o : Obj), (W.alloc o).heap.size = W.heap.size + 1 := fun W o => by simp
  have z : okN 0 := by unfold okN; omega
  have t : okN 2 := by unfold okN; omega
  refine RdE.of2 (k := shP) (m := shM) (B := some ⟨w.heap.size, 0, none⟩) (c := 2) (B2 := some ⟨w.heap.size + 1, 0, none⟩) (c2 := 1) trivial ?_ z ?_ ?_ z ?_
  · refine cellsAt_of (old_blockS _ _ _ (by simp only [e]; omega) (new_blockS _ _ (by simp only [e]))) 0 _ fun j u hj => ?_
    match j, hj with
    | 0, hj => exact hj
    | 1, hj => exact hj
    | 2, hj => exact hj
    | 3, hj => exact hj
  · refine RdE.of2 (k := shA) (m := sh2) (B := none) (c := 0) (B2 := none) (c2 := 0) trivial ?_ z (RdE.nil _ _ _) ?_ t (RdE.nil _ _ _)
    · refine cellsAt_of (old_blockS _ _ _ (by simp only [e]; omega) (old_blockS _ _ _ (by simp only [e]; omega) (old_blockS _ _ _ (by simp only [e]; omega) (new_blockS _ _ rfl)))) 0 _ fun j u hj => ?_
      match j, hj with
      | 0, hj => exact hj
      | 1, hj => exact hj
      | 2, hj => exact hj
      | 3, hj => exact hj
    · refine cellsAt_of (old_blockS _ _ _ (by simp only [e]; omega) (old_blockS _ _ _ (by simp only [e]; omega) (old_blockS _ _ _ (by simp only [e]; omega) (new_blockS _ _ rfl)))) (0 + 4) _ fun j u hj => ?_
      match j, hj with
      | 0, hj => exact hj
      | 1, hj => exact hj
      | 2, hj => exact hj
      | 3, hj => exact hj
  · refine cellsAt_of (old_blockS _ _ _ (by simp only [e]; omega) (new_blockS _ _ (by simp only [e]))) (0 + 4) _ fun j u hj => ?_
    match j, hj with
    | 0, hj => exact hj
    | 1, hj => exact hj
    | 2, hj => exact hj
    | 3, hj => exact hj
  · refine RdE.of1 (k := shB) (B := none) (c := 0) trivial ?_ z (RdE.nil _ _ _)
    refine cellsAt_of (old_blockS _ _ _ (by simp only [e]; omega) (old_blockS _ _ _ (by simp only [e]; omega) (new_blockS _ _ (by simp only [e])))) 0 _ fun j u hj => ?_
    match j, hj with
    | 0, hj => exact hj
    | 1, hj => exact hj
    | 2, hj => exact hj
    | 3, hj => exact hj
set_option maxHeartbeats 2000000 in
set_option maxRecDepth 100000 in
theorem shown_any (w : World) (ht : TabAt w) : Calls Tryd.prog 6 #[] w (Ret (.bool true) w) := by
  have HE : Hid (∀ w', TabAt w' → ∀ A c, RdE w' (fun _ => True) shE.kids A → Calls Tryd.prog 17 #[.agg #[.string ⟨#[116, 119, 111]⟩, .int .i64 0, .string ⟨#[42]⟩, .slice A 2 c]] w' (Ret (.string ⟨#[40, 97, 32, 43, 32, 50, 41, 32, 42, 32, 45, 98]⟩) w')) := fun w' h A c hr => by
    have := ShowExpr_any shE shE_ok (by rw [shE_text]; decide) (fun _ => True) A c w' h hr
    rw [shE_text] at this
    exact this
  have HT := Lib.hid ht
  have HR := Lib.hid (shE_laid w)
  clear ht
  go_enter Tryd.func6, Tryd.ntmps6
  go_wp2_with (go_at_call 17; (with_reducible refine (HE.out _ (HT.out.keep (grow_alloc (grow_alloc (grow_alloc (grow_alloc (grow_refl _) _) _) _) _)) _ _ HR.out).mono ?_); rintro x w1 ⟨rfl, hb1⟩)
  go_ret
  exact ⟨rfl, grow_trans (grow_alloc (grow_alloc (grow_alloc (grow_alloc (grow_refl _) _) _) _) _) hb1⟩
set_option maxHeartbeats 2000000 in
set_option maxRecDepth 100000 in
theorem ShowTexts_walk (fs : List PFun) (A : Option Addr) (c : Nat) (w : World) (hr : RdF w (fun _ => True) fs A) (ht : Lib.TabBelow Tryd.prog w.heap.size w "internal/strconv.uint64pow10" .u64 Lib.pow10Tab) :
    Calls Tryd.prog 3 #[.slice A fs.length c] w (Ret (.bool true) w) := by
  have HS := Lib.hid (shown_any w ⟨w, ht, Below.refl _ _⟩)
  have HLG : Hid (∀ w', Below w.heap.size w w' → Calls Tryd.prog 7 #[.slice A fs.length c, .int .i64 200] w' (Ret (.int .i64 (if largeP fs 200 then 1 else 0)) w')) := fun w' hb =>
    Large_any fs 200 (by omega) (fun _ => True) A c w' (hr.keep ((Keeps.of_below hb).in _) (fun _ h => h))
  cases hp : largeP fs 200
  · obtain ⟨h10, hsm, hsum, hszs⟩ := largeP_small (by omega) hp
    have hok := hr.ok
    have hall : ∀ f ∈ fs, SmF f ∧ OkF f ∧ szS f.body 0 < 1000 := fun f hf => ⟨hsm f hf, hok f hf, by have := hszs f hf; omega⟩
    have htx : ∀ f ∈ fs, TxF f := fun f hf => (textF_le f (hall f hf).1 (hall f hf).2.1 (hall f hf).2.2).1
    have hlen : (textG fs).length ≤ 1000000 := by have := textG_le fs hall; omega
    have HAS : Hid (∀ w', Below w.heap.size w w' → Calls Tryd.prog 9 #[.slice A fs.length c] w' fun x w'' => ∃ B d, x = .returned (.slice B fs.length d) ∧ RdG w'' (newAt w') fs B ∧ Below w'.heap.size w' w'') := fun w' hb =>
      AsFuns_any fs h10 hsm (fun _ => True) A c w' (hr.keep ((Keeps.of_below hb).in _) (fun _ h => h))
    have HPT : Hid (∀ w', Below w.heap.size w w' → Calls Tryd.prog 10 #[.slice A fs.length c] w' (Ret (.string (mkB (textG fs))) w')) := fun w' hb =>
      ProgramText_any fs (fun _ => True) A c w' htx h10 hlen (hr.keep ((Keeps.of_below hb).in _) (fun _ h => h))
    have HSP : Hid (∀ w' w'' B d, Below w.heap.size w w'' → RdG w'' (newAt w') fs B → Calls Tryd.prog 8 #[.slice B fs.length d] w'' (Ret (.string (mkB (textG fs))) w'')) := fun w' w'' B d hb hg =>
      ShowProgram_any fs B d w'' htx h10 hlen (hg.lt.keep (Keeps.in (Keeps.refl _) _) (fun n hn => hn.2)) ⟨w, ht, hb.size, hb⟩
    rw [hp] at HLG
    have hsz : (mkB (textG fs)).size ≤ 1000000 := by rw [mkB_len]; exact hlen
    clear hr ht hp h10 hsm hsum hszs hok hall htx hlen
    go_enter Tryd.func3, Tryd.ntmps3
    go_wp2_with (first
      | (go_at_call 6; (with_reducible refine HS.out.mono ?_); rintro x w1 ⟨rfl, hb1⟩)
      | (go_at_call 7; (with_reducible refine (HLG.out _ hb1).mono ?_); rintro x w2 ⟨rfl, hb2⟩)
      | (go_at_call 9; (with_reducible refine (HAS.out _ (grow_trans hb1 hb2)).mono ?_); rintro x w3 ⟨B, d, rfl, hg, hb3⟩; have HG := Lib.hid hg; clear hg)
      | (go_at_call 8; (with_reducible refine (HSP.out _ _ _ _ (grow_trans (grow_trans hb1 hb2) hb3) HG.out).mono ?_); rintro x w4 ⟨rfl, hb4⟩)
      | (go_at_call 10; (with_reducible refine (HPT.out _ (grow_trans (grow_trans (grow_trans hb1 hb2) hb3) hb4)).mono ?_); rintro x w5 ⟨rfl, hb5⟩))
    go_ret
    exact ⟨by simp, grow_trans (grow_trans (grow_trans (grow_trans hb1 hb2) hb3) hb4) hb5⟩
  · rw [hp] at HLG
    clear hr ht hp
    go_enter Tryd.func3, Tryd.ntmps3
    go_wp2_with (first
      | (go_at_call 6; (with_reducible refine HS.out.mono ?_); rintro x w1 ⟨rfl, hb1⟩)
      | (go_at_call 7; (with_reducible refine (HLG.out _ hb1).mono ?_); rintro x w2 ⟨rfl, hb2⟩))
    go_ret
    exact ⟨rfl, grow_trans hb1 hb2⟩
end Go.Proofs.YtidhplpidkgkdaaDoor
