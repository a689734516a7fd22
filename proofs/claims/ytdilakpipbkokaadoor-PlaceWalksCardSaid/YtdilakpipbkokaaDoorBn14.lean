import Derived.Deep.DeepCutAuto
import Derived.Test.YtdilakpipbkokaaDoorBn13
set_option linter.unusedVariables false
set_option linter.unusedSimpArgs false
namespace Go.Proofs.YtdilakpipbkokaaDoor
open Go.RowKit

/-! bounds: a value, values, a block's number -/
/-- Returned, and the world is what it was. -/
def Sm (v : Value) (w : World) : Ending → World → Prop := fun e w' => e = .returned v ∧ w' = w
set_option maxRecDepth 100000 in
theorem val1_any (c : PCo) (v : Int) (cb : Nat) (w : World) (h2 : w.cell? ⟨cb, 2, none⟩ = some (.int .i64 c.values)) :
    Calls Tryd.prog 53 #[.int .i64 v, .pointer (some ⟨cb, 0, none⟩)] w (Sm (.bool (okV c v)) w) := by
  have HE : Hid (okV c v = (decide (0 ≤ v) && decide (v < c.values))) := show _ = _ from rfl
  rw [HE.out]
  rcases Classical.em (0 ≤ v) with q | q
  · rcases Classical.em (v < c.values) with q2 | q2
    · have HF : Hid ((decide (0 ≤ v) && decide (v < c.values)) = true) := show _ = _ by simp [q, q2]
      rw [HF.out]
      go_enter Tryd.func53, Tryd.ntmps53
      go_wp2_with fail
      go_ret
      exact ⟨rfl, rfl⟩
    · have HF : Hid ((decide (0 ≤ v) && decide (v < c.values)) = false) := show _ = _ by simp [q2]
      rw [HF.out]
      go_enter Tryd.func53, Tryd.ntmps53
      go_wp2_with fail
      go_ret
      exact ⟨rfl, rfl⟩
  · have HF : Hid ((decide (0 ≤ v) && decide (v < c.values)) = false) := show _ = _ by simp [q]
    rw [HF.out]
    go_enter Tryd.func53, Tryd.ntmps53
    go_wp2_with fail
    go_ret
    exact ⟨rfl, rfl⟩
/-- The place of a function value: 'value' of the code at cb. -/
def valF (cb : Nat) : Value := .func (.func 53) #[] #[.pointer (some ⟨cb, 0, none⟩)]
set_option maxRecDepth 100000 in
theorem val21_any (c : PCo) (v : Int) (cb vb : Nat) (w : World) (h2 : w.cell? ⟨cb, 2, none⟩ = some (.int .i64 c.values)) (hv : w.cell? ⟨vb, 0, none⟩ = some (valF cb)) :
    Calls Tryd.prog 56 #[.int .i64 v, .pointer (some ⟨vb, 0, none⟩)] w (Sm (.bool (!okV c v)) w) := by
  have H := Lib.hid (val1_any c v cb w h2)
  unfold valF at hv
  clear h2
  go_enter Tryd.func56, Tryd.ntmps56
  go_wp2_with (go_at_call 53; (with_reducible refine H.out.mono ?_); rintro y w1 ⟨rfl, rfl⟩)
  go_ret
  exact ⟨rfl, rfl⟩
/-- Is a number no block's? -/
def farB (n : Nat) (k : Int) : Bool := decide (k < 0) || decide ((n : Int) ≤ k)
set_option maxRecDepth 100000 in
theorem far3_any (c : PCo) (v : Int) (cb : Nat) (A : Option Addr) (ca : Nat) (w : World) (h3 : w.cell? ⟨cb, 3, none⟩ = some (.slice A c.blocks.length ca)) :
    Calls Tryd.prog 58 #[.int .i64 v, .pointer (some ⟨cb, 0, none⟩)] w (Sm (.bool (farB c.blocks.length v)) w) := by
  have HE : Hid (farB c.blocks.length v = (decide (v < 0) || decide ((c.blocks.length : Int) ≤ v))) := show _ = _ from rfl
  rw [HE.out]
  rcases Classical.em (v < 0) with q | q
  · have HF : Hid ((decide (v < 0) || decide ((c.blocks.length : Int) ≤ v)) = true) := show _ = _ by simp [q]
    rw [HF.out]
    go_enter Tryd.func58, Tryd.ntmps58
    go_wp2_with fail
    go_ret
    exact ⟨rfl, rfl⟩
  · rcases Classical.em ((c.blocks.length : Int) ≤ v) with q2 | q2
    · have HF : Hid ((decide (v < 0) || decide ((c.blocks.length : Int) ≤ v)) = true) := show _ = _ by simp [q2]
      rw [HF.out]
      go_enter Tryd.func58, Tryd.ntmps58
      go_wp2_with fail
      go_ret
      exact ⟨rfl, rfl⟩
    · have HF : Hid ((decide (v < 0) || decide ((c.blocks.length : Int) ≤ v)) = false) := show _ = _ by simp [q, q2]
      rw [HF.out]
      go_enter Tryd.func58, Tryd.ntmps58
      go_wp2_with fail
      go_ret
      exact ⟨rfl, rfl⟩
/-! slices.ContainsFunc over ints -/
set_option maxRecDepth 100000 in
theorem idxIntsA (P : Int → Bool) (q : Nat) (l : List Int) (hl : l.length ≤ 100000) (A : Option Addr) (ca : Nat) (w : World) (hr : Row w A (intVs l))
    (HC : ∀ x, Calls Tryd.prog 56 #[.int .i64 x, .pointer (some ⟨q, 0, none⟩)] w (Sm (.bool (!P x)) w)) :
    Calls Tryd.prog 72 #[.slice A l.length ca, .func (.func 56) #[] #[.pointer (some ⟨q, 0, none⟩)]] w (Sm (.int .i64 (firstBad P l 0)) w) := by
  have HR := Lib.hid hr
  have HH := Lib.hid HC
  clear hr HC
  go_enter Tryd.func72, Tryd.ntmps72
  go_wp2_with fail
  go_loopw [5, 8] (fun _ i wr => ∃ k : Nat, k ≤ l.length ∧ i = .int .i64 k ∧ firstBad P l 0 = firstBad P (l.drop k) k ∧ wr = w) (fun _ i _ => l.length - (intOf i).toNat)
  case atStart => exact ⟨0, Nat.zero_le _, rfl, rfl, rfl⟩
  case round =>
    obtain ⟨k, hk, rfl, hI, rfl⟩ := hrel
    have HI := Lib.hid hI
    clear hI
    by_cases hlt : k < l.length
    · obtain ⟨b, off, rfl, c0⟩ := HR.out k _ (intVs_get hlt)
      have hlt' : (k : Int) < (l.length : Int) := by omega
      have HS := Lib.hid (firstBad_drop (P := P) hlt)
      have HN := Lib.hid (HH.out l[k])
      cases hn : P l[k]
      · rw [hn] at HN HS
        have HF : Hid (firstBad P l 0 = (k : Int)) := show _ = _ from HI.out.trans HS.out
        clear hn
        go_wp2_with (go_at_call 56; (with_reducible refine HN.out.mono ?_); rintro y w1 ⟨rfl, rfl⟩)
        go_ret
        exact ⟨by rw [HF.out]; rfl, rfl⟩
      · rw [hn] at HN HS
        have HF : Hid (firstBad P l 0 = firstBad P (l.drop (k + 1)) (k + 1)) := show _ = _ from HI.out.trans HS.out
        clear hn
        go_wp2_with (go_at_call 56; (with_reducible refine HN.out.mono ?_); rintro y w1 ⟨rfl, rfl⟩)
        go_roundw
        case rel => exact ⟨k + 1, by omega, by go_num, HF.out, by trivial⟩
        case measure => simp [intOf]; omega
    · have hk' : k = l.length := by omega
      have HF : Hid (firstBad P l 0 = -1) := show _ = _ by rw [HI.out, hk', List.drop_length]; rfl
      subst hk'
      go_wp2_with fail
      go_ret
      exact ⟨by rw [HF.out]; rfl, rfl⟩
set_option maxRecDepth 100000 in
theorem hasIntsA (P : Int → Bool) (q : Nat) (l : List Int) (hl : l.length ≤ 100000) (A : Option Addr) (ca : Nat) (w : World) (hr : Row w A (intVs l))
    (HC : ∀ x, Calls Tryd.prog 56 #[.int .i64 x, .pointer (some ⟨q, 0, none⟩)] w (Sm (.bool (!P x)) w)) :
    Calls Tryd.prog 55 #[.slice A l.length ca, .func (.func 56) #[] #[.pointer (some ⟨q, 0, none⟩)]] w (Sm (.bool (!l.all P)) w) := by
  have HI := Lib.hid (idxIntsA P q l hl A ca w hr HC)
  have HA : Hid (decide (0 ≤ firstBad P l 0) = !l.all P) := show _ = _ from firstBad_all _ l 0
  clear HC hr
  go_enter Tryd.func55, Tryd.ntmps55
  go_wp2_with (go_at_call 72; (with_reducible refine HI.out.mono ?_); rintro y w1 ⟨rfl, rfl⟩)
  go_ret
  exact ⟨by rw [← HA.out]; rfl, rfl⟩
set_option maxRecDepth 100000 in
theorem idxIntsB (P : Int → Bool) (q : Nat) (l : List Int) (hl : l.length ≤ 100000) (A : Option Addr) (ca : Nat) (w : World) (hr : Row w A (intVs l))
    (HC : ∀ x, Calls Tryd.prog 58 #[.int .i64 x, .pointer (some ⟨q, 0, none⟩)] w (Sm (.bool (!P x)) w)) :
    Calls Tryd.prog 72 #[.slice A l.length ca, .func (.func 58) #[] #[.pointer (some ⟨q, 0, none⟩)]] w (Sm (.int .i64 (firstBad P l 0)) w) := by
  have HR := Lib.hid hr
  have HH := Lib.hid HC
  clear hr HC
  go_enter Tryd.func72, Tryd.ntmps72
  go_wp2_with fail
  go_loopw [5, 8] (fun _ i wr => ∃ k : Nat, k ≤ l.length ∧ i = .int .i64 k ∧ firstBad P l 0 = firstBad P (l.drop k) k ∧ wr = w) (fun _ i _ => l.length - (intOf i).toNat)
  case atStart => exact ⟨0, Nat.zero_le _, rfl, rfl, rfl⟩
  case round =>
    obtain ⟨k, hk, rfl, hI, rfl⟩ := hrel
    have HI := Lib.hid hI
    clear hI
    by_cases hlt : k < l.length
    · obtain ⟨b, off, rfl, c0⟩ := HR.out k _ (intVs_get hlt)
      have hlt' : (k : Int) < (l.length : Int) := by omega
      have HS := Lib.hid (firstBad_drop (P := P) hlt)
      have HN := Lib.hid (HH.out l[k])
      cases hn : P l[k]
      · rw [hn] at HN HS
        have HF : Hid (firstBad P l 0 = (k : Int)) := show _ = _ from HI.out.trans HS.out
        clear hn
        go_wp2_with (go_at_call 58; (with_reducible refine HN.out.mono ?_); rintro y w1 ⟨rfl, rfl⟩)
        go_ret
        exact ⟨by rw [HF.out]; rfl, rfl⟩
      · rw [hn] at HN HS
        have HF : Hid (firstBad P l 0 = firstBad P (l.drop (k + 1)) (k + 1)) := show _ = _ from HI.out.trans HS.out
        clear hn
        go_wp2_with (go_at_call 58; (with_reducible refine HN.out.mono ?_); rintro y w1 ⟨rfl, rfl⟩)
        go_roundw
        case rel => exact ⟨k + 1, by omega, by go_num, HF.out, by trivial⟩
        case measure => simp [intOf]; omega
    · have hk' : k = l.length := by omega
      have HF : Hid (firstBad P l 0 = -1) := show _ = _ by rw [HI.out, hk', List.drop_length]; rfl
      subst hk'
      go_wp2_with fail
      go_ret
      exact ⟨by rw [HF.out]; rfl, rfl⟩
set_option maxRecDepth 100000 in
theorem hasIntsB (P : Int → Bool) (q : Nat) (l : List Int) (hl : l.length ≤ 100000) (A : Option Addr) (ca : Nat) (w : World) (hr : Row w A (intVs l))
    (HC : ∀ x, Calls Tryd.prog 58 #[.int .i64 x, .pointer (some ⟨q, 0, none⟩)] w (Sm (.bool (!P x)) w)) :
    Calls Tryd.prog 55 #[.slice A l.length ca, .func (.func 58) #[] #[.pointer (some ⟨q, 0, none⟩)]] w (Sm (.bool (!l.all P)) w) := by
  have HI := Lib.hid (idxIntsB P q l hl A ca w hr HC)
  have HA : Hid (decide (0 ≤ firstBad P l 0) = !l.all P) := show _ = _ from firstBad_all _ l 0
  clear HC hr
  go_enter Tryd.func55, Tryd.ntmps55
  go_wp2_with (go_at_call 72; (with_reducible refine HI.out.mono ?_); rintro y w1 ⟨rfl, rfl⟩)
  go_ret
  exact ⟨by rw [← HA.out]; rfl, rfl⟩
set_option maxRecDepth 100000 in
theorem vals_any (c : PCo) (l : List Int) (hl : l.length ≤ 100000) (A : Option Addr) (ca cb vb : Nat) (w : World) (hr : Row w A (intVs l)) (h2 : w.cell? ⟨cb, 2, none⟩ = some (.int .i64 c.values)) (hv : w.cell? ⟨vb, 0, none⟩ = some (valF cb)) :
    Calls Tryd.prog 54 #[.slice A l.length ca, .pointer (some ⟨vb, 0, none⟩)] w (Sm (.bool (okVs c l)) w) := by
  have H := Lib.hid (hasIntsA (okV c) vb l hl A ca w hr fun x => val21_any c x cb vb w h2 hv)
  have HE : Hid (okVs c l = !!l.all (okV c)) := show _ = _ by rw [Bool.not_not]; rfl
  rw [HE.out]
  clear HE hr h2 hv
  obtain ⟨z, hz⟩ : ∃ z, (!l.all (okV c)) = z := ⟨_, rfl⟩
  rw [hz] at H ⊢
  clear hz
  go_enter Tryd.func54, Tryd.ntmps54
  go_wp2_with (go_at_call 55; (with_reducible refine H.out.mono ?_); rintro y w1 ⟨rfl, rfl⟩)
  go_ret
  exact ⟨rfl, rfl⟩
set_option maxRecDepth 100000 in
theorem far_any (c : PCo) (l : List Int) (hl : l.length ≤ 100000) (A : Option Addr) (ca cb : Nat) (D : Option Addr) (dc : Nat) (w : World) (hr : Row w A (intVs l)) (h3 : w.cell? ⟨cb, 3, none⟩ = some (.slice D c.blocks.length dc)) :
    Calls Tryd.prog 55 #[.slice A l.length ca, .func (.func 58) #[] #[.pointer (some ⟨cb, 0, none⟩)]] w (Sm (.bool (farTo c.blocks.length l)) w) := by
  have e : (!l.all fun k => !farB c.blocks.length k) = farTo c.blocks.length l := by
    unfold farTo farB
    rw [← List.not_any_eq_all_not, Bool.not_not]
  rw [← e]
  exact hasIntsB (fun k => !farB c.blocks.length k) cb l hl A ca w hr fun x => by
    rw [Bool.not_not]
    exact far3_any c x cb D dc w h3
end Go.Proofs.YtdilakpipbkokaaDoor

namespace Go.Proofs.YtdilakpipbkokaaDoor
open Go.RowKit

/-! kinds of a block -/
def bkV (b : PBk) (P : Option Addr) (p : Nat) (I : Option Addr) (i : Nat) (T : Option Addr) (t : Nat) (W : Option Addr) (c : Nat) : Value := .agg #[.slice P b.params.length p, .slice I b.ins.length i, .string (mkB b.fin), .int .i64 b.v, .slice T b.nx.length t, .slice W b.wth.length c]
def bkO (b : PBk) (P : Option Addr) (p : Nat) (I : Option Addr) (i : Nat) (T : Option Addr) (t : Nat) (W : Option Addr) (c : Nat) : Obj := .cells #[.slice P b.params.length p, .slice I b.ins.length i, .string (mkB b.fin), .int .i64 b.v, .slice T b.nx.length t, .slice W b.wth.length c] 56
set_option maxRecDepth 100000 in
set_option maxHeartbeats 1000000 in
theorem kinds_any (E : Nat → Addr) (b : PBk) (hl : b.ins.length ≤ 100000) (P : Option Addr) (p : Nat) (I : Option Addr) (i : Nat) (T : Option Addr) (t : Nat) (W : Option Addr) (c : Nat) (w : World) (hE : Laid E w) (hr : RdL 5 GoodI w b.ins I) :
    Calls Tryd.prog 32 #[bkV b P p I i T t W c] w (Ret (.bool (bkKinds b)) w) := by
  have hb : Below w.heap.size w (w.alloc (bkO b P p I i T t W c)) := grow_alloc (grow_refl _) _
  have HB := Lib.hid hb
  have k := Keeps.of_below hb
  have HX : Hid (∀ w', Below (w.alloc (bkO b P p I i T t W c)).heap.size (w.alloc (bkO b P p I i T t W c)) w' → w'.cell? ⟨w.heap.size, 2, none⟩ = some (.string (mkB b.fin))) := fun w' hb' => Keeps.of_below hb' _ _ (cell_of_row _ _ 2 _ _ _ (heap_alloc_new w _))
  have HC := Lib.hid (hasKn b.ins hl I i (w.alloc (bkO b P p I i T t W c)) (hr.keep k fun _ _ => GoodI.keep k) fun x _ A c w' hb' => kinds1_any E x A c w' (hE.keep (grow_trans hb hb')))
  have HK : Hid (bkKinds b = (b.ins.all inKnown && decide (0 ≤ endN b.fin))) := show _ = _ from rfl
  unfold bkV
  unfold bkO at HB HC HX
  clear hE hr hb k
  rw [HK.out]
  obtain ⟨a, ha⟩ : ∃ a, b.ins.all inKnown = a := ⟨_, rfl⟩
  rw [ha] at HC ⊢
  clear ha HK
  obtain ⟨na, rfl⟩ : ∃ n, a = !n := ⟨!a, by simp⟩
  rw [Bool.not_not] at HC
  by_cases h1 : b.fin = eJump
  · have q1 : ((mkB b.fin).toList == [106, 117, 109, 112]) = true := by rw [mkB_eq, h1]; rfl
    have hz : decide (0 ≤ endN b.fin) = true := by rw [h1]; decide
    rw [hz, Bool.and_true]
    clear h1 hz
    cases na <;>
    · go_enter Tryd.func32, Tryd.ntmps32
      go_wp2_with (go_at_call 49; (with_reducible refine HC.out.mono ?_); rintro y w1 ⟨rfl, hb1⟩; have x2 := HX.out _ hb1)
      go_ret
      exact ⟨rfl, grow_trans HB.out hb1⟩
  · have q1 : ((mkB b.fin).toList == [106, 117, 109, 112]) = false := by rw [mkB_eq]; exact beq_eq_false_iff_ne.2 h1
    by_cases h2 : b.fin = eIf
    · have q2 : ((mkB b.fin).toList == [105, 102]) = true := by rw [mkB_eq, h2]; rfl
      have hz : decide (0 ≤ endN b.fin) = true := by rw [h2]; decide
      rw [hz, Bool.and_true]
      clear h1 h2 hz
      cases na <;>
      · go_enter Tryd.func32, Tryd.ntmps32
        go_wp2_with (go_at_call 49; (with_reducible refine HC.out.mono ?_); rintro y w1 ⟨rfl, hb1⟩; have x2 := HX.out _ hb1)
        go_ret
        exact ⟨rfl, grow_trans HB.out hb1⟩
    · have q2 : ((mkB b.fin).toList == [105, 102]) = false := by rw [mkB_eq]; exact beq_eq_false_iff_ne.2 h2
      by_cases h3 : b.fin = eReturn
      · have q3 : ((mkB b.fin).toList == [114, 101, 116, 117, 114, 110]) = true := by rw [mkB_eq, h3]; rfl
        have hz : decide (0 ≤ endN b.fin) = true := by rw [h3]; decide
        rw [hz, Bool.and_true]
        clear h1 h2 h3 hz
        cases na <;>
        · go_enter Tryd.func32, Tryd.ntmps32
          go_wp2_with (go_at_call 49; (with_reducible refine HC.out.mono ?_); rintro y w1 ⟨rfl, hb1⟩; have x2 := HX.out _ hb1)
          go_ret
          exact ⟨rfl, grow_trans HB.out hb1⟩
      · have q3 : ((mkB b.fin).toList == [114, 101, 116, 117, 114, 110]) = false := by rw [mkB_eq]; exact beq_eq_false_iff_ne.2 h3
        have hz : decide (0 ≤ endN b.fin) = false := by
          unfold endN
          have e1 := beq_eq_false_iff_ne.2 h1
          have e2 := beq_eq_false_iff_ne.2 h2
          have e3 := beq_eq_false_iff_ne.2 h3
          simp only [e1, e2, e3, Bool.false_eq_true, if_false]
          decide
        rw [hz, Bool.and_false]
        clear h1 h2 h3 hz
        cases na <;>
        · go_enter Tryd.func32, Tryd.ntmps32
          go_wp2_with (go_at_call 49; (with_reducible refine HC.out.mono ?_); rintro y w1 ⟨rfl, hb1⟩; have x2 := HX.out _ hb1)
          go_ret
          exact ⟨rfl, grow_trans HB.out hb1⟩
end Go.Proofs.YtdilakpipbkokaaDoor
