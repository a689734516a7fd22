import Derived.Test.YtidhplpidkgkdaaDoorRefLev
import Derived.Test.YtidhplpidkgkdaaDoorShowLev
import Derived.Test.YtidhplpidkgkdaaDoorTreeAsS
namespace Go.Proofs.YtidhplpidkgkdaaDoor
open Go.RowKit

theorem joinC_snoc (x : List UInt8) : ∀ xs : List (List UInt8), joinC (xs ++ [x]) = if xs = [] then x else joinC xs ++ [44, 32] ++ x := by
  intro xs
  induction xs with
  | nil => rfl
  | cons y ys ih =>
    rw [if_neg (by simp)]
    cases ys with
    | nil => simp [joinC]
    | cons z zs =>
      rw [List.cons_append, show joinC (y :: (z :: zs ++ [x])) = y ++ [44, 32] ++ joinC (z :: zs ++ [x]) from rfl, ih, if_neg (by simp)]
      simp [joinC]
theorem joinC_take_len : ∀ (xs : List (List UInt8)) (k : Nat), (joinC (xs.take k)).length ≤ (joinC xs).length := by
  intro xs
  induction xs with
  | nil => intro k; simp [joinC]
  | cons x xs ih =>
    intro k
    cases k with
    | zero => simp [joinC]
    | succ k =>
      cases xs with
      | nil => simp [joinC]
      | cons y ys =>
        have := ih k
        cases k with
        | zero => simp [joinC]
        | succ k =>
          simp only [List.take_succ_cons] at this ⊢
          simp only [joinC, List.length_append] at this ⊢
          omega
theorem joinC_mem_len : ∀ (xs : List (List UInt8)) (x : List UInt8), x ∈ xs → x.length ≤ (joinC xs).length := by
  intro xs
  induction xs with
  | nil => intro x h; cases h
  | cons y ys ih =>
    intro x h
    cases ys with
    | nil => simp only [List.mem_singleton] at h; subst h; exact Nat.le_refl _
    | cons z zs =>
      simp only [joinC, List.length_append]
      rcases List.mem_cons.1 h with rfl | h
      · omega
      · have := ih x h; omega
theorem joinC_count : ∀ (xs : List (List UInt8)), xs.length ≤ (joinC xs).length + 1 := by
  intro xs
  induction xs with
  | nil => simp
  | cons x xs ih =>
    cases xs with
    | nil => simp
    | cons y ys =>
      simp only [joinC, List.length_append, List.length_cons] at ih ⊢
      omega
theorem wrapT_len (k : PExpr) (n : Int) (t : List UInt8) : t.length ≤ (wrapT k n t).length := by
  unfold wrapT; split
  · simp only [List.length_append]; omega
  · exact Nat.le_refl _
theorem joinC_step {ts : List (List UInt8)} {k : Nat} (h : k < ts.length) : joinC (ts.take (k + 1)) = if k = 0 then ts[k] else joinC (ts.take k) ++ [44, 32] ++ ts[k] := by
  rw [List.take_succ_eq_append_getElem h, joinC_snoc]
  have : (ts.take k = []) = (k = 0) := by
    apply propext
    constructor
    · intro e
      have := congrArg List.length e
      rw [List.length_take] at this
      simp at this
      rcases this with q | q
      · exact q
      · rw [q] at h; simp at h
    · rintro rfl; rfl
  simp only [this]
set_option maxHeartbeats 1000000 in
set_option maxRecDepth 100000 in
theorem kidText_any (k : PExpr) (least : Int) (t : List UInt8) (A : Option Addr) (c : Nat) (w : World) (ht : t.length ≤ 1000000)
    (hE : ∀ w', Below w.heap.size w w' → Calls Tryd.prog 51 #[exprV k A c] w' (Ret (strV t) w')) :
    Calls Tryd.prog 70 #[exprV k A c, .int .i64 least] w (Ret (strV (wrapT k least t)) w) := by
  have HE := Lib.hid hE
  have htl : (mkB t).size ≤ 1000000 := by rw [mkB_len]; exact ht
  clear hE
  unfold exprV strV at *
  by_cases hk : k.kind = xTwo
  · have g0 : ((mkB k.kind).toList == [116, 119, 111]) = true := by rw [mkB_toList, hk]; rfl
    by_cases hl : levelP k.name < least
    · have HW : Hid (wrapT k least t = [40] ++ t ++ [41]) := show wrapT k least t = _ by unfold wrapT; rw [if_pos ⟨hk, hl⟩]
      have HV : Hid ((⟨#[40]⟩ : ByteArray) ++ mkB t ++ ⟨#[41]⟩ = mkB ([40] ++ t ++ [41])) := show _ = _ by
        rw [show (⟨#[40]⟩ : ByteArray) = mkB [40] from rfl, mkB_app, mkB_one]
      clear hk
      go_enter Tryd.func70, Tryd.ntmps70
      go_wp2_with (first
        | (go_at_call 51; (with_reducible refine (HE.out _ (grow_alloc (grow_refl _) _)).mono ?_); rintro x w1 ⟨rfl, hb1⟩; have b0 := Keeps.of_below hb1 _ _ (cell_of_row _ _ 0 _ _ _ (heap_alloc_new w (.cells #[.string (mkB k.kind), .int .i64 k.num, .string (mkB k.name), .slice A k.kids.length c] 89))); have b2 := Keeps.of_below hb1 _ _ (cell_of_row _ _ 2 _ _ _ (heap_alloc_new w (.cells #[.string (mkB k.kind), .int .i64 k.num, .string (mkB k.name), .slice A k.kids.length c] 89))))
        | (go_at_call 71; (with_reducible refine (LevelOf_any _ _).mono ?_); rintro x w2 ⟨rfl, rfl⟩))
      go_ret
      exact ⟨by rw [HW.out, ← HV.out]; rfl, grow_trans (grow_alloc (grow_refl _) _) hb1⟩
    · have HW : Hid (wrapT k least t = t) := show wrapT k least t = _ by unfold wrapT; rw [if_neg (fun h => hl h.2)]
      clear hk
      go_enter Tryd.func70, Tryd.ntmps70
      go_wp2_with (first
        | (go_at_call 51; (with_reducible refine (HE.out _ (grow_alloc (grow_refl _) _)).mono ?_); rintro x w1 ⟨rfl, hb1⟩; have b0 := Keeps.of_below hb1 _ _ (cell_of_row _ _ 0 _ _ _ (heap_alloc_new w (.cells #[.string (mkB k.kind), .int .i64 k.num, .string (mkB k.name), .slice A k.kids.length c] 89))); have b2 := Keeps.of_below hb1 _ _ (cell_of_row _ _ 2 _ _ _ (heap_alloc_new w (.cells #[.string (mkB k.kind), .int .i64 k.num, .string (mkB k.name), .slice A k.kids.length c] 89))))
        | (go_at_call 71; (with_reducible refine (LevelOf_any _ _).mono ?_); rintro x w2 ⟨rfl, rfl⟩))
      go_ret
      exact ⟨by rw [HW.out]; rfl, grow_trans (grow_alloc (grow_refl _) _) hb1⟩
  · have g0 : ((mkB k.kind).toList == [116, 119, 111]) = false := by rw [mkB_toList]; exact beq_eq_false_iff_ne.2 hk
    have HW : Hid (wrapT k least t = t) := show wrapT k least t = _ by unfold wrapT; rw [if_neg (fun h => hk h.1)]
    clear hk
    go_enter Tryd.func70, Tryd.ntmps70
    go_wp2_with (first
      | (go_at_call 51; (with_reducible refine (HE.out _ (grow_alloc (grow_refl _) _)).mono ?_); rintro x w1 ⟨rfl, hb1⟩; have b0 := Keeps.of_below hb1 _ _ (cell_of_row _ _ 0 _ _ _ (heap_alloc_new w (.cells #[.string (mkB k.kind), .int .i64 k.num, .string (mkB k.name), .slice A k.kids.length c] 89))); have b2 := Keeps.of_below hb1 _ _ (cell_of_row _ _ 2 _ _ _ (heap_alloc_new w (.cells #[.string (mkB k.kind), .int .i64 k.num, .string (mkB k.name), .slice A k.kids.length c] 89)))))
    go_ret
    exact ⟨by rw [HW.out]; rfl, grow_trans (grow_alloc (grow_refl _) _) hb1⟩
/-- A text that kids' texts are part of. -/
theorem kid_len {e k : PExpr} (h : (textE e).length ≤ 1000000) (hk : k ∈ e.kids) (hs : e.kind = xCall ∨ e.kind = xOne ∧ e.kids.length = 1 ∨ e.kind = xTwo ∧ e.kids.length = 2) : (textE k).length ≤ 1000000 := by
  rcases hs with hc | ⟨hc, hl⟩ | ⟨hc, hl⟩
  · rw [textE_call hc] at h
    have := joinC_mem_len (e.kids.map textE) (textE k) (List.mem_map_of_mem hk)
    simp only [List.length_append] at h
    omega
  · match hh : e.kids, hl with
    | [a], _ =>
      rw [hh] at hk
      simp only [List.mem_singleton] at hk
      subst hk
      rw [textE_one hc hh] at h
      have := wrapT_len k 8 (textE k)
      simp only [List.length_append] at h
      omega
  · match hh : e.kids, hl with
    | [a, b], _ =>
      rw [hh] at hk
      rw [textE_two hc hh] at h
      have h1 := wrapT_len a (levelP e.name) (textE a)
      have h2 := wrapT_len b (levelP e.name + 1) (textE b)
      simp only [List.length_append] at h
      simp only [List.mem_cons, List.not_mem_nil, or_false] at hk
      rcases hk with rfl | rfl <;> omega
def ExprTextC (e : PExpr) : Prop := ∀ (S : Nat → Prop) (A : Option Addr) (c : Nat) (w : World), RdE w S e.kids A → Calls Tryd.prog 51 #[exprV e A c] w (Ret (strV (textE e)) w)
set_option maxHeartbeats 1000000 in
set_option maxRecDepth 100000 in
theorem rtext_num (e : PExpr) (hn : okN e.num) (hk : e.kind = xNum) : ExprTextC e := by
  intro S A c w hr
  have g0 : ((mkB e.kind).toList == [110, 117, 109]) = true := by rw [mkB_toList, hk]; rfl
  have HT : Hid (textE e = numT e.num) := textE_num hk
  obtain ⟨n, hnum⟩ : ∃ n, e.num = n := ⟨_, rfl⟩
  rw [hnum] at HT hn
  unfold exprV strV
  rw [hnum]
  clear hk hr hnum
  unfold okN at hn
  by_cases h0 : n = -9223372036854775808
  · subst h0
    go_enter Tryd.func51, Tryd.ntmps51
    go_wp2_with fail
    go_ret
    exact ⟨by rw [HT.out]; rfl, grow_alloc (grow_refl _) _⟩
  · have q0 : (n == -9223372036854775808) = false := beq_eq_false_iff_ne.2 h0
    by_cases h1 : n < 0
    · have HV : Hid ((⟨#[40, 48, 32, 45, 32]⟩ : ByteArray) ++ mkB (Lib.itoa (-n)) ++ ⟨#[41]⟩ = mkB (numT n)) := show _ = _ by
        unfold numT
        rw [if_neg h0, if_pos h1, show (⟨#[40, 48, 32, 45, 32]⟩ : ByteArray) = mkB [40, 48, 32, 45, 32] from rfl, mkB_app, mkB_one]
      have hd := fun w => decimal_any (-n) (by omega) (by omega) w
      have HD := Lib.hid hd
      have hl : (mkB (Lib.itoa (-n))).size ≤ 21 := itoa_len (-n) (by omega) (by omega)
      have e1 : wrap64 (-n) = -n := by unfold wrap64; omega
      clear hd h0
      go_enter Tryd.func51, Tryd.ntmps51
      go_wp2_with (go_at_call 69; (with_reducible refine (HD.out _).mono ?_); rintro x w1 ⟨rfl, hb1⟩)
      go_ret
      exact ⟨by rw [HT.out, ← HV.out]; rfl, grow_trans (grow_alloc (grow_refl _) _) hb1⟩
    · have HV : Hid (numT n = Lib.itoa n) := show _ = _ by
        unfold numT
        rw [if_neg h0, if_neg h1]
      have hd := fun w => decimal_any n (by omega) (by omega) w
      have HD := Lib.hid hd
      clear hd h0
      go_enter Tryd.func51, Tryd.ntmps51
      go_wp2_with (go_at_call 69; (with_reducible refine (HD.out _).mono ?_); rintro x w1 ⟨rfl, hb1⟩)
      go_ret
      exact ⟨by rw [HT.out, HV.out]; rfl, grow_trans (grow_alloc (grow_refl _) _) hb1⟩
set_option maxRecDepth 100000 in
theorem rtext_name (e : PExpr) (hk : e.kind = xName) : ExprTextC e := by
  intro S A c w hr
  have g0 : ((mkB e.kind).toList == [110, 117, 109]) = false := by rw [mkB_toList, hk]; rfl
  have g1 : ((mkB e.kind).toList == [110, 97, 109, 101]) = true := by rw [mkB_toList, hk]; rfl
  have HT : Hid (textE e = e.name) := textE_name hk
  unfold exprV strV
  clear hk hr
  go_enter Tryd.func51, Tryd.ntmps51
  go_wp2_with fail
  go_ret
  exact ⟨by rw [HT.out]; rfl, grow_alloc (grow_refl _) _⟩
set_option maxRecDepth 100000 in
theorem rtext_none (e : PExpr) (h0 : e.kind ≠ xNum) (h1 : e.kind ≠ xName) (h2 : e.kind ≠ xCall) (h3 : e.kind ≠ xOne) (h4 : e.kind ≠ xTwo) : ExprTextC e := by
  intro S A c w hr
  have g0 : ((mkB e.kind).toList == [110, 117, 109]) = false := by rw [mkB_toList]; exact beq_eq_false_iff_ne.2 h0
  have g1 : ((mkB e.kind).toList == [110, 97, 109, 101]) = false := by rw [mkB_toList]; exact beq_eq_false_iff_ne.2 h1
  have g2 : ((mkB e.kind).toList == [99, 97, 108, 108]) = false := by rw [mkB_toList]; exact beq_eq_false_iff_ne.2 h2
  have g3 : ((mkB e.kind).toList == [111, 110, 101]) = false := by rw [mkB_toList]; exact beq_eq_false_iff_ne.2 h3
  have g4 : ((mkB e.kind).toList == [116, 119, 111]) = false := by rw [mkB_toList]; exact beq_eq_false_iff_ne.2 h4
  have HT : Hid (textE e = []) := textE_none h0 h1 h2 h3 h4
  unfold exprV strV
  clear h0 h1 h2 h3 h4 hr
  go_enter Tryd.func51, Tryd.ntmps51
  go_wp2_with fail
  go_ret
  exact ⟨by rw [HT.out]; rfl, grow_alloc (grow_refl _) _⟩
def callT (e : PExpr) (k : Nat) : List UInt8 := e.name ++ [40] ++ joinC ((e.kids.map textE).take k)
set_option maxHeartbeats 1000000 in
set_option maxRecDepth 100000 in
theorem rtext_call (e : PExpr) (hk : e.kind = xCall) (hl : (textE e).length ≤ 1000000) (ih : ∀ k ∈ e.kids, (textE k).length ≤ 1000000 → ExprTextC k) : ExprTextC e := by
  intro S A c w hr
  have g0 : ((mkB e.kind).toList == [110, 117, 109]) = false := by rw [mkB_toList, hk]; rfl
  have g1 : ((mkB e.kind).toList == [110, 97, 109, 101]) = false := by rw [mkB_toList, hk]; rfl
  have g2 : ((mkB e.kind).toList == [99, 97, 108, 108]) = true := by rw [mkB_toList, hk]; rfl
  have hte := textE_call hk
  have HT : Hid (textE e = e.name ++ [40] ++ joinC (e.kids.map textE) ++ [41]) := hte
  have IH : Hid (∀ k ∈ e.kids, ExprTextC k) := fun k hk' => ih k hk' (kid_len hl hk' (.inl hk))
  rw [hte] at hl
  simp only [List.length_append, List.length_cons, List.length_nil] at hl
  have HLJ : Hid (∀ k, (joinC ((e.kids.map textE).take k)).length ≤ 1000000) := fun k => by have := joinC_take_len (e.kids.map textE) k; omega
  have HLK : Hid (∀ t ∈ e.kids.map textE, t.length ≤ 1000000) := fun t ht => by have := joinC_mem_len (e.kids.map textE) t ht; omega
  have hln : (mkB e.name).size ≤ 1000000 := by rw [mkB_len]; omega
  have hcnt : e.kids.length ≤ 1000001 := by have := joinC_count (e.kids.map textE); rw [List.length_map] at this; omega
  have HR := Lib.hid hr
  have HS : Hid (mkB e.name ++ ⟨#[40]⟩ = mkB (callT e 0)) := show _ = _ by rw [mkB_one]; simp [joinC, callT]
  unfold exprV strV
  clear hk hr ih hte
  go_enter Tryd.func51, Tryd.ntmps51
  go_wp2_with fail
  go_loopw [3, 4] (fun v i wr => ∃ k : Nat, k ≤ e.kids.length ∧ i = .int .i64 k ∧ v = .string (mkB (callT e k)) ∧ Below w.heap.size w wr ∧ wr.cell? ⟨w.heap.size, 3, none⟩ = some (.slice A e.kids.length c)) (fun _ i _ => e.kids.length - (intOf i).toNat)
  case atStart => exact ⟨0, Nat.zero_le _, rfl, congrArg Value.string HS.out, grow_alloc (grow_refl _) _, cell_of_row _ _ 3 _ _ _ (heap_alloc_new w _)⟩
  case round =>
    obtain ⟨k, hk, rfl, rfl, hbel, hbox⟩ := hrel
    by_cases hlt : k < e.kids.length
    · obtain ⟨b, off, B, d, rfl, -, hcells, hnum, hkid⟩ := (HR.out.keep ((Keeps.of_below hbel).in S) (fun _ h => h)).at hlt
      obtain ⟨c0, c1, c2, c3⟩ := cells_expr hcells
      have hlt' : (k : Int) < (e.kids.length : Int) := by omega
      have hlm : k < (e.kids.map textE).length := by simpa using hlt
      have hst := joinC_step hlm
      rw [List.getElem_map] at hst
      obtain ⟨t, ht⟩ : ∃ t, textE e.kids[k] = t := ⟨_, rfl⟩
      have hK := IH.out _ (List.getElem_mem hlt) S B d wr hkid
      have hlt2 : t.length ≤ 1000000 := ht ▸ HLK.out _ (List.mem_map_of_mem (List.getElem_mem hlt))
      have hsz1 : (mkB t).size ≤ 1000000 := by rw [mkB_len]; exact hlt2
      have hsz2 : (mkB (callT e k)).size ≤ 3000000 := by
        rw [mkB_len, callT]
        have := HLJ.out k
        rw [mkB_len] at hln
        simp only [List.length_append, List.length_cons, List.length_nil]; omega
      rw [ht] at hK hst
      unfold exprV strV at hK
      have HK := Lib.hid hK
      have HZ := Lib.hid hst
      clear hcells hkid hnum hK hst ht hlm hlt2
      by_cases hk0 : k = 0
      · subst hk0
        simp only [Nat.zero_mul, Nat.add_zero] at c0 c1 c2 c3
        have HV : Hid (mkB (callT e 0) ++ mkB t = mkB (callT e (0 + 1))) := show _ = _ by
          unfold callT; rw [mkB_app, HZ.out, if_pos rfl]; simp [joinC]
        go_wp2_with (go_at_call 51; (with_reducible refine HK.out.mono ?_); rintro x w1 ⟨rfl, hb1⟩)
        go_roundw
        case rel => exact ⟨0 + 1, by omega, by go_num, congrArg Value.string HV.out, grow_trans hbel hb1, Keeps.of_below hb1 _ _ hbox⟩
        case measure => simp [intOf]; omega
      · have hk1 : 0 < k := by omega
        have HV : Hid (mkB (callT e k) ++ ⟨#[44, 32]⟩ ++ mkB t = mkB (callT e (k + 1))) := show _ = _ by
          unfold callT; rw [HZ.out, if_neg hk0, show (⟨#[44, 32]⟩ : ByteArray) = mkB [44, 32] from rfl, mkB_app, mkB_app]; simp [List.append_assoc]
        clear hk0
        go_wp2_with (go_at_call 51; (with_reducible refine HK.out.mono ?_); rintro x w1 ⟨rfl, hb1⟩)
        go_roundw
        case rel => exact ⟨k + 1, by omega, by go_num, congrArg Value.string HV.out, grow_trans hbel hb1, Keeps.of_below hb1 _ _ hbox⟩
        case measure => simp [intOf]; omega
    · have hk' : k = e.kids.length := by omega
      subst hk'
      have hsz2 : (mkB (callT e e.kids.length)).size ≤ 3000000 := by
        rw [mkB_len, callT]
        have := HLJ.out e.kids.length
        rw [mkB_len] at hln
        simp only [List.length_append, List.length_cons, List.length_nil]; omega
      have HV : Hid (mkB (callT e e.kids.length) ++ ⟨#[41]⟩ = mkB (textE e)) := show _ = _ by
        rw [mkB_one, HT.out, callT, show (e.kids.map textE).take e.kids.length = e.kids.map textE by rw [← List.length_map (f := textE), List.take_length]]
      go_wp2_with fail
      go_ret
      exact ⟨by rw [← HV.out]; rfl, hbel⟩
end Go.Proofs.YtidhplpidkgkdaaDoor
