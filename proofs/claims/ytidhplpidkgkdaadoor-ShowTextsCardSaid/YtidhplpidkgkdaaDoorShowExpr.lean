import Derived.Test.YtidhplpidkgkdaaDoorRefText2
import Derived.Test.YtidhplpidkgkdaaDoorItoaW
import Derived.OwnWalk
import Derived.Laws.OwnMore
namespace Go.Proofs.YtidhplpidkgkdaaDoor
open Go.RowKit

/-- strconv's table is laid. -/
def TabAt (w : World) : Prop := ∃ w0, Lib.TabBelow Tryd.prog w0.heap.size w0 "internal/strconv.uint64pow10" .u64 Lib.pow10Tab ∧ Below w0.heap.size w0 w
theorem TabAt.keep {w w' : World} (h : TabAt w) (hb : Below w.heap.size w w') : TabAt w' := by
  obtain ⟨w0, h0, h1⟩ := h
  exact ⟨w0, h0, grow_trans h1 hb⟩
theorem itoa_at (n : Int) (hn : okN n) (w : World) (h : TabAt w) : Calls Tryd.prog 60 #[.int .i64 n] w (Ret (.string (mkB (Lib.itoa n))) w) := by
  obtain ⟨w0, h0, h1⟩ := h
  exact itoa_any' n hn.1 hn.2 w0 w h0 h1
theorem itoa_max : Lib.itoa 9223372036854775807 = [57, 50, 50, 51, 51, 55, 50, 48, 51, 54, 56, 53, 52, 55, 55, 53, 56, 48, 55] := by
  decide +kernel
theorem number_any (n : Int) (hn : okN n) (w : World) (ht : TabAt w) : Calls Tryd.prog 39 #[.int .i64 n] w (Ret (strV (numT n)) w) := by
  unfold strV
  by_cases h0 : n = -9223372036854775808
  · subst h0
    have HI := Lib.hid (itoa_at 9223372036854775807 (by unfold okN; omega) w ht)
    rw [itoa_max] at HI
    have HV : Hid ((⟨#[40, 48, 32, 45, 32]⟩ : ByteArray) ++ mkB [57, 50, 50, 51, 51, 55, 50, 48, 51, 54, 56, 53, 52, 55, 55, 53, 56, 48, 55] ++ ⟨#[32, 45, 32, 49, 41]⟩ = mkB (numT (-9223372036854775808))) := show _ = _ from rfl
    clear ht hn
    go_enter Tryd.func39, Tryd.ntmps39
    go_wp2_with (go_at_call 60; (with_reducible refine HI.out.mono ?_); rintro x w1 ⟨rfl, hb1⟩)
    go_ret
    exact ⟨by rw [← HV.out]; rfl, hb1⟩
  · have q0 : (n == -9223372036854775808) = false := beq_eq_false_iff_ne.2 h0
    by_cases h1 : n < 0
    · have HV : Hid ((⟨#[40, 48, 32, 45, 32]⟩ : ByteArray) ++ mkB (Lib.itoa (-n)) ++ ⟨#[41]⟩ = mkB (numT n)) := show _ = _ by
        unfold numT
        rw [if_neg h0, if_pos h1, show (⟨#[40, 48, 32, 45, 32]⟩ : ByteArray) = mkB [40, 48, 32, 45, 32] from rfl, mkB_app, mkB_one]
      have hn' : okN (-n) := by unfold okN at *; omega
      have HI := Lib.hid (itoa_at (-n) hn' w ht)
      have hl : (mkB (Lib.itoa (-n))).size ≤ 21 := itoa_len (-n) hn'.1 hn'.2
      have e1 : wrap64 (-n) = -n := by unfold wrap64 okN at *; omega
      clear ht hn hn' h0
      go_enter Tryd.func39, Tryd.ntmps39
      go_wp2_with (go_at_call 60; (with_reducible refine HI.out.mono ?_); rintro x w1 ⟨rfl, hb1⟩)
      go_ret
      exact ⟨by rw [← HV.out]; rfl, hb1⟩
    · have HV : Hid (numT n = Lib.itoa n) := show _ = _ by
        unfold numT
        rw [if_neg h0, if_neg h1]
      have HI := Lib.hid (itoa_at n hn w ht)
      clear ht hn h0
      go_enter Tryd.func39, Tryd.ntmps39
      go_wp2_with (go_at_call 60; (with_reducible refine HI.out.mono ?_); rintro x w1 ⟨rfl, hb1⟩)
      go_ret
      exact ⟨by rw [HV.out]; rfl, hb1⟩
theorem join_joinC : ∀ (xs : List (List UInt8)), ([44, 32] : List UInt8).intercalate xs = joinC xs := by
  intro xs
  induction xs with
  | nil => rfl
  | cons x xs ih =>
    cases xs with
    | nil => simp [joinC, List.intercalate]
    | cons y r =>
      rw [show joinC (x :: y :: r) = x ++ [44, 32] ++ joinC (y :: r) from rfl, ← ih]
      simp [List.intercalate, List.intersperse]
theorem strs_join (xs : List (List UInt8)) (A : Option Addr) (c : Nat) (w : World) (hr : ∀ (j : Nat) (x : List UInt8), xs[j]? = some x → ∃ b off, A = some ⟨b, off, none⟩ ∧ w.cell? ⟨b, off + j, none⟩ = some (.string (mkB x))) (hc : xs.length ≤ c) (hN : xs.length ≤ 10000000) (hlen : (joinC xs).length ≤ 1000000) :
    Calls Tryd.prog 20 #[.slice A xs.length c, .string ⟨#[44, 32]⟩] w (Ret (strV (joinC xs)) w) := by
  have hm : (xs.map mkB).map (·.data.toList) = xs := by rw [List.map_map]; exact (List.map_congr_left (fun x _ => by simp [mkB])).trans (List.map_id xs)
  have hj : Lib.join ((xs.map mkB).map (·.data.toList)) (⟨#[44, 32]⟩ : ByteArray).data.toList = joinC xs := by rw [hm]; exact join_joinC xs
  by_cases h0 : xs.length = 0
  · have hx : xs = [] := List.length_eq_zero_iff.1 h0
    subst hx
    refine (Tryd.strings_Join_none A c ⟨#[44, 32]⟩ w).mono ?_
    rintro e w' ⟨rfl, rfl⟩
    exact ⟨rfl, Below.refl _ _⟩
  · obtain ⟨b, off, rfl, h1⟩ := hr 0 xs[0] (List.getElem?_eq_getElem (by omega))
    have hbk := World.block_lt_of_cell? w _ h1
    have := Tryd.strings_Join b off c (xs.map mkB) ⟨#[44, 32]⟩ w ?_ hbk (by simpa using by omega) (by simpa using hc) (by rw [hj]; omega)
    · rw [List.length_map] at this
      refine this.mono ?_
      rintro e w' ⟨rfl, hb⟩
      exact ⟨by rw [hj]; rfl, hb⟩
    · intro j x hx
      rw [List.getElem?_map] at hx
      obtain ⟨y, hy, rfl⟩ := Option.map_eq_some_iff.1 hx
      obtain ⟨b', off', e, hc'⟩ := hr j y hy
      simp only [Option.some.injEq, Addr.mk.injEq, and_true] at e
      obtain ⟨rfl, rfl⟩ := e
      exact hc'
theorem strInfo' : (Tryd.prog.info? 9).map (fun i => (i.zero, i.size, i.bytes)) = some (some (.string ⟨#[]⟩), 1, 16) := by kernel_rfl
def ShowExprC (e : PExpr) : Prop := ∀ (S : Nat → Prop) (A : Option Addr) (c : Nat) (w : World), TabAt w → RdE w S e.kids A → Calls Tryd.prog 17 #[exprV e A c] w (Ret (strV (textE e)) w)
set_option maxHeartbeats 1000000 in
set_option maxRecDepth 100000 in
theorem kid_any (k : PExpr) (least : Int) (t : List UInt8) (A : Option Addr) (c : Nat) (w : World) (ht : t.length ≤ 1000000)
    (hE : ∀ w', Below w.heap.size w w' → Calls Tryd.prog 17 #[exprV k A c] w' (Ret (strV t) w')) :
    Calls Tryd.prog 41 #[exprV k A c, .int .i64 least] w (Ret (strV (wrapT k least t)) w) := by
  have HE := Lib.hid hE
  have htl : (mkB t).size ≤ 1000000 := by rw [mkB_len]; exact ht
  clear hE
  unfold exprV strV at *
  by_cases hk : k.kind = xTwo
  · have g0 : ((mkB k.kind).toList == [116, 119, 111]) = true := by rw [mkB_toList, hk]; rfl
    obtain ⟨L, hL⟩ : ∃ L, levelP k.name = L := ⟨_, rfl⟩
    have HLV := Lib.hid (fun w => level_any k.name w)
    rw [hL] at HLV
    by_cases hl : L < least
    · have HW : Hid (wrapT k least t = [40] ++ t ++ [41]) := show wrapT k least t = _ by unfold wrapT; rw [if_pos ⟨hk, by rw [hL]; exact hl⟩]
      have HV : Hid ((⟨#[40]⟩ : ByteArray) ++ mkB t ++ ⟨#[41]⟩ = mkB ([40] ++ t ++ [41])) := show _ = _ by
        rw [show (⟨#[40]⟩ : ByteArray) = mkB [40] from rfl, mkB_app, mkB_one]
      clear hk hL
      go_enter Tryd.func41, Tryd.ntmps41
      go_wp2_with (first
        | (go_at_call 43; (with_reducible refine (HLV.out _).mono ?_); rintro x w1 ⟨rfl, hb1⟩; have b0 := Keeps.of_below hb1 _ _ (cell_of_row _ _ 0 _ _ _ (heap_alloc_new w (.cells #[.string (mkB k.kind), .int .i64 k.num, .string (mkB k.name), .slice A k.kids.length c] 46))); have b1 := Keeps.of_below hb1 _ _ (cell_of_row _ _ 1 _ _ _ (heap_alloc_new w (.cells #[.string (mkB k.kind), .int .i64 k.num, .string (mkB k.name), .slice A k.kids.length c] 46))); have b2 := Keeps.of_below hb1 _ _ (cell_of_row _ _ 2 _ _ _ (heap_alloc_new w (.cells #[.string (mkB k.kind), .int .i64 k.num, .string (mkB k.name), .slice A k.kids.length c] 46))); have b3 := Keeps.of_below hb1 _ _ (cell_of_row _ _ 3 _ _ _ (heap_alloc_new w (.cells #[.string (mkB k.kind), .int .i64 k.num, .string (mkB k.name), .slice A k.kids.length c] 46))))
        | (go_at_call 17; (with_reducible refine (HE.out _ (grow_trans (grow_alloc (grow_refl _) _) hb1)).mono ?_); rintro x w2 ⟨rfl, hb2⟩))
      go_ret
      exact ⟨by rw [HW.out, ← HV.out]; rfl, grow_trans (grow_trans (grow_alloc (grow_refl _) _) hb1) hb2⟩
    · have HW : Hid (wrapT k least t = t) := show wrapT k least t = _ by unfold wrapT; rw [if_neg (fun h => hl (by rw [← hL]; exact h.2))]
      clear hk hL
      go_enter Tryd.func41, Tryd.ntmps41
      go_wp2_with (first
        | (go_at_call 43; (with_reducible refine (HLV.out _).mono ?_); rintro x w1 ⟨rfl, hb1⟩; have b0 := Keeps.of_below hb1 _ _ (cell_of_row _ _ 0 _ _ _ (heap_alloc_new w (.cells #[.string (mkB k.kind), .int .i64 k.num, .string (mkB k.name), .slice A k.kids.length c] 46))); have b1 := Keeps.of_below hb1 _ _ (cell_of_row _ _ 1 _ _ _ (heap_alloc_new w (.cells #[.string (mkB k.kind), .int .i64 k.num, .string (mkB k.name), .slice A k.kids.length c] 46))); have b2 := Keeps.of_below hb1 _ _ (cell_of_row _ _ 2 _ _ _ (heap_alloc_new w (.cells #[.string (mkB k.kind), .int .i64 k.num, .string (mkB k.name), .slice A k.kids.length c] 46))); have b3 := Keeps.of_below hb1 _ _ (cell_of_row _ _ 3 _ _ _ (heap_alloc_new w (.cells #[.string (mkB k.kind), .int .i64 k.num, .string (mkB k.name), .slice A k.kids.length c] 46))))
        | (go_at_call 17; (with_reducible refine (HE.out _ (grow_trans (grow_alloc (grow_refl _) _) hb1)).mono ?_); rintro x w2 ⟨rfl, hb2⟩))
      go_ret
      exact ⟨by rw [HW.out]; rfl, grow_trans (grow_trans (grow_alloc (grow_refl _) _) hb1) hb2⟩
  · have g0 : ((mkB k.kind).toList == [116, 119, 111]) = false := by rw [mkB_toList]; exact beq_eq_false_iff_ne.2 hk
    have HW : Hid (wrapT k least t = t) := show wrapT k least t = _ by unfold wrapT; rw [if_neg (fun h => hk h.1)]
    clear hk
    go_enter Tryd.func41, Tryd.ntmps41
    go_wp2_with (first
      | (go_at_call 17; (with_reducible refine (HE.out _ (grow_alloc (grow_refl _) _)).mono ?_); rintro x w1 ⟨rfl, hb1⟩))
    go_ret
    exact ⟨by rw [HW.out]; rfl, grow_trans (grow_alloc (grow_refl _) _) hb1⟩
set_option maxHeartbeats 1000000 in
set_option maxRecDepth 100000 in
theorem joined_any (ks : List PExpr) (S : Nat → Prop) (A : Option Addr) (c : Nat) (w : World) (ht : TabAt w) (hr : RdE w S ks A) (hl : (joinC (ks.map textE)).length ≤ 1000000) (ih : ∀ k ∈ ks, ShowExprC k) :
    Calls Tryd.prog 40 #[.slice A ks.length c] w (Ret (strV (joinC (ks.map textE))) w) := by
  have hcnt : ks.length ≤ 1000001 := by have := joinC_count (ks.map textE); rw [List.length_map] at this; omega
  have HR := Lib.hid hr
  have HI := Lib.hid ih
  have HTB := Lib.hid ht
  have HLK : Hid (∀ t ∈ ks.map textE, t.length ≤ 1000000) := fun t ht => by have := joinC_mem_len (ks.map textE) t ht; omega
  obtain ⟨ti, hi, hz0, hz1, hz2⟩ := info_parts strInfo'
  clear hr ih ht
  unfold strV
  go_enter Tryd.func40, Tryd.ntmps40
  go_wp2_with fail
  go_loopw [3, 5, 8] (fun v _ i wr => ∃ k : Nat, k ≤ ks.length ∧ i = .int .i64 k ∧ wr.ownsRow w.heap.size 9 1 v k (((ks.map textE).take k).map strV) ∧ Below w.heap.size w wr) (fun _ _ i _ => ks.length - (intOf i).toNat)
  case atStart => exact ⟨0, by omega, rfl, World.ownsRow_nil _ _ _ _, Below.refl _ _⟩
  case round =>
    obtain ⟨k, hk, rfl, hO, hW⟩ := hrel
    by_cases hlt : k < ks.length
    · obtain ⟨b, off, B, d, rfl, -, hcells, hnum, hkid⟩ := (HR.out.keep ((Keeps.of_below hW).in S) (fun _ h => h)).at hlt
      obtain ⟨c0, c1, c2, c3⟩ := cells_expr hcells
      have hlt' : (k : Int) < (ks.length : Int) := by omega
      have HK : Hid (∀ w', Below wr.heap.size wr w' → Calls Tryd.prog 17 #[exprV ks[k] B d] w' (Ret (strV (textE ks[k])) w')) := fun w' hb => HI.out _ (List.getElem_mem hlt) S B d w' (HTB.out.keep (grow_trans hW hb)) (hkid.keep ((Keeps.of_below hb).in _) (fun _ h => h))
      unfold exprV strV at HK
      have hst : ((ks.map textE).take (k + 1)).map strV = ((ks.map textE).take k).map strV ++ [strV (textE ks[k])] := by
        rw [List.take_succ_eq_append_getElem (by simpa using hlt), List.map_append, List.getElem_map]; rfl
      have HST := Lib.hid hst
      have HW := Lib.hid hW
      have HO := Lib.hid hO
      clear hO hcells hkid hnum hst hW
      go_wp2_with (first
        | (go_at_call 17; (with_reducible refine (HK.out _ (grow_alloc (grow_refl _) _)).mono ?_); rintro x w1 ⟨rfl, hb1⟩)
        | (at_builtin; refine wpList_append_own _ rfl _ _ 34 rfl w.heap.size 9 ti _ 1 16 Tryd.underlying34 hi hz0 hz1 hz2 rfl (by decide) _ _ _ rfl ((ownsRow_below HO.out (grow_trans (grow_alloc (grow_refl _) _) hb1)).alloc _) ⟨w1.heap.size, 0, none⟩ 1 1 [strV (textE ks[k])] rfl rfl ?c1 ?c2 ?c3 ?c4 ?c5 ?_))
      case c1 =>
        intro i u hu
        match i, hu with
        | 0, hu => simp at hu; subst hu; simp [Addr.add, strV]
      case c2 => intro u hu; simp at hu; subst hu; rfl
      case c3 => unfold maxLen; omega
      case c4 => omega
      case c5 => have := HW.out.size; have := hb1.size; simp at *; omega
      · intro v' w2 hown' hgrow _
        have HO2 : Hid (w2.ownsRow w.heap.size 9 1 v' (k + 1) (((ks.map textE).take (k + 1)).map strV)) := by
          show w2.ownsRow _ _ _ _ _ _
          rw [HST.out]
          simpa using hown'
        have HB2 : Hid (Below w.heap.size w w2) := show _ from Below.grown ((grow_trans HW.out (grow_trans (grow_alloc (grow_refl _) _) hb1)).alloc (by have := HW.out.size; have := hb1.size; simp at *; omega) _) hgrow (by simp; have := HW.out.size; have := hb1.size; simp at *; omega) (fun k hk => (HO.out.lt k hk).1)
        clear hown' hgrow
        go_wp2_with fail
        go_roundw
        case rel => exact ⟨k + 1, by omega, by go_num, HO2.out, HB2.out⟩
        case measure => simp [intOf]; omega
    · have hk' : k = ks.length := by omega
      subst hk'
      obtain ⟨A', c', rfl, hA⟩ := owns_at hO
      have hcap : ks.length ≤ c' := by
        rcases hO.2 with ⟨q, h0⟩ | ⟨g, cp, cur, q, _, _, hc, _⟩
        · injection q with _ _ q; omega
        · injection q with _ _ q; omega
      have hall : ((ks.map textE).take ks.length) = ks.map textE := by rw [← List.length_map (f := textE), List.take_length]
      rw [hall] at hA
      have hj := strs_join (ks.map textE) A' c' wr (fun j x hx => by
        have hlt : j < ks.length := by have := (List.getElem?_eq_some_iff.1 hx).1; simpa using this
        obtain ⟨g, rfl, _, _, hcell⟩ := hA (by omega)
        exact ⟨g, 0, rfl, by rw [Nat.zero_add]; exact hcell j _ (by rw [List.getElem?_map, hx]; rfl)⟩) (by simpa using hcap) (by simp; omega) hl
      rw [List.length_map] at hj
      unfold strV at hj
      have HJ := Lib.hid hj
      clear hO hj hA hall
      go_wp2_with (go_at_call 20; (with_reducible refine HJ.out.mono ?_); rintro x w1 ⟨rfl, hb1⟩)
      go_ret
      exact ⟨rfl, grow_trans hW hb1⟩
end Go.Proofs.YtidhplpidkgkdaaDoor
