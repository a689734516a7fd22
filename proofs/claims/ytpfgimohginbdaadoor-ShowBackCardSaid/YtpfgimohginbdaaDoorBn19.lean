import Derived.OwnWalk
import Derived.Laws.OwnMore
import Derived.Shelf.RegionOpenPlain
import Derived.Lib.Builder
import Derived.Lib.AppendStr
import Derived.Lib.UnsafeStr
import Derived.Laws.Externs
import Derived.Test.YtpfgimohginbdaaDoorBn17
import Derived.Test.YtpfgimohginbdaaDoorBn18
set_option linter.unusedVariables false
set_option linter.unusedSimpArgs false
namespace Go.Proofs.YtpfgimohginbdaaDoor
open Go.RowKit

/-- strconv's table is laid. -/
def TabAt (w : World) : Prop := ∃ w0, Lib.TabBelow Tryd.prog w0.heap.size w0 "internal/strconv.uint64pow10" .u64 Lib.pow10Tab ∧ Below w0.heap.size w0 w
theorem TabAt.keep {w w' : World} (h : TabAt w) (hb : Below w.heap.size w w') : TabAt w' := by
  obtain ⟨w0, h0, h1⟩ := h
  exact ⟨w0, h0, grow_trans h1 hb⟩
theorem itoa_at (n : Int) (hn : okN n) (w : World) (h : TabAt w) : Calls Tryd.prog 46 #[.int .i64 n] w (Ret (.string (mkB (Lib.itoa n))) w) := by
  obtain ⟨w0, h0, h1⟩ := h
  exact itoa_any' n hn.1 hn.2 w0 w h0 h1
theorem itoa_max : Lib.itoa 9223372036854775807 = [57, 50, 50, 51, 51, 55, 50, 48, 51, 54, 56, 53, 52, 55, 55, 53, 56, 48, 55] := by
  decide +kernel
theorem shNumber_any (n : Int) (hn : okN n) (w : World) (ht : TabAt w) : Calls Tryd.prog 29 #[.int .i64 n] w (Ret (strV (numT n)) w) := by
  unfold strV
  by_cases h0 : n = -9223372036854775808
  · subst h0
    have HI := Lib.hid (itoa_at 9223372036854775807 (by unfold okN; omega) w ht)
    rw [itoa_max] at HI
    have HV : Hid ((⟨#[40, 48, 32, 45, 32]⟩ : ByteArray) ++ mkB [57, 50, 50, 51, 51, 55, 50, 48, 51, 54, 56, 53, 52, 55, 55, 53, 56, 48, 55] ++ ⟨#[32, 45, 32, 49, 41]⟩ = mkB (numT (-9223372036854775808))) := show _ = _ from rfl
    clear ht hn
    go_enter Tryd.func29, Tryd.ntmps29
    go_wp2_with (go_at_call 46; (with_reducible refine HI.out.mono ?_); rintro x w1 ⟨rfl, hb1⟩)
    go_ret
    exact ⟨by rw [← HV.out]; rfl, hb1⟩
  · have q0 : (n == -9223372036854775808) = false := beq_eq_false_iff_ne.2 h0
    by_cases h1 : n < 0
    · have HV : Hid ((⟨#[40, 48, 32, 45, 32]⟩ : ByteArray) ++ mkB (Lib.itoa (-n)) ++ ⟨#[41]⟩ = mkB (numT n)) := show _ = _ by
        unfold numT
        rw [if_neg h0, if_pos h1, show (⟨#[40, 48, 32, 45, 32]⟩ : ByteArray) = mkB [40, 48, 32, 45, 32] from rfl, mkB_app, mkB_one]
      have hn' : okN (-n) := by unfold okN at *; omega
      have HI := Lib.hid (itoa_at (-n) hn' w ht)
      have hl : (mkB (Lib.itoa (-n))).size ≤ 21 := itoa_len (-n) hn'.1 hn'.2
      have e1 : wrap64 (-n) = -n := by unfold wrap64 okN at *; omega
      clear ht hn hn' h0
      go_enter Tryd.func29, Tryd.ntmps29
      go_wp2_with (go_at_call 46; (with_reducible refine HI.out.mono ?_); rintro x w1 ⟨rfl, hb1⟩)
      go_ret
      exact ⟨by rw [← HV.out]; rfl, hb1⟩
    · have HV : Hid (numT n = Lib.itoa n) := show _ = _ by
        unfold numT
        rw [if_neg h0, if_neg h1]
      have HI := Lib.hid (itoa_at n hn w ht)
      clear ht hn h0
      go_enter Tryd.func29, Tryd.ntmps29
      go_wp2_with (go_at_call 46; (with_reducible refine HI.out.mono ?_); rintro x w1 ⟨rfl, hb1⟩)
      go_ret
      exact ⟨by rw [HV.out]; rfl, hb1⟩
theorem join_joinC : ∀ (xs : List (List UInt8)), ([44, 32] : List UInt8).intercalate xs = joinC xs := by
  intro xs
  induction xs with
  | nil => rfl
  | cons x xs ih =>
    cases xs with
    | nil => simp [joinC, List.intercalate]
    | cons y r =>
      rw [show joinC (x :: y :: r) = x ++ [44, 32] ++ joinC (y :: r) from rfl, ← ih]
      simp [List.intercalate, List.intersperse]
theorem strs_join (xs : List (List UInt8)) (A : Option Addr) (c : Nat) (w : World) (hr : ∀ (j : Nat) (x : List UInt8), xs[j]? = some x → ∃ b off, A = some ⟨b, off, none⟩ ∧ w.cell? ⟨b, off + j, none⟩ = some (.string (mkB x))) (hc : xs.length ≤ c) (hN : xs.length ≤ 10000000) (hlen : (joinC xs).length ≤ 1000000) :
    Calls Tryd.prog 16 #[.slice A xs.length c, .string ⟨#[44, 32]⟩] w (Ret (strV (joinC xs)) w) := by
  have hm : (xs.map mkB).map (·.data.toList) = xs := by rw [List.map_map]; exact (List.map_congr_left (fun x _ => by simp [mkB])).trans (List.map_id xs)
  have hj : Lib.join ((xs.map mkB).map (·.data.toList)) (⟨#[44, 32]⟩ : ByteArray).data.toList = joinC xs := by rw [hm]; exact join_joinC xs
  by_cases h0 : xs.length = 0
  · have hx : xs = [] := List.length_eq_zero_iff.1 h0
    subst hx
    refine (Tryd.strings_Join_none A c ⟨#[44, 32]⟩ w).mono ?_
    rintro e w' ⟨rfl, rfl⟩
    exact ⟨rfl, Below.refl _ _⟩
  · obtain ⟨b, off, rfl, h1⟩ := hr 0 xs[0] (List.getElem?_eq_getElem (by omega))
    have hbk := World.block_lt_of_cell? w _ h1
    have := Tryd.strings_Join b off c (xs.map mkB) ⟨#[44, 32]⟩ w ?_ hbk (by simpa using by omega) (by simpa using hc) (by rw [hj]; omega)
    · rw [List.length_map] at this
      refine this.mono ?_
      rintro e w' ⟨rfl, hb⟩
      exact ⟨by rw [hj]; rfl, hb⟩
    · intro j x hx
      rw [List.getElem?_map] at hx
      obtain ⟨y, hy, rfl⟩ := Option.map_eq_some_iff.1 hx
      obtain ⟨b', off', e, hc'⟩ := hr j y hy
      simp only [Option.some.injEq, Addr.mk.injEq, and_true] at e
      obtain ⟨rfl, rfl⟩ := e
      exact hc'
theorem strInfo' : (Tryd.prog.info? 9).map (fun i => (i.zero, i.size, i.bytes)) = some (some (.string ⟨#[]⟩), 1, 16) := by kernel_rfl
def ShowExprC (e : PExpr) : Prop := ∀ (S : Nat → Prop) (A : Option Addr) (c : Nat) (w : World), TabAt w → RdE w S e.kids A → Calls Tryd.prog 14 #[exprV e A c] w (Ret (strV (textE e)) w)
set_option maxHeartbeats 1000000 in
set_option maxRecDepth 100000 in
theorem kid_any (k : PExpr) (least : Int) (t : List UInt8) (A : Option Addr) (c : Nat) (w : World) (ht : t.length ≤ 1000000)
    (hE : ∀ w', Below w.heap.size w w' → Calls Tryd.prog 14 #[exprV k A c] w' (Ret (strV t) w')) :
    Calls Tryd.prog 31 #[exprV k A c, .int .i64 least] w (Ret (strV (wrapT k least t)) w) := by
  have HE := Lib.hid hE
  have htl : (mkB t).size ≤ 1000000 := by rw [mkB_len]; exact ht
  clear hE
  unfold exprV strV at *
  by_cases hk : k.kind = xTwo
  · have g0 : ((mkB k.kind).toList == [116, 119, 111]) = true := by rw [mkB_toList, hk]; rfl
    obtain ⟨L, hL⟩ : ∃ L, levelP k.name = L := ⟨_, rfl⟩
    have HLV := Lib.hid (fun w => level_any k.name w)
    rw [hL] at HLV
    by_cases hl : L < least
    · have HW : Hid (wrapT k least t = [40] ++ t ++ [41]) := show wrapT k least t = _ by unfold wrapT; rw [if_pos ⟨hk, by rw [hL]; exact hl⟩]
      have HV : Hid ((⟨#[40]⟩ : ByteArray) ++ mkB t ++ ⟨#[41]⟩ = mkB ([40] ++ t ++ [41])) := show _ = _ by
        rw [show (⟨#[40]⟩ : ByteArray) = mkB [40] from rfl, mkB_app, mkB_one]
      clear hk hL
      go_enter Tryd.func31, Tryd.ntmps31
      go_wp2_with (first
        | (go_at_call 33; (with_reducible refine (HLV.out _).mono ?_); rintro x w1 ⟨rfl, hb1⟩; have b0 := Keeps.of_below hb1 _ _ (cell_of_row _ _ 0 _ _ _ (heap_alloc_new w (.cells #[.string (mkB k.kind), .int .i64 k.num, .string (mkB k.name), .slice A k.kids.length c] 42))); have b1 := Keeps.of_below hb1 _ _ (cell_of_row _ _ 1 _ _ _ (heap_alloc_new w (.cells #[.string (mkB k.kind), .int .i64 k.num, .string (mkB k.name), .slice A k.kids.length c] 42))); have b2 := Keeps.of_below hb1 _ _ (cell_of_row _ _ 2 _ _ _ (heap_alloc_new w (.cells #[.string (mkB k.kind), .int .i64 k.num, .string (mkB k.name), .slice A k.kids.length c] 42))); have b3 := Keeps.of_below hb1 _ _ (cell_of_row _ _ 3 _ _ _ (heap_alloc_new w (.cells #[.string (mkB k.kind), .int .i64 k.num, .string (mkB k.name), .slice A k.kids.length c] 42))))
        | (go_at_call 14; (with_reducible refine (HE.out _ (grow_trans (grow_alloc (grow_refl _) _) hb1)).mono ?_); rintro x w2 ⟨rfl, hb2⟩))
      go_ret
      exact ⟨by rw [HW.out, ← HV.out]; rfl, grow_trans (grow_trans (grow_alloc (grow_refl _) _) hb1) hb2⟩
    · have HW : Hid (wrapT k least t = t) := show wrapT k least t = _ by unfold wrapT; rw [if_neg (fun h => hl (by rw [← hL]; exact h.2))]
      clear hk hL
      go_enter Tryd.func31, Tryd.ntmps31
      go_wp2_with (first
        | (go_at_call 33; (with_reducible refine (HLV.out _).mono ?_); rintro x w1 ⟨rfl, hb1⟩; have b0 := Keeps.of_below hb1 _ _ (cell_of_row _ _ 0 _ _ _ (heap_alloc_new w (.cells #[.string (mkB k.kind), .int .i64 k.num, .string (mkB k.name), .slice A k.kids.length c] 42))); have b1 := Keeps.of_below hb1 _ _ (cell_of_row _ _ 1 _ _ _ (heap_alloc_new w (.cells #[.string (mkB k.kind), .int .i64 k.num, .string (mkB k.name), .slice A k.kids.length c] 42))); have b2 := Keeps.of_below hb1 _ _ (cell_of_row _ _ 2 _ _ _ (heap_alloc_new w (.cells #[.string (mkB k.kind), .int .i64 k.num, .string (mkB k.name), .slice A k.kids.length c] 42))); have b3 := Keeps.of_below hb1 _ _ (cell_of_row _ _ 3 _ _ _ (heap_alloc_new w (.cells #[.string (mkB k.kind), .int .i64 k.num, .string (mkB k.name), .slice A k.kids.length c] 42))))
        | (go_at_call 14; (with_reducible refine (HE.out _ (grow_trans (grow_alloc (grow_refl _) _) hb1)).mono ?_); rintro x w2 ⟨rfl, hb2⟩))
      go_ret
      exact ⟨by rw [HW.out]; rfl, grow_trans (grow_trans (grow_alloc (grow_refl _) _) hb1) hb2⟩
  · have g0 : ((mkB k.kind).toList == [116, 119, 111]) = false := by rw [mkB_toList]; exact beq_eq_false_iff_ne.2 hk
    have HW : Hid (wrapT k least t = t) := show wrapT k least t = _ by unfold wrapT; rw [if_neg (fun h => hk h.1)]
    clear hk
    go_enter Tryd.func31, Tryd.ntmps31
    go_wp2_with (first
      | (go_at_call 14; (with_reducible refine (HE.out _ (grow_alloc (grow_refl _) _)).mono ?_); rintro x w1 ⟨rfl, hb1⟩))
    go_ret
    exact ⟨by rw [HW.out]; rfl, grow_trans (grow_alloc (grow_refl _) _) hb1⟩
set_option maxHeartbeats 1000000 in
set_option maxRecDepth 100000 in
theorem joined_any (ks : List PExpr) (S : Nat → Prop) (A : Option Addr) (c : Nat) (w : World) (ht : TabAt w) (hr : RdE w S ks A) (hl : (joinC (ks.map textE)).length ≤ 1000000) (ih : ∀ k ∈ ks, ShowExprC k) :
    Calls Tryd.prog 30 #[.slice A ks.length c] w (Ret (strV (joinC (ks.map textE))) w) := by
  have hcnt : ks.length ≤ 1000001 := by have := joinC_count (ks.map textE); rw [List.length_map] at this; omega
  have HR := Lib.hid hr
  have HI := Lib.hid ih
  have HTB := Lib.hid ht
  have HLK : Hid (∀ t ∈ ks.map textE, t.length ≤ 1000000) := fun t ht => by have := joinC_mem_len (ks.map textE) t ht; omega
  obtain ⟨ti, hi, hz0, hz1, hz2⟩ := info_parts strInfo'
  clear hr ih ht
  unfold strV
  go_enter Tryd.func30, Tryd.ntmps30
  go_wp2_with fail
  go_loopw [3, 5, 8] (fun v _ i wr => ∃ k : Nat, k ≤ ks.length ∧ i = .int .i64 k ∧ wr.ownsRow w.heap.size 9 1 v k (((ks.map textE).take k).map strV) ∧ Below w.heap.size w wr) (fun _ _ i _ => ks.length - (intOf i).toNat)
  case atStart => exact ⟨0, by omega, rfl, World.ownsRow_nil _ _ _ _, Below.refl _ _⟩
  case round =>
    obtain ⟨k, hk, rfl, hO, hW⟩ := hrel
    by_cases hlt : k < ks.length
    · obtain ⟨b, off, B, d, rfl, -, hcells, hnum, hkid⟩ := (HR.out.keep ((Keeps.of_below hW).in S) (fun _ h => h)).at hlt
      obtain ⟨c0, c1, c2, c3⟩ := cells_expr hcells
      have hlt' : (k : Int) < (ks.length : Int) := by omega
      have HK : Hid (∀ w', Below wr.heap.size wr w' → Calls Tryd.prog 14 #[exprV ks[k] B d] w' (Ret (strV (textE ks[k])) w')) := fun w' hb => HI.out _ (List.getElem_mem hlt) S B d w' (HTB.out.keep (grow_trans hW hb)) (hkid.keep ((Keeps.of_below hb).in _) (fun _ h => h))
      unfold exprV strV at HK
      have hst : ((ks.map textE).take (k + 1)).map strV = ((ks.map textE).take k).map strV ++ [strV (textE ks[k])] := by
        rw [List.take_succ_eq_append_getElem (by simpa using hlt), List.map_append, List.getElem_map]; rfl
      have HST := Lib.hid hst
      have HW := Lib.hid hW
      have HO := Lib.hid hO
      clear hO hcells hkid hnum hst hW
      go_wp2_with (first
        | (go_at_call 14; (with_reducible refine (HK.out _ (grow_alloc (grow_refl _) _)).mono ?_); rintro x w1 ⟨rfl, hb1⟩)
        | (at_builtin; refine wpList_append_own _ rfl _ _ 36 rfl w.heap.size 9 ti _ 1 16 Tryd.underlying36 hi hz0 hz1 hz2 rfl (by decide) _ _ _ rfl ((ownsRow_below HO.out (grow_trans (grow_alloc (grow_refl _) _) hb1)).alloc _) ⟨w1.heap.size, 0, none⟩ 1 1 [strV (textE ks[k])] rfl rfl ?c1 ?c2 ?c3 ?c4 ?c5 ?_))
      case c1 =>
        intro i u hu
        match i, hu with
        | 0, hu => simp at hu; subst hu; simp [Addr.add, strV]
      case c2 => intro u hu; simp at hu; subst hu; rfl
      case c3 => unfold maxLen; omega
      case c4 => omega
      case c5 => have := HW.out.size; have := hb1.size; simp at *; omega
      · intro v' w2 hown' hgrow _
        have HO2 : Hid (w2.ownsRow w.heap.size 9 1 v' (k + 1) (((ks.map textE).take (k + 1)).map strV)) := by
          show w2.ownsRow _ _ _ _ _ _
          rw [HST.out]
          simpa using hown'
        have HB2 : Hid (Below w.heap.size w w2) := show _ from Below.grown ((grow_trans HW.out (grow_trans (grow_alloc (grow_refl _) _) hb1)).alloc (by have := HW.out.size; have := hb1.size; simp at *; omega) _) hgrow (by simp; have := HW.out.size; have := hb1.size; simp at *; omega) (fun k hk => (HO.out.lt k hk).1)
        clear hown' hgrow
        go_wp2_with fail
        go_roundw
        case rel => exact ⟨k + 1, by omega, by go_num, HO2.out, HB2.out⟩
        case measure => simp [intOf]; omega
    · have hk' : k = ks.length := by omega
      subst hk'
      obtain ⟨A', c', rfl, hA⟩ := owns_at hO
      have hcap : ks.length ≤ c' := by
        rcases hO.2 with ⟨q, h0⟩ | ⟨g, cp, cur, q, _, _, hc, _⟩
        · injection q with _ _ q; omega
        · injection q with _ _ q; omega
      have hall : ((ks.map textE).take ks.length) = ks.map textE := by rw [← List.length_map (f := textE), List.take_length]
      rw [hall] at hA
      have hj := strs_join (ks.map textE) A' c' wr (fun j x hx => by
        have hlt : j < ks.length := by have := (List.getElem?_eq_some_iff.1 hx).1; simpa using this
        obtain ⟨g, rfl, _, _, hcell⟩ := hA (by omega)
        exact ⟨g, 0, rfl, by rw [Nat.zero_add]; exact hcell j _ (by rw [List.getElem?_map, hx]; rfl)⟩) (by simpa using hcap) (by simp; omega) hl
      rw [List.length_map] at hj
      unfold strV at hj
      have HJ := Lib.hid hj
      clear hO hj hA hall
      go_wp2_with (go_at_call 16; (with_reducible refine HJ.out.mono ?_); rintro x w1 ⟨rfl, hb1⟩)
      go_ret
      exact ⟨rfl, grow_trans hW hb1⟩
end Go.Proofs.YtpfgimohginbdaaDoor

namespace Go.Proofs.YtpfgimohginbdaaDoor
open Go.RowKit

/-! all numbers in range -/
inductive OkE : PExpr → Prop
  | mk (e : PExpr) (hn : okN e.num) (hk : ∀ k ∈ e.kids, OkE k) : OkE e
theorem OkE.num {e : PExpr} (h : OkE e) : okN e.num := by cases h; assumption
theorem OkE.kid {e : PExpr} (h : OkE e) : ∀ k ∈ e.kids, OkE k := by cases h; assumption
theorem RdE.ok {w : World} {S : Nat → Prop} {ks : List PExpr} {A : Option Addr} (h : RdE w S ks A) : ∀ k ∈ ks, OkE k := by
  induction h with
  | mk ks A b off B c hA hc hn hk ih =>
    intro k hm
    obtain ⟨i, hi, rfl⟩ := List.getElem_of_mem hm
    exact ⟨_, hn i hi, ih i hi⟩
/-- A statement whose text is to be had, so deep. -/
inductive TxS : Nat → PStmt → Prop
  | mk (d : Nat) (s : PStmt) (hd : d ≤ 100) (hk : s.kind.length ≤ 20) (hn : s.name.length ≤ 20) (ho : OkE s.e) (he : (textE s.e).length ≤ 1000000) (ht : s.th.length ≤ 3000) (hl : s.el.length ≤ 3000) (hts : ∀ k ∈ s.th, TxS (d + 1) k) (hls : ∀ k ∈ s.el, TxS (d + 1) k) : TxS d s
theorem TxS.all {d : Nat} {s : PStmt} (h : TxS d s) : d ≤ 100 ∧ s.kind.length ≤ 20 ∧ s.name.length ≤ 20 ∧ OkE s.e ∧ (textE s.e).length ≤ 1000000 ∧ s.th.length ≤ 3000 ∧ s.el.length ≤ 3000 ∧ (∀ k ∈ s.th, TxS (d + 1) k) ∧ (∀ k ∈ s.el, TxS (d + 1) k) := by
  cases h with
  | mk _ _ a b c d e f g h i => exact ⟨a, b, c, d, e, f, g, h, i⟩
theorem textB_app (d : Nat) : ∀ (a b : List PStmt), textB (a ++ b) d = textB a d ++ textB b d := by
  intro a
  induction a with
  | nil => intro b; rw [textB_nil]; rfl
  | cons s a ih => intro b; rw [List.cons_append, textB_cons, textB_cons, ih, List.append_assoc]
theorem textB_step {ss : List PStmt} {k : Nat} (h : k < ss.length) (d : Nat) : textB (ss.take (k + 1)) d = textB (ss.take k) d ++ textS ss[k] d := by
  rw [List.take_succ_eq_append_getElem h, textB_app, textB_cons, textB_nil, List.append_nil]
theorem textB_take_len (ss : List PStmt) (k d : Nat) : (textB (ss.take k) d).length ≤ (textB ss d).length := by
  have := congrArg List.length (textB_app d (ss.take k) (ss.drop k))
  rw [List.take_append_drop, List.length_append] at this
  omega
def tabsT (n : Nat) : List UInt8 := List.replicate n 9
end Go.Proofs.YtpfgimohginbdaaDoor

namespace Go.Proofs.YtpfgimohginbdaaDoor
open Go.RowKit

set_option maxRecDepth 100000 in
theorem stext_num (e : PExpr) (hn : okN e.num) (hk : e.kind = xNum) : ShowExprC e := by
  intro S A c w ht hr
  have g0 : ((mkB e.kind).toList == [110, 117, 109]) = true := by rw [mkB_toList, hk]; rfl
  have HT : Hid (textE e = numT e.num) := textE_num hk
  have HN : Hid (∀ w', Below w.heap.size w w' → Calls Tryd.prog 29 #[.int .i64 e.num] w' (Ret (.string (mkB (numT e.num))) w')) := fun w' hb => shNumber_any e.num hn w' (ht.keep hb)
  unfold exprV strV
  clear hk hr ht hn
  go_enter Tryd.func14, Tryd.ntmps14
  go_wp2_with (go_at_call 29; (with_reducible refine (HN.out _ (grow_alloc (grow_refl _) _)).mono ?_); rintro x w1 ⟨rfl, hb1⟩)
  go_ret
  exact ⟨by rw [HT.out]; rfl, grow_trans (grow_alloc (grow_refl _) _) hb1⟩
set_option maxRecDepth 100000 in
theorem stext_name (e : PExpr) (hk : e.kind = xName) : ShowExprC e := by
  intro S A c w ht hr
  have g0 : ((mkB e.kind).toList == [110, 117, 109]) = false := by rw [mkB_toList, hk]; rfl
  have g1 : ((mkB e.kind).toList == [110, 97, 109, 101]) = true := by rw [mkB_toList, hk]; rfl
  have HT : Hid (textE e = e.name) := textE_name hk
  unfold exprV strV
  clear hk hr ht
  go_enter Tryd.func14, Tryd.ntmps14
  go_wp2_with fail
  go_ret
  exact ⟨by rw [HT.out]; rfl, grow_alloc (grow_refl _) _⟩
set_option maxRecDepth 100000 in
theorem stext_none (e : PExpr) (h0 : e.kind ≠ xNum) (h1 : e.kind ≠ xName) (h2 : e.kind ≠ xCall) (h3 : e.kind ≠ xOne) (h4 : e.kind ≠ xTwo) : ShowExprC e := by
  intro S A c w ht hr
  have g0 : ((mkB e.kind).toList == [110, 117, 109]) = false := by rw [mkB_toList]; exact beq_eq_false_iff_ne.2 h0
  have g1 : ((mkB e.kind).toList == [110, 97, 109, 101]) = false := by rw [mkB_toList]; exact beq_eq_false_iff_ne.2 h1
  have g2 : ((mkB e.kind).toList == [99, 97, 108, 108]) = false := by rw [mkB_toList]; exact beq_eq_false_iff_ne.2 h2
  have g3 : ((mkB e.kind).toList == [111, 110, 101]) = false := by rw [mkB_toList]; exact beq_eq_false_iff_ne.2 h3
  have g4 : ((mkB e.kind).toList == [116, 119, 111]) = false := by rw [mkB_toList]; exact beq_eq_false_iff_ne.2 h4
  have HT : Hid (textE e = []) := textE_none h0 h1 h2 h3 h4
  unfold exprV strV
  clear h0 h1 h2 h3 h4 hr ht
  go_enter Tryd.func14, Tryd.ntmps14
  go_wp2_with fail
  go_ret
  exact ⟨by rw [HT.out]; rfl, grow_alloc (grow_refl _) _⟩
theorem row4_seen {wr w' : World} (hb : Below wr.heap.size wr w') {q : Nat} {v0 v1 v2 v3 : Value} {T : TypeId} {fz : Nat × Nat} (hrow : wr.heap[q]? = some (.cells #[v0, v1, v2, v3] T fz)) :
    Below wr.heap.size wr w' ∧ w'.cell? ⟨q, 0, none⟩ = some v0 ∧ w'.cell? ⟨q, 1, none⟩ = some v1 ∧ w'.cell? ⟨q, 2, none⟩ = some v2 ∧ w'.cell? ⟨q, 3, none⟩ = some v3 :=
  have hk := Keeps.of_below hb
  ⟨hb, hk _ _ (cell_of_row _ _ 0 _ _ _ hrow), hk _ _ (cell_of_row _ _ 1 _ _ _ hrow), hk _ _ (cell_of_row _ _ 2 _ _ _ hrow), hk _ _ (cell_of_row _ _ 3 _ _ _ hrow)⟩
set_option maxHeartbeats 4000000 in
set_option maxRecDepth 100000 in
theorem stext_call (e : PExpr) (hk : e.kind = xCall) (hl : (textE e).length ≤ 1000000) (ih : ∀ k ∈ e.kids, (textE k).length ≤ 1000000 → ShowExprC k) : ShowExprC e := by
  intro S A c w ht hr
  have g0 : ((mkB e.kind).toList == [110, 117, 109]) = false := by rw [mkB_toList, hk]; rfl
  have g1 : ((mkB e.kind).toList == [110, 97, 109, 101]) = false := by rw [mkB_toList, hk]; rfl
  have g2 : ((mkB e.kind).toList == [99, 97, 108, 108]) = true := by rw [mkB_toList, hk]; rfl
  have hte := textE_call hk
  have IH : ∀ k ∈ e.kids, ShowExprC k := fun k hk' => ih k hk' (kid_len hl hk' (.inl hk))
  rw [hte] at hl
  simp only [List.length_append, List.length_cons, List.length_nil] at hl
  have HJ : Hid (∀ w', Below w.heap.size w w' → Calls Tryd.prog 30 #[.slice A e.kids.length c] w' (Ret (.string (mkB (joinC (e.kids.map textE)))) w')) :=
    fun w' hb => joined_any e.kids S A c w' (ht.keep hb) (hr.keep ((Keeps.of_below hb).in _) (fun _ h => h)) (by omega) IH
  obtain ⟨J, hJ⟩ : ∃ J, joinC (e.kids.map textE) = J := ⟨_, rfl⟩
  rw [hJ] at HJ hte hl
  have hs1 : (mkB J).size ≤ 1000000 := by rw [mkB_len]; omega
  have hln : (mkB e.name).size ≤ 1000000 := by rw [mkB_len]; omega
  have HV : Hid (mkB e.name ++ ⟨#[40]⟩ ++ mkB J ++ ⟨#[41]⟩ = mkB (textE e)) := show _ = _ by rw [mkB_one, mkB_app, mkB_one, hte]
  have HBOX := Lib.hid (heap_alloc_new w (.cells #[.string (mkB e.kind), .int .i64 e.num, .string (mkB e.name), .slice A e.kids.length c] 42))
  unfold exprV strV
  clear hk hr ht ih hte hl hJ IH
  go_enter Tryd.func14, Tryd.ntmps14
  have k1 : ¬ (9223372036854775807 < (mkB e.name).size + 1) := by omega
  have k2 : ¬ (9223372036854775807 < (mkB e.name).size + 1 + (mkB J).size) := by omega
  have k3 : ¬ (9223372036854775807 < (mkB e.name).size + 1 + (mkB J).size + 1) := by omega
  go_upto_region 6 with fail
  have HB0 : Below (w.alloc (.cells #[.string (mkB e.kind), .int .i64 e.num, .string (mkB e.name), .slice A e.kids.length c] 42)).heap.size (w.alloc (.cells #[.string (mkB e.kind), .int .i64 e.num, .string (mkB e.name), .slice A e.kids.length c] 42)) (w.alloc (.cells #[.string (mkB e.kind), .int .i64 e.num, .string (mkB e.name), .slice A e.kids.length c] 42)) := Below.refl _ _
  obtain ⟨wa, hwa⟩ : ∃ wa, w.alloc (.cells #[.string (mkB e.kind), .int .i64 e.num, .string (mkB e.name), .slice A e.kids.length c] 42) = wa := ⟨_, rfl⟩
  have HBA : Hid (Below w.heap.size w wa) := show Below _ _ _ from hwa ▸ grow_alloc (grow_refl _) _
  rw [hwa] at HBOX HB0
  rw [hwa]
  clear hwa
  go_region_held3 (fun w' => Below wa.heap.size wa w' ∧ w'.cell? ⟨w.heap.size, 0, none⟩ = some (.string (mkB e.kind)) ∧ w'.cell? ⟨w.heap.size, 1, none⟩ = some (.int .i64 e.num) ∧ w'.cell? ⟨w.heap.size, 2, none⟩ = some (.string (mkB e.name)) ∧ w'.cell? ⟨w.heap.size, 3, none⟩ = some (.slice A e.kids.length c))
    (((with_reducible refine row4_seen ?_ HBOX.out);
      first
        | (simp only [hB1]; done)
        | (simp only [bel_drew, HB0]; done)))
    (first
      | (go_at_call 30; (with_reducible refine (HJ.out _ (grow_trans HBA.out (by simp only [bel_drew, HB0]))).mono ?_); rintro y w12 ⟨rfl, hbT⟩; have hB1 : Below wa.heap.size wa w12 := grow_trans (by simp only [bel_drew, HB0]) hbT))
  all_goals go_wp2_with fail
  all_goals go_ret
  all_goals exact ⟨by rw [← HV.out]; rfl, grow_trans HBA.out hB1⟩
set_option maxHeartbeats 4000000 in
set_option maxRecDepth 100000 in
theorem stext_one (e : PExpr) (hk : e.kind = xOne) (hl : (textE e).length ≤ 1000000) (ih : ∀ k ∈ e.kids, (textE k).length ≤ 1000000 → ShowExprC k) : ShowExprC e := by
  intro S A c w ht hr
  have g0 : ((mkB e.kind).toList == [110, 117, 109]) = false := by rw [mkB_toList, hk]; rfl
  have g1 : ((mkB e.kind).toList == [110, 97, 109, 101]) = false := by rw [mkB_toList, hk]; rfl
  have g2 : ((mkB e.kind).toList == [99, 97, 108, 108]) = false := by rw [mkB_toList, hk]; rfl
  have g3 : ((mkB e.kind).toList == [111, 110, 101]) = true := by rw [mkB_toList, hk]; rfl
  have g4 : ((mkB e.kind).toList == [116, 119, 111]) = false := by rw [mkB_toList, hk]; rfl
  by_cases h1 : e.kids.length = 1
  · match hh : e.kids, h1 with
    | [k], _ =>
      have hte := textE_one hk hh
      have hkl := kid_len hl (show k ∈ e.kids by rw [hh]; simp) (.inr (.inl ⟨hk, by rw [hh]; rfl⟩))
      rw [hte] at hl
      simp only [List.length_append] at hl
      have hwl : (mkB (wrapT k 8 (textE k))).size ≤ 1000000 := by rw [mkB_len]; omega
      have hln : (mkB e.name).size ≤ 1000000 := by rw [mkB_len]; omega
      have HV : Hid (mkB e.name ++ mkB (wrapT k 8 (textE k)) = mkB (textE e)) := show _ = _ by rw [mkB_app, hte]
      rw [hh] at hr
      obtain ⟨b, off, B, d, rfl, -, hcells, hnum, hkid⟩ := hr.at (i := 0) (by simp)
      simp only [Nat.zero_mul, Nat.add_zero, List.getElem_cons_zero] at hcells hkid
      have IH := ih k (by rw [hh]; simp) hkl
      have HKT : Hid (∀ w', Below w.heap.size w w' → Calls Tryd.prog 31 #[exprV k B d, .int .i64 8] w' (Ret (strV (wrapT k 8 (textE k))) w')) :=
        fun w' hb => kid_any k 8 (textE k) B d w' hkl fun w'' hb' => IH S B d w'' (ht.keep (grow_trans hb hb')) (hkid.keep ((Keeps.of_below (grow_trans hb hb')).in _) (fun _ h => h))
      obtain ⟨W, hW⟩ : ∃ W, wrapT k 8 (textE k) = W := ⟨_, rfl⟩
      rw [hW] at HKT HV hwl
      have HBOX := Lib.hid (heap_alloc_new w (.cells #[.string (mkB e.kind), .int .i64 e.num, .string (mkB e.name), .slice (some ⟨b, off, none⟩) 1 c] 42))
      have HC : Hid (CellsAt (w.alloc (.cells #[.string (mkB e.kind), .int .i64 e.num, .string (mkB e.name), .slice (some ⟨b, off, none⟩) 1 c] 42)) b off (exprL k B d)) := hcells.keep fun a v _ hv => Keeps.alloc _ _ a v hv
      unfold exprV strV at *
      rw [hh, show ([k] : List PExpr).length = 1 from rfl]
      clear hk hr ih hte hcells hkid hnum hh hW hl hkl IH ht
      go_enter Tryd.func14, Tryd.ntmps14
      have k1 : ¬ (9223372036854775807 < (mkB e.name).size + (mkB W).size) := by omega
      go_upto_region 8 with fail
      have HB0 : Below (w.alloc (.cells #[.string (mkB e.kind), .int .i64 e.num, .string (mkB e.name), .slice (some ⟨b, off, none⟩) 1 c] 42)).heap.size (w.alloc (.cells #[.string (mkB e.kind), .int .i64 e.num, .string (mkB e.name), .slice (some ⟨b, off, none⟩) 1 c] 42)) (w.alloc (.cells #[.string (mkB e.kind), .int .i64 e.num, .string (mkB e.name), .slice (some ⟨b, off, none⟩) 1 c] 42)) := Below.refl _ _
      obtain ⟨wa, hwa⟩ : ∃ wa, w.alloc (.cells #[.string (mkB e.kind), .int .i64 e.num, .string (mkB e.name), .slice (some ⟨b, off, none⟩) 1 c] 42) = wa := ⟨_, rfl⟩
      have HBA : Hid (Below w.heap.size w wa) := show Below _ _ _ from hwa ▸ grow_alloc (grow_refl _) _
      rw [hwa] at HBOX HC HB0
      rw [hwa]
      clear hwa
      go_region_held3 (fun w' => Below wa.heap.size wa w' ∧ w'.cell? ⟨w.heap.size, 0, none⟩ = some (.string (mkB e.kind)) ∧ w'.cell? ⟨w.heap.size, 1, none⟩ = some (.int .i64 e.num) ∧ w'.cell? ⟨w.heap.size, 2, none⟩ = some (.string (mkB e.name)) ∧ w'.cell? ⟨w.heap.size, 3, none⟩ = some (.slice (some ⟨b, off, none⟩) 1 c) ∧
          w'.cell? ⟨b, off, none⟩ = some (.string (mkB k.kind)) ∧ w'.cell? ⟨b, off + 1, none⟩ = some (.int .i64 k.num) ∧ w'.cell? ⟨b, off + 2, none⟩ = some (.string (mkB k.name)) ∧ w'.cell? ⟨b, off + 3, none⟩ = some (.slice B k.kids.length d))
        (((with_reducible refine one_seen ?_ HBOX.out HC.out);
          first
            | (simp only [hB2]; done)
            | (simp only [hB1]; done)
            | (simp only [bel_drew, HB0]; done)))
        (first
          | (go_at_call 32; (with_reducible refine (Levels_any _).mono ?_); rintro y w11 ⟨LA, rfl, -, hbL⟩; have hB1 : Below wa.heap.size wa w11 := grow_trans (by simp only [bel_drew, HB0]) hbL)
          | (go_at_call 31; (with_reducible refine (HKT.out _ (grow_trans HBA.out hB1)).mono ?_); rintro y w12 ⟨rfl, hbT⟩; have hB2 : Below wa.heap.size wa w12 := grow_trans hB1 hbT))
      all_goals go_wp2_with fail
      all_goals go_ret
      all_goals exact ⟨by rw [← HV.out]; rfl, grow_trans HBA.out hB2⟩
  · have HT : Hid (textE e = []) := textE_one_no hk h1
    have q1 : ((e.kids.length : Int) == 1) = false := by rw [beq_eq_false_iff_ne]; omega
    unfold exprV strV
    clear hk hr ih hl h1 ht
    go_enter Tryd.func14, Tryd.ntmps14
    go_wp2_with fail
    go_ret
    exact ⟨by rw [HT.out]; rfl, grow_alloc (grow_refl _) _⟩
set_option maxHeartbeats 4000000 in
set_option maxRecDepth 100000 in
theorem stext_two (e : PExpr) (hk : e.kind = xTwo) (hl : (textE e).length ≤ 1000000) (ih : ∀ k ∈ e.kids, (textE k).length ≤ 1000000 → ShowExprC k) : ShowExprC e := by
  intro S A c w ht hr
  have g0 : ((mkB e.kind).toList == [110, 117, 109]) = false := by rw [mkB_toList, hk]; rfl
  have g1 : ((mkB e.kind).toList == [110, 97, 109, 101]) = false := by rw [mkB_toList, hk]; rfl
  have g2 : ((mkB e.kind).toList == [99, 97, 108, 108]) = false := by rw [mkB_toList, hk]; rfl
  have g3 : ((mkB e.kind).toList == [111, 110, 101]) = false := by rw [mkB_toList, hk]; rfl
  have g4 : ((mkB e.kind).toList == [116, 119, 111]) = true := by rw [mkB_toList, hk]; rfl
  by_cases h1 : e.kids.length = 2
  · match hh : e.kids, h1 with
    | [k, m], _ =>
      have hte := textE_two hk hh
      have hkl := kid_len hl (show k ∈ e.kids by rw [hh]; simp) (.inr (.inr ⟨hk, by rw [hh]; rfl⟩))
      have hml := kid_len hl (show m ∈ e.kids by rw [hh]; simp) (.inr (.inr ⟨hk, by rw [hh]; rfl⟩))
      have hrg := levelP_range e.name
      obtain ⟨L, hL⟩ : ∃ L, levelP e.name = L := ⟨_, rfl⟩
      rw [hL] at hte hrg
      have HLV : Hid (∀ w, Calls Tryd.prog 33 #[.string (mkB e.name)] w (Ret (.int .i64 L) w)) := fun w => hL ▸ level_any e.name w
      rw [hte] at hl
      simp only [List.length_append, List.length_cons, List.length_nil] at hl
      have hwl : (mkB (wrapT k L (textE k))).size ≤ 1000000 := by rw [mkB_len]; omega
      have hwm : (mkB (wrapT m (L + 1) (textE m))).size ≤ 1000000 := by rw [mkB_len]; omega
      have hln : (mkB e.name).size ≤ 1000000 := by rw [mkB_len]; omega
      have HV : Hid (mkB (wrapT k L (textE k)) ++ ⟨#[32]⟩ ++ mkB e.name ++ ⟨#[32]⟩ ++ mkB (wrapT m (L + 1) (textE m)) = mkB (textE e)) := show _ = _ by rw [mkB_one, mkB_app, mkB_one, mkB_app, hte]
      rw [hh] at hr
      obtain ⟨b, off, B, d, rfl, -, hcells, hnum, hkid⟩ := hr.at (i := 0) (by simp)
      simp only [Nat.zero_mul, Nat.add_zero, List.getElem_cons_zero] at hcells hkid
      obtain ⟨b', off', B2, d2, hbb, -, hcells2, hnum2, hkid2⟩ := hr.at (i := 1) (by simp)
      simp only [Option.some.injEq, Addr.mk.injEq, and_true] at hbb
      obtain ⟨rfl, rfl⟩ := hbb
      simp only [Nat.one_mul, List.getElem_cons_succ, List.getElem_cons_zero] at hcells2 hkid2
      have IH := ih k (by rw [hh]; simp) hkl
      have IM := ih m (by rw [hh]; simp) hml
      have HKT : Hid (∀ w', Below w.heap.size w w' → Calls Tryd.prog 31 #[exprV k B d, .int .i64 L] w' (Ret (strV (wrapT k L (textE k))) w')) :=
        fun w' hb => kid_any k L (textE k) B d w' hkl fun w'' hb' => IH S B d w'' (ht.keep (grow_trans hb hb')) (hkid.keep ((Keeps.of_below (grow_trans hb hb')).in _) (fun _ h => h))
      have HMT : Hid (∀ w', Below w.heap.size w w' → Calls Tryd.prog 31 #[exprV m B2 d2, .int .i64 (L + 1)] w' (Ret (strV (wrapT m (L + 1) (textE m))) w')) :=
        fun w' hb => kid_any m (L + 1) (textE m) B2 d2 w' hml fun w'' hb' => IM S B2 d2 w'' (ht.keep (grow_trans hb hb')) (hkid2.keep ((Keeps.of_below (grow_trans hb hb')).in _) (fun _ h => h))
      obtain ⟨W, hW⟩ : ∃ W, wrapT k L (textE k) = W := ⟨_, rfl⟩
      obtain ⟨V, hV⟩ : ∃ V, wrapT m (L + 1) (textE m) = V := ⟨_, rfl⟩
      rw [hW] at HKT HV hwl
      rw [hV] at HMT HV hwm
      have e1 : IntKind.i64.wrap (L + 1) = L + 1 := IntWalk.i64_in _ (by omega)
      have hbox := heap_alloc_new w (.cells #[.string (mkB e.kind), .int .i64 e.num, .string (mkB e.name), .slice (some ⟨b, off, none⟩) 2 c] 42)
      have HBX := Lib.hid hbox
      have HCW := Lib.hid hcells
      have HCW2 := Lib.hid hcells2
      have HRG := Lib.hid hrg
      unfold exprV strV at *
      rw [hh, show ([k, m] : List PExpr).length = 2 from rfl]
      clear hk hr ih hte hcells hkid hnum hh hW hl hkl IH hbox hcells2 hkid2 hnum2 hV hml IM hL hrg ht
      go_enter Tryd.func14, Tryd.ntmps14
      have k1 : ¬ (9223372036854775807 < (mkB W).size + 1) := by omega
      have k2 : ¬ (9223372036854775807 < (mkB W).size + 1 + (mkB e.name).size) := by omega
      have k3 : ¬ (9223372036854775807 < (mkB W).size + 1 + (mkB e.name).size + 1) := by omega
      have k4 : ¬ (9223372036854775807 < (mkB W).size + 1 + (mkB e.name).size + 1 + (mkB V).size) := by omega
      go_upto_region 11 with (go_at_call 33; (with_reducible refine (HLV.out _).mono ?_); rintro y wa ⟨rfl, hba⟩; obtain ⟨-, x0, x1, x2, x3⟩ := row4_seen hba HBX.out)
      have HBA : Hid (Below w.heap.size w wa) := show Below _ _ _ from grow_trans (grow_alloc (grow_refl _) _) hba
      have HBOX := Lib.hid ((hba.block w.heap.size (by simp)).trans HBX.out)
      have HC : Hid (CellsAt wa b off (exprL k B d)) := HCW.out.keep fun a v _ hv => Keeps.of_below HBA.out a v hv
      have HC2 : Hid (CellsAt wa b (off + 4) (exprL m B2 d2)) := HCW2.out.keep fun a v _ hv => Keeps.of_below HBA.out a v hv
      have HB0 := Below.refl wa.heap.size wa
      clear hba x0 x1 x2 x3
      go_region_held3 (fun w' => Below wa.heap.size wa w' ∧ w'.cell? ⟨w.heap.size, 0, none⟩ = some (.string (mkB e.kind)) ∧ w'.cell? ⟨w.heap.size, 1, none⟩ = some (.int .i64 e.num) ∧ w'.cell? ⟨w.heap.size, 2, none⟩ = some (.string (mkB e.name)) ∧ w'.cell? ⟨w.heap.size, 3, none⟩ = some (.slice (some ⟨b, off, none⟩) 2 c) ∧
          w'.cell? ⟨b, off, none⟩ = some (.string (mkB k.kind)) ∧ w'.cell? ⟨b, off + 1, none⟩ = some (.int .i64 k.num) ∧ w'.cell? ⟨b, off + 2, none⟩ = some (.string (mkB k.name)) ∧ w'.cell? ⟨b, off + 3, none⟩ = some (.slice B k.kids.length d) ∧
          w'.cell? ⟨b, off + 4, none⟩ = some (.string (mkB m.kind)) ∧ w'.cell? ⟨b, off + 4 + 1, none⟩ = some (.int .i64 m.num) ∧ w'.cell? ⟨b, off + 4 + 2, none⟩ = some (.string (mkB m.name)) ∧ w'.cell? ⟨b, off + 4 + 3, none⟩ = some (.slice B2 m.kids.length d2))
        (((with_reducible refine two_seen ?_ HBOX.out HC.out HC2.out);
          first
            | (simp only [hB2]; done)
            | (simp only [hB1]; done)
            | (simp only [bel_drew, HB0]; done)))
        (first
          | (go_at_call 31; (with_reducible refine (HKT.out _ (grow_trans HBA.out (by simp only [bel_drew, HB0]))).mono ?_); rintro y w12 ⟨rfl, hbT⟩; have hB1 : Below wa.heap.size wa w12 := grow_trans (by simp only [bel_drew, HB0]) hbT)
          | (go_at_call 31; (with_reducible refine (HMT.out _ (grow_trans HBA.out hB1)).mono ?_); rintro y w12 ⟨rfl, hbT⟩; have hB2 : Below wa.heap.size wa w12 := grow_trans hB1 hbT))
      all_goals go_wp2_with fail
      all_goals go_ret
      all_goals exact ⟨by rw [← HV.out]; rfl, grow_trans HBA.out hB2⟩
  · have HT : Hid (textE e = []) := textE_two_no hk h1
    have q1 : ((e.kids.length : Int) == 2) = false := by rw [beq_eq_false_iff_ne]; omega
    unfold exprV strV
    clear hk hr ih hl h1 ht
    go_enter Tryd.func14, Tryd.ntmps14
    go_wp2_with fail
    go_ret
    exact ⟨by rw [HT.out]; rfl, grow_alloc (grow_refl _) _⟩
theorem ShowExpr_any : ∀ e : PExpr, OkE e → (textE e).length ≤ 1000000 → ShowExprC e := by
  intro e
  induction e using PExpr.ind with
  | h e ih =>
    intro ho hl
    have ih' : ∀ k ∈ e.kids, (textE k).length ≤ 1000000 → ShowExprC k := fun k hk hl => ih k hk (ho.kid k hk) hl
    by_cases h0 : e.kind = xNum
    · exact stext_num e ho.num h0
    by_cases h1 : e.kind = xName
    · exact stext_name e h1
    by_cases h2 : e.kind = xCall
    · exact stext_call e h2 hl ih'
    by_cases h3 : e.kind = xOne
    · exact stext_one e h3 hl ih'
    by_cases h4 : e.kind = xTwo
    · exact stext_two e h4 hl ih'
    exact stext_none e h0 h1 h2 h3 h4
end Go.Proofs.YtpfgimohginbdaaDoor

namespace Go.Proofs.YtpfgimohginbdaaDoor
open Go.RowKit

/-! the writer of package show -/
/-- The writer at block p holds these bytes, so deep; its memory is from base on. -/
def WrAt (base p : Nat) (bs : List UInt8) (d : Nat) (w : World) : Prop :=
  base ≤ p ∧ ∃ q v, (q = .pointer none ∨ q = .pointer (some ⟨p, 0, none⟩)) ∧ w.heap[p]? = some (.cells #[q, v, .int .i64 (d : Int)] 63 (0, 0)) ∧ w.ownsRow base 5 1 v bs.length (Lib.byteCells bs) ∧ (bs = [] → v = .slice none 0 0)
/-- Blocks that hold no bytes, and are not p, are as they were. -/
def WrKeep (p : Nat) (w w' : World) : Prop := ∀ k cs T fz, k ≠ p → T ≠ 5 → w.heap[k]? = some (.cells cs T fz) → w'.heap[k]? = some (.cells cs T fz)
theorem WrKeep.refl (p : Nat) (w : World) : WrKeep p w w := fun _ _ _ _ _ _ h => h
theorem WrKeep.trans {p : Nat} {a b c : World} (h : WrKeep p a b) (k : WrKeep p b c) : WrKeep p a c := fun i cs T fz h1 h2 h3 => k i cs T fz h1 h2 (h i cs T fz h1 h2 h3)
theorem WrKeep.below {p : Nat} {w w' : World} (h : Below w.heap.size w w') : WrKeep p w w' := fun k _ _ _ _ _ h3 => (h.block k (Array.getElem?_eq_some_iff.1 h3).1).trans h3
theorem WrAt.below {base p : Nat} {bs : List UInt8} {d : Nat} {w w' : World} (h : WrAt base p bs d w) (hb : Below w.heap.size w w') : WrAt base p bs d w' := by
  obtain ⟨h1, q, v, h2, h3, h4, h5⟩ := h
  exact ⟨h1, q, v, h2, (hb.block _ (Array.getElem?_eq_some_iff.1 h3).1).trans h3, ownsRow_below h4 hb, h5⟩
theorem WrAt.lt {base p : Nat} {bs : List UInt8} {d : Nat} {w : World} (h : WrAt base p bs d w) : p < w.heap.size := by
  obtain ⟨h1, q, v, h2, h3, h4, h5⟩ := h
  exact (Array.getElem?_eq_some_iff.1 h3).1
theorem WrAt.deep {base p : Nat} {bs : List UInt8} {d : Nat} {w : World} (h : WrAt base p bs d w) : w.cell? ⟨p, 2, none⟩ = some (.int .i64 (d : Int)) := by
  obtain ⟨h1, q, v, h2, h3, h4, h5⟩ := h
  exact cell_of_row _ _ 2 _ _ _ h3
theorem WrAt.frozen {base p : Nat} {bs : List UInt8} {d : Nat} {w : World} (h : WrAt base p bs d w) : w.frozen? ⟨p, 2, none⟩ = false := by
  obtain ⟨h1, q, v, h2, h3, h4, h5⟩ := h
  exact row_frozen h3 2
theorem writer_byte : (63 : TypeId) ≠ 5 := by decide
theorem own_ne {w : World} {base p : Nat} {v : Value} {n : Nat} {xs : List Value} {cs : Array Value} {T : TypeId} {fz : Nat × Nat} (hT : T ≠ 5) (ho : w.ownsRow base 5 1 v n xs) (h : w.heap[p]? = some (.cells cs T fz)) : v.ownBlock ≠ some p := Lib.ownBlock_ne ho h hT
/-- A store into the writer's depth. -/
theorem WrAt.set {base p : Nat} {bs : List UInt8} {d : Nat} {w : World} (h : WrAt base p bs d w) (n : Nat) : WrAt base p bs n (w.setCell ⟨p, 2, none⟩ (.int .i64 (n : Int))) ∧ Below base w (w.setCell ⟨p, 2, none⟩ (.int .i64 (n : Int))) ∧ WrKeep p w (w.setCell ⟨p, 2, none⟩ (.int .i64 (n : Int))) := by
  obtain ⟨h1, q, v, h2, h3, h4, h5⟩ := h
  refine ⟨⟨h1, q, v, h2, row_set _ h3 (by simp), ?_, h5⟩, (Below.refl _ _).setCell h1 _, fun k cs T fz hk _ hc => (Below.heap_setCell _ _ _ _ hk).trans hc⟩
  exact h4.kept (row := some p) ⟨rfl, rfl, rfl, by simp [World.setCell], fun k _ hk => Below.heap_setCell _ _ _ _ (fun e => hk (by simp [e]))⟩ (.inr (own_ne writer_byte h4 h3))
theorem builderSize : (Tryd.prog.info? 61).map (·.size) = some 2 := by kernel_rfl
theorem byteInfo : (Tryd.prog.info? 5).map (fun i => (i.zero, i.size, i.bytes)) = some (some (.int .u8 0), 1, 1) := by kernel_rfl
theorem writerLies : liesAt Tryd.prog Tryd.prog.depth 63 (3 / Tryd.prog.cellsOf 63) 0 61 1 = true := by kernel_rfl
set_option maxRecDepth 100000 in
theorem wcheck_used (p : Nat) (w : World) (h0 : w.cell? ⟨p, 0, none⟩ = some (.pointer (some ⟨p, 0, none⟩))) :
    Calls Tryd.prog 50 #[.pointer (some ⟨p, 0, none⟩)] w fun e w' => e = .returned (.tuple #[]) ∧ w' = w := by
  obtain ⟨j, hj, _⟩ := Option.map_eq_some_iff.1 builderSize
  go_enter Tryd.func50, Tryd.ntmps50
  go_wp2
  rw [Lib.run_neq_ptr_same w _ Tryd.underlying58 hj]
  go_wp2
  go_end0
  exact ⟨rfl, rfl⟩
set_option maxRecDepth 100000 in
theorem wcheck_fresh (p : Nat) (w : World) (h0 : w.cell? ⟨p, 0, none⟩ = some (.pointer none)) (hsh : w.shape? p = some (63, 3)) (hfz : w.frozen? ⟨p, 0, none⟩ = false) :
    Calls Tryd.prog 50 #[.pointer (some ⟨p, 0, none⟩)] w fun e w' => e = .returned (.tuple #[]) ∧ w' = w.setCell ⟨p, 0, none⟩ (.pointer (some ⟨p, 0, none⟩)) := by
  obtain ⟨j, hj, hjs⟩ := Option.map_eq_some_iff.1 builderSize
  go_enter Tryd.func50, Tryd.ntmps50
  go_wp2
  rw [Lib.run_to_unsafe w ⟨p, 0, none⟩ Tryd.underlying58 Tryd.underlying97 hj (by rw [hjs]; decide) hsh (Nat.zero_lt_succ 2)]
  simp only [Result.andThen]
  rw [Oper.upon_value]
  go_wp2
  rw [run_callFunc_extern Tryd.func61 (by kernel_rfl) (by kernel_rfl) (by kernel_rfl) (e := Extern.AbiNoEscape.same) (by kernel_rfl)]
  rw [Lib.run_noEscape]
  simp only [Result.andThen]
  rw [Oper.upon_value]
  go_wp2
  rw [Lib.run_from_unsafe w ⟨p, 0, none⟩ Tryd.underlying97 Tryd.underlying58 hj hsh writerLies]
  simp only [Result.andThen]
  rw [Oper.upon_value]
  go_wp2
  go_end0
  exact ⟨rfl, rfl⟩
theorem wcheck (base p : Nat) (bs : List UInt8) (d : Nat) (w : World) (h : WrAt base p bs d w) :
    Calls Tryd.prog 50 #[.pointer (some ⟨p, 0, none⟩)] w fun e w' => e = .returned (.tuple #[]) ∧ (∃ v, w'.heap[p]? = some (.cells #[.pointer (some ⟨p, 0, none⟩), v, .int .i64 (d : Int)] 63 (0, 0)) ∧ w'.ownsRow base 5 1 v bs.length (Lib.byteCells bs)) ∧ Below base w w' ∧ WrKeep p w w' := by
  obtain ⟨h1, q, v, h2, h3, h4, h5⟩ := h
  rcases h2 with rfl | rfl
  · refine (wcheck_fresh p w (cell_of_row _ _ 0 _ _ _ h3) (by simp [World.shape?, h3]) (row_frozen h3 0)).mono ?_
    rintro e w' ⟨rfl, rfl⟩
    refine ⟨rfl, ⟨v, row_set _ h3 (by simp), ?_⟩, (Below.refl _ _).setCell h1 _, fun k cs T fz hk _ hc => (Below.heap_setCell _ _ _ _ hk).trans hc⟩
    exact h4.kept (row := some p) ⟨rfl, rfl, rfl, by simp [World.setCell], fun k _ hk => Below.heap_setCell _ _ _ _ (fun e => hk (by simp [e]))⟩ (.inr (own_ne writer_byte h4 h3))
  · refine (wcheck_used p w (cell_of_row _ _ 0 _ _ _ h3)).mono ?_
    rintro e w' ⟨rfl, rfl⟩
    exact ⟨rfl, ⟨v, h3, h4⟩, Below.refl _ _, WrKeep.refl _ _⟩
theorem strCells_mkB (t : List UInt8) : Lib.strCells (mkB t) = Lib.byteCells t := by
  rw [Lib.strCells_eq]; simp [mkB]
theorem byteCells_app (a b : List UInt8) : Lib.byteCells (a ++ b) = Lib.byteCells a ++ Lib.byteCells b := by simp [Lib.byteCells]
def WrPost (base p : Nat) (bs : List UInt8) (d : Nat) (w w' : World) : Prop := WrAt base p bs d w' ∧ Below base w w' ∧ WrKeep p w w'
set_option maxHeartbeats 1000000 in
set_option maxRecDepth 100000 in
theorem wwrite (base p : Nat) (bs : List UInt8) (d : Nat) (w : World) (t : List UInt8) (h : WrAt base p bs d w) (hl : bs.length + t.length ≤ 100000000) (h0 : t ≠ []) :
    Calls Tryd.prog 34 #[.pointer (some ⟨p, 0, none⟩), .string (mkB t)] w fun e w' => e = .returned (.tuple #[.int .i64 (t.length : Int), .nilIface]) ∧ WrPost base p (bs ++ t) d w w' := by
  obtain ⟨ti, hi, hz0, hz1, hz2⟩ := info_parts byteInfo
  have HC := Lib.hid (wcheck base p bs d w h)
  have hB : base ≤ p := h.1
  have hlt0 := h.lt
  clear h
  go_enter Tryd.func34, Tryd.ntmps34
  go_wp2_with (go_at_call 50; (with_reducible refine HC.out.mono ?_))
  rintro e w1 ⟨rfl, ⟨v, hbk, hown⟩, hb1, hk1⟩
  have hlt : p < w1.heap.size := (Array.getElem?_eq_some_iff.1 hbk).1
  have c0 : w1.cell? ⟨p, 0, none⟩ = some (.pointer (some ⟨p, 0, none⟩)) := cell_of_row _ _ 0 _ _ _ hbk
  have c1 : w1.cell? ⟨p, 1, none⟩ = some v := cell_of_row _ _ 1 _ _ _ hbk
  go_wp2_with (at_builtin; refine Lib.wpList_append_own_string _ rfl _ _ 59 9 rfl base 5 ti Tryd.underlying59 Tryd.underlying9 hi hz0 hz1 hz2 _ _ _ rfl hown (mkB t) rfl ?c3 ?c4 ?c5 ?_)
  case c3 => rw [mkB_len]; unfold maxLen; omega
  case c4 => rw [mkB_len]; omega
  case c5 => omega
  intro v' w2 hown' hgrow _
  have hne := own_ne writer_byte hown hbk
  have hb2 : w2.heap[p]? = some (.cells #[.pointer (some ⟨p, 0, none⟩), v, .int .i64 (d : Int)] 63 (0, 0)) := by
    rw [hgrow.block p hlt (fun e => hne e.symm)]
    exact hbk
  have d0 : w2.cell? ⟨p, 0, none⟩ = some (.pointer (some ⟨p, 0, none⟩)) := cell_of_row _ _ 0 _ _ _ hb2
  have d1 : w2.cell? ⟨p, 1, none⟩ = some v := cell_of_row _ _ 1 _ _ _ hb2
  have f1 : w2.frozen? ⟨p, 1, none⟩ = false := row_frozen hb2 1
  rw [strCells_mkB, mkB_len] at hown'
  obtain ⟨ao, cap, rfl⟩ := owns_slice hown'
  have HX : Hid (WrPost base p (bs ++ t) d w (w2.setCell ⟨p, 1, none⟩ (.slice ao (bs.length + t.length) cap))) := by
    refine ⟨⟨hB, .pointer (some ⟨p, 0, none⟩), .slice ao (bs.length + t.length) cap, .inr rfl, row_set _ hb2 (by simp), ?_, fun e => ?_⟩, (hb1.grown hgrow (by omega) (fun k hk => (hown.lt k hk).1)).setCell (p := ⟨p, 1, none⟩) hB _, fun k cs T fz hk hT hc => ?_⟩
    · rw [List.length_append, byteCells_app]
      exact hown'.kept (row := some p) ⟨rfl, rfl, rfl, by simp [World.setCell], fun k _ hk => Below.heap_setCell _ _ _ _ (fun e => hk (by simp [e]))⟩ (.inr (own_ne writer_byte hown' hb2))
    · exact absurd (List.append_eq_nil_iff.1 e).2 h0
    · have q1 := hk1 k cs T fz hk hT hc
      exact (Below.heap_setCell _ _ _ _ hk).trans ((hgrow.block k (Array.getElem?_eq_some_iff.1 q1).1 (fun e => own_ne hT hown q1 e.symm)).trans q1)
  have HL := Lib.hid (mkB_len t)
  clear hown' hgrow hb2 hbk hown hk1 hb1
  go_wp2
  go_ret2
  exact ⟨by rw [← HL.out]; rfl, HX.out⟩
set_option maxHeartbeats 2000000 in
set_option maxRecDepth 100000 in
theorem wstring (base p : Nat) (bs : List UInt8) (d : Nat) (w : World) (h : WrAt base p bs d w) :
    Calls Tryd.prog 18 #[.pointer (some ⟨p, 0, none⟩)] w fun e w' => e = .returned (.string (mkB bs)) ∧ Below base w w' := by
  obtain ⟨h1, q, v, h2, h3, h4, h5⟩ := h
  by_cases h0 : bs = []
  · obtain rfl := h5 h0
    subst h0
    have hUS : ∀ (W : World) (q : Option Addr), (Builtin.unsafeString_ #[82, 3] 9 #[.pointer q, .int .i64 0]).run Tryd.prog W = .ok (.string .empty) W := fun W q => Lib.run_unsafeString_none W _ _ _ q
    have c1 : w.drew.cell? ⟨p, 1, none⟩ = some (.slice none 0 0) := cell_of_row _ _ 1 _ _ _ h3
    have hSD : (Builtin.unsafeSliceData_ #[59] 82 #[.slice none 0 0]).run Tryd.prog w.drew = .ok (.pointer none) w.drew := rfl
    clear h4 h5 h3 h2
    have mixed : Tryd.prog.follows Departure.mixedOrders = true := by kernel_rfl
    go_enter Tryd.func18, Tryd.ntmps18
    go_wp2
    go_region_o
    all_goals (go_wp2; go_ret; exact ⟨rfl, Below.drew (Below.refl base w)⟩)
  · have hl0 : bs.length ≠ 0 := by simpa using h0
    obtain ⟨g, cap, cur, rfl, hbg, hg, hnc, hcm, hcs, htake⟩ : ∃ g cap cur, v = .slice (some ⟨g, 0, none⟩) bs.length cap ∧ base ≤ g ∧ w.heap[g]? = some (.cells cur 5 (0, 0)) ∧ bs.length ≤ cap ∧ cap ≤ maxLen ∧ cur.size = cap * 1 ∧ cur.toList.take (bs.length * 1) = Lib.byteCells bs := by
      rcases h4.2 with ⟨_, hz⟩ | ⟨g, cap, cur, hv, r⟩
      · exact absurd hz hl0
      · exact ⟨g, cap, cur, hv, r⟩
    have c1 : w.drew.cell? ⟨p, 1, none⟩ = some (.slice (some ⟨g, 0, none⟩) bs.length cap) := cell_of_row _ _ 1 _ _ _ h3
    have hSD : (Builtin.unsafeSliceData_ #[59] 82 #[.slice (some ⟨g, 0, none⟩) bs.length cap]).run Tryd.prog w.drew = .ok (.pointer (some ⟨g, 0, none⟩)) w.drew :=
      Lib.run_unsafeSliceData_row _ _ _ _ _ _ (by omega)
    have hUS : (Builtin.unsafeString_ #[82, 3] 9 #[.pointer (some ⟨g, 0, none⟩), .int .i64 bs.length]).run Tryd.prog w.drew = .ok (.string (mkB bs)) (w.drew.freeze ⟨g, 0, none⟩ bs.length) := by
      refine Lib.run_unsafeString_row w.drew 82 3 9 5 Tryd.underlying82 (by kernel_rfl) g cur.size (by have hg' : w.drew.heap[g]? = some (.cells cur 5 (0, 0)) := hg; simp [World.shape?, hg']) bs h0 (by omega) (by unfold maxLen at hcm; omega) ?_
      intro j x hx
      exact h4.cells (g := g) rfl j (.int .u8 x.toNat) (by simp [Lib.byteCells, hx])
    clear h4 h5 h3 h2 htake hcs hcm hnc hg hl0
    have mixed : Tryd.prog.follows Departure.mixedOrders = true := by kernel_rfl
    go_enter Tryd.func18, Tryd.ntmps18
    go_wp2
    go_region_o
    all_goals (go_wp2; go_ret; exact ⟨rfl, Lib.below_freeze (Below.drew (Below.refl base w)) (p := ⟨g, 0, none⟩) hbg _⟩)
end Go.Proofs.YtpfgimohginbdaaDoor

namespace Go.Proofs.YtpfgimohginbdaaDoor
open Go.RowKit

/-- strconv's table is laid below base. -/
def TabIn (base : Nat) (w : World) : Prop := ∃ w0, Lib.TabBelow Tryd.prog w0.heap.size w0 "internal/strconv.uint64pow10" .u64 Lib.pow10Tab ∧ w0.heap.size ≤ base ∧ Below w0.heap.size w0 w
theorem TabIn.keep {base : Nat} {w w' : World} (h : TabIn base w) (hb : Below base w w') : TabIn base w' := by
  obtain ⟨w0, h0, h1, h2⟩ := h
  exact ⟨w0, h0, h1, h2.trans (hb.mono h1)⟩
theorem TabIn.at {base : Nat} {w : World} (h : TabIn base w) : TabAt w := by
  obtain ⟨w0, h0, h1, h2⟩ := h
  exact ⟨w0, h0, h2⟩
theorem keepsLow {base : Nat} {w w' : World} (hb : Below base w w') : KeepsIn (fun n => n < base) w w' := fun _ _ hs hc => (hb.cell hs).trans hc
theorem WrPost.trans {base p : Nat} {bs bs' : List UInt8} {d d' : Nat} {a b c : World} (h : WrPost base p bs d a b) (k : WrPost base p bs' d' b c) : WrPost base p bs' d' a c := ⟨k.1, h.2.1.trans k.2.1, h.2.2.trans k.2.2⟩
theorem WrPost.below {base p : Nat} {bs : List UInt8} {d : Nat} {a b : World} (h : WrAt base p bs d a) (hb : Below a.heap.size a b) : WrPost base p bs d a b := ⟨h.below hb, hb.mono (by have := h.1; have := h.lt; omega), WrKeep.below hb⟩
theorem WrPost.wr {base p : Nat} {bs : List UInt8} {d : Nat} {a b : World} (h : WrPost base p bs d a b) : WrAt base p bs d b := h.1
theorem WrPost.bel {base p : Nat} {bs : List UInt8} {d : Nat} {a b : World} (h : WrPost base p bs d a b) : Below base a b := h.2.1
theorem WrPost.kp {base p : Nat} {bs : List UInt8} {d : Nat} {a b : World} (h : WrPost base p bs d a b) : WrKeep p a b := h.2.2
theorem repeatL_tab : ∀ n, Lib.repeatL [9] n = tabsT n := by
  intro n
  induction n with
  | zero => rfl
  | succ n ih => simp [Lib.repeatL, tabsT, List.replicate_succ] at *; try exact ih
theorem repeat_any (n : Nat) (hn : n ≤ 1000) (w : World) : Calls Tryd.prog 35 #[.string ⟨#[9]⟩, .int .i64 (n : Int)] w (Ret (.string (mkB (tabsT n))) w) := by
  refine (Tryd.strings_Repeat ⟨#[9]⟩ n w (by omega) (by show 1 * n ≤ _; omega)).mono ?_
  rintro e w' ⟨rfl, hb⟩
  exact ⟨by rw [show (⟨#[9]⟩ : ByteArray).data.toList = [9] from rfl, repeatL_tab]; rfl, hb⟩
set_option maxHeartbeats 2000000 in
set_option maxRecDepth 100000 in
theorem line_any (base p : Nat) (bs : List UInt8) (n : Nat) (t : List UInt8) (w : World) (h : WrAt base p bs n w) (hn : n ≤ 1000) (ht : t.length ≤ 3000000) (hl : bs.length ≤ 50000000) :
    Calls Tryd.prog 15 #[.pointer (some ⟨p, 0, none⟩), .string (mkB t)] w fun e w' => e = .returned (.tuple #[]) ∧ WrPost base p (bs ++ lineT n t) n w w' := by
  have HRP := Lib.hid (fun w => repeat_any n hn w)
  have hv : mkB (tabsT n) ++ mkB t ++ ⟨#[10]⟩ = mkB (lineT n t) := by rw [mkB_app, mkB_one]; rfl
  have hll : (lineT n t).length = n + t.length + 1 := by simp [lineT]; omega
  have HWW : Hid (∀ w', WrAt base p bs n w' → Calls Tryd.prog 34 #[.pointer (some ⟨p, 0, none⟩), .string (mkB (tabsT n) ++ mkB t ++ ⟨#[10]⟩)] w' fun e w'' => e = .returned (.tuple #[.int .i64 ((lineT n t).length : Int), .nilIface]) ∧ WrPost base p (bs ++ lineT n t) n w' w'') :=
    fun w' h' => hv ▸ wwrite base p bs n w' (lineT n t) h' (by omega) (by simp [lineT])
  have hsz1 : (mkB (tabsT n)).size ≤ 1000 := by rw [mkB_len]; simp [tabsT]; omega
  have hsz2 : (mkB t).size ≤ 3000000 := by rw [mkB_len]; exact ht
  have HW0 : Hid (WrAt base p bs n w.drew) := show WrAt _ _ _ _ _ from h.below ((Below.refl _ _).drew)
  have HD0 : Hid (Below base w w.drew ∧ WrKeep p w w.drew) := show _ ∧ _ from ⟨(Below.refl _ _).drew, WrKeep.below ((Below.refl _ _).drew)⟩
  have hd := h.deep
  clear h hv hll hl ht
  go_enter Tryd.func15, Tryd.ntmps15
  go_wp2_with fail
  have j1 : ¬ (9223372036854775807 < (mkB (tabsT n)).size + (mkB t).size) := by omega
  have j2 : ¬ (9223372036854775807 < (mkB (tabsT n)).size + (mkB t).size + 1) := by omega
  go_region_held3 (fun w' => w'.cell? ⟨p, 2, none⟩ = some (.int .i64 (n : Int)))
    (with_reducible first
      | exact HW2.out.wr.deep
      | exact HW1.out.deep
      | exact HW0.out.deep)
    (first
      | (go_at_call 35; (with_reducible refine (HRP.out _).mono ?_); rintro y w1 ⟨rfl, hb1⟩; have HP1 := Lib.hid (WrPost.below HW0.out hb1); have HW1 := Lib.hid (HW0.out.below hb1))
      | (go_at_call 34; (with_reducible refine (HWW.out _ HW1.out).mono ?_); rintro y w2 ⟨rfl, hp2⟩; have HW2 := Lib.hid hp2; clear hp2))
  all_goals go_wp2_with fail
  all_goals go_end0
  all_goals exact ⟨rfl, WrPost.trans ⟨HW0.out, HD0.out.1, HD0.out.2⟩ (HP1.out.trans HW2.out)⟩
def stmtV (s : PStmt) (X : Option Addr) (x : Nat) (T : Option Addr) (t : Nat) (L : Option Addr) (l : Nat) : Value :=
  .agg #[.string (mkB s.kind), .string (mkB s.name), .string (mkB s.e.kind), .int .i64 s.e.num, .string (mkB s.e.name), .slice X s.e.kids.length x, .slice T s.th.length t, .slice L s.el.length l]
def SStmtC (base p d : Nat) (s : PStmt) : Prop := ∀ (bs : List UInt8) (w : World) (X : Option Addr) (x : Nat) (T : Option Addr) (t : Nat) (L : Option Addr) (l : Nat), WrAt base p bs d w → TabIn base w →
    RdE w (fun n => n < base) s.e.kids X → RdS w (fun n => n < base) s.th T → RdS w (fun n => n < base) s.el L → bs.length + (textS s d).length ≤ 2000000 →
    Calls Tryd.prog 37 #[.pointer (some ⟨p, 0, none⟩), stmtV s X x T t L l] w fun e w' => e = .returned (.tuple #[]) ∧ WrPost base p (bs ++ textS s d) d w w'
def SBlockC (base p d : Nat) (ss : List PStmt) : Prop := ∀ (bs : List UInt8) (w : World) (A : Option Addr) (c : Nat), WrAt base p bs d w → TabIn base w → RdS w (fun n => n < base) ss A → bs.length + (textB ss (d + 1)).length ≤ 2000000 →
    Calls Tryd.prog 17 #[.pointer (some ⟨p, 0, none⟩), .slice A ss.length c] w fun e w' => e = .returned (.tuple #[]) ∧ WrPost base p (bs ++ textB ss (d + 1)) d w w'
theorem row8 {w : World} {q : Nat} {v0 v1 v2 v3 v4 v5 v6 v7 : Value} {T : TypeId} {fz : Nat × Nat} (hrow : w.heap[q]? = some (.cells #[v0, v1, v2, v3, v4, v5, v6, v7] T fz)) :
    w.cell? ⟨q, 0, none⟩ = some v0 ∧ w.cell? ⟨q, 1, none⟩ = some v1 ∧ w.cell? ⟨q, 2, none⟩ = some v2 ∧ w.cell? ⟨q, 3, none⟩ = some v3 ∧ w.cell? ⟨q, 4, none⟩ = some v4 ∧ w.cell? ⟨q, 5, none⟩ = some v5 ∧ w.cell? ⟨q, 6, none⟩ = some v6 ∧ w.cell? ⟨q, 7, none⟩ = some v7 :=
  ⟨cell_of_row _ _ 0 _ _ _ hrow, cell_of_row _ _ 1 _ _ _ hrow, cell_of_row _ _ 2 _ _ _ hrow, cell_of_row _ _ 3 _ _ _ hrow, cell_of_row _ _ 4 _ _ _ hrow, cell_of_row _ _ 5 _ _ _ hrow, cell_of_row _ _ 6 _ _ _ hrow, cell_of_row _ _ 7 _ _ _ hrow⟩
theorem row_below {w w' : World} {q : Nat} {o : Obj} (h : w.heap[q]? = some o) (hb : Below w.heap.size w w') : w'.heap[q]? = some o := (hb.block _ (Array.getElem?_eq_some_iff.1 h).1).trans h
theorem stmt_byte : (44 : TypeId) ≠ 5 := by decide
theorem fun_byte : (39 : TypeId) ≠ 5 := by decide
set_option maxHeartbeats 4000000 in
set_option maxRecDepth 100000 in
theorem sstmt_var (base p d : Nat) (s : PStmt) (htx : TxS d s) (hk : s.kind = sVar) : SStmtC base p d s := by
  intro bs w X x T t L l hw ht hX hT hL hlen
  have g0 : ((mkB s.kind).toList == [118, 97, 114]) = true := by rw [mkB_toList, hk]; rfl
  have hts := textS_eq s d
  have hv := hts.trans (if_pos hk)
  obtain ⟨hd100, hkl, hnl, hok, hel, htl, hll, -, -⟩ := htx.all
  have hB : base ≤ w.heap.size := by have := hw.1; have := hw.lt; omega
  have hpw := hw.lt
  have hsz3 : (mkB (textE s.e)).size ≤ 1000000 := by rw [mkB_len]; exact hel
  have hsz4 : (mkB s.name).size ≤ 20 := by rw [mkB_len]; exact hnl
  have hsz5 : (mkB s.kind).size ≤ 20 := by rw [mkB_len]; exact hkl
  have HE : Hid (∀ w', Below base w w' → Calls Tryd.prog 14 #[exprV s.e X x] w' (Ret (strV (textE s.e)) w')) := fun w' hb => ShowExpr_any s.e hok hel (fun n => n < base) X x w' (ht.keep hb).at (hX.keep (keepsLow hb) (fun _ h => h))
  have hcv : (⟨#[118, 97, 114, 32]⟩ : ByteArray) ++ mkB s.name ++ ⟨#[32, 61, 32]⟩ ++ mkB (textE s.e) ++ ⟨#[59]⟩ = mkB ([118, 97, 114, 32] ++ s.name ++ [32, 61, 32] ++ textE s.e ++ [59]) := by simp only [show ∀ a : List UInt8, (⟨a.toArray⟩ : ByteArray) = mkB a from fun _ => rfl, mkB_app]
  have HL : Hid (∀ w', WrAt base p bs d w' → Calls Tryd.prog 15 #[.pointer (some ⟨p, 0, none⟩), .string ((⟨#[118, 97, 114, 32]⟩ : ByteArray) ++ mkB s.name ++ ⟨#[32, 61, 32]⟩ ++ mkB (textE s.e) ++ ⟨#[59]⟩)] w' fun e w'' => e = .returned (.tuple #[]) ∧ WrPost base p (bs ++ lineT d ([118, 97, 114, 32] ++ s.name ++ [32, 61, 32] ++ textE s.e ++ [59])) d w' w'') := fun w' h' => by
    rw [hcv]
    exact line_any base p bs d _ w' h' (by omega) (by simp only [List.length_append, List.length_cons, List.length_nil]; omega) (by omega)
  have HW0 : Hid (WrAt base p bs d (w.alloc (.cells #[.string (mkB s.kind), .string (mkB s.name), .string (mkB s.e.kind), .int .i64 s.e.num, .string (mkB s.e.name), .slice X s.e.kids.length x, .slice T s.th.length t, .slice L s.el.length l] 44)).drew) := show WrAt _ _ _ _ _ from hw.below ((grow_alloc (grow_refl w) _).drew)
  have HP0 : Hid (WrPost base p bs d w (w.alloc (.cells #[.string (mkB s.kind), .string (mkB s.name), .string (mkB s.e.kind), .int .i64 s.e.num, .string (mkB s.e.name), .slice X s.e.kids.length x, .slice T s.th.length t, .slice L s.el.length l] 44)).drew) := show WrPost _ _ _ _ _ _ from WrPost.below hw ((grow_alloc (grow_refl w) _).drew)
  have HBX0 : Hid ((w.alloc (.cells #[.string (mkB s.kind), .string (mkB s.name), .string (mkB s.e.kind), .int .i64 s.e.num, .string (mkB s.e.name), .slice X s.e.kids.length x, .slice T s.th.length t, .slice L s.el.length l] 44)).drew.heap[w.heap.size]? = some (.cells #[.string (mkB s.kind), .string (mkB s.name), .string (mkB s.e.kind), .int .i64 s.e.num, .string (mkB s.e.name), .slice X s.e.kids.length x, .slice T s.th.length t, .slice L s.el.length l] 44)) := show _ = _ from heap_alloc_new w _
  unfold exprV strV at HE
  unfold stmtV
  rw [hv]
  clear hts hv hk hw ht hX hT hL hlen hok hel htx hcv
  go_enter Tryd.func37, Tryd.ntmps37
  have j1 : ¬ (9223372036854775807 < 4 + (mkB s.name).size) := by omega
  have j2 : ¬ (9223372036854775807 < 4 + (mkB s.name).size + 3) := by omega
  have j3 : ¬ (9223372036854775807 < 4 + (mkB s.name).size + 3 + (mkB (textE s.e)).size) := by omega
  have j4 : ¬ (9223372036854775807 < 4 + (mkB s.name).size + 3 + (mkB (textE s.e)).size + 1) := by omega
  go_upto_region 3 with fail
  go_region_held3 (fun w' => w'.cell? ⟨w.heap.size, 0, none⟩ = some (.string (mkB s.kind)) ∧ w'.cell? ⟨w.heap.size, 1, none⟩ = some (.string (mkB s.name)) ∧ w'.cell? ⟨w.heap.size, 2, none⟩ = some (.string (mkB s.e.kind)) ∧ w'.cell? ⟨w.heap.size, 3, none⟩ = some (.int .i64 s.e.num) ∧ w'.cell? ⟨w.heap.size, 4, none⟩ = some (.string (mkB s.e.name)) ∧ w'.cell? ⟨w.heap.size, 5, none⟩ = some (.slice X s.e.kids.length x) ∧ w'.cell? ⟨w.heap.size, 6, none⟩ = some (.slice T s.th.length t) ∧ w'.cell? ⟨w.heap.size, 7, none⟩ = some (.slice L s.el.length l))
    (with_reducible first
      | exact row8 HBX2.out
      | exact row8 HBX1.out
      | exact row8 HBX0.out)
    (first
      | (go_at_call 14; (with_reducible refine (HE.out _ HP0.out.bel).mono ?_); rintro y w1 ⟨rfl, hb1⟩; have HP1 := Lib.hid (WrPost.below HW0.out hb1); have HBX1 := Lib.hid (row_below HBX0.out hb1))
      | (go_at_call 15; (with_reducible refine (HL.out _ HP1.out.wr).mono ?_); rintro y w2 ⟨rfl, hp2⟩; have HP2 := Lib.hid hp2; have HBX2 := Lib.hid (hp2.kp _ _ _ _ (by omega) stmt_byte HBX1.out); clear hp2))
  all_goals go_wp2_with fail
  all_goals go_end0
  all_goals exact ⟨rfl, HP0.out.trans (HP1.out.trans HP2.out)⟩
set_option maxHeartbeats 4000000 in
set_option maxRecDepth 100000 in
theorem sstmt_set (base p d : Nat) (s : PStmt) (htx : TxS d s) (hk : s.kind = sSet) : SStmtC base p d s := by
  intro bs w X x T t L l hw ht hX hT hL hlen
  have g0 : ((mkB s.kind).toList == [118, 97, 114]) = false := by rw [mkB_toList, hk]; rfl
  have g1 : ((mkB s.kind).toList == [115, 101, 116]) = true := by rw [mkB_toList, hk]; rfl
  have hts := textS_eq s d
  have hv := hts.trans ((if_neg (by rw [hk]; decide)).trans (if_pos hk))
  obtain ⟨hd100, hkl, hnl, hok, hel, htl, hll, -, -⟩ := htx.all
  have hB : base ≤ w.heap.size := by have := hw.1; have := hw.lt; omega
  have hpw := hw.lt
  have hsz3 : (mkB (textE s.e)).size ≤ 1000000 := by rw [mkB_len]; exact hel
  have hsz4 : (mkB s.name).size ≤ 20 := by rw [mkB_len]; exact hnl
  have hsz5 : (mkB s.kind).size ≤ 20 := by rw [mkB_len]; exact hkl
  have HE : Hid (∀ w', Below base w w' → Calls Tryd.prog 14 #[exprV s.e X x] w' (Ret (strV (textE s.e)) w')) := fun w' hb => ShowExpr_any s.e hok hel (fun n => n < base) X x w' (ht.keep hb).at (hX.keep (keepsLow hb) (fun _ h => h))
  have hcv : mkB s.name ++ ⟨#[32, 61, 32]⟩ ++ mkB (textE s.e) ++ ⟨#[59]⟩ = mkB (s.name ++ [32, 61, 32] ++ textE s.e ++ [59]) := by simp only [show ∀ a : List UInt8, (⟨a.toArray⟩ : ByteArray) = mkB a from fun _ => rfl, mkB_app]
  have HL : Hid (∀ w', WrAt base p bs d w' → Calls Tryd.prog 15 #[.pointer (some ⟨p, 0, none⟩), .string (mkB s.name ++ ⟨#[32, 61, 32]⟩ ++ mkB (textE s.e) ++ ⟨#[59]⟩)] w' fun e w'' => e = .returned (.tuple #[]) ∧ WrPost base p (bs ++ lineT d (s.name ++ [32, 61, 32] ++ textE s.e ++ [59])) d w' w'') := fun w' h' => by
    rw [hcv]
    exact line_any base p bs d _ w' h' (by omega) (by simp only [List.length_append, List.length_cons, List.length_nil]; omega) (by omega)
  have HW0 : Hid (WrAt base p bs d (w.alloc (.cells #[.string (mkB s.kind), .string (mkB s.name), .string (mkB s.e.kind), .int .i64 s.e.num, .string (mkB s.e.name), .slice X s.e.kids.length x, .slice T s.th.length t, .slice L s.el.length l] 44)).drew) := show WrAt _ _ _ _ _ from hw.below ((grow_alloc (grow_refl w) _).drew)
  have HP0 : Hid (WrPost base p bs d w (w.alloc (.cells #[.string (mkB s.kind), .string (mkB s.name), .string (mkB s.e.kind), .int .i64 s.e.num, .string (mkB s.e.name), .slice X s.e.kids.length x, .slice T s.th.length t, .slice L s.el.length l] 44)).drew) := show WrPost _ _ _ _ _ _ from WrPost.below hw ((grow_alloc (grow_refl w) _).drew)
  have HBX0 : Hid ((w.alloc (.cells #[.string (mkB s.kind), .string (mkB s.name), .string (mkB s.e.kind), .int .i64 s.e.num, .string (mkB s.e.name), .slice X s.e.kids.length x, .slice T s.th.length t, .slice L s.el.length l] 44)).drew.heap[w.heap.size]? = some (.cells #[.string (mkB s.kind), .string (mkB s.name), .string (mkB s.e.kind), .int .i64 s.e.num, .string (mkB s.e.name), .slice X s.e.kids.length x, .slice T s.th.length t, .slice L s.el.length l] 44)) := show _ = _ from heap_alloc_new w _
  unfold exprV strV at HE
  unfold stmtV
  rw [hv]
  clear hts hv hk hw ht hX hT hL hlen hok hel htx hcv
  go_enter Tryd.func37, Tryd.ntmps37
  have j1 : ¬ (9223372036854775807 < (mkB s.name).size + 3) := by omega
  have j2 : ¬ (9223372036854775807 < (mkB s.name).size + 3 + (mkB (textE s.e)).size) := by omega
  have j3 : ¬ (9223372036854775807 < (mkB s.name).size + 3 + (mkB (textE s.e)).size + 1) := by omega
  go_upto_region 5 with fail
  go_region_held3 (fun w' => w'.cell? ⟨w.heap.size, 0, none⟩ = some (.string (mkB s.kind)) ∧ w'.cell? ⟨w.heap.size, 1, none⟩ = some (.string (mkB s.name)) ∧ w'.cell? ⟨w.heap.size, 2, none⟩ = some (.string (mkB s.e.kind)) ∧ w'.cell? ⟨w.heap.size, 3, none⟩ = some (.int .i64 s.e.num) ∧ w'.cell? ⟨w.heap.size, 4, none⟩ = some (.string (mkB s.e.name)) ∧ w'.cell? ⟨w.heap.size, 5, none⟩ = some (.slice X s.e.kids.length x) ∧ w'.cell? ⟨w.heap.size, 6, none⟩ = some (.slice T s.th.length t) ∧ w'.cell? ⟨w.heap.size, 7, none⟩ = some (.slice L s.el.length l))
    (with_reducible first
      | exact row8 HBX2.out
      | exact row8 HBX1.out
      | exact row8 HBX0.out)
    (first
      | (go_at_call 14; (with_reducible refine (HE.out _ HP0.out.bel).mono ?_); rintro y w1 ⟨rfl, hb1⟩; have HP1 := Lib.hid (WrPost.below HW0.out hb1); have HBX1 := Lib.hid (row_below HBX0.out hb1))
      | (go_at_call 15; (with_reducible refine (HL.out _ HP1.out.wr).mono ?_); rintro y w2 ⟨rfl, hp2⟩; have HP2 := Lib.hid hp2; have HBX2 := Lib.hid (hp2.kp _ _ _ _ (by omega) stmt_byte HBX1.out); clear hp2))
  all_goals go_wp2_with fail
  all_goals go_end0
  all_goals exact ⟨rfl, HP0.out.trans (HP1.out.trans HP2.out)⟩
set_option maxHeartbeats 4000000 in
set_option maxRecDepth 100000 in
theorem sstmt_return (base p d : Nat) (s : PStmt) (htx : TxS d s) (hk : s.kind = sReturn) : SStmtC base p d s := by
  intro bs w X x T t L l hw ht hX hT hL hlen
  have g0 : ((mkB s.kind).toList == [118, 97, 114]) = false := by rw [mkB_toList, hk]; rfl
  have g1 : ((mkB s.kind).toList == [115, 101, 116]) = false := by rw [mkB_toList, hk]; rfl
  have g2 : ((mkB s.kind).toList == [114, 101, 116, 117, 114, 110]) = true := by rw [mkB_toList, hk]; rfl
  have hts := textS_eq s d
  have hv := hts.trans ((if_neg (by rw [hk]; decide)).trans ((if_neg (by rw [hk]; decide)).trans (if_pos (.inl hk))))
  obtain ⟨hd100, hkl, hnl, hok, hel, htl, hll, -, -⟩ := htx.all
  have hB : base ≤ w.heap.size := by have := hw.1; have := hw.lt; omega
  have hpw := hw.lt
  have hsz3 : (mkB (textE s.e)).size ≤ 1000000 := by rw [mkB_len]; exact hel
  have hsz4 : (mkB s.name).size ≤ 20 := by rw [mkB_len]; exact hnl
  have hsz5 : (mkB s.kind).size ≤ 20 := by rw [mkB_len]; exact hkl
  have HE : Hid (∀ w', Below base w w' → Calls Tryd.prog 14 #[exprV s.e X x] w' (Ret (strV (textE s.e)) w')) := fun w' hb => ShowExpr_any s.e hok hel (fun n => n < base) X x w' (ht.keep hb).at (hX.keep (keepsLow hb) (fun _ h => h))
  have hcv : mkB s.kind ++ ⟨#[32]⟩ ++ mkB (textE s.e) ++ ⟨#[59]⟩ = mkB (s.kind ++ [32] ++ textE s.e ++ [59]) := by simp only [show ∀ a : List UInt8, (⟨a.toArray⟩ : ByteArray) = mkB a from fun _ => rfl, mkB_app]
  have HL : Hid (∀ w', WrAt base p bs d w' → Calls Tryd.prog 15 #[.pointer (some ⟨p, 0, none⟩), .string (mkB s.kind ++ ⟨#[32]⟩ ++ mkB (textE s.e) ++ ⟨#[59]⟩)] w' fun e w'' => e = .returned (.tuple #[]) ∧ WrPost base p (bs ++ lineT d (s.kind ++ [32] ++ textE s.e ++ [59])) d w' w'') := fun w' h' => by
    rw [hcv]
    exact line_any base p bs d _ w' h' (by omega) (by simp only [List.length_append, List.length_cons, List.length_nil]; omega) (by omega)
  have HW0 : Hid (WrAt base p bs d (w.alloc (.cells #[.string (mkB s.kind), .string (mkB s.name), .string (mkB s.e.kind), .int .i64 s.e.num, .string (mkB s.e.name), .slice X s.e.kids.length x, .slice T s.th.length t, .slice L s.el.length l] 44)).drew) := show WrAt _ _ _ _ _ from hw.below ((grow_alloc (grow_refl w) _).drew)
  have HP0 : Hid (WrPost base p bs d w (w.alloc (.cells #[.string (mkB s.kind), .string (mkB s.name), .string (mkB s.e.kind), .int .i64 s.e.num, .string (mkB s.e.name), .slice X s.e.kids.length x, .slice T s.th.length t, .slice L s.el.length l] 44)).drew) := show WrPost _ _ _ _ _ _ from WrPost.below hw ((grow_alloc (grow_refl w) _).drew)
  have HBX0 : Hid ((w.alloc (.cells #[.string (mkB s.kind), .string (mkB s.name), .string (mkB s.e.kind), .int .i64 s.e.num, .string (mkB s.e.name), .slice X s.e.kids.length x, .slice T s.th.length t, .slice L s.el.length l] 44)).drew.heap[w.heap.size]? = some (.cells #[.string (mkB s.kind), .string (mkB s.name), .string (mkB s.e.kind), .int .i64 s.e.num, .string (mkB s.e.name), .slice X s.e.kids.length x, .slice T s.th.length t, .slice L s.el.length l] 44)) := show _ = _ from heap_alloc_new w _
  unfold exprV strV at HE
  unfold stmtV
  rw [hv]
  clear hts hv hk hw ht hX hT hL hlen hok hel htx hcv
  go_enter Tryd.func37, Tryd.ntmps37
  have j1 : ¬ (9223372036854775807 < (mkB s.kind).size + 1) := by omega
  have j2 : ¬ (9223372036854775807 < (mkB s.kind).size + 1 + (mkB (textE s.e)).size) := by omega
  have j3 : ¬ (9223372036854775807 < (mkB s.kind).size + 1 + (mkB (textE s.e)).size + 1) := by omega
  go_upto_region 8 with fail
  go_region_held3 (fun w' => w'.cell? ⟨w.heap.size, 0, none⟩ = some (.string (mkB s.kind)) ∧ w'.cell? ⟨w.heap.size, 1, none⟩ = some (.string (mkB s.name)) ∧ w'.cell? ⟨w.heap.size, 2, none⟩ = some (.string (mkB s.e.kind)) ∧ w'.cell? ⟨w.heap.size, 3, none⟩ = some (.int .i64 s.e.num) ∧ w'.cell? ⟨w.heap.size, 4, none⟩ = some (.string (mkB s.e.name)) ∧ w'.cell? ⟨w.heap.size, 5, none⟩ = some (.slice X s.e.kids.length x) ∧ w'.cell? ⟨w.heap.size, 6, none⟩ = some (.slice T s.th.length t) ∧ w'.cell? ⟨w.heap.size, 7, none⟩ = some (.slice L s.el.length l))
    (with_reducible first
      | exact row8 HBX2.out
      | exact row8 HBX1.out
      | exact row8 HBX0.out)
    (first
      | (go_at_call 14; (with_reducible refine (HE.out _ HP0.out.bel).mono ?_); rintro y w1 ⟨rfl, hb1⟩; have HP1 := Lib.hid (WrPost.below HW0.out hb1); have HBX1 := Lib.hid (row_below HBX0.out hb1))
      | (go_at_call 15; (with_reducible refine (HL.out _ HP1.out.wr).mono ?_); rintro y w2 ⟨rfl, hp2⟩; have HP2 := Lib.hid hp2; have HBX2 := Lib.hid (hp2.kp _ _ _ _ (by omega) stmt_byte HBX1.out); clear hp2))
  all_goals go_wp2_with fail
  all_goals go_end0
  all_goals exact ⟨rfl, HP0.out.trans (HP1.out.trans HP2.out)⟩
set_option maxHeartbeats 4000000 in
set_option maxRecDepth 100000 in
theorem sstmt_print (base p d : Nat) (s : PStmt) (htx : TxS d s) (hk : s.kind = sPrint) : SStmtC base p d s := by
  intro bs w X x T t L l hw ht hX hT hL hlen
  have g0 : ((mkB s.kind).toList == [118, 97, 114]) = false := by rw [mkB_toList, hk]; rfl
  have g1 : ((mkB s.kind).toList == [115, 101, 116]) = false := by rw [mkB_toList, hk]; rfl
  have g2 : ((mkB s.kind).toList == [114, 101, 116, 117, 114, 110]) = false := by rw [mkB_toList, hk]; rfl
  have g3 : ((mkB s.kind).toList == [112, 114, 105, 110, 116]) = true := by rw [mkB_toList, hk]; rfl
  have hts := textS_eq s d
  have hv := hts.trans ((if_neg (by rw [hk]; decide)).trans ((if_neg (by rw [hk]; decide)).trans (if_pos (.inr hk))))
  obtain ⟨hd100, hkl, hnl, hok, hel, htl, hll, -, -⟩ := htx.all
  have hB : base ≤ w.heap.size := by have := hw.1; have := hw.lt; omega
  have hpw := hw.lt
  have hsz3 : (mkB (textE s.e)).size ≤ 1000000 := by rw [mkB_len]; exact hel
  have hsz4 : (mkB s.name).size ≤ 20 := by rw [mkB_len]; exact hnl
  have hsz5 : (mkB s.kind).size ≤ 20 := by rw [mkB_len]; exact hkl
  have HE : Hid (∀ w', Below base w w' → Calls Tryd.prog 14 #[exprV s.e X x] w' (Ret (strV (textE s.e)) w')) := fun w' hb => ShowExpr_any s.e hok hel (fun n => n < base) X x w' (ht.keep hb).at (hX.keep (keepsLow hb) (fun _ h => h))
  have hcv : mkB s.kind ++ ⟨#[32]⟩ ++ mkB (textE s.e) ++ ⟨#[59]⟩ = mkB (s.kind ++ [32] ++ textE s.e ++ [59]) := by simp only [show ∀ a : List UInt8, (⟨a.toArray⟩ : ByteArray) = mkB a from fun _ => rfl, mkB_app]
  have HL : Hid (∀ w', WrAt base p bs d w' → Calls Tryd.prog 15 #[.pointer (some ⟨p, 0, none⟩), .string (mkB s.kind ++ ⟨#[32]⟩ ++ mkB (textE s.e) ++ ⟨#[59]⟩)] w' fun e w'' => e = .returned (.tuple #[]) ∧ WrPost base p (bs ++ lineT d (s.kind ++ [32] ++ textE s.e ++ [59])) d w' w'') := fun w' h' => by
    rw [hcv]
    exact line_any base p bs d _ w' h' (by omega) (by simp only [List.length_append, List.length_cons, List.length_nil]; omega) (by omega)
  have HW0 : Hid (WrAt base p bs d (w.alloc (.cells #[.string (mkB s.kind), .string (mkB s.name), .string (mkB s.e.kind), .int .i64 s.e.num, .string (mkB s.e.name), .slice X s.e.kids.length x, .slice T s.th.length t, .slice L s.el.length l] 44)).drew) := show WrAt _ _ _ _ _ from hw.below ((grow_alloc (grow_refl w) _).drew)
  have HP0 : Hid (WrPost base p bs d w (w.alloc (.cells #[.string (mkB s.kind), .string (mkB s.name), .string (mkB s.e.kind), .int .i64 s.e.num, .string (mkB s.e.name), .slice X s.e.kids.length x, .slice T s.th.length t, .slice L s.el.length l] 44)).drew) := show WrPost _ _ _ _ _ _ from WrPost.below hw ((grow_alloc (grow_refl w) _).drew)
  have HBX0 : Hid ((w.alloc (.cells #[.string (mkB s.kind), .string (mkB s.name), .string (mkB s.e.kind), .int .i64 s.e.num, .string (mkB s.e.name), .slice X s.e.kids.length x, .slice T s.th.length t, .slice L s.el.length l] 44)).drew.heap[w.heap.size]? = some (.cells #[.string (mkB s.kind), .string (mkB s.name), .string (mkB s.e.kind), .int .i64 s.e.num, .string (mkB s.e.name), .slice X s.e.kids.length x, .slice T s.th.length t, .slice L s.el.length l] 44)) := show _ = _ from heap_alloc_new w _
  unfold exprV strV at HE
  unfold stmtV
  rw [hv]
  clear hts hv hk hw ht hX hT hL hlen hok hel htx hcv
  go_enter Tryd.func37, Tryd.ntmps37
  have j1 : ¬ (9223372036854775807 < (mkB s.kind).size + 1) := by omega
  have j2 : ¬ (9223372036854775807 < (mkB s.kind).size + 1 + (mkB (textE s.e)).size) := by omega
  have j3 : ¬ (9223372036854775807 < (mkB s.kind).size + 1 + (mkB (textE s.e)).size + 1) := by omega
  go_upto_region 8 with fail
  go_region_held3 (fun w' => w'.cell? ⟨w.heap.size, 0, none⟩ = some (.string (mkB s.kind)) ∧ w'.cell? ⟨w.heap.size, 1, none⟩ = some (.string (mkB s.name)) ∧ w'.cell? ⟨w.heap.size, 2, none⟩ = some (.string (mkB s.e.kind)) ∧ w'.cell? ⟨w.heap.size, 3, none⟩ = some (.int .i64 s.e.num) ∧ w'.cell? ⟨w.heap.size, 4, none⟩ = some (.string (mkB s.e.name)) ∧ w'.cell? ⟨w.heap.size, 5, none⟩ = some (.slice X s.e.kids.length x) ∧ w'.cell? ⟨w.heap.size, 6, none⟩ = some (.slice T s.th.length t) ∧ w'.cell? ⟨w.heap.size, 7, none⟩ = some (.slice L s.el.length l))
    (with_reducible first
      | exact row8 HBX2.out
      | exact row8 HBX1.out
      | exact row8 HBX0.out)
    (first
      | (go_at_call 14; (with_reducible refine (HE.out _ HP0.out.bel).mono ?_); rintro y w1 ⟨rfl, hb1⟩; have HP1 := Lib.hid (WrPost.below HW0.out hb1); have HBX1 := Lib.hid (row_below HBX0.out hb1))
      | (go_at_call 15; (with_reducible refine (HL.out _ HP1.out.wr).mono ?_); rintro y w2 ⟨rfl, hp2⟩; have HP2 := Lib.hid hp2; have HBX2 := Lib.hid (hp2.kp _ _ _ _ (by omega) stmt_byte HBX1.out); clear hp2))
  all_goals go_wp2_with fail
  all_goals go_end0
  all_goals exact ⟨rfl, HP0.out.trans (HP1.out.trans HP2.out)⟩
end Go.Proofs.YtpfgimohginbdaaDoor
