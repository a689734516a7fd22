import Derived.Test.YtpfgimohginbdaaDoorBn25
import Derived.Test.YtpfgimohginbdaaDoorBn27
import Derived.Test.YtpfgimohginbdaaDoorBn28
import Derived.Deep.CutRange
set_option linter.unusedVariables false
set_option linter.unusedSimpArgs false
namespace Go.Proofs.YtpfgimohginbdaaDoor
open Go.RowKit

/-! the law TreeCuts -/
/-- What a call of the parser leaves in two slots. -/
def PaRes (ts : List Tok) (v e : Value) : Prop := ∃ (B : Option Addr) (d : Nat), v = .slice B (if (parseP ts).2.err = none then (parseP ts).1.length else 0) d ∧ (((parseP ts).2.err = none ∧ e = .nilIface) ∨ ((parseP ts).2.err ≠ none ∧ ∃ t, e = .iface 49 t))
theorem parse_res (E : Nat → Addr) (w : World) (hE : Laid E w) (ts : List Tok) (hN : NumOk ts) (hl : ts.length ≤ 100000) (A : Option Addr) (c : Nat) (hr : Row w A (ts.flatMap tokCells)) :
    Calls Tryd.prog 7 #[.slice A ts.length c] w fun e w' => ∃ B n d er, e = .returned (.tuple #[.slice B n d, er]) ∧ PaRes ts (.slice B n d) er ∧ Below w.heap.size w w' := by
  refine (Parse_any (c := c) ⟨hE, hr, hl⟩ hN).mono ?_
  rintro e w' ⟨hb, h⟩
  rcases h with ⟨B, d, he, rfl, hf⟩ | ⟨z, p, fb, he, -, -, rfl, -⟩
  · exact ⟨B, _, d, _, rfl, ⟨B, d, by rw [if_pos he], .inl ⟨he, rfl⟩⟩, hb⟩
  · exact ⟨none, 0, 0, _, rfl, ⟨none, 0, by rw [if_neg (by rw [he]; simp)], .inr ⟨by rw [he]; simp, _, rfl⟩⟩, hb⟩
theorem len_le (l : List Tok) : (parseP l).1.length ≤ l.length + 1 ∨ True := .inr trivial
theorem take_cells (ts : List Tok) (n : Nat) : (ts.take n).flatMap tokCells = (ts.flatMap tokCells).take (n * 3) := by
  induction ts generalizing n with
  | nil => simp
  | cons t ts ih =>
    cases n with
    | zero => simp
    | succ n =>
      rw [List.take_succ_cons, List.flatMap_cons, List.flatMap_cons, ih]
      have : (tokCells t).length = 3 := rfl
      have h1 : (tokCells t).take ((n + 1) * 3) = tokCells t := List.take_of_length_le (by rw [this]; omega)
      rw [List.take_append, h1, this, show (n + 1) * 3 - 3 = n * 3 by omega]
theorem drop_cells (ts : List Tok) (n : Nat) : (ts.drop n).flatMap tokCells = (ts.flatMap tokCells).drop (n * 3) := by
  induction ts generalizing n with
  | nil => simp
  | cons t ts ih =>
    cases n with
    | zero => simp
    | succ n =>
      rw [List.drop_succ_cons, List.flatMap_cons, ih]
      have : (tokCells t).length = 3 := rfl
      have h1 : (tokCells t).drop ((n + 1) * 3) = [] := List.drop_of_length_le (by rw [this]; omega)
      rw [List.drop_append, h1, this, show (n + 1) * 3 - 3 = n * 3 by omega, List.nil_append]
theorem wholeL_succ (l : List Tok) (k : Nat) : wholeL l (k + 1) = (decide (dpt l 0 (k + 1) = 0) && (txA l k == [125])) := by
  unfold wholeL
  rw [Bool.eq_iff_iff]
  simp
theorem dpt_bd (l : List Tok) : ∀ k : Nat, -(k : Int) ≤ dpt l 0 k ∧ dpt l 0 k ≤ k := by
  intro k
  induction k with
  | zero => rw [dpt_self]; omega
  | succ k ih =>
    rw [dpt_succ (Nat.zero_le _)]
    unfold brD
    split
    · omega
    · split <;> omega
theorem toks_form {w : World} {base : Nat} {e : TypeId} {v : Value} {ts : List Tok} (h : w.ownsRow base e 3 v ts.length (ts.flatMap tokCells)) : ∃ A c, v = .slice A ts.length c ∧ Row w A (ts.flatMap tokCells) ∧ ts.length ≤ c ∧ (A = none ∧ ts.length = 0 ∧ c = 0 ∨ ∃ g, A = some ⟨g, 0, none⟩) := by
  obtain ⟨A, c, e1, hr⟩ := row_of_owns h
  subst e1
  rcases h.2 with ⟨q, h0⟩ | ⟨g, cap, cur, q, _, _, hc, _⟩
  · injection q with q1 q2 q3
    subst q1
    subst q3
    exact ⟨none, 0, rfl, hr, by omega, .inl ⟨rfl, q2, rfl⟩⟩
  · injection q with q1 q2 q3
    subst q1
    subst q3
    exact ⟨_, c, rfl, hr, by omega, .inr ⟨g, rfl⟩⟩
theorem row_take {w : World} {A : Option Addr} {ts : List Tok} {n : Nat} (h : Row w A (ts.flatMap tokCells)) : Row w A ((ts.take n).flatMap tokCells) := by
  rw [take_cells]
  intro j u hj
  rw [List.getElem?_take] at hj
  split at hj
  · exact h j u hj
  · cases hj
theorem row_drop {w : World} {g : Nat} {ts : List Tok} {n : Nat} (h : Row w (some ⟨g, 0, none⟩) (ts.flatMap tokCells)) : Row w (some ⟨g, n * 3, none⟩) ((ts.drop n).flatMap tokCells) := by
  rw [drop_cells]
  intro j u hj
  rw [List.getElem?_drop] at hj
  obtain ⟨b, off, e, hc⟩ := h _ u hj
  injection e with e
  injection e with e1 e2 _
  subst e1
  subst e2
  exact ⟨g, n * 3, rfl, by rw [Nat.zero_add] at hc; exact hc⟩
theorem append_nothingQ {P : Program} (w : World) (t ty e : TypeId) (i : TypeInfo) (ht : P.underlying t = some (.slice e)) (hi : P.info? e = some i) (X : Option Addr) (c : Nat) :
    (Builtin.append_ #[t, t] ty #[.slice none 0 0, .slice X 0 c]).run P w = .ok (.slice none 0 0) w := by
  simp [Builtin.append_, run_underlying ht, sizeOf, typeInfo, hi, Builtin.lenOf]
  cases X <;> simp [Builtin.firstCells, loadCells, loadCellsFrom]
set_option maxHeartbeats 8000000 in
set_option maxRecDepth 100000 in
theorem TreeCuts_walk (E : Nat → Addr) (s : ByteArray) (m : Int) (w : World) (hm : -9223372036854775808 ≤ m ∧ m ≤ 9223372036854775807) (hE : Laid E w) :
    Calls Tryd.prog 3 #[.string s, .int .i64 m] w (Ret (.bool true) w) := by
  have HT := Lib.hid (treed_any E w hE)
  have HE := Lib.hid hE
  have hm1 := hm.1
  have hm2 := hm.2
  clear hE hm
  by_cases hl : (1500 : Int) < s.size
  · have hl2 : decide (1500 < s.size) = true := by simp; omega
    go_enter Tryd.func3, Tryd.ntmps3
    go_wp2_with (go_at_call 5; (with_reducible refine HT.out.mono ?_); rintro x w' ⟨rfl, hb⟩)
    go_ret
    exact ⟨rfl, hb⟩
  · have hl2 : decide (1500 < s.size) = false := by simp; omega
    by_cases hneg : m < 0
    · have hn2 : decide (m < 0) = true := by simpa using hneg
      go_enter Tryd.func3, Tryd.ntmps3
      go_wp2_with (go_at_call 5; (with_reducible refine HT.out.mono ?_); rintro x w' ⟨rfl, hb⟩)
      go_ret
      exact ⟨rfl, hb⟩
    · have hn2 : decide (m < 0) = false := by simpa using hneg
      obtain ⟨n, rfl⟩ : ∃ n : Nat, m = n := ⟨m.toNat, by omega⟩
      have hn3 : decide ((n : Int) < 0) = false := hn2
      have HRD : Hid (∀ w', Below w.heap.size w w' → Calls Tryd.prog 6 #[.string s] w' fun e w2 => ∃ sl er, e = .returned (.tuple #[sl, er]) ∧ ReadVal s (E 0) (E 1) (E 7) w2 w'.heap.size sl er ∧ Below w'.heap.size w' w2) := fun w' hb => Read_any s (by omega) _ _ _ w' (HE.out.keep hb).c0 (HE.out.keep hb).c1 (HE.out.keep hb).c7
      clear hneg hn2 hm1
      go_enter Tryd.func3, Tryd.ntmps3
      go_upto_region 5 with (first
        | (go_at_call 5; (with_reducible refine HT.out.mono ?_); rintro x w1 ⟨rfl, hb1⟩; have HB1 := Lib.hid hb1; clear hb1)
        | (go_at_call 6; (with_reducible refine (HRD.out _ HB1.out).mono ?_); rintro x w2 ⟨sl, er, rfl, hv, hb2⟩; have HV := Lib.hid (And.intro hv (grow_trans HB1.out hb2)); clear hv hb2))
      have hv := HV.out.1
      rcases hv with ⟨-, rfl, rfl⟩ | ⟨-, p, fb, -, rfl, rfl, -, -⟩ | ⟨-, -, -, rfl, rfl⟩ | ⟨-, -, hts, rfl, ho⟩
      · unfold esV
        go_wp2_with fail
        go_ret
        exact ⟨rfl, HV.out.2⟩
      · unfold ftV
        go_wp2_with fail
        go_ret
        exact ⟨rfl, HV.out.2⟩
      · unfold esV
        go_wp2_with fail
        go_ret
        exact ⟨rfl, HV.out.2⟩
      · have hT := lexA_ok _ (bytesL s) 0 (Nat.le_refl _)
        obtain ⟨ts, hts2⟩ : ∃ ts, (lexA (bytesL s) 0).1 = ts := ⟨_, rfl⟩
        rw [hts2] at hts ho hT
        obtain ⟨A, c, rfl, hr, hc, hA⟩ := toks_form ho
        have HB2 := Lib.hid HV.out.2
        have HR := Lib.hid hr
        have HTK := Lib.hid hT
        have HLN := Lib.hid hts
        clear ho hr hT hts2 HV HRD
        rcases hA with ⟨rfl, h0, rfl⟩ | ⟨g, rfl⟩
        · obtain rfl : ts = [] := List.length_eq_zero_iff.1 h0
          have hpe : (parseP ([] : List Tok)).2.err = none := by decide
          have hpl : (parseP ([] : List Tok)).1.length = 0 := by decide
          have HP0 : Hid (∀ w', Below w2.heap.size w2 w' → Calls Tryd.prog 7 #[.slice none 0 0] w' fun e w3 => ∃ B d, e = .returned (.tuple #[.slice B 0 d, .nilIface]) ∧ Below w'.heap.size w' w3) := fun w' hb => by
            refine (parse_res E w' (HE.out.keep (grow_trans HB2.out hb)) [] (fun t h => absurd h List.not_mem_nil) (Nat.zero_le _) none 0 (Row.nil _ _)).mono ?_
            rintro e w3 ⟨B, n', d, er, rfl, ⟨B', d', e1, e2⟩, hb3⟩
            rw [if_pos hpe, hpl] at e1
            rcases e2 with ⟨-, rfl⟩ | ⟨h, -⟩
            · rw [e1]; exact ⟨B', d', rfl, hb3⟩
            · exact absurd hpe h
          clear hc h0 hpe hpl
          by_cases hn0 : n = 0
          · subst hn0
            obtain ⟨ti, hi, hz0, hz1, hz2⟩ := info_parts tokInfo
            have hap : ∀ w', (Builtin.append_ #[23, 23] 23 #[.slice none 0 0, .slice none 0 0]).run Tryd.prog w' = .ok (.slice none 0 0) w' := fun w' => append_nothingQ w' _ _ _ ti Tryd.underlying23 hi none 0
            simp only [List.length_nil]
            go_upto_region 8 with (go_at_call 7; (with_reducible refine (HP0.out _ (Below.refl _ _)).mono ?_); rintro y w3 ⟨B3, d3, rfl, hb3⟩; have H3 := Lib.hid hb3; clear hb3)
            go_upto_region 12 with (go_at_call 7; (with_reducible refine (HP0.out _ H3.out).mono ?_); rintro y w4 ⟨B4, d4, rfl, hb4⟩; have H4 := Lib.hid (grow_trans H3.out hb4); clear hb4)
            go_wp2_with fail
            go_loop [12, 13, 14] (fun v d i => v = .bool true ∧ d = .int .i64 0 ∧ i = .int .i64 0) (fun _ _ i => 0)
            case atStart => exact ⟨rfl, rfl, rfl⟩
            case round =>
              obtain ⟨rfl, rfl, rfl⟩ := hrel
              go_wp2_with (go_at_call 7; (with_reducible refine (HP0.out _ H4.out).mono ?_); rintro y w5 ⟨B5, d5, rfl, hb5⟩; have H5 := Lib.hid (grow_trans H4.out hb5); clear hb5)
              go_ret
              exact ⟨rfl, grow_trans HB2.out H5.out⟩
          · have hat2 : decide (0 < n) = true := by simpa using (show 0 < n by omega)
            go_wp2_with fail
            go_ret
            exact ⟨rfl, HB2.out⟩
        have HC := Lib.hid hc
        by_cases hat : n ≤ ts.length
        · have hat2 : decide (ts.length < n) = false := by simpa using hat
          have HPR : Hid (∀ w' A' c' us, (∀ t ∈ us, t ∈ ts) → us.length ≤ ts.length → Below w2.heap.size w2 w' → Row w' A' (us.flatMap tokCells) → Calls Tryd.prog 7 #[.slice A' us.length c'] w' fun e w3 => ∃ B n d er, e = .returned (.tuple #[.slice B n d, er]) ∧ PaRes us (.slice B n d) er ∧ Below w'.heap.size w' w3) :=
            fun w' A' c' us h1 h2 hb hr => parse_res E w' (HE.out.keep (grow_trans HB2.out hb)) us (fun t ht hk => (HTK.out t (h1 t ht)).num hk) (by have := HLN.out; omega) A' c' hr
          have HP1 := Lib.hid (HPR.out w2 (some ⟨g, 0, none⟩) c ts (fun t h => h) (Nat.le_refl _) (Below.refl _ _) HR.out)
          go_upto_region 8 with (go_at_call 7; (with_reducible refine HP1.out.mono ?_); rintro y w3 ⟨B, n1, d1, er1, rfl, hp1, hb3⟩; have H3 := Lib.hid (And.intro hp1 hb3); clear hp1 hb3)
          obtain ⟨B', d', e1, e2⟩ := H3.out.1
          injection e1 with e1 e3 e4
          subst e1
          subst e4
          rcases e2 with ⟨he, rfl⟩ | ⟨he, t, rfl⟩
          · rw [if_pos he] at e3
            subst e3
            have HCU := Lib.hid (cuts HTK.out hat he)
            have HNP : Hid ((parseP ts).1.length ≤ 100000) := show _ ≤ _ by
              rw [((parse_same ts).same he).2]
              have := (bd_parseQ ts).1
              have := HLN.out
              omega
            have HAT := Lib.hid hat
            clear he
            obtain ⟨ti, hi, hz0, hz1, hz2⟩ := info_parts tokInfo
            obtain ⟨tl, htl⟩ : ∃ tl, ts.length = tl := ⟨_, rfl⟩
            have HTL := Lib.hid htl
            rw [htl]
            have hnc : (n : Int) ≤ (c : Int) := by have := HC.out; omega
            have hn0 : (0 : Int) ≤ (n : Int) := by omega
            clear htl hat hat2
            go_upto_region 11 with fail
            go_cut [10, 11] from 53 to 61 (fun va ve wx => PaRes (ts.take n) va ve ∧ Below w3.heap.size w3 wx)
            case first =>
              have HLT : Hid ((ts.take n).length = n) := show _ = _ by rw [List.length_take]; have := HAT.out; omega
              have HCE : Hid (∀ j u, ((ts.take n).flatMap tokCells)[j]? = some u → w3.cell? ((⟨g, 0, none⟩ : Addr).add j) = some u) := fun j u hj => by
                obtain ⟨b, off, e, hc⟩ := (row_take (n := n) HR.out).keep (Keeps.of_below H3.out.2) j u hj
                injection e with e
                injection e with e1 e2 _
                subst e1
                subst e2
                rw [show (⟨g, 0, none⟩ : Addr).add j = ⟨g, 0 + j, none⟩ by unfold Addr.add; split <;> simp_all]
                exact hc
              have hcl : ((ts.take n).flatMap tokCells).length = n * 3 := by rw [tokCells_len, HLT.out]
              have HN0 : Hid (n ≤ 1000) := show n ≤ 1000 by have := HAT.out; have := HLN.out; omega
              obtain ⟨cs, hcs⟩ : ∃ cs, (ts.take n).flatMap tokCells = cs := ⟨_, rfl⟩
              rw [hcs] at hcl HCE
              have HCS := Lib.hid hcs
              have HCL := Lib.hid hcl
              have HONE : Hid (∀ u ∈ cs, u.oneCell' = true) := show ∀ u ∈ cs, _ by
                rw [← hcs]
                intro u hu
                obtain ⟨t, -, ht⟩ := List.mem_flatMap.1 hu
                simp [tokCells] at ht
                rcases ht with rfl | rfl | rfl <;> rfl
              clear hcs hcl
              go_wp2_with (at_builtin; refine wpList_append_own_at _ rfl _ _ 23 rfl w3.heap.size 32 ti _ 3 40 Tryd.underlying23 hi hz0 hz1 hz2 rfl (by decide) _ 0 [] rfl (World.ownsRow_nil _ _ _ _) ⟨g, 0, none⟩ n c cs rfl HCL.out ?c1 ?c2 ?c3 ?c4 ?c5 ?_)
              case c1 => exact HCE.out
              case c2 => exact HONE.out
              case c3 => have := HN0.out; unfold maxLen; omega
              case c4 => have := HN0.out; omega
              case c5 => exact Nat.le_refl _
              · intro v' w5 hown' hgrow _ hat
                rw [← HCS.out] at hown'
                have hb5 : Below w3.heap.size w3 w5 := Below.grown (Below.refl _ _) hgrow (Nat.le_refl _) (fun i hi => by simp [Value.ownBlock] at hi)
                have hf := toks_form (ts := ts.take n) (by rw [HLT.out]; exact hown')
                rw [HLT.out] at hf
                obtain ⟨A5, c5, rfl, hr5, -, -⟩ := hf
                have HP2 : Hid (Calls Tryd.prog 7 #[.slice A5 n c5] w5 fun e w4 => ∃ B n' d er, e = .returned (.tuple #[.slice B n' d, er]) ∧ PaRes (ts.take n) (.slice B n' d) er ∧ Below w5.heap.size w5 w4) := by
                  have := HPR.out w5 A5 c5 (ts.take n) (fun t h => List.mem_of_mem_take h) (by rw [HLT.out]; exact HAT.out) (grow_trans H3.out.2 hb5) hr5
                  rw [HLT.out] at this
                  exact this
                have HB5 := Lib.hid hb5
                clear hown' hgrow hat hb5 hr5
                go_wp2_with (go_at_call 7; (with_reducible refine HP2.out.mono ?_); rintro y w4 ⟨B2, n2, d2, er2, rfl, hp2, hb4⟩; have H4 := Lib.hid (And.intro hp2 (grow_trans HB5.out hb4)); clear hp2 hb4)
                go_meet
                exact H4.out
            case rest =>
              rename_i wc
              obtain ⟨⟨B2, d2, rfl, hp2⟩, hb4⟩ := hcut
              have H4 := Lib.hid (And.intro hp2 hb4)
              clear hp2 hb4
              obtain ⟨lb, hlb⟩ : ∃ l, (if (parseP (ts.take n)).2.err = none then (parseP (ts.take n)).1.length else 0) = l := ⟨_, rfl⟩
              rw [hlb]
              have HLB := Lib.hid hlb
              clear hlb
              go_wp2_with fail
              go_loop [12, 13, 14] (fun v d i => ∃ k : Nat, k ≤ n ∧ i = .int .i64 k ∧ d = .int .i64 (dpt ts 0 k) ∧ v = .bool (wholeL ts k)) (fun _ _ i => n - (intOf i).toNat)
              case atStart => exact ⟨0, Nat.zero_le _, rfl, rfl, rfl⟩
              case round =>
                obtain ⟨k, hk, rfl, rfl, rfl⟩ := hrel
                by_cases hlt : k < n
                · have hkt : k < ts.length := by have := HAT.out; omega
                  obtain ⟨b, off, hbe, c0, c1, c2⟩ := toks_at (HR.out.keep (Keeps.of_below (grow_trans H3.out.2 H4.out.2))) hkt
                  injection hbe with hbe
                  injection hbe with hbe1 hbe2 _
                  subst hbe1
                  subst hbe2
                  rw [Nat.zero_add] at c0 c1 c2
                  have HTX : Hid (txA ts k = ts[k].text) := show _ = _ by unfold txA; rw [List.getElem?_eq_getElem hkt]; rfl
                  have HD := Lib.hid (dpt_succ (l := ts) (Nat.zero_le k))
                  have HW := Lib.hid (wholeL_succ ts k)
                  obtain ⟨tx, htx⟩ : ∃ x, ts[k].text = x := ⟨_, rfl⟩
                  rw [htx] at c1 HTX
                  have hbd := dpt_bd ts k
                  obtain ⟨dk, hdk⟩ : ∃ d, dpt ts 0 k = d := ⟨_, rfl⟩
                  rw [hdk] at HD hbd ⊢
                  have hbd1 := hbd.1
                  have hbd2 := hbd.2
                  have hn1 : n ≤ 1000 := by have := HAT.out; have := HLN.out; omega
                  have hlt' : (k : Int) < (n : Int) := by omega
                  have hk0 : (0 : Int) ≤ (k : Int) := by omega
                  have hktl : (k : Int) < (tl : Int) := by rw [HTL.out] at hkt; omega
                  have e1 : ((mkB tx).toList == [123]) = (tx == [123]) := by rw [mkB_toList]
                  have e2 : ((mkB tx).toList == [125]) = (tx == [125]) := by rw [mkB_toList]
                  clear c0 c2 hkt htx hdk hbd
                  by_cases x1 : tx = [123]
                  · have f1 : (tx == [123]) = true := by rw [x1]; rfl
                    have f2 : (tx == [125]) = false := by rw [x1]; rfl
                    rw [f1] at e1
                    rw [f2] at e2
                    have HD2 : Hid (dpt ts 0 (k + 1) = dk + 1) := show _ = _ by
                      rw [HD.out, HTX.out]
                      rw [x1]; rfl
                    by_cases hz : dk + 1 = 0
                    · have hzb : (dk + 1 == 0) = true := by rw [hz]; rfl
                      have HW2 : Hid (wholeL ts (k + 1) = false) := show _ = _ by rw [HW.out, HD2.out, HTX.out, f2]; simp [hz]
                      clear f1 f2 x1 hz
                      go_wp2_with fail
                      go_round
                      case rel => exact ⟨k + 1, by omega, by go_num, by rw [HD2.out], by rw [HW2.out]⟩
                      case measure => simp [intOf]; omega
                    · have hzb : (dk + 1 == 0) = false := by simpa using hz
                      have HW2 : Hid (wholeL ts (k + 1) = false) := show _ = _ by rw [HW.out, HD2.out, HTX.out, f2]; simp [hz]
                      clear f1 f2 x1 hz
                      go_wp2_with fail
                      go_round
                      case rel => exact ⟨k + 1, by omega, by go_num, by rw [HD2.out], by rw [HW2.out]⟩
                      case measure => simp [intOf]; omega
                  · by_cases x2 : tx = [125]
                    · have f1 : (tx == [123]) = false := by rw [x2]; rfl
                      have f2 : (tx == [125]) = true := by rw [x2]; rfl
                      rw [f1] at e1
                      rw [f2] at e2
                      have HD2 : Hid (dpt ts 0 (k + 1) = dk - 1) := show _ = _ by
                        rw [HD.out, HTX.out]
                        rw [x2]; rfl
                      by_cases hz : dk - 1 = 0
                      · have hzb : (dk - 1 == 0) = true := by rw [hz]; rfl
                        have HW2 : Hid (wholeL ts (k + 1) = true) := show _ = _ by rw [HW.out, HD2.out, HTX.out, f2]; simp [hz]
                        clear f1 f2 x1 x2 hz
                        go_wp2_with fail
                        go_round
                        case rel => exact ⟨k + 1, by omega, by go_num, by rw [HD2.out], by rw [HW2.out]⟩
                        case measure => simp [intOf]; omega
                      · have hzb : (dk - 1 == 0) = false := by simpa using hz
                        have HW2 : Hid (wholeL ts (k + 1) = false) := show _ = _ by rw [HW.out, HD2.out, HTX.out, f2]; simp [hz]
                        clear f1 f2 x1 x2 hz
                        go_wp2_with fail
                        go_round
                        case rel => exact ⟨k + 1, by omega, by go_num, by rw [HD2.out], by rw [HW2.out]⟩
                        case measure => simp [intOf]; omega
                    · have f1 : (tx == [123]) = false := by simpa using x1
                      have f2 : (tx == [125]) = false := by simpa using x2
                      rw [f1] at e1
                      rw [f2] at e2
                      have HD2 : Hid (dpt ts 0 (k + 1) = dk) := show _ = _ by
                        rw [HD.out, HTX.out]
                        unfold brD; rw [if_neg x1, if_neg x2, Int.add_zero]
                      by_cases hz : dk = 0
                      · have hzb : (dk == 0) = true := by rw [hz]; rfl
                        have HW2 : Hid (wholeL ts (k + 1) = false) := show _ = _ by rw [HW.out, HD2.out, HTX.out, f2]; simp [hz]
                        clear f1 f2 x1 x2 hz
                        go_wp2_with fail
                        go_round
                        case rel => exact ⟨k + 1, by omega, by go_num, by rw [HD2.out], by rw [HW2.out]⟩
                        case measure => simp [intOf]; omega
                      · have hzb : (dk == 0) = false := by simpa using hz
                        have HW2 : Hid (wholeL ts (k + 1) = false) := show _ = _ by rw [HW.out, HD2.out, HTX.out, f2]; simp [hz]
                        clear f1 f2 x1 x2 hz
                        go_wp2_with fail
                        go_round
                        case rel => exact ⟨k + 1, by omega, by go_num, by rw [HD2.out], by rw [HW2.out]⟩
                        case measure => simp [intOf]; omega
                · obtain rfl : k = n := by omega
                  rcases H4.out.1 with ⟨he2, rfl⟩ | ⟨he2, t, rfl⟩
                  · have hw := HCU.out.1.1 he2
                    obtain ⟨g1, g2⟩ := HCU.out.2 hw
                    have HDL : Hid ((ts.drop k).length = tl - k) := show _ = _ by rw [List.length_drop, HTL.out]
                    have HDR : Hid (c ≠ k → Row wc (some ⟨g, k * 3, none⟩) ((ts.drop k).flatMap tokCells)) := fun _ => row_drop (HR.out.keep (Keeps.of_below (grow_trans H3.out.2 H4.out.2)))
                    have HP3 : Hid (∀ A2 c2, Row wc A2 ((ts.drop k).flatMap tokCells) → Calls Tryd.prog 7 #[.slice A2 (tl - k) c2] wc fun e w4 => ∃ B n' d er, e = .returned (.tuple #[.slice B n' d, er]) ∧ PaRes (ts.drop k) (.slice B n' d) er ∧ Below wc.heap.size wc w4) := fun A2 c2 hr => by
                      have := HPR.out wc A2 c2 (ts.drop k) (fun t h => List.mem_of_mem_drop h) (by rw [List.length_drop]; omega) (grow_trans H3.out.2 H4.out.2) hr
                      rw [HDL.out] at this
                      exact this
                    have hktl : (k : Int) ≤ (tl : Int) := by have := HAT.out; rw [HTL.out] at this; omega
                    have hk0 : (0 : Int) ≤ (k : Int) := by omega
                    have hlb := HLB.out
                    rw [if_pos he2] at hlb
                    subst hlb
                    rw [hw]
                    have HG := Lib.hid (And.intro g1 g2)
                    clear hw he2 g1 g2
                    by_cases hck : c = k
                    · have HRX : Hid (Row wc (some ⟨g, 0, none⟩) ((ts.drop k).flatMap tokCells)) := show Row _ _ _ by
                        rw [List.drop_of_length_le (by have := HC.out; omega)]
                        exact Row.nil _ _
                      have hkc : k = c := hck.symm
                      clear hck
                      subst hkc
                      go_upto_region 27 with (go_at_call 7; (with_reducible refine (HP3.out _ _ HRX.out).mono ?_); rintro y w4 ⟨B5, n5, d5, er5, rfl, hp5, hb5⟩; have H5 := Lib.hid (And.intro hp5 hb5); clear hp5 hb5)
                      obtain ⟨B6, d6, e1, e2⟩ := H5.out.1
                      injection e1 with e1 e3 e4
                      subst e1
                      subst e4
                      rw [if_pos HG.out.1] at e3
                      subst e3
                      rcases e2 with ⟨-, rfl⟩ | ⟨he, t, rfl⟩
                      · have hsum := HG.out.2
                        have hnp := HNP.out
                        obtain ⟨na, hna⟩ : ∃ n, (parseP (ts.take k)).1.length = n := ⟨_, rfl⟩
                        obtain ⟨nb, hnb⟩ : ∃ n, (parseP (ts.drop k)).1.length = n := ⟨_, rfl⟩
                        obtain ⟨np, hnp2⟩ : ∃ n, (parseP ts).1.length = n := ⟨_, rfl⟩
                        rw [hna, hnb, hnp2] at hsum
                        rw [hnp2] at hnp
                        rw [hna, hnb, hnp2]
                        have hb : ((na : Int) + (nb : Int) == (np : Int)) = true := by rw [beq_iff_eq]; omega
                        have hb1 : (na : Int) ≤ 100000 := by omega
                        have hb2 : (nb : Int) ≤ 100000 := by omega
                        clear hna hnb hnp2 hsum hnp
                        go_wp2_with fail
                        go_ret
                        exact ⟨rfl, grow_trans HB2.out (grow_trans H3.out.2 (grow_trans H4.out.2 H5.out.2))⟩
                      · exact absurd HG.out.1 he
                    · have HRX := Lib.hid (HDR.out hck)
                      go_upto_region 27 with (go_at_call 7; (with_reducible refine (HP3.out _ _ HRX.out).mono ?_); rintro y w4 ⟨B5, n5, d5, er5, rfl, hp5, hb5⟩; have H5 := Lib.hid (And.intro hp5 hb5); clear hp5 hb5)
                      obtain ⟨B6, d6, e1, e2⟩ := H5.out.1
                      injection e1 with e1 e3 e4
                      subst e1
                      subst e4
                      rw [if_pos HG.out.1] at e3
                      subst e3
                      rcases e2 with ⟨-, rfl⟩ | ⟨he, t, rfl⟩
                      · have hsum := HG.out.2
                        have hnp := HNP.out
                        obtain ⟨na, hna⟩ : ∃ n, (parseP (ts.take k)).1.length = n := ⟨_, rfl⟩
                        obtain ⟨nb, hnb⟩ : ∃ n, (parseP (ts.drop k)).1.length = n := ⟨_, rfl⟩
                        obtain ⟨np, hnp2⟩ : ∃ n, (parseP ts).1.length = n := ⟨_, rfl⟩
                        rw [hna, hnb, hnp2] at hsum
                        rw [hnp2] at hnp
                        rw [hna, hnb, hnp2]
                        have hb : ((na : Int) + (nb : Int) == (np : Int)) = true := by rw [beq_iff_eq]; omega
                        have hb1 : (na : Int) ≤ 100000 := by omega
                        have hb2 : (nb : Int) ≤ 100000 := by omega
                        clear hna hnb hnp2 hsum hnp
                        go_wp2_with fail
                        go_ret
                        exact ⟨rfl, grow_trans HB2.out (grow_trans H3.out.2 (grow_trans H4.out.2 H5.out.2))⟩
                      · exact absurd HG.out.1 he
                  · have hw : wholeL ts k = false := by
                      cases hq : wholeL ts k
                      · rfl
                      · exact absurd (HCU.out.1.2 hq) he2
                    rw [hw]
                    clear hw he2
                    go_wp2_with fail
                    go_ret
                    exact ⟨rfl, grow_trans HB2.out (grow_trans H3.out.2 H4.out.2)⟩
          · rw [if_neg he] at e3
            subst e3
            clear he
            go_wp2_with fail
            go_ret
            exact ⟨rfl, grow_trans HB2.out H3.out.2⟩
        · have hat2 : decide (ts.length < n) = true := by simpa using hat
          go_wp2_with fail
          go_ret
          exact ⟨rfl, HB2.out⟩
end Go.Proofs.YtpfgimohginbdaaDoor
