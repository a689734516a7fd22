import Derived.Test.YtonnhechjbdenaaGreatDoorBn43
import Derived.Test.YtonnhechjbdenaaGreatDoorBn44
import Derived.Test.YtonnhechjbdenaaGreatDoorBn31
import Derived.Test.YtonnhechjbdenaaGreatDoorBn27
import Derived.Test.YtonnhechjbdenaaGreatDoorBn18
import Derived.Deep.RegionHeld3
set_option linter.unusedVariables false
set_option linter.unusedSimpArgs false
namespace Go.Proofs.YtonnhechjbdenaaGreatDoor
open Go.RowKit

/-! EmitChecks -/
theorem large_notE {m : PImg} (h : largeB m = false) : m.funs.length ≤ 12 ∧ m.words.length ≤ 8001 := by
  unfold largeB at h
  simp at h
  omega
theorem insR_form (v : Int) : ∃ (ys : ByteArray) (yd ya yb ym : Int), insR v = .tuple #[.agg #[.string ys, .int .i64 yd, .int .i64 ya, .int .i64 yb, .int .i64 ym], .int .i64 (errW v)] ∧ (errW v = 0 → ys = mkB (insP v).op ∧ yd = (insP v).d ∧ ya = (insP v).a ∧ yb = (insP v).b ∧ ym = (insP v).imm) := by
  unfold insR
  by_cases h : errW v = 0
  · rw [if_pos h]; exact ⟨_, _, _, _, _, rfl, fun _ => ⟨rfl, rfl, rfl, rfl, rfl⟩⟩
  · rw [if_neg h]; exact ⟨_, _, _, _, _, rfl, fun e => absurd e h⟩
theorem line_get {l : List Int} {k : Nat} (h : k < l.length) : (lineVs l)[k]? = some (.string (mkB (lineP l[k]))) := by
  unfold lineVs; rw [List.getElem?_map, List.getElem?_eq_getElem h]; rfl
set_option maxHeartbeats 8000000 in
set_option maxRecDepth 100000 in
theorem EmitChecks_walk (E : Nat → Addr) (m : PImg) (hnf : m.funs.length ≤ maxLen) (hnw : m.words.length ≤ maxLen) (A B : Option Addr) (cf cw : Nat) (h64 : ∀ n ∈ m.words, 0 ≤ n ∧ n < 18446744073709551616) (w : World) (hE : Laid E w) (hCL : CodeLaid (E 1) (E 2) (E 3) w) (hA : Row w A (m.funs.flatMap fnL)) (hB : Row w B (u64Vs m.words)) :
    Calls Tryz.prog 4 #[.agg #[.slice A m.funs.length cf, .slice B m.words.length cw]] w (Ret (.bool true) w) := by
  obtain ⟨b0, hb0⟩ : ∃ b0, w.heap.size = b0 := ⟨_, rfl⟩
  obtain ⟨wA, hwA⟩ : ∃ wA, w.alloc (.cells #[.slice A m.funs.length cf, .slice B m.words.length cw] 48) = wA := ⟨_, rfl⟩
  have hbA : Below w.heap.size w wA := by rw [← hwA]; exact grow_alloc (grow_refl _) _
  have hmA : wA.heap[b0]? = some (.cells #[.slice A m.funs.length cf, .slice B m.words.length cw] 48 (0, 0)) := by rw [← hwA, ← hb0]; exact heap_alloc_new w _
  have HX : Hid (∀ w', Below wA.heap.size wA w' → (w'.cell? ⟨b0, 0, none⟩ = some (.slice A m.funs.length cf) ∧ w'.cell? ⟨b0, 1, none⟩ = some (.slice B m.words.length cw)) ∧ Below w.heap.size w w') := fun w' hb => ⟨row2m ((hb.block _ (Array.getElem?_eq_some_iff.1 hmA).1).trans hmA), grow_trans hbA hb⟩
  have HIN : Hid (∀ w', Below wA.heap.size wA w' → Laid E w' ∧ CodeLaid (E 1) (E 2) (E 3) w' ∧ Row w' A (m.funs.flatMap fnL) ∧ Row w' B (u64Vs m.words)) := fun w' hb => have k := Keeps.of_below (grow_trans hbA hb); ⟨hE.keep (grow_trans hbA hb), hCL.below (grow_trans hbA hb), hA.keep k, hB.keep k⟩
  have HEM : Hid (∀ w', Below wA.heap.size wA w' → Calls Tryz.prog 5 #[] w' (Ret (.bool true) w')) := fun w' hb => emitted_any E w' (HIN.out w' hb).1 (HIN.out w' hb).2.1
  have HLG : Hid (∀ w', Below wA.heap.size wA w' → Calls Tryz.prog 16 #[.agg #[.slice A m.funs.length cf, .slice B m.words.length cw]] w' (Ret (.bool (largeB m)) w')) := fun w' hb => largeImage_any m hnf hnw A B cf cw w' (HIN.out w' hb).2.2.1
  have H64 := Lib.hid h64
  have HWA := Lib.hid (And.intro hwA hb0)
  obtain ⟨i0, i1⟩ := (HX.out wA (grow_refl _)).1
  clear hbA hmA hwA hb0 hE hCL hA hB h64
  cases hL : largeB m with
  | true =>
    rw [hL] at HLG
    clear hL
    go_enter Tryz.func4, Tryz.ntmps4
    go_upto_region 1 with fail
    change Code.wp _ _ _ _ (w.alloc (.cells #[.slice A m.funs.length cf, .slice B m.words.length cw] 48))
    rw [HWA.out.1, HWA.out.2]
    go_wp2_with (first
      | (go_at_call 5; (with_reducible refine (HEM.out _ (grow_refl _)).mono ?_); rintro y w1 ⟨rfl, hb1⟩; obtain ⟨i0, i1⟩ := (HX.out w1 hb1).1)
      | (go_at_call 16; (with_reducible refine (HLG.out _ hb1).mono ?_); rintro y w2 ⟨rfl, hb2⟩; have HB2 := Lib.hid (grow_trans hb1 hb2)))
    go_ret
    exact ⟨rfl, (HX.out _ HB2.out).2⟩
  | false =>
    rw [hL] at HLG
    obtain ⟨hl12, hl80⟩ := large_notE hL
    have HAS : Hid (∀ w', Below wA.heap.size wA w' → Calls Tryz.prog 17 #[.agg #[.slice A m.funs.length cf, .slice B m.words.length cw]] w' (AsPost m w')) := fun w' hb => AsImage_any m (by omega) (by omega) A B cf cw w' (HIN.out w' hb).2.2.1 (HIN.out w' hb).2.2.2
    have HLF : Hid (∀ w', Below wA.heap.size wA w' → Calls Tryz.prog 12 #[.agg #[.slice A m.funs.length cf, .slice B m.words.length cw]] w' (Ret (faultV3 ((imgC m).1 : Nat) (imgC m).2) w')) := fun w' hb => ImageFault_any m (by omega) (by omega) A B cf cw H64.out w' (HIN.out w' hb).2.2.1 (HIN.out w' hb).2.2.2
    obtain ⟨zc, hzc⟩ : ∃ z, ((imgC m).1 : Int) = z := ⟨_, rfl⟩
    obtain ⟨za, hza⟩ : ∃ z, (imgC m).2 = z := ⟨_, rfl⟩
    rw [hzc, hza] at HLF
    unfold faultV3 at HLF
    have HZ := Lib.hid (And.intro hzc hza)
    have HNN := Lib.hid (And.intro hl12 hl80)
    clear hL hl12 hzc hza
    go_enter Tryz.func4, Tryz.ntmps4
    go_upto_region 1 with fail
    change Code.wp _ _ _ _ (w.alloc (.cells #[.slice A m.funs.length cf, .slice B m.words.length cw] 48))
    rw [HWA.out.1, HWA.out.2]
    go_upto_region 5 with (first
      | (go_at_call 5; (with_reducible refine (HEM.out _ (grow_refl _)).mono ?_); rintro y w1 ⟨rfl, hb1⟩; obtain ⟨i0, i1⟩ := (HX.out w1 hb1).1)
      | (go_at_call 16; (with_reducible refine (HLG.out _ hb1).mono ?_); rintro y w2 ⟨rfl, hb2⟩; have HB2 := Lib.hid (grow_trans hb1 hb2); obtain ⟨i0, i1⟩ := (HX.out w2 HB2.out).1; clear hb1 hb2)
      | (go_at_call 17; (with_reducible refine (HAS.out _ HB2.out).mono ?_); rintro y w3 ⟨vF, vW, rfl, hF, hW, hb3⟩; obtain ⟨AF, cF, rfl, hcF, hrF⟩ := owns_rowE hF; obtain ⟨AC, cC, rfl, -, hrC⟩ := owns_rowE hW; have HR3 := Lib.hid (And.intro hcF (And.intro hrF hrC)); have HB3 := Lib.hid (grow_trans HB2.out hb3); clear hF hW hcF hrF hrC hb3))
    obtain ⟨xb, hxb⟩ : ∃ xb, w3.heap.size = xb := ⟨_, rfl⟩
    obtain ⟨w5, hw5⟩ : ∃ w5, w3.alloc (.cells #[.slice AF m.funs.length cF, .slice AC m.words.length cC] 37) = w5 := ⟨_, rfl⟩
    have hb5 : Below wA.heap.size wA w5 := by rw [← hw5]; exact grow_alloc HB3.out _
    have hx5 : w5.heap[xb]? = some (.cells #[.slice AF m.funs.length cF, .slice AC m.words.length cC] 37 (0, 0)) := by rw [← hw5, ← hxb]; exact heap_alloc_new w3 _
    have hk5 : Keeps w3 w5 := Keeps.of_below (by rw [← hw5]; exact grow_alloc (grow_refl _) _)
    have HF5 : Hid (∀ w', Below w5.heap.size w5 w' → (w'.cell? ⟨xb, 0, none⟩ = some (.slice AF m.funs.length cF) ∧ w'.cell? ⟨xb, 1, none⟩ = some (.slice AC m.words.length cC)) ∧ Row w' AF (m.funs.flatMap fnL) ∧ Row w' AC (u64Vs m.words) ∧ Below wA.heap.size wA w') := fun w' hb =>
      ⟨row2m ((hb.block _ (Array.getElem?_eq_some_iff.1 hx5).1).trans hx5), (HR3.out.2.1.keep hk5).keep (Keeps.of_below hb), (HR3.out.2.2.keep hk5).keep (Keeps.of_below hb), grow_trans hb5 hb⟩
    have HCK : Hid (∀ w', Below w5.heap.size w5 w' → Calls Tryz.prog 18 #[.agg #[.slice AF m.funs.length cF, .slice AC m.words.length cC]] w' (ImgPost E m w')) := fun w' hb => echeck_any E m (by have := HNN.out.1; omega) (by have := HNN.out.2; omega) AF AC cF cC HR3.out.1 H64.out w' (HIN.out w' (HF5.out w' hb).2.2.2).1.seven (HF5.out w' hb).2.1 (HF5.out w' hb).2.2.1
    have HFL : Hid (∀ w', Below w5.heap.size w5 w' → Calls Tryz.prog 12 #[.agg #[.slice A m.funs.length cf, .slice B m.words.length cw]] w' (Ret (.agg #[.int .i64 zc, .int .i64 za]) w')) := fun w' hb => HLF.out w' (HF5.out w' hb).2.2.2
    have HFA : Hid (∀ w' v, Below w5.heap.size w5 w' → ErrIs E w' v ((imgC m).1 : Nat) (imgC m).2 → Calls Tryz.prog 10 #[v, .agg #[.int .i64 zc, .int .i64 za]] w' (Ret (.bool true) w')) := fun w' v hb hv => by
      have := faulted3_same E w' (HIN.out w' (HF5.out w' hb).2.2.2).1 v _ _ hv
      unfold faultV3 at this
      rwa [HZ.out.1, HZ.out.2] at this
    have HLI : Hid (∀ w', Below w5.heap.size w5 w' → Calls Tryz.prog 19 #[.agg #[.slice AF m.funs.length cF, .slice AC m.words.length cC]] w' (fun e w2 => ∃ v, e = .returned v ∧ w2.ownsRow w'.heap.size 9 1 v m.words.length (lineVs m.words) ∧ Below w'.heap.size w' w2)) := fun w' hb => List_any (E 1) (E 2) (E 3) m.words (by have := HNN.out.2; omega) H64.out AF AC m.funs.length cF cC w' (HIN.out w' (HF5.out w' hb).2.2.2).2.1 (HF5.out w' hb).2.2.1
    rw [hxb, hw5]
    obtain ⟨i0, i1⟩ := (HX.out w5 hb5).1
    obtain ⟨x0, x1⟩ := (HF5.out w5 (grow_refl _)).1
    clear hw5 hxb hx5 hb5 hk5
    go_cut [2, 25] (fun v2 v25 wx => v2 = .bool false ∧ v25 = .bool false ∧ Below w5.heap.size w5 wx)
    case first =>
      go_region_held3 (fun w' => Below w5.heap.size w5 w' ∧ w'.cell? ⟨b0, 0, none⟩ = some (.slice A m.funs.length cf) ∧ w'.cell? ⟨b0, 1, none⟩ = some (.slice B m.words.length cw) ∧ w'.cell? ⟨xb, 0, none⟩ = some (.slice AF m.funs.length cF) ∧ w'.cell? ⟨xb, 1, none⟩ = some (.slice AC m.words.length cC))
        (first
          | exact ⟨(grow_refl _).drew, i0, i1, x0, x1⟩
          | exact ⟨grow_refl _, i0, i1, x0, x1⟩
          | go_keep
          | (go_split_ands
             refine ⟨?_, ?_, ?_, ?_, ?_⟩
             all_goals (first | assumption | exact Keeps.of_below hbT _ _ (by assumption) | exact grow_trans (by assumption) hbT)))
        (first
          | (go_at_call 18; (with_reducible refine (HCK.out _ (by first | assumption | (go_split_ands; assumption))).mono ?_); rintro y w6 ⟨v, rfl, hv, hbT, -⟩; have HV := Lib.hid hv; clear hv)
          | (go_at_call 12; (with_reducible refine (HFL.out _ (by first | assumption | (go_split_ands; assumption))).mono ?_); rintro y w7 ⟨rfl, hbT⟩)
          | (go_at_call 10; (with_reducible refine (HFA.out _ _ (by first | assumption | (go_split_ands; assumption)) (by first | exact HV.out | exact HV.out.keep (Keeps.of_below hbT))).mono ?_); rintro y w8 ⟨rfl, hbT⟩))
      all_goals go_wp2_with fail
      all_goals go_meet
      all_goals refine ⟨rfl, rfl, ?_⟩
      all_goals go_split_ands
      all_goals assumption
    case rest =>
      obtain ⟨rfl, rfl, hbn⟩ := hcut
      have HBN := Lib.hid hbn
      obtain ⟨x0, x1⟩ := (HF5.out wc hbn).1
      obtain ⟨i0, i1⟩ := (HX.out wc (HF5.out wc hbn).2.2.2).1
      clear hbn
      go_upto_region 8 with (go_at_call 19; (with_reducible refine (HLI.out _ HBN.out).mono ?_); rintro y w6 ⟨vL, rfl, hl, hb6⟩; obtain ⟨AL, cL, rfl, -, hrL⟩ := owns_rowE hl; have HRL := Lib.hid hrL; have HB6 := Lib.hid (grow_trans HBN.out hb6); clear hl hrL hb6)
      have HIL : Hid (∀ w', Below w6.heap.size w6 w' → (w'.cell? ⟨b0, 0, none⟩ = some (.slice A m.funs.length cf) ∧ w'.cell? ⟨b0, 1, none⟩ = some (.slice B m.words.length cw)) ∧ Row w' B (u64Vs m.words) ∧ Row w' AL (lineVs m.words) ∧ Below w.heap.size w w') := fun w' hb =>
        have h := (HF5.out w' (grow_trans HB6.out hb)).2.2.2
        ⟨(HX.out w' h).1, (HIN.out w' h).2.2.2, HRL.out.keep (Keeps.of_below hb), (HX.out w' h).2⟩
      obtain ⟨i0, i1⟩ := (HIL.out w6 (grow_refl _)).1
      have hn80 : (m.words.length : Int) ≤ 8001 := by omega
      clear hl80
      go_wp2_with fail
      go_loopw [6, 7, 8, 9] (fun i _ _ _ wr => ∃ k : Nat, k ≤ m.words.length ∧ i = .int .i64 k ∧ Below w6.heap.size w6 wr) (fun i _ _ _ _ => m.words.length - (intOf i).toNat)
      case atStart => exact ⟨0, Nat.zero_le _, rfl, grow_refl _⟩
      case round =>
        obtain ⟨k, hk, rfl, hbel⟩ := hrel
        obtain ⟨⟨i0, i1⟩, hBr, hLr, hbw⟩ := HIL.out wr hbel
        by_cases hlt : k < m.words.length
        · have hlt' : (k : Int) < (m.words.length : Int) := by omega
          obtain ⟨b, off, rfl, cw0⟩ := hBr k _ (u64_get hlt)
          have hv := H64.out m.words[k] (List.getElem_mem hlt)
          obtain ⟨bl, ofl, rfl, cl0⟩ := hLr k _ (line_get hlt)
          obtain ⟨v, hvv⟩ : ∃ v, m.words[k] = v := ⟨_, rfl⟩
          rw [hvv] at cw0 hv cl0
          obtain ⟨ys, yd, ya, yb, ym, hR, hok⟩ := insR_form v
          have HR : Hid (∀ w', Calls Tryz.prog 20 #[.int .u64 v] w' (Ret (.tuple #[.agg #[.string ys, .int .i64 yd, .int .i64 ya, .int .i64 yb, .int .i64 ym], .int .i64 (errW v)]) w')) := fun w' => by rw [← hR]; exact InsOf_any v hv.1 hv.2 w'
          have HLT := Lib.hid hlt
          have HBL := Lib.hid hbel
          have HCL0 : Hid (∀ w', Below wr.heap.size wr w' → w'.cell? ⟨bl, ofl + k, none⟩ = some (.string (mkB (lineP v)))) := fun w' hb => Keeps.of_below hb _ _ cl0
          have ll : ((mkB (lineP v)).toList != (mkB (lineP v)).toList) = false := by simp
          clear hBr hLr hvv hv hbel hR
          by_cases h0 : errW v = 0
          · obtain ⟨rfl, rfl, rfl, rfl, rfl⟩ := hok h0
            have HLP : Hid (lineP v = textI (insP v)) := show _ = _ by unfold lineP; rw [if_pos h0]
            have HTX : Hid (∀ w', Calls Tryz.prog 21 #[.agg #[.string (mkB (insP v).op), .int .i64 (insP v).d, .int .i64 (insP v).a, .int .i64 (insP v).b, .int .i64 (insP v).imm]] w' (Ret (.string (mkB (lineP v))) w')) := fun w' => by
              have := TextOf_any (insP v) w' (word_ins v h0).1
              unfold textV insV at this
              rw [HLP.out]; exact this
            rw [h0] at HR
            have HR0 : Hid (∀ w', Calls Tryz.prog 20 #[.int .u64 v] w' (Ret (.tuple #[.agg #[.string (mkB (insP v).op), .int .i64 (insP v).d, .int .i64 (insP v).a, .int .i64 (insP v).b, .int .i64 (insP v).imm], .int .i64 0]) w')) := HR
            clear hok h0 HR
            go_wp2_with (first
              | (go_at_call 20; (with_reducible refine (HR0.out _).mono ?_); rintro z w7 ⟨rfl, hb7⟩)
              | (go_at_call 21; (with_reducible refine (HTX.out _).mono ?_); rintro z w8 ⟨rfl, hb8⟩; have hb9 := grow_trans (grow_alloc hb7 (.cells #[.string (mkB (insP v).op), .int .i64 (insP v).d, .int .i64 (insP v).a, .int .i64 (insP v).b, .int .i64 (insP v).imm] 65)) hb8; have cl1 := HCL0.out w8 hb9; have HB9 := Lib.hid (grow_trans HBL.out hb9); clear hb7 hb8 hb9))
            go_roundw
            case rel => exact ⟨k + 1, by have := HLT.out; omega, by go_num, HB9.out⟩
            case measure => have := HLT.out; simp [intOf]; omega
          · have HLP : Hid (mkB (lineP v) = ⟨#[]⟩) := show _ = _ by unfold lineP; rw [if_neg h0]; rfl
            rw [HLP.out] at HCL0 ll
            obtain ⟨e, he⟩ : ∃ e : Int, (errW v : Int) = e := ⟨_, rfl⟩
            rw [he] at HR
            have he0 : (e == 0) = false := by simpa using (by omega : e ≠ 0)
            clear hok h0 he
            go_wp2_with (go_at_call 20; (with_reducible refine (HR.out _).mono ?_); rintro z w7 ⟨rfl, hb7⟩; have hb9 := grow_alloc hb7 (.cells #[.string ys, .int .i64 yd, .int .i64 ya, .int .i64 yb, .int .i64 ym] 65); have cl1 := HCL0.out _ hb9; have HB9 := Lib.hid (grow_trans HBL.out hb9); clear hb7 hb9)
            go_roundw
            case rel => exact ⟨k + 1, by have := HLT.out; omega, by go_num, HB9.out⟩
            case measure => have := HLT.out; simp [intOf]; omega
        · have hk' : k = m.words.length := by omega
          subst hk'
          go_wp2_with fail
          go_ret
          exact ⟨rfl, hbw⟩
end Go.Proofs.YtonnhechjbdenaaGreatDoor
