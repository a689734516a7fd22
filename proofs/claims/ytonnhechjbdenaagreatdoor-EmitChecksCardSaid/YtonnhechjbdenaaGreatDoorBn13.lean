import Derived.Deep.DeepCutAuto
import Derived.Lib.AtoiErrMem
import Derived.Lib.Strings
import Derived.Test.YtonnhechjbdenaaGreatDoorBn4
import Derived.Test.YtonnhechjbdenaaGreatDoorBn2
set_option linter.unusedVariables false
set_option linter.unusedSimpArgs false
namespace Go.Proofs.YtonnhechjbdenaaGreatDoor
open Go.RowKit

/-! letters of a kind (printed by gen_alhas.py) -/
set_option maxRecDepth 100000 in
theorem has_any (k : List UInt8) (w : World) : Calls Tryz.prog 105 #[.string (mkB k)] w (Ret (.tuple #[.string (mkB (kHas (kindN k))), .bool (kindN k != 0)]) w) := by
  have e1 : ((mkB k).toList == [112, 97, 114, 97, 109]) = (k == kParam) := by rw [mkB_toList]; rfl
  have e2 : ((mkB k).toList == [99, 111, 110, 115, 116]) = (k == kConst) := by rw [mkB_toList]; rfl
  have e3 : ((mkB k).toList == [108, 111, 97, 100]) = (k == kLoad) := by rw [mkB_toList]; rfl
  have e4 : ((mkB k).toList == [111, 110, 101]) = (k == kOne) := by rw [mkB_toList]; rfl
  have e5 : ((mkB k).toList == [116, 119, 111]) = (k == kTwo) := by rw [mkB_toList]; rfl
  have e6 : ((mkB k).toList == [109, 111, 118, 101]) = (k == kMove) := by rw [mkB_toList]; rfl
  have e7 : ((mkB k).toList == [115, 116, 111, 114, 101]) = (k == kStore) := by rw [mkB_toList]; rfl
  have e8 : ((mkB k).toList == [97, 114, 103]) = (k == kArg) := by rw [mkB_toList]; rfl
  have e9 : ((mkB k).toList == [99, 97, 108, 108]) = (k == kCall) := by rw [mkB_toList]; rfl
  have e10 : ((mkB k).toList == [116, 105, 99, 107]) = (k == kTick) := by rw [mkB_toList]; rfl
  have e11 : ((mkB k).toList == [112, 114, 105, 110, 116]) = (k == kPrint) := by rw [mkB_toList]; rfl
  cases h1 : (k == kParam)
  · rw [h1] at e1
    cases h2 : (k == kConst)
    · rw [h2] at e2
      cases h3 : (k == kLoad)
      · rw [h3] at e3
        cases h4 : (k == kOne)
        · rw [h4] at e4
          cases h5 : (k == kTwo)
          · rw [h5] at e5
            cases h6 : (k == kMove)
            · rw [h6] at e6
              cases h7 : (k == kStore)
              · rw [h7] at e7
                cases h8 : (k == kArg)
                · rw [h8] at e8
                  cases h9 : (k == kCall)
                  · rw [h9] at e9
                    cases h10 : (k == kTick)
                    · rw [h10] at e10
                      cases h11 : (k == kPrint)
                      · rw [h11] at e11
                        have HK : Hid (kindN k = 0) := by show kindN k = 0; unfold kindN; simp only [h1, h2, h3, h4, h5, h6, h7, h8, h9, h10, h11]; rfl
                        clear h1 h2 h3 h4 h5 h6 h7 h8 h9 h10 h11
                        go_enter Tryz.func105, Tryz.ntmps105
                        go_wp2_with fail
                        go_returns
                        exact ⟨by rw [HK.out]; rfl, grow_refl _⟩
                      · rw [h11] at e11
                        have HK : Hid (kindN k = 11) := by show kindN k = 11; unfold kindN; simp only [h1, h2, h3, h4, h5, h6, h7, h8, h9, h10, h11]; rfl
                        clear h1 h2 h3 h4 h5 h6 h7 h8 h9 h10 h11
                        go_enter Tryz.func105, Tryz.ntmps105
                        go_wp2_with fail
                        go_returns
                        exact ⟨by rw [HK.out]; rfl, grow_refl _⟩
                    · rw [h10] at e10
                      have HK : Hid (kindN k = 10) := by show kindN k = 10; unfold kindN; simp only [h1, h2, h3, h4, h5, h6, h7, h8, h9, h10]; rfl
                      rw [show (k == kPrint) = false by rw [eq_of_beq h10]; rfl] at e11
                      clear h1 h2 h3 h4 h5 h6 h7 h8 h9 h10
                      go_enter Tryz.func105, Tryz.ntmps105
                      go_wp2_with fail
                      go_returns
                      exact ⟨by rw [HK.out]; rfl, grow_refl _⟩
                  · rw [h9] at e9
                    have HK : Hid (kindN k = 9) := by show kindN k = 9; unfold kindN; simp only [h1, h2, h3, h4, h5, h6, h7, h8, h9]; rfl
                    rw [show (k == kTick) = false by rw [eq_of_beq h9]; rfl] at e10
                    rw [show (k == kPrint) = false by rw [eq_of_beq h9]; rfl] at e11
                    clear h1 h2 h3 h4 h5 h6 h7 h8 h9
                    go_enter Tryz.func105, Tryz.ntmps105
                    go_wp2_with fail
                    go_returns
                    exact ⟨by rw [HK.out]; rfl, grow_refl _⟩
                · rw [h8] at e8
                  have HK : Hid (kindN k = 8) := by show kindN k = 8; unfold kindN; simp only [h1, h2, h3, h4, h5, h6, h7, h8]; rfl
                  rw [show (k == kCall) = false by rw [eq_of_beq h8]; rfl] at e9
                  rw [show (k == kTick) = false by rw [eq_of_beq h8]; rfl] at e10
                  rw [show (k == kPrint) = false by rw [eq_of_beq h8]; rfl] at e11
                  clear h1 h2 h3 h4 h5 h6 h7 h8
                  go_enter Tryz.func105, Tryz.ntmps105
                  go_wp2_with fail
                  go_returns
                  exact ⟨by rw [HK.out]; rfl, grow_refl _⟩
              · rw [h7] at e7
                have HK : Hid (kindN k = 7) := by show kindN k = 7; unfold kindN; simp only [h1, h2, h3, h4, h5, h6, h7]; rfl
                rw [show (k == kArg) = false by rw [eq_of_beq h7]; rfl] at e8
                rw [show (k == kCall) = false by rw [eq_of_beq h7]; rfl] at e9
                rw [show (k == kTick) = false by rw [eq_of_beq h7]; rfl] at e10
                rw [show (k == kPrint) = false by rw [eq_of_beq h7]; rfl] at e11
                clear h1 h2 h3 h4 h5 h6 h7
                go_enter Tryz.func105, Tryz.ntmps105
                go_wp2_with fail
                go_returns
                exact ⟨by rw [HK.out]; rfl, grow_refl _⟩
            · rw [h6] at e6
              have HK : Hid (kindN k = 6) := by show kindN k = 6; unfold kindN; simp only [h1, h2, h3, h4, h5, h6]; rfl
              rw [show (k == kStore) = false by rw [eq_of_beq h6]; rfl] at e7
              rw [show (k == kArg) = false by rw [eq_of_beq h6]; rfl] at e8
              rw [show (k == kCall) = false by rw [eq_of_beq h6]; rfl] at e9
              rw [show (k == kTick) = false by rw [eq_of_beq h6]; rfl] at e10
              rw [show (k == kPrint) = false by rw [eq_of_beq h6]; rfl] at e11
              clear h1 h2 h3 h4 h5 h6
              go_enter Tryz.func105, Tryz.ntmps105
              go_wp2_with fail
              go_returns
              exact ⟨by rw [HK.out]; rfl, grow_refl _⟩
          · rw [h5] at e5
            have HK : Hid (kindN k = 5) := by show kindN k = 5; unfold kindN; simp only [h1, h2, h3, h4, h5]; rfl
            rw [show (k == kMove) = false by rw [eq_of_beq h5]; rfl] at e6
            rw [show (k == kStore) = false by rw [eq_of_beq h5]; rfl] at e7
            rw [show (k == kArg) = false by rw [eq_of_beq h5]; rfl] at e8
            rw [show (k == kCall) = false by rw [eq_of_beq h5]; rfl] at e9
            rw [show (k == kTick) = false by rw [eq_of_beq h5]; rfl] at e10
            rw [show (k == kPrint) = false by rw [eq_of_beq h5]; rfl] at e11
            clear h1 h2 h3 h4 h5
            go_enter Tryz.func105, Tryz.ntmps105
            go_wp2_with fail
            go_returns
            exact ⟨by rw [HK.out]; rfl, grow_refl _⟩
        · rw [h4] at e4
          have HK : Hid (kindN k = 4) := by show kindN k = 4; unfold kindN; simp only [h1, h2, h3, h4]; rfl
          rw [show (k == kTwo) = false by rw [eq_of_beq h4]; rfl] at e5
          rw [show (k == kMove) = false by rw [eq_of_beq h4]; rfl] at e6
          rw [show (k == kStore) = false by rw [eq_of_beq h4]; rfl] at e7
          rw [show (k == kArg) = false by rw [eq_of_beq h4]; rfl] at e8
          rw [show (k == kCall) = false by rw [eq_of_beq h4]; rfl] at e9
          rw [show (k == kTick) = false by rw [eq_of_beq h4]; rfl] at e10
          rw [show (k == kPrint) = false by rw [eq_of_beq h4]; rfl] at e11
          clear h1 h2 h3 h4
          go_enter Tryz.func105, Tryz.ntmps105
          go_wp2_with fail
          go_returns
          exact ⟨by rw [HK.out]; rfl, grow_refl _⟩
      · rw [h3] at e3
        have HK : Hid (kindN k = 3) := by show kindN k = 3; unfold kindN; simp only [h1, h2, h3]; rfl
        rw [show (k == kOne) = false by rw [eq_of_beq h3]; rfl] at e4
        rw [show (k == kTwo) = false by rw [eq_of_beq h3]; rfl] at e5
        rw [show (k == kMove) = false by rw [eq_of_beq h3]; rfl] at e6
        rw [show (k == kStore) = false by rw [eq_of_beq h3]; rfl] at e7
        rw [show (k == kArg) = false by rw [eq_of_beq h3]; rfl] at e8
        rw [show (k == kCall) = false by rw [eq_of_beq h3]; rfl] at e9
        rw [show (k == kTick) = false by rw [eq_of_beq h3]; rfl] at e10
        rw [show (k == kPrint) = false by rw [eq_of_beq h3]; rfl] at e11
        clear h1 h2 h3
        go_enter Tryz.func105, Tryz.ntmps105
        go_wp2_with fail
        go_returns
        exact ⟨by rw [HK.out]; rfl, grow_refl _⟩
    · rw [h2] at e2
      have HK : Hid (kindN k = 2) := by show kindN k = 2; unfold kindN; simp only [h1, h2]; rfl
      rw [show (k == kLoad) = false by rw [eq_of_beq h2]; rfl] at e3
      rw [show (k == kOne) = false by rw [eq_of_beq h2]; rfl] at e4
      rw [show (k == kTwo) = false by rw [eq_of_beq h2]; rfl] at e5
      rw [show (k == kMove) = false by rw [eq_of_beq h2]; rfl] at e6
      rw [show (k == kStore) = false by rw [eq_of_beq h2]; rfl] at e7
      rw [show (k == kArg) = false by rw [eq_of_beq h2]; rfl] at e8
      rw [show (k == kCall) = false by rw [eq_of_beq h2]; rfl] at e9
      rw [show (k == kTick) = false by rw [eq_of_beq h2]; rfl] at e10
      rw [show (k == kPrint) = false by rw [eq_of_beq h2]; rfl] at e11
      clear h1 h2
      go_enter Tryz.func105, Tryz.ntmps105
      go_wp2_with fail
      go_returns
      exact ⟨by rw [HK.out]; rfl, grow_refl _⟩
  · rw [h1] at e1
    have HK : Hid (kindN k = 1) := by show kindN k = 1; unfold kindN; simp only [h1]; rfl
    rw [show (k == kConst) = false by rw [eq_of_beq h1]; rfl] at e2
    rw [show (k == kLoad) = false by rw [eq_of_beq h1]; rfl] at e3
    rw [show (k == kOne) = false by rw [eq_of_beq h1]; rfl] at e4
    rw [show (k == kTwo) = false by rw [eq_of_beq h1]; rfl] at e5
    rw [show (k == kMove) = false by rw [eq_of_beq h1]; rfl] at e6
    rw [show (k == kStore) = false by rw [eq_of_beq h1]; rfl] at e7
    rw [show (k == kArg) = false by rw [eq_of_beq h1]; rfl] at e8
    rw [show (k == kCall) = false by rw [eq_of_beq h1]; rfl] at e9
    rw [show (k == kTick) = false by rw [eq_of_beq h1]; rfl] at e10
    rw [show (k == kPrint) = false by rw [eq_of_beq h1]; rfl] at e11
    clear h1
    go_enter Tryz.func105, Tryz.ntmps105
    go_wp2_with fail
    go_returns
    exact ⟨by rw [HK.out]; rfl, grow_refl _⟩
end Go.Proofs.YtonnhechjbdenaaGreatDoor

namespace Go.Proofs.YtonnhechjbdenaaGreatDoor
open Go.RowKit

/-! has a form a letter? -/
/-- Has a text a letter? -/
def hasL (l : List UInt8) (c : UInt8) : Bool := l.contains c
/-- The first place of a letter, from k on (-1: none). -/
def letterAt (c : UInt8) : List UInt8 → Nat → Int
  | [], _ => -1
  | x :: l, k => if x == c then (k : Int) else letterAt c l (k + 1)
theorem letterAt_has (c : UInt8) : ∀ (l : List UInt8) (k : Nat), decide (0 ≤ letterAt c l k) = hasL l c := by
  unfold hasL
  intro l
  induction l with
  | nil => intro k; rfl
  | cons x l ih =>
    intro k
    unfold letterAt
    by_cases h : (x == c) = true
    · rw [if_pos h, List.contains_cons, show (c == x) = true by rw [eq_of_beq h]; exact beq_self_eq_true _]; simp
    · rw [if_neg h, ih, List.contains_cons, show (c == x) = false from beq_eq_false_iff_ne.2 (fun e => h (by rw [e]; exact beq_self_eq_true _))]; simp
theorem letterAt_drop (c : UInt8) (l : List UInt8) {k : Nat} (h : k < l.length) : letterAt c (l.drop k) k = if l[k] == c then (k : Int) else letterAt c (l.drop (k + 1)) (k + 1) := by
  rw [List.drop_eq_getElem_cons h]; rfl
/-- Bytes that lie side by side. -/
def BytesAt (w : World) (b : Nat) (l : List UInt8) : Prop := ∀ k (hk : k < l.length), w.cell? ⟨b, k, none⟩ = some (.int .u8 (l[k].toNat : Int))
set_option maxRecDepth 100000 in
theorem index_any (l : List UInt8) (h : l.length ≤ 1000) (c : UInt8) (b cap : Nat) (w : World) (hb : BytesAt w b l) :
    Calls Tryz.prog 130 #[.slice (some ⟨b, 0, none⟩) l.length cap, .int .u8 (c.toNat : Int)] w fun e w' => e = .returned (.int .i64 (letterAt c l 0)) ∧ w' = w := by
  have HB := Lib.hid hb
  clear hb
  go_enter Tryz.func130, Tryz.ntmps130
  go_wp2_with fail
  go_loop [5, 8] (fun _ i => ∃ k : Nat, k ≤ l.length ∧ i = .int .i64 k ∧ letterAt c l 0 = letterAt c (l.drop k) k) (fun _ i => l.length - (intOf i).toNat)
  case atStart => exact ⟨0, Nat.zero_le _, rfl, rfl⟩
  case round =>
    obtain ⟨k, hk, rfl, hI⟩ := hrel
    have HI := Lib.hid hI
    clear hI
    by_cases hlt : k < l.length
    · have hlt' : (k : Int) < (l.length : Int) := by omega
      have hc := HB.out k hlt
      have HS := Lib.hid (letterAt_drop c l hlt)
      have hcc : ((c.toNat : Int) == (l[k].toNat : Int)) = (l[k] == c) := by
        by_cases he : l[k] = c
        · rw [he]; simp
        · rw [beq_eq_false_iff_ne.2 he]
          exact beq_eq_false_iff_ne.2 fun e => he (UInt8.toNat_inj.1 (by omega))
      cases hq : (l[k] == c)
      · rw [hq] at hcc HS
        have HN : Hid (letterAt c l 0 = letterAt c (l.drop (k + 1)) (k + 1)) := show _ = _ from HI.out.trans HS.out
        clear hq
        go_wp2_with fail
        go_round
        case rel => exact ⟨k + 1, by omega, by go_num, HN.out⟩
        case measure => simp [intOf]; omega
      · rw [hq] at hcc HS
        have HN : Hid (letterAt c l 0 = (k : Int)) := show _ = _ from HI.out.trans HS.out
        clear hq
        go_wp2_with fail
        go_ret
        exact ⟨by rw [HN.out]; rfl, rfl⟩
    · have hk' : k = l.length := by omega
      have HN : Hid (letterAt c l 0 = -1) := show _ = _ by rw [HI.out, hk', List.drop_length]; rfl
      subst hk'
      go_wp2_with fail
      go_ret
      exact ⟨by rw [HN.out]; rfl, rfl⟩
set_option maxRecDepth 100000 in
theorem contains_any (l : List UInt8) (h : l.length ≤ 1000) (c : UInt8) (b cap : Nat) (w : World) (hb : BytesAt w b l) :
    Calls Tryz.prog 122 #[.slice (some ⟨b, 0, none⟩) l.length cap, .int .u8 (c.toNat : Int)] w fun e w' => e = .returned (.bool (hasL l c)) ∧ w' = w := by
  have HI := Lib.hid (index_any l h c b cap w hb)
  have HH := Lib.hid (letterAt_has c l 0)
  clear hb
  go_enter Tryz.func122, Tryz.ntmps122
  go_wp2_with (go_at_call 130; (with_reducible refine HI.out.mono ?_); rintro y w1 ⟨rfl, rfl⟩)
  go_ret
  exact ⟨by rw [← HH.out]; rfl, rfl⟩
set_option maxRecDepth 100000 in
theorem with_any (l : List UInt8) (h : l.length ≤ 1000) (c : UInt8) (w : World) : Calls Tryz.prog 109 #[.string (mkB l), .int .u8 (c.toNat : Int)] w (Ret (.bool (hasL l c)) w) := by
  have hcv := Lib.run_convert_string_bytes (P := Tryz.prog) w 9 195 5 (mkB l) Tryz.underlying9 Tryz.underlying195 Tryz.underlying5
  have hbw := Lib.bytesWorld_below w 5 (mkB l)
  have hbb : BytesAt (Lib.bytesWorld w 5 (mkB l)) w.heap.size l := fun k hk => by
    have := Lib.bytesWorld_cell w 5 (mkB l) k hk
    rw [this]
    have e : (mkB l).data.toList.getD k 0 = l[k] := by
      rw [List.getD_eq_getElem?_getD, show (mkB l).data.toList = l from rfl, List.getElem?_eq_getElem hk]; rfl
    rw [e]
  obtain ⟨w1, hw1⟩ : ∃ w1, Lib.bytesWorld w 5 (mkB l) = w1 := ⟨_, rfl⟩
  obtain ⟨cap, hcap⟩ : ∃ cap, grownCap w (mkB l).size 0 5 = cap := ⟨_, rfl⟩
  rw [hw1, hcap, show (mkB l).size = l.length from rfl] at hcv
  rw [hw1] at hbw hbb
  have HC := Lib.hid (contains_any l h c w.heap.size cap w1 hbb)
  have HB := Lib.hid hbw
  clear hbb hbw hw1 hcap
  go_enter Tryz.func109, Tryz.ntmps109
  go_wp2_with (go_at_call 122; (with_reducible refine HC.out.mono ?_); rintro y w2 ⟨rfl, rfl⟩)
  go_ret
  exact ⟨rfl, HB.out⟩
end Go.Proofs.YtonnhechjbdenaaGreatDoor
