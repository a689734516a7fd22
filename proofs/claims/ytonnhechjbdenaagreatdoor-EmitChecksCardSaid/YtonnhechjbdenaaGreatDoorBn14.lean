import Derived.Test.YtonnhechjbdenaaGreatDoorBn13
import Derived.Test.YtonnhechjbdenaaGreatDoorBn9
import Derived.Test.YtonnhechjbdenaaGreatDoorBn2
set_option linter.unusedVariables false
set_option linter.unusedSimpArgs false
namespace Go.Proofs.YtonnhechjbdenaaGreatDoor
open Go.RowKit

/-! an instruction: its kind, its number (printed by gen_alchk.py) -/
def lowV (x : PLow) : Value := .agg #[.string (mkB x.kind), .int .i64 x.d, .int .i64 x.a, .int .i64 x.b, .int .i64 x.num, .string (mkB x.name)]
theorem row6A {w : World} {q : Nat} {v0 v1 v2 v3 v4 v5 : Value} {T : TypeId} {fz : Nat × Nat} (hrow : w.heap[q]? = some (.cells #[v0, v1, v2, v3, v4, v5] T fz)) :
    w.cell? ⟨q, 0, none⟩ = some v0 ∧ w.cell? ⟨q, 1, none⟩ = some v1 ∧ w.cell? ⟨q, 2, none⟩ = some v2 ∧ w.cell? ⟨q, 3, none⟩ = some v3 ∧ w.cell? ⟨q, 4, none⟩ = some v4 ∧ w.cell? ⟨q, 5, none⟩ = some v5 :=
  ⟨cell_of_row _ _ 0 _ _ _ hrow, cell_of_row _ _ 1 _ _ _ hrow, cell_of_row _ _ 2 _ _ _ hrow, cell_of_row _ _ 3 _ _ _ hrow, cell_of_row _ _ 4 _ _ _ hrow, cell_of_row _ _ 5 _ _ _ hrow⟩
set_option maxRecDepth 100000 in
theorem aregister_any (n : Int) (w : World) : Calls Tryz.prog 93 #[.int .i64 n] w fun e w' => e = .returned (.bool (regA n)) ∧ w' = w := by
  have HR : Hid (regA n = (decide (0 ≤ n) && decide (n < 8))) := show _ = _ from rfl
  rcases Classical.em (0 ≤ n) with h | h
  · rcases Classical.em (n < 8) with h' | h'
    · have H1 : Hid (regA n = true) := show _ = _ by rw [HR.out]; simp [h, h']
      go_enter Tryz.func93, Tryz.ntmps93
      go_wp2_with fail
      go_ret
      exact ⟨by rw [H1.out]; rfl, rfl⟩
    · have H1 : Hid (regA n = false) := show _ = _ by rw [HR.out]; simp [h']
      go_enter Tryz.func93, Tryz.ntmps93
      go_wp2_with fail
      go_ret
      exact ⟨by rw [H1.out]; rfl, rfl⟩
  · have H1 : Hid (regA n = false) := show _ = _ by rw [HR.out]; simp [h]
    go_enter Tryz.func93, Tryz.ntmps93
    go_wp2_with fail
    go_ret
    exact ⟨by rw [H1.out]; rfl, rfl⟩
theorem kind_of {k : List UInt8} {n : Nat} (h : kindN k = n) : (k == kParam) = (n == 1) ∧ (k == kConst) = (n == 2) ∧ (k == kLoad) = (n == 3) ∧ (k == kOne) = (n == 4) ∧ (k == kTwo) = (n == 5) ∧ (k == kMove) = (n == 6) ∧ (k == kStore) = (n == 7) ∧ (k == kArg) = (n == 8) ∧ (k == kCall) = (n == 9) ∧ (k == kTick) = (n == 10) ∧ (k == kPrint) = (n == 11) := by
  subst h
  cases h1 : (k == kParam)
  · skip
    cases h2 : (k == kConst)
    · skip
      cases h3 : (k == kLoad)
      · skip
        cases h4 : (k == kOne)
        · skip
          cases h5 : (k == kTwo)
          · skip
            cases h6 : (k == kMove)
            · skip
              cases h7 : (k == kStore)
              · skip
                cases h8 : (k == kArg)
                · skip
                  cases h9 : (k == kCall)
                  · skip
                    cases h10 : (k == kTick)
                    · skip
                      cases h11 : (k == kPrint)
                      · skip
                        have HK : kindN k = 0 := by unfold kindN; simp only [h1, h2, h3, h4, h5, h6, h7, h8, h9, h10, h11]; rfl
                        rw [HK]; exact ⟨rfl, rfl, rfl, rfl, rfl, rfl, rfl, rfl, rfl, rfl, rfl⟩
                      · have HK : kindN k = 11 := by unfold kindN; simp only [h1, h2, h3, h4, h5, h6, h7, h8, h9, h10, h11]; rfl
                        rw [HK]; refine ⟨?_, ?_, ?_, ?_, ?_, ?_, ?_, ?_, ?_, ?_, ?_⟩ <;> first | rfl | (rw [eq_of_beq h11]; rfl)
                    · have HK : kindN k = 10 := by unfold kindN; simp only [h1, h2, h3, h4, h5, h6, h7, h8, h9, h10]; rfl
                      rw [HK]; refine ⟨?_, ?_, ?_, ?_, ?_, ?_, ?_, ?_, ?_, ?_, ?_⟩ <;> first | rfl | (rw [eq_of_beq h10]; rfl)
                  · have HK : kindN k = 9 := by unfold kindN; simp only [h1, h2, h3, h4, h5, h6, h7, h8, h9]; rfl
                    rw [HK]; refine ⟨?_, ?_, ?_, ?_, ?_, ?_, ?_, ?_, ?_, ?_, ?_⟩ <;> first | rfl | (rw [eq_of_beq h9]; rfl)
                · have HK : kindN k = 8 := by unfold kindN; simp only [h1, h2, h3, h4, h5, h6, h7, h8]; rfl
                  rw [HK]; refine ⟨?_, ?_, ?_, ?_, ?_, ?_, ?_, ?_, ?_, ?_, ?_⟩ <;> first | rfl | (rw [eq_of_beq h8]; rfl)
              · have HK : kindN k = 7 := by unfold kindN; simp only [h1, h2, h3, h4, h5, h6, h7]; rfl
                rw [HK]; refine ⟨?_, ?_, ?_, ?_, ?_, ?_, ?_, ?_, ?_, ?_, ?_⟩ <;> first | rfl | (rw [eq_of_beq h7]; rfl)
            · have HK : kindN k = 6 := by unfold kindN; simp only [h1, h2, h3, h4, h5, h6]; rfl
              rw [HK]; refine ⟨?_, ?_, ?_, ?_, ?_, ?_, ?_, ?_, ?_, ?_, ?_⟩ <;> first | rfl | (rw [eq_of_beq h6]; rfl)
          · have HK : kindN k = 5 := by unfold kindN; simp only [h1, h2, h3, h4, h5]; rfl
            rw [HK]; refine ⟨?_, ?_, ?_, ?_, ?_, ?_, ?_, ?_, ?_, ?_, ?_⟩ <;> first | rfl | (rw [eq_of_beq h5]; rfl)
        · have HK : kindN k = 4 := by unfold kindN; simp only [h1, h2, h3, h4]; rfl
          rw [HK]; refine ⟨?_, ?_, ?_, ?_, ?_, ?_, ?_, ?_, ?_, ?_, ?_⟩ <;> first | rfl | (rw [eq_of_beq h4]; rfl)
      · have HK : kindN k = 3 := by unfold kindN; simp only [h1, h2, h3]; rfl
        rw [HK]; refine ⟨?_, ?_, ?_, ?_, ?_, ?_, ?_, ?_, ?_, ?_, ?_⟩ <;> first | rfl | (rw [eq_of_beq h3]; rfl)
    · have HK : kindN k = 2 := by unfold kindN; simp only [h1, h2]; rfl
      rw [HK]; refine ⟨?_, ?_, ?_, ?_, ?_, ?_, ?_, ?_, ?_, ?_, ?_⟩ <;> first | rfl | (rw [eq_of_beq h2]; rfl)
  · have HK : kindN k = 1 := by unfold kindN; simp only [h1]; rfl
    rw [HK]; refine ⟨?_, ?_, ?_, ?_, ?_, ?_, ?_, ?_, ?_, ?_, ?_⟩ <;> first | rfl | (rw [eq_of_beq h1]; rfl)
set_option maxRecDepth 100000 in
theorem known_any (x : PLow) (E : Nat → Addr) (w : World) (hE : w.cell? ⟨5, 0, none⟩ = some (esV (E 3))) : Calls Tryz.prog 92 #[lowV x] w (Ret (.bool (lowKnown x)) w) := by
  obtain ⟨wL, hwL⟩ : ∃ wL, w.alloc (.cells #[.string (mkB x.kind), .int .i64 x.d, .int .i64 x.a, .int .i64 x.b, .int .i64 x.num, .string (mkB x.name)] 71) = wL := ⟨_, rfl⟩
  have hbL : Below w.heap.size w wL := by rw [← hwL]; exact grow_alloc (grow_refl w) _
  have hmL : wL.heap[w.heap.size]? = some (.cells #[.string (mkB x.kind), .int .i64 x.d, .int .i64 x.a, .int .i64 x.b, .int .i64 x.num, .string (mkB x.name)] 71 (0, 0)) := by rw [← hwL]; exact heap_alloc_new w _
  have HWL := Lib.hid hwL
  have HBL := Lib.hid hbL
  have HML := Lib.hid hmL
  clear hwL hbL hmL
  obtain ⟨l0, l1, l2, l3, l4, l5⟩ := row6A HML.out
  have HH := fun w => Lib.hid (has_any x.kind w)
  have HO := fun w (hb : Below w.heap.size w w) => Lib.hid (grow_refl w)
  clear HO
  have HE : Hid (∀ w', Below wL.heap.size wL w' → w'.cell? ⟨5, 0, none⟩ = some (esV (E 3))) := fun w' hb => Keeps.of_below hb _ _ (Keeps.of_below HBL.out _ _ hE)
  have HX : Hid (∀ w', Below wL.heap.size wL w' → w'.heap[w.heap.size]? = wL.heap[w.heap.size]?) := fun w' hb => hb.block _ (Array.getElem?_eq_some_iff.1 HML.out).1
  have e4 : ((mkB x.kind).toList == [111, 110, 101]) = (x.kind == kOne) := by rw [mkB_toList]; rfl
  have e5 : ((mkB x.kind).toList == [116, 119, 111]) = (x.kind == kTwo) := by rw [mkB_toList]; rfl
  have HN : Hid (lowKnown x = (if kindN x.kind = 4 then (oneV x.name 0).isSome else if kindN x.kind = 5 then (doV x.name 0 0).isSome else kindN x.kind != 0)) := show _ = _ from rfl
  obtain ⟨n, hn⟩ : ∃ n, kindN x.kind = n := ⟨_, rfl⟩
  have hk := kind_of hn
  rw [hn] at HN
  rw [hk.2.2.2.1] at e4
  rw [hk.2.2.2.2.1] at e5
  have hidb : (mkB x.name).toList = x.name := mkB_toList _
  unfold lowV
  clear hk hE
  by_cases h4 : n = 4
  · subst h4
    have HO : Hid (∀ w', Below wL.heap.size wL w' → Calls Tryz.prog 106 #[.string (mkB x.name), .int .i64 0] w' (Quiet (.tuple #[.int .i64 (valOf (oneV x.name 0)), errOf (oneV x.name 0) (esV (E 3))]) w')) := fun w' hb => by
      have := One_any (mkB x.name) 0 (esV (E 3)) w' (HE.out w' hb)
      rwa [hidb] at this
    cases ho : oneV x.name 0 with
    | none =>
      rw [ho] at HO HN
      unfold errOf esV at HO
      dsimp only at HO
      go_enter Tryz.func92, Tryz.ntmps92
      go_upto_region 1 with fail
      change Code.wp _ _ _ _ (w.alloc (.cells #[.string (mkB x.kind), .int .i64 x.d, .int .i64 x.a, .int .i64 x.b, .int .i64 x.num, .string (mkB x.name)] 71))
      rw [HWL.out]
      go_wp2_with (first
        | (go_at_call 105; (with_reducible refine (HH _).out.mono ?_); rintro y w1 ⟨rfl, hb1⟩; obtain ⟨l0, l1, l2, l3, l4, l5⟩ := row6A ((HX.out _ hb1).trans HML.out))
        | (go_at_call 106; (with_reducible refine (HO.out _ hb1).mono ?_); rintro y w2 ⟨rfl, n2, rfl⟩))
      go_ret
      exact ⟨by rw [HN.out]; rfl, grow_drew (grow_trans HBL.out hb1) _⟩
    | some v =>
      rw [ho] at HO HN
      unfold errOf at HO
      dsimp only at HO
      go_enter Tryz.func92, Tryz.ntmps92
      go_upto_region 1 with fail
      change Code.wp _ _ _ _ (w.alloc (.cells #[.string (mkB x.kind), .int .i64 x.d, .int .i64 x.a, .int .i64 x.b, .int .i64 x.num, .string (mkB x.name)] 71))
      rw [HWL.out]
      go_wp2_with (first
        | (go_at_call 105; (with_reducible refine (HH _).out.mono ?_); rintro y w1 ⟨rfl, hb1⟩; obtain ⟨l0, l1, l2, l3, l4, l5⟩ := row6A ((HX.out _ hb1).trans HML.out))
        | (go_at_call 106; (with_reducible refine (HO.out _ hb1).mono ?_); rintro y w2 ⟨rfl, n2, rfl⟩))
      go_ret
      exact ⟨by rw [HN.out]; rfl, grow_drew (grow_trans HBL.out hb1) _⟩
  · have h4b : (n == 4) = false := beq_eq_false_iff_ne.2 h4
    rw [h4b] at e4
    rw [if_neg h4] at HN
    by_cases h5 : n = 5
    · subst h5
      have HO : Hid (∀ w', Below wL.heap.size wL w' → Calls Tryz.prog 107 #[.string (mkB x.name), .int .i64 0, .int .i64 0] w' (Quiet (.tuple #[.int .i64 (valOf (doV x.name 0 0)), errOf (doV x.name 0 0) (esV (E 3))]) w')) := fun w' hb => by
        have := Do_any (mkB x.name) 0 0 (esV (E 3)) w' (HE.out w' hb)
        rwa [hidb] at this
      cases ho : doV x.name 0 0 with
      | none =>
        rw [ho] at HO HN
        unfold errOf esV at HO
        dsimp only at HO
        go_enter Tryz.func92, Tryz.ntmps92
        go_upto_region 1 with fail
        change Code.wp _ _ _ _ (w.alloc (.cells #[.string (mkB x.kind), .int .i64 x.d, .int .i64 x.a, .int .i64 x.b, .int .i64 x.num, .string (mkB x.name)] 71))
        rw [HWL.out]
        go_wp2_with (first
          | (go_at_call 105; (with_reducible refine (HH _).out.mono ?_); rintro y w1 ⟨rfl, hb1⟩; obtain ⟨l0, l1, l2, l3, l4, l5⟩ := row6A ((HX.out _ hb1).trans HML.out))
          | (go_at_call 107; (with_reducible refine (HO.out _ hb1).mono ?_); rintro y w2 ⟨rfl, n2, rfl⟩))
        go_ret
        exact ⟨by rw [HN.out]; rfl, grow_drew (grow_trans HBL.out hb1) _⟩
      | some v =>
        rw [ho] at HO HN
        unfold errOf at HO
        dsimp only at HO
        go_enter Tryz.func92, Tryz.ntmps92
        go_upto_region 1 with fail
        change Code.wp _ _ _ _ (w.alloc (.cells #[.string (mkB x.kind), .int .i64 x.d, .int .i64 x.a, .int .i64 x.b, .int .i64 x.num, .string (mkB x.name)] 71))
        rw [HWL.out]
        go_wp2_with (first
          | (go_at_call 105; (with_reducible refine (HH _).out.mono ?_); rintro y w1 ⟨rfl, hb1⟩; obtain ⟨l0, l1, l2, l3, l4, l5⟩ := row6A ((HX.out _ hb1).trans HML.out))
          | (go_at_call 107; (with_reducible refine (HO.out _ hb1).mono ?_); rintro y w2 ⟨rfl, n2, rfl⟩))
        go_ret
        exact ⟨by rw [HN.out]; rfl, grow_drew (grow_trans HBL.out hb1) _⟩
    · have h5b : (n == 5) = false := beq_eq_false_iff_ne.2 h5
      rw [h5b] at e5
      rw [if_neg h5] at HN
      obtain ⟨z, hz⟩ : ∃ z, (n != 0) = z := ⟨_, rfl⟩
      rw [hz] at HN
      have HH2 : Hid (∀ w', Calls Tryz.prog 105 #[.string (mkB x.kind)] w' (Ret (.tuple #[.string (mkB (kHas n)), .bool z]) w')) := fun w' => by
        have := has_any x.kind w'
        rwa [hn, hz] at this
      go_enter Tryz.func92, Tryz.ntmps92
      go_upto_region 1 with fail
      change Code.wp _ _ _ _ (w.alloc (.cells #[.string (mkB x.kind), .int .i64 x.d, .int .i64 x.a, .int .i64 x.b, .int .i64 x.num, .string (mkB x.name)] 71))
      rw [HWL.out]
      go_wp2_with (go_at_call 105; (with_reducible refine (HH2.out _).mono ?_); rintro y w1 ⟨rfl, hb1⟩; obtain ⟨l0, l1, l2, l3, l4, l5⟩ := row6A ((HX.out _ hb1).trans HML.out))
      go_ret
      exact ⟨by rw [HN.out]; rfl, grow_trans HBL.out hb1⟩

end Go.Proofs.YtonnhechjbdenaaGreatDoor

namespace Go.Proofs.YtonnhechjbdenaaGreatDoor
open Go.RowKit

/-! all instructions of a block (printed by gen_alall.py) -/
/-- The first one that is not so, from k on (-1: none). -/
def firstNot (P : PLow → Bool) : List PLow → Nat → Int
  | [], _ => -1
  | x :: l, k => if !P x then (k : Int) else firstNot P l (k + 1)
theorem firstNot_all (P : PLow → Bool) : ∀ (l : List PLow) (k : Nat), (!decide (0 ≤ firstNot P l k)) = l.all P := by
  intro l
  induction l with
  | nil => intro k; rfl
  | cons x l ih =>
    intro k
    unfold firstNot
    rw [List.all_cons]
    cases h : P x
    · simp
    · rw [if_neg (by simp), ih]; rfl
theorem firstNot_drop {P : PLow → Bool} {l : List PLow} {k : Nat} (h : k < l.length) : firstNot P (l.drop k) k = if !P l[k] then (k : Int) else firstNot P (l.drop (k + 1)) (k + 1) := by
  rw [List.drop_eq_getElem_cons h]; rfl
def lowO (x : PLow) : Obj := .cells #[.string (mkB x.kind), .int .i64 x.d, .int .i64 x.a, .int .i64 x.b, .int .i64 x.num, .string (mkB x.name)] 71

set_option maxRecDepth 100000 in
theorem all1Kn (x : PLow) (q : Nat) (w : World) (hq : w.cell? ⟨q, 0, none⟩ = some (.func (.func 92) #[] #[])) (HC : ∀ w', Below w.heap.size w w' → Calls Tryz.prog 92 #[lowV x] w' (Ret (.bool (lowKnown x)) w')) :
    Calls Tryz.prog 104 #[lowV x, .pointer (some ⟨q, 0, none⟩)] w (Ret (.bool (!lowKnown x)) w) := by
  have h1 : (w.alloc (lowO x)).cell? ⟨q, 0, none⟩ = some (.func (.func 92) #[] #[]) := Keeps.alloc _ _ _ _ hq
  have H := Lib.hid (HC (w.alloc (lowO x)) (grow_alloc (grow_refl w) _))
  unfold lowO at h1 H
  clear HC hq
  unfold lowV at H ⊢
  go_enter Tryz.func104, Tryz.ntmps104
  go_wp2_with (go_at_call 92; (with_reducible refine H.out.mono ?_); rintro y w1 ⟨rfl, hb1⟩)
  go_ret
  exact ⟨rfl, grow_trans (grow_alloc (grow_refl w) _) hb1⟩
set_option maxRecDepth 100000 in
theorem idxKn (l : List PLow) (hl : l.length ≤ 1000) (A : Option Addr) (ca q : Nat) (w : World) (hr : Row w A (l.flatMap lowL)) (hq : w.cell? ⟨q, 0, none⟩ = some (.func (.func 92) #[] #[])) (HC : ∀ x ∈ l, ∀ w', Below w.heap.size w w' → Calls Tryz.prog 92 #[lowV x] w' (Ret (.bool (lowKnown x)) w')) :
    Calls Tryz.prog 118 #[.slice A l.length ca, .func (.func 104) #[] #[.pointer (some ⟨q, 0, none⟩)]] w (Ret (.int .i64 (firstNot lowKnown l 0)) w) := by
  have HR := Lib.hid hr
  have HQ := Lib.hid hq
  have HH := Lib.hid HC
  clear hr hq HC
  go_enter Tryz.func118, Tryz.ntmps118
  go_wp2_with fail
  go_loopw [5, 8] (fun _ i wr => ∃ k : Nat, k ≤ l.length ∧ i = .int .i64 k ∧ firstNot lowKnown l 0 = firstNot lowKnown (l.drop k) k ∧ Below w.heap.size w wr) (fun _ i _ => l.length - (intOf i).toNat)
  case atStart => exact ⟨0, Nat.zero_le _, rfl, rfl, grow_refl _⟩
  case round =>
    obtain ⟨k, hk, rfl, hI, hbel⟩ := hrel
    have HI := Lib.hid hI
    clear hI
    by_cases hlt : k < l.length
    · obtain ⟨b, off, rfl, hx⟩ := low_cells (HR.out.keep (Keeps.of_below hbel)) hlt
      obtain ⟨c0, c1, c2, c3, c4, c5⟩ := hx
      have hlt' : (k : Int) < (l.length : Int) := by omega
      have HS := Lib.hid (firstNot_drop (P := lowKnown) hlt)
      have h1 := all1Kn l[k] q wr (Keeps.of_below hbel _ _ HQ.out) (fun w' hb => HH.out _ (List.getElem_mem hlt) w' (grow_trans hbel hb))
      unfold lowV at h1
      have HN := Lib.hid h1
      clear h1
      cases hn : lowKnown l[k]
      · rw [hn] at HN HS
        have HF : Hid (firstNot lowKnown l 0 = (k : Int)) := show _ = _ from HI.out.trans HS.out
        clear hn
        go_wp2_with (go_at_call 104; (with_reducible refine HN.out.mono ?_); rintro y w1 ⟨rfl, hb1⟩)
        go_ret
        exact ⟨by rw [HF.out]; rfl, grow_trans hbel hb1⟩
      · rw [hn] at HN HS
        have HF : Hid (firstNot lowKnown l 0 = firstNot lowKnown (l.drop (k + 1)) (k + 1)) := show _ = _ from HI.out.trans HS.out
        clear hn
        go_wp2_with (go_at_call 104; (with_reducible refine HN.out.mono ?_); rintro y w1 ⟨rfl, hb1⟩)
        go_roundw
        case rel => exact ⟨k + 1, by omega, by go_num, HF.out, grow_trans hbel hb1⟩
        case measure => simp [intOf]; omega
    · have hk' : k = l.length := by omega
      have HF : Hid (firstNot lowKnown l 0 = -1) := show _ = _ by rw [HI.out, hk', List.drop_length]; rfl
      subst hk'
      go_wp2_with fail
      go_ret
      exact ⟨by rw [HF.out]; rfl, hbel⟩
set_option maxRecDepth 100000 in
theorem allKn (l : List PLow) (hl : l.length ≤ 1000) (A : Option Addr) (ca : Nat) (w : World) (hr : Row w A (l.flatMap lowL)) (HC : ∀ x ∈ l, ∀ w', Below w.heap.size w w' → Calls Tryz.prog 92 #[lowV x] w' (Ret (.bool (lowKnown x)) w')) :
    Calls Tryz.prog 91 #[.slice A l.length ca, .func (.func 92) #[] #[]] w (Ret (.bool (l.all lowKnown)) w) := by
  obtain ⟨w0, hw0⟩ : ∃ w0, w.alloc (.cells #[.func (.func 92) #[] #[]] 176) = w0 := ⟨_, rfl⟩
  have hb0 : Below w.heap.size w w0 := by rw [← hw0]; exact grow_alloc (grow_refl w) _
  have hq0 : w0.cell? ⟨w.heap.size, 0, none⟩ = some (.func (.func 92) #[] #[]) := by rw [← hw0]; exact cell_of_row _ _ 0 _ _ _ (heap_alloc_new w _)
  have HI := Lib.hid (idxKn l hl A ca w.heap.size w0 (hr.keep (Keeps.of_below hb0)) hq0 (fun x hx w' hb => HC x hx w' (grow_trans hb0 hb)))
  have HA := Lib.hid (firstNot_all lowKnown l 0)
  have HW := Lib.hid hw0
  have HB := Lib.hid hb0
  have HCF : Hid (Calls Tryz.prog 103 #[.slice A l.length ca, .func (.func 104) #[] #[.pointer (some ⟨w.heap.size, 0, none⟩)]] w0 (Ret (.bool (decide (0 ≤ firstNot lowKnown l 0))) w0)) := show Calls _ _ _ _ _ by
    clear HC hr hq0 hb0 hw0
    go_enter Tryz.func103, Tryz.ntmps103
    go_wp2_with (go_at_call 118; (with_reducible refine HI.out.mono ?_); rintro y w1 ⟨rfl, hb1⟩)
    go_ret
    exact ⟨rfl, hb1⟩
  clear HC hr hq0 hb0 hw0 HI
  go_enter Tryz.func91, Tryz.ntmps91
  go_upto_region 1 with fail
  change Code.wp _ _ _ _ (w.alloc (.cells #[.func (.func 92) #[] #[]] 176))
  rw [HW.out]
  go_wp2_with (go_at_call 103; (with_reducible refine HCF.out.mono ?_); rintro y w1 ⟨rfl, hb1⟩)
  go_ret
  exact ⟨by rw [← HA.out]; rfl, grow_trans HB.out hb1⟩
set_option maxRecDepth 100000 in
theorem all1Wi (c : PCd) (C : Option Addr) (cc : Nat) (x : PLow) (q : Nat) (w : World) (hq : w.cell? ⟨q, 0, none⟩ = some (.func (.func 94) #[cdV c C cc] #[])) (HC : ∀ w', Below w.heap.size w w' → Calls Tryz.prog 94 #[cdV c C cc, lowV x] w' (Ret (.bool ((lowWithin c) x)) w')) :
    Calls Tryz.prog 104 #[lowV x, .pointer (some ⟨q, 0, none⟩)] w (Ret (.bool (!(lowWithin c) x)) w) := by
  have h1 : (w.alloc (lowO x)).cell? ⟨q, 0, none⟩ = some (.func (.func 94) #[cdV c C cc] #[]) := Keeps.alloc _ _ _ _ hq
  have H := Lib.hid (HC (w.alloc (lowO x)) (grow_alloc (grow_refl w) _))
  unfold lowO at h1 H
  clear HC hq
  unfold lowV at H ⊢
  go_enter Tryz.func104, Tryz.ntmps104
  go_wp2_with (go_at_call 94; (with_reducible refine H.out.mono ?_); rintro y w1 ⟨rfl, hb1⟩)
  go_ret
  exact ⟨rfl, grow_trans (grow_alloc (grow_refl w) _) hb1⟩
set_option maxRecDepth 100000 in
theorem idxWi (c : PCd) (C : Option Addr) (cc : Nat) (l : List PLow) (hl : l.length ≤ 1000) (A : Option Addr) (ca q : Nat) (w : World) (hr : Row w A (l.flatMap lowL)) (hq : w.cell? ⟨q, 0, none⟩ = some (.func (.func 94) #[cdV c C cc] #[])) (HC : ∀ x ∈ l, ∀ w', Below w.heap.size w w' → Calls Tryz.prog 94 #[cdV c C cc, lowV x] w' (Ret (.bool ((lowWithin c) x)) w')) :
    Calls Tryz.prog 118 #[.slice A l.length ca, .func (.func 104) #[] #[.pointer (some ⟨q, 0, none⟩)]] w (Ret (.int .i64 (firstNot (lowWithin c) l 0)) w) := by
  have HR := Lib.hid hr
  have HQ := Lib.hid hq
  have HH := Lib.hid HC
  clear hr hq HC
  go_enter Tryz.func118, Tryz.ntmps118
  go_wp2_with fail
  go_loopw [5, 8] (fun _ i wr => ∃ k : Nat, k ≤ l.length ∧ i = .int .i64 k ∧ firstNot (lowWithin c) l 0 = firstNot (lowWithin c) (l.drop k) k ∧ Below w.heap.size w wr) (fun _ i _ => l.length - (intOf i).toNat)
  case atStart => exact ⟨0, Nat.zero_le _, rfl, rfl, grow_refl _⟩
  case round =>
    obtain ⟨k, hk, rfl, hI, hbel⟩ := hrel
    have HI := Lib.hid hI
    clear hI
    by_cases hlt : k < l.length
    · obtain ⟨b, off, rfl, hx⟩ := low_cells (HR.out.keep (Keeps.of_below hbel)) hlt
      obtain ⟨c0, c1, c2, c3, c4, c5⟩ := hx
      have hlt' : (k : Int) < (l.length : Int) := by omega
      have HS := Lib.hid (firstNot_drop (P := (lowWithin c)) hlt)
      have h1 := all1Wi c C cc l[k] q wr (Keeps.of_below hbel _ _ HQ.out) (fun w' hb => HH.out _ (List.getElem_mem hlt) w' (grow_trans hbel hb))
      unfold lowV at h1
      have HN := Lib.hid h1
      clear h1
      cases hn : (lowWithin c) l[k]
      · rw [hn] at HN HS
        have HF : Hid (firstNot (lowWithin c) l 0 = (k : Int)) := show _ = _ from HI.out.trans HS.out
        clear hn
        go_wp2_with (go_at_call 104; (with_reducible refine HN.out.mono ?_); rintro y w1 ⟨rfl, hb1⟩)
        go_ret
        exact ⟨by rw [HF.out]; rfl, grow_trans hbel hb1⟩
      · rw [hn] at HN HS
        have HF : Hid (firstNot (lowWithin c) l 0 = firstNot (lowWithin c) (l.drop (k + 1)) (k + 1)) := show _ = _ from HI.out.trans HS.out
        clear hn
        go_wp2_with (go_at_call 104; (with_reducible refine HN.out.mono ?_); rintro y w1 ⟨rfl, hb1⟩)
        go_roundw
        case rel => exact ⟨k + 1, by omega, by go_num, HF.out, grow_trans hbel hb1⟩
        case measure => simp [intOf]; omega
    · have hk' : k = l.length := by omega
      have HF : Hid (firstNot (lowWithin c) l 0 = -1) := show _ = _ by rw [HI.out, hk', List.drop_length]; rfl
      subst hk'
      go_wp2_with fail
      go_ret
      exact ⟨by rw [HF.out]; rfl, hbel⟩
set_option maxRecDepth 100000 in
theorem allWi (c : PCd) (C : Option Addr) (cc : Nat) (l : List PLow) (hl : l.length ≤ 1000) (A : Option Addr) (ca : Nat) (w : World) (hr : Row w A (l.flatMap lowL)) (HC : ∀ x ∈ l, ∀ w', Below w.heap.size w w' → Calls Tryz.prog 94 #[cdV c C cc, lowV x] w' (Ret (.bool ((lowWithin c) x)) w')) :
    Calls Tryz.prog 91 #[.slice A l.length ca, .func (.func 94) #[cdV c C cc] #[]] w (Ret (.bool (l.all (lowWithin c))) w) := by
  obtain ⟨w0, hw0⟩ : ∃ w0, w.alloc (.cells #[.func (.func 94) #[cdV c C cc] #[]] 176) = w0 := ⟨_, rfl⟩
  have hb0 : Below w.heap.size w w0 := by rw [← hw0]; exact grow_alloc (grow_refl w) _
  have hq0 : w0.cell? ⟨w.heap.size, 0, none⟩ = some (.func (.func 94) #[cdV c C cc] #[]) := by rw [← hw0]; exact cell_of_row _ _ 0 _ _ _ (heap_alloc_new w _)
  have HI := Lib.hid (idxWi c C cc l hl A ca w.heap.size w0 (hr.keep (Keeps.of_below hb0)) hq0 (fun x hx w' hb => HC x hx w' (grow_trans hb0 hb)))
  have HA := Lib.hid (firstNot_all (lowWithin c) l 0)
  have HW := Lib.hid hw0
  have HB := Lib.hid hb0
  have HCF : Hid (Calls Tryz.prog 103 #[.slice A l.length ca, .func (.func 104) #[] #[.pointer (some ⟨w.heap.size, 0, none⟩)]] w0 (Ret (.bool (decide (0 ≤ firstNot (lowWithin c) l 0))) w0)) := show Calls _ _ _ _ _ by
    clear HC hr hq0 hb0 hw0
    go_enter Tryz.func103, Tryz.ntmps103
    go_wp2_with (go_at_call 118; (with_reducible refine HI.out.mono ?_); rintro y w1 ⟨rfl, hb1⟩)
    go_ret
    exact ⟨rfl, hb1⟩
  clear HC hr hq0 hb0 hw0 HI
  go_enter Tryz.func91, Tryz.ntmps91
  go_upto_region 1 with fail
  change Code.wp _ _ _ _ (w.alloc (.cells #[.func (.func 94) #[cdV c C cc] #[]] 176))
  rw [HW.out]
  go_wp2_with (go_at_call 103; (with_reducible refine HCF.out.mono ?_); rintro y w1 ⟨rfl, hb1⟩)
  go_ret
  exact ⟨by rw [← HA.out]; rfl, grow_trans HB.out hb1⟩
set_option maxRecDepth 100000 in
theorem all1Ba (x : PLow) (q : Nat) (w : World) (hq : w.cell? ⟨q, 0, none⟩ = some (.func (.func 95) #[] #[])) (HC : ∀ w', Below w.heap.size w w' → Calls Tryz.prog 95 #[lowV x] w' (Ret (.bool (lowBare x)) w')) :
    Calls Tryz.prog 104 #[lowV x, .pointer (some ⟨q, 0, none⟩)] w (Ret (.bool (!lowBare x)) w) := by
  have h1 : (w.alloc (lowO x)).cell? ⟨q, 0, none⟩ = some (.func (.func 95) #[] #[]) := Keeps.alloc _ _ _ _ hq
  have H := Lib.hid (HC (w.alloc (lowO x)) (grow_alloc (grow_refl w) _))
  unfold lowO at h1 H
  clear HC hq
  unfold lowV at H ⊢
  go_enter Tryz.func104, Tryz.ntmps104
  go_wp2_with (go_at_call 95; (with_reducible refine H.out.mono ?_); rintro y w1 ⟨rfl, hb1⟩)
  go_ret
  exact ⟨rfl, grow_trans (grow_alloc (grow_refl w) _) hb1⟩
set_option maxRecDepth 100000 in
theorem idxBa (l : List PLow) (hl : l.length ≤ 1000) (A : Option Addr) (ca q : Nat) (w : World) (hr : Row w A (l.flatMap lowL)) (hq : w.cell? ⟨q, 0, none⟩ = some (.func (.func 95) #[] #[])) (HC : ∀ x ∈ l, ∀ w', Below w.heap.size w w' → Calls Tryz.prog 95 #[lowV x] w' (Ret (.bool (lowBare x)) w')) :
    Calls Tryz.prog 118 #[.slice A l.length ca, .func (.func 104) #[] #[.pointer (some ⟨q, 0, none⟩)]] w (Ret (.int .i64 (firstNot lowBare l 0)) w) := by
  have HR := Lib.hid hr
  have HQ := Lib.hid hq
  have HH := Lib.hid HC
  clear hr hq HC
  go_enter Tryz.func118, Tryz.ntmps118
  go_wp2_with fail
  go_loopw [5, 8] (fun _ i wr => ∃ k : Nat, k ≤ l.length ∧ i = .int .i64 k ∧ firstNot lowBare l 0 = firstNot lowBare (l.drop k) k ∧ Below w.heap.size w wr) (fun _ i _ => l.length - (intOf i).toNat)
  case atStart => exact ⟨0, Nat.zero_le _, rfl, rfl, grow_refl _⟩
  case round =>
    obtain ⟨k, hk, rfl, hI, hbel⟩ := hrel
    have HI := Lib.hid hI
    clear hI
    by_cases hlt : k < l.length
    · obtain ⟨b, off, rfl, hx⟩ := low_cells (HR.out.keep (Keeps.of_below hbel)) hlt
      obtain ⟨c0, c1, c2, c3, c4, c5⟩ := hx
      have hlt' : (k : Int) < (l.length : Int) := by omega
      have HS := Lib.hid (firstNot_drop (P := lowBare) hlt)
      have h1 := all1Ba l[k] q wr (Keeps.of_below hbel _ _ HQ.out) (fun w' hb => HH.out _ (List.getElem_mem hlt) w' (grow_trans hbel hb))
      unfold lowV at h1
      have HN := Lib.hid h1
      clear h1
      cases hn : lowBare l[k]
      · rw [hn] at HN HS
        have HF : Hid (firstNot lowBare l 0 = (k : Int)) := show _ = _ from HI.out.trans HS.out
        clear hn
        go_wp2_with (go_at_call 104; (with_reducible refine HN.out.mono ?_); rintro y w1 ⟨rfl, hb1⟩)
        go_ret
        exact ⟨by rw [HF.out]; rfl, grow_trans hbel hb1⟩
      · rw [hn] at HN HS
        have HF : Hid (firstNot lowBare l 0 = firstNot lowBare (l.drop (k + 1)) (k + 1)) := show _ = _ from HI.out.trans HS.out
        clear hn
        go_wp2_with (go_at_call 104; (with_reducible refine HN.out.mono ?_); rintro y w1 ⟨rfl, hb1⟩)
        go_roundw
        case rel => exact ⟨k + 1, by omega, by go_num, HF.out, grow_trans hbel hb1⟩
        case measure => simp [intOf]; omega
    · have hk' : k = l.length := by omega
      have HF : Hid (firstNot lowBare l 0 = -1) := show _ = _ by rw [HI.out, hk', List.drop_length]; rfl
      subst hk'
      go_wp2_with fail
      go_ret
      exact ⟨by rw [HF.out]; rfl, hbel⟩
set_option maxRecDepth 100000 in
theorem allBa (l : List PLow) (hl : l.length ≤ 1000) (A : Option Addr) (ca : Nat) (w : World) (hr : Row w A (l.flatMap lowL)) (HC : ∀ x ∈ l, ∀ w', Below w.heap.size w w' → Calls Tryz.prog 95 #[lowV x] w' (Ret (.bool (lowBare x)) w')) :
    Calls Tryz.prog 91 #[.slice A l.length ca, .func (.func 95) #[] #[]] w (Ret (.bool (l.all lowBare)) w) := by
  obtain ⟨w0, hw0⟩ : ∃ w0, w.alloc (.cells #[.func (.func 95) #[] #[]] 176) = w0 := ⟨_, rfl⟩
  have hb0 : Below w.heap.size w w0 := by rw [← hw0]; exact grow_alloc (grow_refl w) _
  have hq0 : w0.cell? ⟨w.heap.size, 0, none⟩ = some (.func (.func 95) #[] #[]) := by rw [← hw0]; exact cell_of_row _ _ 0 _ _ _ (heap_alloc_new w _)
  have HI := Lib.hid (idxBa l hl A ca w.heap.size w0 (hr.keep (Keeps.of_below hb0)) hq0 (fun x hx w' hb => HC x hx w' (grow_trans hb0 hb)))
  have HA := Lib.hid (firstNot_all lowBare l 0)
  have HW := Lib.hid hw0
  have HB := Lib.hid hb0
  have HCF : Hid (Calls Tryz.prog 103 #[.slice A l.length ca, .func (.func 104) #[] #[.pointer (some ⟨w.heap.size, 0, none⟩)]] w0 (Ret (.bool (decide (0 ≤ firstNot lowBare l 0))) w0)) := show Calls _ _ _ _ _ by
    clear HC hr hq0 hb0 hw0
    go_enter Tryz.func103, Tryz.ntmps103
    go_wp2_with (go_at_call 118; (with_reducible refine HI.out.mono ?_); rintro y w1 ⟨rfl, hb1⟩)
    go_ret
    exact ⟨rfl, hb1⟩
  clear HC hr hq0 hb0 hw0 HI
  go_enter Tryz.func91, Tryz.ntmps91
  go_upto_region 1 with fail
  change Code.wp _ _ _ _ (w.alloc (.cells #[.func (.func 95) #[] #[]] 176))
  rw [HW.out]
  go_wp2_with (go_at_call 103; (with_reducible refine HCF.out.mono ?_); rintro y w1 ⟨rfl, hb1⟩)
  go_ret
  exact ⟨by rw [← HA.out]; rfl, grow_trans HB.out hb1⟩
end Go.Proofs.YtonnhechjbdenaaGreatDoor
