import Derived.Test.YtgoifbkogboppaaDoorBn25
import Derived.Test.YtgoifbkogboppaaDoorBn28
set_option linter.unusedVariables false
set_option linter.unusedSimpArgs false
namespace Go.Proofs.YtgoifbkogboppaaDoor
open Go.RowKit

/-! machined -/
def img1 : PImg := ⟨[⟨[102], 0, 0, 0⟩], [72057594037927943, 936748722493063168]⟩
def fin1 : PMs := ⟨doneT, 7, [], 1, []⟩
theorem img1_good : (imgC img1).1 = 0 := by decide
theorem img1_run : machP img1 0 [] 5 20000 = some fin1 := by rfl
set_option maxHeartbeats 4000000 in
set_option maxRecDepth 100000 in
theorem machined_any (E : Nat → Addr) (w : World) (hE : Laid7 E w) : Calls Tryd.prog 6 #[] w (Ret (.bool true) w) := by
  have HW1 : Hid (∀ w', Calls Tryd.prog 14 #[.agg #[.string ⟨#[99, 111, 110, 115, 116]⟩, .int .i64 0, .int .i64 0, .int .i64 0, .int .i64 7]] w' (Ret (.int .u64 72057594037927943) w')) := fun w' =>
    WordOf_any ⟨[99, 111, 110, 115, 116], 0, 0, 0, 7⟩ w' (by decide)
  have HW2 : Hid (∀ w', Calls Tryd.prog 14 #[.agg #[.string ⟨#[114, 101, 116, 117, 114, 110]⟩, .int .i64 0, .int .i64 0, .int .i64 0, .int .i64 0]] w' (Ret (.int .u64 936748722493063168) w')) := fun w' =>
    WordOf_any ⟨[114, 101, 116, 117, 114, 110], 0, 0, 0, 0⟩ w' (by decide)
  have HRN : Hid (∀ w' A B, Below w.heap.size w w' → Row w' A (img1.funs.flatMap fnL) → Row w' B (u64Vs img1.words) → Calls Tryd.prog 11 #[.agg #[.slice A 1 1, .slice B 2 2], .string ⟨#[102]⟩, .slice none 0 0, .int .i64 5] w' (MRunPost E img1 [102] [] 5 w')) := fun w' A B hb hA hB =>
    mrun_run E img1 (by decide) (by decide) A B 1 2 (by decide) (by decide) [102] [] (by decide) none 0 5 w' (hE.keep hb) hA hB img1_good 0 (by decide) (by decide) rfl 5 rfl (by decide) (Row.nil _ _) (fun n hn => by cases hn) fin1 img1_run
  have HRC : Hid (mrunC img1 [102] ([] : List Int).length 5 = (0, -1)) := show _ = _ by decide
  have HMO : Hid (mrunO img1 [102] [] 5 = (doneT, 7, [], 1)) := show _ = _ by rfl
  have HSO : Hid (∀ w' A c, Calls Tryd.prog 12 #[.agg #[.string (mkB doneT), .int .i64 7, .slice A 0 c, .int .i64 1], .agg #[.string ⟨#[100, 111, 110, 101]⟩, .int .i64 7, .slice none 0 0, .int .i64 1]] w' (Ret (.bool true) w')) := fun w' A c =>
    SameOutcome_eqM (doneT, 7, [], 1) A none c 0 w' (Row.nil _ _) (Row.nil _ _) (by simp)
  clear hE
  go_enter Tryd.func6, Tryd.ntmps6
  go_wp2_with (first
    | (go_at_call 14; first
      | ((with_reducible refine (HW1.out _).mono ?_); rintro y w1 ⟨rfl, hb1⟩)
      | ((with_reducible refine (HW2.out _).mono ?_); rintro y w2 ⟨rfl, hb2⟩))
    | (go_at_call 11; (with_reducible refine (HRN.out _ _ _ (grow_alloc (grow_alloc (grow_trans (grow_trans (grow_alloc (grow_refl w) _) hb1) hb2) _) _) ((Row.new w #[.string ⟨#[102]⟩, .int .i64 0, .int .i64 0, .int .i64 0] 48).keep (Keeps.of_below (grow_alloc (grow_alloc (grow_trans hb1 hb2) _) _))) ((Row.new w2 #[.int .u64 72057594037927943, .int .u64 936748722493063168] 49).keep (Keeps.of_below (grow_alloc (grow_refl _) _)))).mono ?_); rintro y w3 ⟨v3, A3, c3, o3, rfl, he3, hv3, ho3, hr3, hc3, hb3⟩; rw [HRC.out, if_pos rfl, HMO.out] at ho3; subst ho3; rw [HRC.out] at hv3; obtain rfl := hv3.2 rfl; have HB3 := Lib.hid (grow_trans (grow_alloc (grow_alloc (grow_trans (grow_trans (grow_alloc (grow_refl w) (.cells #[.string ⟨#[102]⟩, .int .i64 0, .int .i64 0, .int .i64 0] 48)) hb1) hb2) (.cells #[.int .u64 72057594037927943, .int .u64 936748722493063168] 49)) _) hb3); unfold ocM)
    | (go_at_call 12; (with_reducible refine (HSO.out _ _ _).mono ?_); rintro y w4 ⟨rfl, hb4⟩))
  go_ret
  exact ⟨rfl, grow_trans (grow_alloc HB3.out _) hb4⟩
end Go.Proofs.YtgoifbkogboppaaDoor
