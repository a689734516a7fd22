import Derived.Test.YtddilnibglcabaaDoorCoded
import Derived.Test.YtddilnibglcabaaDoorInts
namespace Go.Proofs.YtddilnibglcabaaDoor
open Go.RowKit

theorem New_any (s : ByteArray) (w : World) : Calls Tryd.prog 25 #[.string s] w fun e w' => e = .returned (esV ⟨w.heap.size, 0, none⟩) ∧ w' = w.alloc (.cells #[.string s] 84) := by
  go_enter Tryd.func25, Tryd.ntmps25
  go_wp2_with fail
  go_ret
  exact ⟨rfl, rfl⟩
theorem coded_nil (E : Nat → Addr) (w : World) (h : Laid E w) :
    Calls Tryd.prog 24 #[.nilIface, .int .i64 0] w fun e w' => e = .returned (.bool true) ∧ Below w.heap.size w w' := by
  refine (coded_any E w h _ _ _ 0 ErrIs.nil_).mono ?_
  rintro e w' ⟨rfl, h2⟩
  exact ⟨by simp, h2⟩
def namesL : List Int := [4000, 1000, 8, 4, 12, 12, 8, 1000, 1000, 8, 250, 8000, 40, 5000, 1000, 60, 16]
def namesW (w : World) : World := (w.alloc (.cells (namesL.map (Value.int .i64)).toArray 3)).alloc (.cells (namesL.map (Value.int .i64)).toArray 3)
theorem namesW_below (w : World) : Below w.heap.size w (namesW w) := grow_alloc (grow_alloc (grow_refl w) _) _
theorem SameInts_names (b : Nat) (w : World) (hb : w.heap.size = b) :
    Calls Tryd.prog 22 #[.slice (some ⟨b, 0, none⟩) 17 17, .slice (some ⟨b + 1, 0, none⟩) 17 17] ((w.alloc (.cells (namesL.map (Value.int .i64)).toArray 3)).alloc (.cells (namesL.map (Value.int .i64)).toArray 3)) (fun e w' => e = .returned (.bool true) ∧ Below w.heap.size w w') := by
  subst hb
  have r1 := (Row.new w (namesL.map (Value.int .i64)).toArray 3).keep (Keeps.alloc _ (.cells (namesL.map (Value.int .i64)).toArray 3))
  have r2 := Row.new (w.alloc (.cells (namesL.map (Value.int .i64)).toArray 3)) (namesL.map (Value.int .i64)).toArray 3
  rw [World.size_alloc] at r2
  have h := SameInts_any _ _ namesL namesL 17 17 _ r1 r2 (by decide)
  rw [show sameI namesL namesL = true by unfold sameI; simp, show namesL.length = 17 from rfl] at h
  refine h.mono ?_
  rintro e w' ⟨rfl, n, rfl⟩
  exact ⟨rfl, grow_drew (namesW_below w) n⟩
set_option maxHeartbeats 2000000 in
set_option maxRecDepth 100000 in
theorem Names_walk (E : Nat → Addr) (w : World) (hL : Laid E w) :
    Calls Tryd.prog 7 #[] w fun e w' => e = .returned (.bool true) ∧ Below w.heap.size w w' := by
  have HL := Lib.hid hL
  clear hL
  go_enter Tryd.func7, Tryd.ntmps7
  go_wp2_with (first
    | (go_at_call 22; refine (SameInts_names _ _ rfl).mono ?_; rintro e w1 ⟨rfl, hb1⟩; obtain ⟨c0, c1, c2, c3, c4, c5, c6, c7, c8, c9, -, -, -⟩ := HL.out.keep hb1))
  have HL1 := Lib.hid (HL.out.keep hb1)
  clear c0 c1 c2 c3 c4 c5 c6 c7 c8 c9 HL
  go_loopw [4] (fun i wr => ∃ k : Nat, k ≤ 10 ∧ i = .int .i64 k ∧ Row wr (some ⟨w1.heap.size, 0, none⟩) [esV (E 0), esV (E 1), esV (E 2), esV (E 3), esV (E 4), esV (E 5), esV (E 6), esV (E 7), esV (E 8), esV (E 9)] ∧ Below w.heap.size w wr ∧ Laid E wr) (fun i _ => 10 - (intOf i).toNat)
  case atStart => exact ⟨0, by omega, rfl, Row.new w1 _ _, grow_alloc hb1 _, HL1.out.keep (grow_alloc (grow_refl _) _)⟩
  case round =>
    obtain ⟨k, hk, rfl, hR, hB, hl⟩ := hrel
    have HR := Lib.hid hR
    have HB := Lib.hid hB
    have HL := Lib.hid hl
    clear hR hB hl HL1 hb1
    by_cases hlt : k < 10
    · obtain ⟨b0, off, hA, hc⟩ := HR.out k _ (sents_get E k hlt)
      simp only [Option.some.injEq, Addr.mk.injEq, and_true] at hA
      obtain ⟨rfl, rfl⟩ := hA
      rw [Nat.zero_add] at hc
      have hlt1 := World.block_lt_of_cell? wr _ hc
      have hc2 : (wr.alloc (.cells #[.int .i64 7, esV (E k)] 47)).cell? ⟨wr.heap.size, 0, none⟩ = some (.int .i64 7) := by simp
      have hc3 : (wr.alloc (.cells #[.int .i64 7, esV (E k)] 47)).cell? ⟨wr.heap.size, 0 + 1, none⟩ = some (esV (E k)) := by simp
      have H2 := Lib.hid hc2
      have H3 := Lib.hid hc3
      clear hc2 hc3
      have HG := Lib.hid (grow_alloc (grow_refl wr) (.cells #[.int .i64 7, esV (E k)] 47))
      go_wp2_with (first
        | (go_at_call 23; refine (Code_ft E k hlt wr.heap.size 0 7 _ (HL.out.keep HG.out) (by exact H2.out) (by exact H3.out)).mono ?_; rintro e w2 ⟨rfl, hb2⟩; have hc4 := (Keeps.of_below (grow_trans HG.out hb2)) _ _ hc)
        | (go_at_call 24; refine (coded_true E _ _ HL.out (by exact grow_trans HG.out (by assumption)) k hlt _ (by omega)).mono ?_; rintro e w3 ⟨rfl, hb3, hl3⟩))
      go_roundw
      case rel => exact ⟨k + 1, by omega, by go_num, HR.out.keep (Keeps.of_below (grow_trans (grow_trans HG.out (by assumption)) (by assumption))), grow_trans HB.out (grow_trans (grow_trans HG.out (by assumption)) (by assumption)), by assumption⟩
      case measure => simp [intOf]; omega
    · have hk' : k = 10 := by omega
      subst hk'
      have HP := Lib.hid (show Plain (wr.alloc (.cells #[.string ⟨#[97, 110, 111, 116, 104, 101, 114, 32, 111, 110, 101]⟩] 84)) ⟨wr.heap.size, 0, none⟩ from ⟨_, _, heap_alloc_new wr _⟩)
      have HG := Lib.hid (grow_alloc (grow_refl wr) (.cells #[.string ⟨#[97, 110, 111, 116, 104, 101, 114, 32, 111, 110, 101]⟩] 84))
      have HN : Hid (∀ i, i < 10 → (⟨wr.heap.size, 0, none⟩ : Addr) ≠ E i) := fun i hi e => by
        have h1 := (HL.out.plain i hi).lt
        rw [← e] at h1
        exact absurd h1 (Nat.lt_irrefl _)
      go_wp2_with (first
        | (go_at_call 25; refine (New_any _ _).mono ?_; rintro e w' ⟨rfl, rfl⟩)
        | (go_at_call 23; refine (Code_other E _ HN.out _ (HL.out.keep HG.out) (by exact HP.out)).mono ?_; rintro e w2 ⟨rfl, hb2⟩)
        | (go_at_call 24; refine (coded_nil E _ (HL.out.keep (by exact grow_trans HG.out (by assumption)))).mono ?_; rintro e w3 ⟨rfl, hb3⟩))
      go_ret
      exact ⟨rfl, grow_trans HB.out (grow_trans (grow_trans HG.out (by assumption)) (by assumption))⟩
end Go.Proofs.YtddilnibglcabaaDoor
