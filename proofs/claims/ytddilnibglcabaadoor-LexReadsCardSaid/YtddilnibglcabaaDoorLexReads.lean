import Derived.Test.YtddilnibglcabaaDoorLexRef
namespace Go.Proofs.YtddilnibglcabaaDoor
open Go.RowKit

theorem reads_meet (E : Nat → Addr) (s : ByteArray) (w1 w2 : World) (b1 b2 : Nat) (sl er sl2 : Value) (c a : Int) (h1 : ReadVal s (E 0) (E 1) (E 7) w1 b1 sl er) (h2 : LexVal s w2 b2 sl2 c a) (hb : Below w1.heap.size w1 w2) :
    ∃ (a' : Int) (ts : List Tok) (A B : Option Addr) (c1 c2 : Nat), ErrIs E w2 er c a' ∧ (c = 0 ∨ a' = a) ∧ sl = .slice A ts.length c1 ∧ sl2 = .slice B ts.length c2 ∧ Row w2 A (ts.flatMap tokCells) ∧ Row w2 B (ts.flatMap tokCells) ∧ ts.length ≤ 1000 := by
  have k := Keeps.of_below hb
  rcases h1 with ⟨q, rfl, rfl⟩ | ⟨q, p, fb, hp, rfl, rfl, f0, f1⟩ | ⟨q, hn, hl, rfl, rfl⟩ | ⟨q, hn, hl, rfl, ho⟩
  · rcases h2 with ⟨_, rfl, rfl, rfl⟩ | ⟨q2, _⟩ | ⟨q2, _⟩ | ⟨q2, _⟩
    · exact ⟨-1, [], none, none, 0, 0, .es (i := 1) (by omega), .inr rfl, rfl, rfl, Row.nil _ _, Row.nil _ _, by simp⟩
    all_goals omega
  · rcases h2 with ⟨q2, _⟩ | ⟨_, p', hp', rfl, rfl, rfl⟩ | ⟨_, hn, _⟩ | ⟨_, hn, _⟩
    · omega
    · rw [hp] at hp'
      obtain rfl := Option.some.inj hp'
      exact ⟨p, [], none, none, 0, 0, .inr (.inr ⟨0, fb, 0, by omega, rfl, k _ _ f0, k _ _ f1, rfl⟩), .inr rfl, rfl, rfl, Row.nil _ _, Row.nil _ _, by simp⟩
    all_goals rw [hp] at hn; cases hn
  · rcases h2 with ⟨q2, _⟩ | ⟨_, p', hp', _⟩ | ⟨_, _, _, rfl, rfl, rfl⟩ | ⟨_, _, hl2, _⟩
    · omega
    · rw [hn] at hp'; cases hp'
    · exact ⟨-1, [], none, none, 0, 0, .es (i := 7) (by omega), .inr rfl, rfl, rfl, Row.nil _ _, Row.nil _ _, by simp⟩
    · omega
  · rcases h2 with ⟨q2, _⟩ | ⟨_, p', hp', _⟩ | ⟨_, _, hl2, _⟩ | ⟨_, _, _, rfl, rfl, ho2⟩
    · omega
    · rw [hn] at hp'; cases hp'
    · omega
    · obtain ⟨A, c1, rfl, hr⟩ := owns_row ho
      obtain ⟨B, c2, rfl, hr2⟩ := owns_row ho2
      exact ⟨-1, (lexA (bytesL s) 0).1, A, B, c1, c2, .nil_, .inl rfl, rfl, rfl, hr.keep k, hr2, hl⟩
theorem LexReads_walk (E : Nat → Addr) (s : ByteArray) (w : World) (hE : Laid E w) :
    Calls Tryd.prog 9 #[.string s] w (Ret (.bool true) w) := by
  by_cases hl : (4100 : Int) < s.size
  · go_enter Tryd.func9, Tryd.ntmps9
    go_wp2_with (go_at_call 19; refine (lexed_any _ _ _ w hE.c0 hE.c1 hE.c7).mono ?_; rintro x w' ⟨rfl, hb⟩)
    go_ret
    exact ⟨rfl, hb⟩
  · have H1 := Lib.hid (fun w' (hb : Below w.heap.size w w') => Read_any s (by omega) _ _ _ w' (hE.keep hb).c0 (hE.keep hb).c1 (hE.keep hb).c7)
    have H2 := Lib.hid (fun w' => LexOf_any s (by omega) w')
    go_enter Tryd.func9, Tryd.ntmps9
    go_wp2_with (first
      | (go_at_call 19; refine (lexed_any _ _ _ w hE.c0 hE.c1 hE.c7).mono ?_; rintro x w0 ⟨rfl, hb0⟩)
      | (go_at_call 20; (with_reducible refine (H1.out _ hb0).mono ?_); rintro x w1 ⟨sl, er, rfl, hv1, hb1⟩; have HV1 := Lib.hid hv1; clear hv1)
      | (go_at_call 33; (with_reducible refine (H2.out _).mono ?_); rintro x w2 ⟨sl2, c, a, rfl, hv2, hb2⟩; have HV2 := Lib.hid hv2; clear hv2))
    have hb012 := grow_trans (grow_trans hb0 hb1) hb2
    obtain ⟨a', ts, A, B, c1, c2, hE2, hc, rfl, rfl, hr1, hr2, hn⟩ := reads_meet E s w1 w2 _ _ _ er _ c a HV1.out HV2.out hb2
    have hL2 := hE.keep (grow_alloc hb012 (.cells #[.int .i64 c, .int .i64 a] 56))
    have HF := Lib.hid (faulted_yes E _ hL2 er c a' a (hE2.keep (.alloc _ _)) hc)
    have HS := Lib.hid (fun w' k => same_true ts A B c1 c2 w' (hr1.keep k) (hr2.keep k) (by omega))
    have HB := Lib.hid hb012
    clear hb0 hb1 hb2 hb012 hL2 hE2 hc hr1 hr2 HV1 HV2 H1 H2
    go_wp2_with (first
      | (go_at_call 34; (with_reducible refine HF.out.mono ?_); rintro x w3 ⟨rfl, hb3⟩)
      | (go_at_call 35; (with_reducible refine (HS.out _ ((Keeps.alloc _ _).trans (.of_below hb3))).mono ?_); rintro x w4 ⟨rfl, n4, rfl⟩))
    go_ret
    exact ⟨rfl, below_drewN (grow_trans (grow_alloc HB.out _) hb3) _⟩
end Go.Proofs.YtddilnibglcabaaDoor
