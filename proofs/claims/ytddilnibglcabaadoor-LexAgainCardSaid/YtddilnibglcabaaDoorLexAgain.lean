import Derived.Test.YtddilnibglcabaaDoorLexText
namespace Go.Proofs.YtddilnibglcabaaDoor
open Go.RowKit

theorem Read_full (s : ByteArray) (hs : s.size ≤ 4000) (hp : (lexA (bytesL s) 0).2 = none) (hl : 1000 < (lexA (bytesL s) 0).1.length) (KT KB KF : Addr) (w : World) (hL : LexLaid KT KB KF w) :
    Calls Tryd.prog 20 #[.string s] w fun e w' => e = .returned (.tuple #[.slice none 0 0, esV KF]) ∧ Below w.heap.size w w' := by
  refine (Read_any s (by omega) KT KB KF w hL.t hL.b hL.f).mono ?_
  rintro e w' ⟨sl, er, rfl, hv, hb⟩
  rcases hv with ⟨h, _⟩ | ⟨_, q, fb, h, _⟩ | ⟨_, _, h, rfl, rfl⟩ | ⟨_, _, h, _⟩
  · omega
  · rw [hp] at h; cases h
  · exact ⟨rfl, hb⟩
  · omega
theorem extract_tok {s : ByteArray} {t : Tok} (h : ((bytesL s).drop t.pos).take t.text.length = t.text) : s.extract t.pos (t.pos + t.text.length) = mkB t.text := by
  rw [ext_mk, Nat.add_sub_cancel_left, h]
theorem again_step (s : ByteArray) (ts : List Tok) (k : Nat) (hlt : k < ts.length) (a : Nat) (h : InText (bytesL s) a (ts.drop k)) (A : Option Addr) (w : World) (hr : Row w A (ts.flatMap tokCells)) :
    ∃ (b off : Nat) (K T : ByteArray) (p : Nat), A = some ⟨b, off, none⟩ ∧ w.cell? ⟨b, off + k * 3, none⟩ = some (.string K) ∧ w.cell? ⟨b, off + k * 3 + 1, none⟩ = some (.string T) ∧ w.cell? ⟨b, off + k * 3 + 2, none⟩ = some (.int .i64 p) ∧
      a ≤ p ∧ p + T.size ≤ s.size ∧ 0 < T.size ∧ s.extract p (p + T.size) = T ∧ InText (bytesL s) (p + T.size) (ts.drop (k + 1)) := by
  obtain ⟨b, off, rfl, h0, h1, h2⟩ := tok_cells hr hlt
  rw [List.drop_eq_getElem_cons hlt] at h
  obtain ⟨q1, q2, ⟨c, r, q3, _⟩, q4, _, q5⟩ := h
  refine ⟨b, off, _, _, _, rfl, h0, h1, h2, q1, ?_, ?_, ?_, ?_⟩
  · rw [mkB_size, ← bytesL_len]; exact q2
  · rw [mkB_size, q3]; simp
  · rw [mkB_size]; exact extract_tok q4
  · rw [mkB_size]; exact q5
theorem again_large (s : ByteArray) (KT KB KF : Addr) (w : World) (hL : LexLaid KT KB KF w) (h : 1500 < s.size) :
    Calls Tryd.prog 6 #[.string s] w (Ret (.bool true) w) := by
  have h1 : (1500 : Int) < s.size := by omega
  go_enter Tryd.func6, Tryd.ntmps6
  go_wp2_with (go_at_call 19; refine (lexed_any KT KB KF w hL.t hL.b hL.f).mono ?_; rintro x w' ⟨rfl, hb⟩)
  go_ret
  exact ⟨rfl, hb⟩
theorem again_bad (s : ByteArray) (KT KB KF : Addr) (w : World) (hL : LexLaid KT KB KF w) (hs : s.size ≤ 1500) (p : Nat) (h : (lexA (bytesL s) 0).2 = some p) :
    Calls Tryd.prog 6 #[.string s] w (Ret (.bool true) w) := by
  have h1 : ¬ (1500 : Int) < s.size := by omega
  have H1 := Lib.hid (fun w' hb => Read_bad s (by omega) p h KT KB KF w' (hL.below hb).t (hL.below hb).b (hL.below hb).f)
  clear h
  go_enter Tryd.func6, Tryd.ntmps6
  go_wp2_with (first
    | (go_at_call 19; refine (lexed_any KT KB KF w hL.t hL.b hL.f).mono ?_; rintro x w0 ⟨rfl, hb0⟩)
    | (go_at_call 20; (with_reducible refine (H1.out _ hb0).mono ?_); rintro x w1 ⟨fb1, rfl, hb1⟩))
  go_ret
  exact ⟨rfl, grow_trans hb0 hb1⟩
theorem again_full (s : ByteArray) (KT KB KF : Addr) (w : World) (hL : LexLaid KT KB KF w) (hs : s.size ≤ 1500) (h : (lexA (bytesL s) 0).2 = none) (hl : 1000 < (lexA (bytesL s) 0).1.length) :
    Calls Tryd.prog 6 #[.string s] w (Ret (.bool true) w) := by
  have h1 : ¬ (1500 : Int) < s.size := by omega
  have H1 := Lib.hid (fun w' hb => Read_full s (by omega) h hl KT KB KF w' (hL.below hb))
  clear h hl
  go_enter Tryd.func6, Tryd.ntmps6
  go_wp2_with (first
    | (go_at_call 19; refine (lexed_any KT KB KF w hL.t hL.b hL.f).mono ?_; rintro x w0 ⟨rfl, hb0⟩)
    | (go_at_call 20; (with_reducible refine (H1.out _ hb0).mono ?_); rintro x w1 ⟨rfl, hb1⟩))
  go_ret
  exact ⟨rfl, grow_trans hb0 hb1⟩
set_option maxRecDepth 100000 in
theorem again_well (s : ByteArray) (KT KB KF : Addr) (w : World) (hL : LexLaid KT KB KF w) (hs : s.size ≤ 1500) (h : (lexA (bytesL s) 0).2 = none) (hl : (lexA (bytesL s) 0).1.length ≤ 1000) :
    Calls Tryd.prog 6 #[.string s] w (Ret (.bool true) w) := by
  have h1 : ¬ (1500 : Int) < s.size := by omega
  have H1 := Lib.hid (fun w' hb => Read_good s (by omega) h hl KT KB KF w' (hL.below hb).t (hL.below hb).b (hL.below hb).f)
  have hin : InText (bytesL s) 0 (lexA (bytesL s) 0).1 := lexA_in _ _ _ 0 (Nat.le_refl _) rfl
  clear h
  generalize (lexA (bytesL s) 0).1 = ts at *
  have hjl := joinB_len (bytesL s) ts 0 (Nat.zero_le _) hin
  rw [bytesL_len] at hjl
  obtain ⟨hj1, hj2⟩ := lexA_joined (bytesL s) ts 0 0 hin
  have hlen := congrArg List.length hj2
  rw [List.length_map, List.length_map] at hlen
  have HT := Lib.hid (fun A c w hr => Text_any ts A c w hr hl (by omega))
  generalize joinB (ts.map (·.text)) = J at *
  have hb' : bytesL (mkB J) = J := rfl
  have H2 := fun w' hb => Read_good (mkB J) (by rw [mkB_size]; omega) (by rw [hb']; exact hj1) (by rw [hb']; omega) KT KB KF w' (hL.below hb).t (hL.below hb).b (hL.below hb).f
  rw [hb', hlen] at H2
  generalize (lexA J 0).1 = us at *
  have HR := Lib.hid H2
  have HIN := Lib.hid hin
  have HBT : Hid (∀ k (hk : k < ts.length) (hk' : k < us.length), us[k].kind = ts[k].kind ∧ us[k].text = ts[k].text) := by
    intro k hk hk'
    have := congrArg (·[k]?) hj2
    simp only [List.getElem?_map, List.getElem?_eq_getElem hk, List.getElem?_eq_getElem hk', Option.map_some, Option.some.injEq, bareT, Prod.mk.injEq] at this
    exact this
  have HLEN := Lib.hid hlen
  clear H2 hin hj1 hj2 hlen hjl hb'
  go_enter Tryd.func6, Tryd.ntmps6
  go_wp2_with (first
    | (go_at_call 19; refine (lexed_any KT KB KF w hL.t hL.b hL.f).mono ?_; rintro x w0 ⟨rfl, hb0⟩)
    | (go_at_call 20; (with_reducible refine (H1.out _ hb0).mono ?_); rintro x w1 ⟨A1, c1, rfl, ha1, hb1⟩; have HA1 := Lib.hid ha1; clear ha1))
  have HB := Lib.hid (grow_trans hb0 hb1)
  clear hb0 hb1
  go_loopw [6, 7] (fun av i wr => ∃ k a m : Nat, k ≤ ts.length ∧ a ≤ s.size ∧ i = .int .i64 k ∧ av = .int .i64 a ∧ InText (bytesL s) a (ts.drop k) ∧ wr = w1.drewN m) (fun _ i _ => ts.length - (intOf i).toNat)
  case atStart => exact ⟨0, 0, 0, by omega, by omega, rfl, rfl, HIN.out, rfl⟩
  case round =>
    obtain ⟨k, a, m, hk, hax, rfl, rfl, hI, rfl⟩ := hrel
    by_cases hlt : k < ts.length
    · obtain ⟨b, off, K, T, p, rfl, a0, a1, a2, g1, g2, g3, g4, g5⟩ := again_step s ts k hlt a hI A1 w1 HA1.out
      have HI := Lib.hid g5
      clear hI g5
      have hlt' : (k : Int) < (ts.length : Int) := by omega
      have e1 : decide (p < a) = false := decide_eq_false (by omega)
      have e2 : decide ((s.size : Int) - (T.size : Int) < (p : Int)) = false := decide_eq_false (by omega)
      have e3 : T.toList ≠ [] := by
        intro e; have h0 : T.size = 0 := by rw [eq_mkB e]; rfl
        omega
      have e4 : T.toList.isEmpty = false := by simpa using e3
      have e5 : ((s.extract p (p + T.size)).toList == T.toList) = true := by rw [g4]; simp
      clear g4
      have q1 : IntKind.i64.wrap ((p : Int) + (T.size : Int)) = (p : Int) + (T.size : Int) := IntWalk.i64_in _ (by omega)
      have q2 : (0 : Int) ≤ (p : Int) + (T.size : Int) := by omega
      have q3 : ((p : Int) + (T.size : Int)).toNat = p + T.size := by omega
      have q4 : (p : Int) + (T.size : Int) ≤ (s.size : Int) := by omega
      have q5 : (p : Int) ≤ (p : Int) + (T.size : Int) := by omega
      have q6 : IntKind.i64.wrap ((s.size : Int) - (T.size : Int)) = (s.size : Int) - (T.size : Int) := IntWalk.i64_in _ (by omega)
      go_wp2_with fail
      go_quiet (fail)
      go_wp2_with fail
      go_quiet (fail)
      go_wp2_with fail
      go_quiet (fail)
      go_wp2_with fail
      go_roundw
      case rel => exact ⟨k + 1, p + T.size, _, by omega, by omega, by go_num, by go_num, HI.out, rfl⟩
      case measure => simp [intOf]; omega
    · have hk' : k = ts.length := by omega
      subst hk'
      clear hI
      go_wp2_with (first
        | (go_at_call 21; (with_reducible refine (HT.out _ _ _ (HA1.out.keep (.drewN _ _))).mono ?_); rintro x w2 ⟨rfl, hb2⟩)
        | (go_at_call 20; (with_reducible refine (HR.out _ (grow_trans (below_drewN HB.out _) hb2)).mono ?_); rintro x w3 ⟨A3, c3, rfl, ha3, hb3⟩; have HA3 := Lib.hid ha3; clear ha3))
      have HB2 := Lib.hid (grow_trans (grow_trans (below_drewN HB.out m) hb2) hb3)
      have HA1' := Lib.hid (((HA1.out.keep (.drewN _ m)).keep (.of_below hb2)).keep (.of_below hb3))
      clear hb2 hb3 HA1 HB HT HR H1
      go_loopw [9] (fun i wr => ∃ k m : Nat, k ≤ ts.length ∧ i = .int .i64 k ∧ wr = w3.drewN m) (fun i _ => ts.length - (intOf i).toNat)
      case atStart => exact ⟨0, 0, by omega, rfl, rfl⟩
      case round =>
        obtain ⟨k, m, hk, rfl, rfl⟩ := hrel
        by_cases hlt : k < ts.length
        · obtain ⟨b1, o1, rfl, a0, a1, a2⟩ := tok_cells HA1'.out hlt
          obtain ⟨b3, o3, rfl, d0, d1, d2⟩ := tok_cells HA3.out (k := k) (by rw [HLEN.out]; exact hlt)
          obtain ⟨f1, f2⟩ := HBT.out k hlt (by rw [HLEN.out]; exact hlt)
          rw [f1] at d0
          rw [f2] at d1
          clear f1 f2 a2 d2
          have hlt' : (k : Int) < (ts.length : Int) := by omega
          have s0 : ((mkB ts[k].kind).toList == (mkB ts[k].kind).toList) = true := by simp
          have s1 : ((mkB ts[k].text).toList == (mkB ts[k].text).toList) = true := by simp
          go_wp2_with fail
          go_quiet (fail)
          go_wp2_with fail
          go_roundw
          case rel => exact ⟨k + 1, _, by omega, by go_num, rfl⟩
          case measure => simp [intOf]; omega
        · have hk' : k = ts.length := by omega
          subst hk'
          go_wp2_with fail
          go_ret
          exact ⟨rfl, below_drewN HB2.out _⟩
theorem LexAgain_walk (s : ByteArray) (KT KB KF : Addr) (w : World) (hL : LexLaid KT KB KF w) :
    Calls Tryd.prog 6 #[.string s] w (Ret (.bool true) w) := by
  by_cases hl : 1500 < s.size
  · exact again_large s KT KB KF w hL hl
  · cases h1 : (lexA (bytesL s) 0).2 with
    | some p => exact again_bad s KT KB KF w hL (by omega) p h1
    | none =>
      by_cases h3 : 1000 < (lexA (bytesL s) 0).1.length
      · exact again_full s KT KB KF w hL (by omega) h1 h3
      · exact again_well s KT KB KF w hL (by omega) h1 (by omega)
end Go.Proofs.YtddilnibglcabaaDoor
