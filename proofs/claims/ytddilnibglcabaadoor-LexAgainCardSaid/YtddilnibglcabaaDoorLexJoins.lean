import Derived.Test.YtddilnibglcabaaDoorLexSame
import Derived.Test.YtddilnibglcabaaDoorLexL
namespace Go.Proofs.YtddilnibglcabaaDoor
open Go.RowKit

theorem Read_bad (s : ByteArray) (hs : s.size ≤ 4000) (p : Nat) (hp : (lexA (bytesL s) 0).2 = some p) (KT KB KF : Addr) (w : World) (hT : w.cell? ⟨0, 0, none⟩ = some (esV KT)) (hB : w.cell? ⟨1, 0, none⟩ = some (esV KB)) (hF : w.cell? ⟨7, 0, none⟩ = some (esV KF)) :
    Calls Tryd.prog 20 #[.string s] w fun e w' => ∃ fb : Nat, e = .returned (.tuple #[.slice none 0 0, ftV ⟨fb, 0, none⟩]) ∧ Below w.heap.size w w' := by
  refine (Read_any s (by omega) KT KB KF w hT hB hF).mono ?_
  rintro e w' ⟨sl, er, rfl, hv, hb⟩
  rcases hv with ⟨h, _⟩ | ⟨_, q, fb, _, rfl, rfl, _, _⟩ | ⟨_, h, _⟩ | ⟨_, h, _⟩
  · omega
  · exact ⟨fb, rfl, hb⟩
  · rw [hp] at h; cases h
  · rw [hp] at h; cases h
theorem Read_good (s : ByteArray) (hs : s.size ≤ 4000) (hp : (lexA (bytesL s) 0).2 = none) (hl : (lexA (bytesL s) 0).1.length ≤ 1000) (KT KB KF : Addr) (w : World) (hT : w.cell? ⟨0, 0, none⟩ = some (esV KT)) (hB : w.cell? ⟨1, 0, none⟩ = some (esV KB)) (hF : w.cell? ⟨7, 0, none⟩ = some (esV KF)) :
    Calls Tryd.prog 20 #[.string s] w fun e w' => ∃ A c, e = .returned (.tuple #[.slice A (lexA (bytesL s) 0).1.length c, .nilIface]) ∧ Row w' A ((lexA (bytesL s) 0).1.flatMap tokCells) ∧ Below w.heap.size w w' := by
  refine (Read_any s (by omega) KT KB KF w hT hB hF).mono ?_
  rintro e w' ⟨sl, er, rfl, hv, hb⟩
  rcases hv with ⟨h, _⟩ | ⟨_, q, fb, h, _⟩ | ⟨_, _, h, _⟩ | ⟨_, _, _, rfl, ho⟩
  · omega
  · rw [hp] at h; cases h
  · omega
  · obtain ⟨A, c, rfl, hr⟩ := owns_row ho
    exact ⟨A, c, rfl, hr, hb⟩
theorem Read_some (s : ByteArray) (hs : s.size ≤ 4000) (KT KB KF : Addr) (w : World) (hT : w.cell? ⟨0, 0, none⟩ = some (esV KT)) (hB : w.cell? ⟨1, 0, none⟩ = some (esV KB)) (hF : w.cell? ⟨7, 0, none⟩ = some (esV KF)) :
    Calls Tryd.prog 20 #[.string s] w fun e w' => ∃ sl er, e = .returned (.tuple #[sl, er]) ∧ Below w.heap.size w w' := by
  refine (Read_any s (by omega) KT KB KF w hT hB hF).mono ?_
  rintro e w' ⟨sl, er, rfl, hv, hb⟩
  exact ⟨sl, er, rfl, hb⟩
/-- The three sentinels that lex.Read may hand back. -/
structure LexLaid (KT KB KF : Addr) (w : World) : Prop where
  t : w.cell? ⟨0, 0, none⟩ = some (esV KT)
  b : w.cell? ⟨1, 0, none⟩ = some (esV KB)
  f : w.cell? ⟨7, 0, none⟩ = some (esV KF)
theorem LexLaid.below {KT KB KF : Addr} {w w' : World} (h : LexLaid KT KB KF w) (hb : Below w.heap.size w w') : LexLaid KT KB KF w' :=
  ⟨Keeps.of_below hb _ _ h.t, Keeps.of_below hb _ _ h.b, Keeps.of_below hb _ _ h.f⟩
def nl : ByteArray := ⟨#[10]⟩
theorem bytesL_app (s t : ByteArray) : bytesL (s ++ t) = bytesL s ++ bytesL t := by
  unfold bytesL; rw [ByteArray.data_append, Array.toList_append]
theorem bytesL_join (s t : ByteArray) : bytesL (s ++ nl ++ t) = bytesL s ++ 10 :: bytesL t := by
  rw [bytesL_app, bytesL_app, List.append_assoc]; rfl
theorem join_bad (s t : ByteArray) (p : Nat) (h : (lexA (bytesL s) 0).2 = some p) : (lexA (bytesL (s ++ nl ++ t)) 0).2 = some p := by
  rw [bytesL_join]
  exact (lexA_join 10 (by decide) (bytesL t) _ (bytesL s) 0 (Nat.le_refl _)).2 p h
theorem join_good (s t : ByteArray) (h : (lexA (bytesL s) 0).2 = none) : lexA (bytesL (s ++ nl ++ t)) 0 = ((lexA (bytesL s) 0).1 ++ (lexA (bytesL t) 0).1.map (shiftT (s.size + 1)), (lexA (bytesL t) 0).2.map (· + (s.size + 1))) := by
  rw [bytesL_join, (lexA_join 10 (by decide) (bytesL t) _ (bytesL s) 0 (Nat.le_refl _)).1 h, bytesL_len, show 0 + s.size + 1 = 0 + (s.size + 1) by omega, lexA_shift _ (bytesL t) 0 (s.size + 1) (Nat.le_refl _)]
theorem app_size (s t : ByteArray) : (s ++ nl ++ t).size = s.size + 1 + t.size := by
  rw [ByteArray.size_append, ByteArray.size_append]; rfl
theorem lexed_toksLe (s : ByteArray) : (lexA (bytesL s) 0).1.length ≤ s.size := by
  have := lexA_len _ (bytesL s) 0 (Nat.le_refl _)
  rwa [bytesL_len] at this
theorem joins_large (s t : ByteArray) (KT KB KF : Addr) (w : World) (hL : LexLaid KT KB KF w) (h : 900 < s.size ∨ 900 < t.size) :
    Calls Tryd.prog 5 #[.string s, .string t] w (Ret (.bool true) w) := by
  by_cases h1 : (900 : Int) < s.size
  · go_enter Tryd.func5, Tryd.ntmps5
    go_wp2_with (go_at_call 19; refine (lexed_any KT KB KF w hL.t hL.b hL.f).mono ?_; rintro x w' ⟨rfl, hb⟩)
    go_ret
    exact ⟨rfl, hb⟩
  · have h2 : (900 : Int) < t.size := by omega
    go_enter Tryd.func5, Tryd.ntmps5
    go_wp2_with (go_at_call 19; refine (lexed_any KT KB KF w hL.t hL.b hL.f).mono ?_; rintro x w' ⟨rfl, hb⟩)
    go_ret
    exact ⟨rfl, hb⟩
theorem joins_bad (s t : ByteArray) (KT KB KF : Addr) (w : World) (hL : LexLaid KT KB KF w) (hs : s.size ≤ 900) (ht : t.size ≤ 900) (p : Nat) (h : (lexA (bytesL s) 0).2 = some p) :
    Calls Tryd.prog 5 #[.string s, .string t] w (Ret (.bool true) w) := by
  have h1 : ¬ (900 : Int) < s.size := by omega
  have h2 : ¬ (900 : Int) < t.size := by omega
  have H1 := Lib.hid (fun w' hb => Read_bad s (by omega) p h KT KB KF w' (hL.below hb).t (hL.below hb).b (hL.below hb).f)
  have H2 := Lib.hid (fun w' hb => Read_some t (by omega) KT KB KF w' (hL.below hb).t (hL.below hb).b (hL.below hb).f)
  have H3 := Lib.hid (fun w' hb => Read_bad (s ++ ⟨#[10]⟩ ++ t) (by have := app_size s t; show (s ++ nl ++ t).size ≤ 4000; omega) p (join_bad s t p h) KT KB KF w' (hL.below hb).t (hL.below hb).b (hL.below hb).f)
  clear h
  go_enter Tryd.func5, Tryd.ntmps5
  go_wp2_with (first
    | (go_at_call 19; refine (lexed_any KT KB KF w hL.t hL.b hL.f).mono ?_; rintro x w0 ⟨rfl, hb0⟩)
    | (go_at_call 20; (with_reducible refine (H1.out _ hb0).mono ?_); rintro x w1 ⟨fb1, rfl, hb1⟩)
    | (go_at_call 20; (with_reducible refine (H2.out _ (grow_trans hb0 hb1)).mono ?_); rintro x w2 ⟨sl2, er2, rfl, hb2⟩)
    | (go_at_call 20; (with_reducible refine (H3.out _ (grow_trans (grow_trans hb0 hb1) hb2)).mono ?_); rintro x w3 ⟨fb3, rfl, hb3⟩))
  go_ret
  exact ⟨rfl, grow_trans (grow_trans (grow_trans hb0 hb1) hb2) hb3⟩
theorem joins_bad2 (s t : ByteArray) (KT KB KF : Addr) (w : World) (hL : LexLaid KT KB KF w) (hs : s.size ≤ 900) (ht : t.size ≤ 900) (hn : (lexA (bytesL s) 0).2 = none) (p : Nat) (h : (lexA (bytesL t) 0).2 = some p) :
    Calls Tryd.prog 5 #[.string s, .string t] w (Ret (.bool true) w) := by
  have h1 : ¬ (900 : Int) < s.size := by omega
  have h2 : ¬ (900 : Int) < t.size := by omega
  have hle := lexed_toksLe s
  have H1 := Lib.hid (fun w' hb => Read_good s (by omega) hn (by omega) KT KB KF w' (hL.below hb).t (hL.below hb).b (hL.below hb).f)
  have H2 := Lib.hid (fun w' hb => Read_bad t (by omega) p h KT KB KF w' (hL.below hb).t (hL.below hb).b (hL.below hb).f)
  have H3 := Lib.hid (fun w' hb => Read_bad (s ++ ⟨#[10]⟩ ++ t) (by have := app_size s t; show (s ++ nl ++ t).size ≤ 4000; omega) (p + (s.size + 1)) (by show (lexA (bytesL (s ++ nl ++ t)) 0).2 = _; rw [join_good s t hn, h]; rfl) KT KB KF w' (hL.below hb).t (hL.below hb).b (hL.below hb).f)
  clear h hn hle
  go_enter Tryd.func5, Tryd.ntmps5
  go_wp2_with (first
    | (go_at_call 19; refine (lexed_any KT KB KF w hL.t hL.b hL.f).mono ?_; rintro x w0 ⟨rfl, hb0⟩)
    | (go_at_call 20; (with_reducible refine (H1.out _ hb0).mono ?_); rintro x w1 ⟨A1, c1, rfl, ha1, hb1⟩; have HA1 := Lib.hid ha1; clear ha1)
    | (go_at_call 20; (with_reducible refine (H2.out _ (grow_trans hb0 hb1)).mono ?_); rintro x w2 ⟨fb2, rfl, hb2⟩)
    | (go_at_call 20; (with_reducible refine (H3.out _ (grow_trans (grow_trans hb0 hb1) hb2)).mono ?_); rintro x w3 ⟨fb3, rfl, hb3⟩))
  go_ret
  exact ⟨rfl, grow_trans (grow_trans (grow_trans hb0 hb1) hb2) hb3⟩
theorem joins_full (s t : ByteArray) (KT KB KF : Addr) (w : World) (hL : LexLaid KT KB KF w) (hs : s.size ≤ 900) (ht : t.size ≤ 900) (hn : (lexA (bytesL s) 0).2 = none) (hm : (lexA (bytesL t) 0).2 = none) (h : 1000 < (lexA (bytesL s) 0).1.length + (lexA (bytesL t) 0).1.length) :
    Calls Tryd.prog 5 #[.string s, .string t] w (Ret (.bool true) w) := by
  have h1 : ¬ (900 : Int) < s.size := by omega
  have h2 : ¬ (900 : Int) < t.size := by omega
  have hle := lexed_toksLe s
  have hle2 := lexed_toksLe t
  have H1 := Lib.hid (fun w' hb => Read_good s (by omega) hn (by omega) KT KB KF w' (hL.below hb).t (hL.below hb).b (hL.below hb).f)
  have H2 := Lib.hid (fun w' hb => Read_good t (by omega) hm (by omega) KT KB KF w' (hL.below hb).t (hL.below hb).b (hL.below hb).f)
  have H3 := Lib.hid (fun w' hb => Read_some (s ++ ⟨#[10]⟩ ++ t) (by have := app_size s t; show (s ++ nl ++ t).size ≤ 4000; omega) KT KB KF w' (hL.below hb).t (hL.below hb).b (hL.below hb).f)
  generalize (lexA (bytesL s) 0).1 = ts at *
  generalize (lexA (bytesL t) 0).1 = us at *
  have h3 : (1000 : Int) < (ts.length : Int) + (us.length : Int) := by omega
  clear hn hm
  go_enter Tryd.func5, Tryd.ntmps5
  go_wp2_with (first
    | (go_at_call 19; refine (lexed_any KT KB KF w hL.t hL.b hL.f).mono ?_; rintro x w0 ⟨rfl, hb0⟩)
    | (go_at_call 20; (with_reducible refine (H1.out _ hb0).mono ?_); rintro x w1 ⟨A1, c1, rfl, ha1, hb1⟩; have HA1 := Lib.hid ha1; clear ha1)
    | (go_at_call 20; (with_reducible refine (H2.out _ (grow_trans hb0 hb1)).mono ?_); rintro x w2 ⟨A2, c2, rfl, ha2, hb2⟩; have HA2 := Lib.hid ha2; clear ha2)
    | (go_at_call 20; (with_reducible refine (H3.out _ (grow_trans (grow_trans hb0 hb1) hb2)).mono ?_); rintro x w3 ⟨sl3, er3, rfl, hb3⟩))
  go_ret
  exact ⟨rfl, grow_trans (grow_trans (grow_trans hb0 hb1) hb2) hb3⟩
set_option maxRecDepth 100000 in
theorem joins_well (s t : ByteArray) (KT KB KF : Addr) (w : World) (hL : LexLaid KT KB KF w) (hs : s.size ≤ 900) (ht : t.size ≤ 900) (hn : (lexA (bytesL s) 0).2 = none) (hm : (lexA (bytesL t) 0).2 = none) (h : (lexA (bytesL s) 0).1.length + (lexA (bytesL t) 0).1.length ≤ 1000) :
    Calls Tryd.prog 5 #[.string s, .string t] w (Ret (.bool true) w) := by
  have h1 : ¬ (900 : Int) < s.size := by omega
  have h2 : ¬ (900 : Int) < t.size := by omega
  have hle := lexed_toksLe s
  have hle2 := lexed_toksLe t
  have hj := join_good s t hn
  rw [hm] at hj
  have hj1 := congrArg (·.1) hj
  have hj2 := congrArg (·.2) hj
  have hlen := congrArg List.length hj1
  simp only [List.length_append, List.length_map] at hlen hj1 hj2
  have hin : InText (bytesL t) 0 (lexA (bytesL t) 0).1 := lexA_in _ _ _ 0 (Nat.le_refl _) rfl
  have H1 := Lib.hid (fun w' hb => Read_good s (by omega) hn (by omega) KT KB KF w' (hL.below hb).t (hL.below hb).b (hL.below hb).f)
  have H2 := Lib.hid (fun w' hb => Read_good t (by omega) hm (by omega) KT KB KF w' (hL.below hb).t (hL.below hb).b (hL.below hb).f)
  have h3 := (fun w' hb => Read_good (s ++ nl ++ t) (by have := app_size s t; omega) hj2 (by omega) KT KB KF w' (hL.below hb).t (hL.below hb).b (hL.below hb).f)
  rw [hj1] at h3
  generalize (lexA (bytesL s) 0).1 = ts at *
  generalize (lexA (bytesL t) 0).1 = us at *
  have H3 : Hid (∀ w', Below w.heap.size w w' → Calls Tryd.prog 20 #[.string (s ++ ⟨#[10]⟩ ++ t)] w' fun e w'' => ∃ A c, e = .returned (.tuple #[.slice A (ts.length + us.length) c, .nilIface]) ∧ Row w'' A ((ts ++ us.map (shiftT (s.size + 1))).flatMap tokCells) ∧ Below w'.heap.size w' w'') := by
    rw [List.length_append, List.length_map] at h3
    exact h3
  have h4 : ¬ (1000 : Int) < (ts.length : Int) + (us.length : Int) := by omega
  have h5 : (((ts.length + us.length : Nat) : Int) != (ts.length : Int) + (us.length : Int)) = false := by simp
  have hpos : ∀ k (hk : k < us.length), us[k].pos ≤ 900 := by
    have : ∀ (l : List Tok) (j : Nat), InText (bytesL t) j l → ∀ k (hk : k < l.length), l[k].pos ≤ (bytesL t).length := by
      intro l
      induction l with
      | nil => intro j _ k hk; simp at hk
      | cons x l ih =>
        intro j hi k hk
        obtain ⟨_, q, _, _, _, q2⟩ := hi
        cases k with
        | zero => simp; omega
        | succ k => simpa using ih _ q2 k (by simpa using hk)
    intro k hk
    have := this us 0 hin k hk
    rw [bytesL_len] at this
    omega
  have HP := Lib.hid hpos
  clear hn hm hj hj1 hj2 hlen h3 hin hpos
  go_enter Tryd.func5, Tryd.ntmps5
  go_wp2_with (first
    | (go_at_call 19; refine (lexed_any KT KB KF w hL.t hL.b hL.f).mono ?_; rintro x w0 ⟨rfl, hb0⟩)
    | (go_at_call 20; (with_reducible refine (H1.out _ hb0).mono ?_); rintro x w1 ⟨A1, c1, rfl, ha1, hb1⟩; have HA1 := Lib.hid ha1; clear ha1)
    | (go_at_call 20; (with_reducible refine (H2.out _ (grow_trans hb0 hb1)).mono ?_); rintro x w2 ⟨A2, c2, rfl, ha2, hb2⟩; have HA2 := Lib.hid ha2; clear ha2)
    | (go_at_call 20; (with_reducible refine (H3.out _ (grow_trans (grow_trans hb0 hb1) hb2)).mono ?_); rintro x w3 ⟨A3, c3, rfl, ha3, hb3⟩; have HA3 := Lib.hid ha3; clear ha3))
  have HB := Lib.hid (grow_trans (grow_trans (grow_trans hb0 hb1) hb2) hb3)
  have HA1' := Lib.hid ((HA1.out.keep (.of_below hb2)).keep (.of_below hb3))
  have HA2' := Lib.hid (HA2.out.keep (.of_below hb3))
  have hza : Hid (w.heap.size ≤ w3.heap.size) := HB.out.size
  clear hb0 hb1 hb2 hb3 HA1 HA2 H1 H2 H3
  go_loopw [12] (fun i wr => ∃ k m : Nat, k ≤ ts.length ∧ i = .int .i64 k ∧ wr = w3.drewN m) (fun i _ => ts.length - (intOf i).toNat)
  case atStart => exact ⟨0, 0, by omega, rfl, rfl⟩
  case round =>
    obtain ⟨k, m, hk, rfl, rfl⟩ := hrel
    by_cases hlt : k < ts.length
    · obtain ⟨b1, o1, rfl, a0, a1, a2⟩ := tok_cells HA1'.out hlt
      obtain ⟨b3, o3, rfl, d0, d1, d2⟩ := tok_cells HA3.out (k := k) (by rw [List.length_append]; omega)
      rw [List.getElem_append_left hlt] at d0 d1 d2
      have hlt' : (k : Int) < (ts.length : Int) := by omega
      have hlt2 : (k : Int) < (ts.length : Int) + (us.length : Int) := by omega
      have s0 : ((mkB ts[k].kind).toList == (mkB ts[k].kind).toList) = true := by simp
      have s1 : ((mkB ts[k].text).toList == (mkB ts[k].text).toList) = true := by simp
      have s2 : ((ts[k].pos : Int) != (ts[k].pos : Int)) = false := by simp
      go_wp2_with fail
      go_quiet (fail)
      go_wp2_with fail
      go_roundw
      case rel => exact ⟨k + 1, _, by omega, by go_num, rfl⟩
      case measure => simp [intOf]; omega
    · have hk' : k = ts.length := by omega
      subst hk'
      go_wp2_with fail
      go_loopw [13, 14] (fun i _ wr => ∃ k : Nat, k ≤ us.length ∧ i = .int .i64 k ∧ Below w3.heap.size w3 wr) (fun i _ _ => us.length - (intOf i).toNat)
      case atStart => exact ⟨0, by omega, rfl, below_drewN (Below.refl _ _) _⟩
      case round =>
        obtain ⟨k, hk, rfl, hw⟩ := hrel
        have HW := Lib.hid hw
        by_cases hlt : k < us.length
        · obtain ⟨b2, o2, rfl, a0, a1, a2⟩ := tok_cells (HA2'.out.keep (.of_below hw)) hlt
          obtain ⟨b3, o3, rfl, d0, d1, d2⟩ := tok_cells (HA3.out.keep (.of_below hw)) (k := ts.length + k) (by rw [List.length_append, List.length_map]; omega)
          rw [List.getElem_append_right (by omega)] at d0 d1 d2
          simp only [Nat.add_sub_cancel_left, List.getElem_map, shiftT] at d0 d1 d2
          clear hw
          have hlt' : (k : Int) < (us.length : Int) := by omega
          have hlt2 : (ts.length : Int) + (k : Int) < (ts.length : Int) + (us.length : Int) := by omega
          have hp := HP.out k hlt
          have s0 : ((mkB us[k].kind).toList == (mkB us[k].kind).toList) = true := by simp
          have s1 : ((mkB us[k].text).toList == (mkB us[k].text).toList) = true := by simp
          have q0 := fun o => Keeps.alloc wr o _ _ a0
          have q1 := fun o => Keeps.alloc wr o _ _ a1
          have q2 := fun o => Keeps.alloc wr o _ _ a2
          clear a0 a1 a2
          have s2 : ((us[k].pos : Int) + ((s.size : Int) + 1) != (us[k].pos : Int) + (s.size : Int) + 1) = false := by rw [bne_eq_false_iff_eq]; omega
          have g1 : IntKind.i64.wrap ((us[k].pos : Int) + (s.size : Int)) = (us[k].pos : Int) + (s.size : Int) := IntWalk.i64_in _ (by omega)
          have g2 : IntKind.i64.wrap ((us[k].pos : Int) + (s.size : Int) + 1) = (us[k].pos : Int) + (s.size : Int) + 1 := IntWalk.i64_in _ (by omega)
          go_wp2_with fail
          go_quiet (fail)
          go_wp2_with fail
          go_roundw
          case rel => exact ⟨k + 1, by omega, by go_num, below_drewN (HW.out.alloc HW.out.size _) _⟩
          case measure => simp [intOf]; omega
        · have hk' : k = us.length := by omega
          subst hk'
          go_wp2_with fail
          go_ret
          exact ⟨rfl, grow_trans HB.out HW.out⟩
theorem LexJoins_walk (s t : ByteArray) (KT KB KF : Addr) (w : World) (hL : LexLaid KT KB KF w) :
    Calls Tryd.prog 5 #[.string s, .string t] w (Ret (.bool true) w) := by
  by_cases hl : 900 < s.size ∨ 900 < t.size
  · exact joins_large s t KT KB KF w hL hl
  · cases h1 : (lexA (bytesL s) 0).2 with
    | some p => exact joins_bad s t KT KB KF w hL (by omega) (by omega) p h1
    | none =>
      cases h2 : (lexA (bytesL t) 0).2 with
      | some p => exact joins_bad2 s t KT KB KF w hL (by omega) (by omega) h1 p h2
      | none =>
        by_cases h3 : 1000 < (lexA (bytesL s) 0).1.length + (lexA (bytesL t) 0).1.length
        · exact joins_full s t KT KB KF w hL (by omega) (by omega) h1 h2 h3
        · exact joins_well s t KT KB KF w hL (by omega) (by omega) h1 h2 (by omega)
end Go.Proofs.YtddilnibglcabaaDoor
