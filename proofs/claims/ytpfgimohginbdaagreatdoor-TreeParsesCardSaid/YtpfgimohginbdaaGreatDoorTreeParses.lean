import Derived.Test.YtpfgimohginbdaaGreatDoorBn34
import Derived.Test.YtpfgimohginbdaaGreatDoorBn36
import Derived.Test.YtpfgimohginbdaaGreatDoorBn42
import Derived.Test.YtpfgimohginbdaaGreatDoorBn43
set_option linter.unusedVariables false
set_option linter.unusedSimpArgs false
namespace Go.Proofs.YtpfgimohginbdaaGreatDoor
open Go.RowKit

/-! the law TreeParses -/
theorem row_of_owns {w : World} {base : Nat} {e : TypeId} {v : Value} {ts : List Tok} (h : w.ownsRow base e 3 v ts.length (ts.flatMap tokCells)) : ∃ A c, v = .slice A ts.length c ∧ Row w A (ts.flatMap tokCells) := by
  obtain ⟨B, d, rfl, hB⟩ := owns_at h
  refine ⟨B, d, rfl, fun j u hj => ?_⟩
  have h0 : 0 < ts.length := by
    rcases Nat.eq_zero_or_pos ts.length with h0 | h0
    · rw [List.length_eq_zero_iff.1 h0] at hj; simp at hj
    · exact h0
  obtain ⟨g, rfl, -, -, hc⟩ := hB h0
  exact ⟨g, 0, rfl, by rw [Nat.zero_add]; exact hc j u hj⟩
theorem read_tr (E : Nat → Addr) (w : World) (hE : Laid E w) : Calls Tryz.prog 11 #[.string ⟨#[102, 110, 32, 102, 40, 97, 41, 32, 123, 32, 114, 101, 116, 117, 114, 110, 32, 97, 32, 43, 32, 50, 32, 42, 32, 97, 59, 32, 125]⟩] w fun e w' => ∃ A c, e = .returned (.tuple #[.slice A 14 c, .nilIface]) ∧ Row w' A (trToks.flatMap tokCells) ∧ Below w.heap.size w w' := by
  refine (Read_any trTxt (by decide) _ _ _ w hE.c0 hE.c1 hE.c7).mono ?_
  rintro e w' ⟨sl, er, rfl, hv, hb⟩
  unfold ReadVal at hv
  rw [tr_toks] at hv
  rcases hv with ⟨h, _⟩ | ⟨_, p, fb, h, _⟩ | ⟨_, _, h, _⟩ | ⟨_, _, _, rfl, ho⟩
  · exact absurd h (by decide)
  · cases h
  · exact absurd h (by decide)
  · obtain ⟨A, c, rfl, hr⟩ := row_of_owns ho
    exact ⟨A, c, rfl, hr, hb⟩
theorem parse_tr (E : Nat → Addr) (w : World) (hE : Laid E w) (A : Option Addr) (c : Nat) (hr : Row w A (trToks.flatMap tokCells)) : Calls Tryz.prog 6 #[.slice A 14 c] w fun e w' => ∃ b off d b2 o2 g b3 o3 x, e = .returned (.tuple #[.slice (some ⟨b, off, none⟩) 1 d, .nilIface]) ∧ w'.cell? ⟨b, off + 2, none⟩ = some (.slice (some ⟨b2, o2, none⟩) 1 g) ∧ w'.cell? ⟨b2, o2 + 4, none⟩ = some (.string ⟨#[43]⟩) ∧ w'.cell? ⟨b2, o2 + 5, none⟩ = some (.slice (some ⟨b3, o3, none⟩) 2 x) ∧ w'.cell? ⟨b3, o3 + 4 + 2, none⟩ = some (.string ⟨#[42]⟩) ∧ Below w.heap.size w w' := by
  have hN : NumOk trToks := by
    have := (tkOk_lex (bytesL trTxt) 0).num
    rw [tr_toks] at this
    exact this
  refine (Parse_any (c := c) ⟨hE, hr, by decide⟩ hN).mono ?_
  rintro e w' ⟨hb, h⟩
  rw [tr_parse] at h
  rcases h with ⟨B, d, -, rfl, hf⟩ | ⟨z, p, fb, h, -⟩
  · obtain ⟨b, off, P, p, D, g, rfl, -, hc, -, hs⟩ := hf 0 (by decide)
    obtain ⟨b2, o2, X, x, T, t, L, l, rfl, -, hc2, -, hx, -, -⟩ := hs.at (i := 0) (by decide)
    obtain ⟨b3, o3, Y, y, rfl, -, hc3, -, -⟩ := hx.at (i := 1) (by decide)
    have e1 := (cells_fun hc).2.2
    have e2 := (cells_stmt hc2).2.2.2.2.1
    have e3 := (cells_stmt hc2).2.2.2.2.2.1
    have e4 := (cells_expr hc3).2.2.1
    exact ⟨b, off, d, b2, o2, g, b3, o3, x, rfl, by rw [Nat.zero_mul, Nat.add_zero] at e1; exact e1, by rw [Nat.zero_mul, Nat.add_zero] at e2; exact e2, by rw [Nat.zero_mul, Nat.add_zero] at e3; exact e3, by rw [Nat.one_mul] at e4; exact e4, hb⟩
  · cases h
set_option maxHeartbeats 4000000 in
set_option maxRecDepth 100000 in
theorem treed_any (E : Nat → Addr) (w : World) (hE : Laid E w) : Calls Tryz.prog 4 #[] w (Ret (.bool true) w) := by
  have H1 := Lib.hid (read_tr E w hE)
  have H2 : Hid (∀ w', Below w.heap.size w w' → ∀ A c, Row w' A (trToks.flatMap tokCells) → Calls Tryz.prog 6 #[.slice A 14 c] w' fun e w2 => ∃ b off d b2 o2 g b3 o3 x, e = .returned (.tuple #[.slice (some ⟨b, off, none⟩) 1 d, .nilIface]) ∧ w2.cell? ⟨b, off + 2, none⟩ = some (.slice (some ⟨b2, o2, none⟩) 1 g) ∧ w2.cell? ⟨b2, o2 + 4, none⟩ = some (.string ⟨#[43]⟩) ∧ w2.cell? ⟨b2, o2 + 5, none⟩ = some (.slice (some ⟨b3, o3, none⟩) 2 x) ∧ w2.cell? ⟨b3, o3 + 4 + 2, none⟩ = some (.string ⟨#[42]⟩) ∧ Below w'.heap.size w' w2) := fun w' hb A c hr => parse_tr E w' (hE.keep hb) A c hr
  clear hE
  go_enter Tryz.func4, Tryz.ntmps4
  go_wp2_with (first
    | (go_at_call 11; (with_reducible refine H1.out.mono ?_); rintro y w1 ⟨A, c, rfl, hr, hb1⟩; have HR := Lib.hid (And.intro hb1 hr); clear hr hb1)
    | (go_at_call 6; (with_reducible refine (H2.out _ HR.out.1 _ _ HR.out.2).mono ?_); rintro y w2 ⟨b, off, d, b2, o2, g, b3, o3, x, rfl, e1, e2, e3, e4, hb2⟩; have e5 : w2.cell? ⟨b3, o3 + 6, none⟩ = some (.string ⟨#[42]⟩) := e4; have HB2 := Lib.hid (grow_trans HR.out.1 hb2); clear hb2))
  go_ret
  exact ⟨rfl, HB2.out⟩
theorem faulted_fine (E : Nat → Addr) (w : World) (h : Laid E w) (v : Value) (c a fa : Int) (hv : ErrIs E w v c a) (hc : c = 0 ∨ a = fa) :
    Calls Tryz.prog 9 #[v, .agg #[.int .i64 c, .int .i64 fa]] w (Ret (.bool true) w) := by
  refine (faulted_any E w h v c a c fa hv).mono ?_
  rintro e w' ⟨rfl, hb⟩
  refine ⟨?_, hb⟩
  rcases hc with rfl | rfl <;> simp
/-- What the reference's words come to. -/
def LexR (s : ByteArray) (w : World) : Ending → World → Prop := fun e w' =>
  Below w.heap.size w w' ∧ ((∃ c a, 1 ≤ c ∧ e = .returned (.tuple #[.slice none 0 0, .agg #[.int .i64 c, .int .i64 a]])) ∨
    (∃ (A : Option Addr) (ts : List Tok) (c : Nat), ts.length ≤ 1000 ∧ TkOk ts ∧ e = .returned (.tuple #[.slice A ts.length c, .agg #[.int .i64 0, .int .i64 (-1)]]) ∧ Row w' A (ts.flatMap tokCells)))
theorem lexof_r (s : ByteArray) (hs : s.size ≤ 1000000000) (w : World) : Calls Tryz.prog 5 #[.string s] w (LexR s w) := by
  refine (LexOf_any s hs w).mono ?_
  rintro e w' ⟨sl, c, a, rfl, hv, hb⟩
  refine ⟨hb, ?_⟩
  rcases hv with ⟨_, rfl, rfl, rfl⟩ | ⟨_, p, _, rfl, rfl, rfl⟩ | ⟨_, _, _, rfl, rfl, rfl⟩ | ⟨_, _, h1, rfl, rfl, ho⟩
  · exact .inl ⟨2, -1, by decide, rfl⟩
  · exact .inl ⟨1, p, by decide, rfl⟩
  · exact .inl ⟨8, -1, by decide, rfl⟩
  · obtain ⟨A, c, rfl, hr⟩ := row_of_owns ho
    exact .inr ⟨A, _, c, h1, tkOk_lex _ _, rfl, hr⟩
/-- What the package's parser answers, and the reference's, over the same tokens. -/
theorem parse_err (E : Nat → Addr) (ts : List Tok) (w w' : World) (y : Ending) (h : ParsePost E ts w y w') : ∃ (B : Option Addr) (n d : Nat) (er : Value) (c a : Int), y = .returned (.tuple #[.slice B n d, er]) ∧ ErrIs E w' er c a ∧
    (((parseQ ts).2.err = none ∧ c = 0 ∧ n = (parseQ ts).1.length ∧ RdF w' (newA w) (parseQ ts).1 B) ∨ (∃ z p : Nat, (parseQ ts).2.err = some (z, p) ∧ c = z ∧ a = p ∧ n = 0)) := by
  have R := parse_same ts
  rcases h with ⟨hb, ⟨B, d, he, rfl, hf⟩ | ⟨z, p, fb, he, h1, h10, rfl, hfb⟩⟩
  · obtain ⟨hs1, hs2⟩ := R.same he
    refine ⟨B, _, d, .nilIface, 0, -1, rfl, ErrIs.nil_, .inl ⟨by rw [← R.err]; exact he, rfl, by rw [hs2], ?_⟩⟩
    rw [← hs2]
    exact hf
  · refine ⟨none, 0, 0, _, z, p, rfl, .inr (.inr ⟨z - 1, fb, 0, by omega, rfl, cell_of_row _ _ 0 _ _ _ hfb, cell_of_row _ _ 1 _ _ _ hfb, by omega⟩), .inr ⟨z, p, by rw [← R.err]; exact he, rfl, rfl, rfl⟩⟩
theorem parseof_err (ts : List Tok) (w w' : World) (y : Ending) (h : ParseOfPost ts w y w') : ∃ (B : Option Addr) (n d : Nat) (c a : Int), y = .returned (.tuple #[.slice B n d, .agg #[.int .i64 c, .int .i64 a]]) ∧
    (((parseQ ts).2.err = none ∧ c = 0 ∧ n = (parseQ ts).1.length ∧ RdF w' (newA w) (parseQ ts).1 B) ∨ (∃ z p : Nat, (parseQ ts).2.err = some (z, p) ∧ c = z ∧ a = p ∧ n = 0)) := by
  rcases h with ⟨hb, ⟨B, d, he, rfl, hf⟩ | ⟨z, p, he, h1, h10, rfl⟩⟩
  · exact ⟨B, _, d, 0, -1, rfl, .inl ⟨he, rfl, rfl, hf⟩⟩
  · exact ⟨none, 0, 0, z, p, rfl, .inr ⟨z, p, he, rfl, rfl, rfl⟩⟩
theorem errIs_far {E : Nat → Addr} {w w' : World} {v : Value} {c a i j : Int} {fb : Nat} {T : TypeId} {fz : Nat × Nat} (h : ErrIs E w v c a) (hf : w.heap[fb]? = some (.cells #[.int .i64 i, .int .i64 j] T fz)) (hk : ∀ k, k ≠ fb → w'.heap[k]? = w.heap[k]?) : ErrIs E w' v c a := by
  rcases h with h | h | ⟨n, xb, fo, h1, h2, h3, h4, h5⟩
  · exact .inl h
  · exact .inr (.inl h)
  · by_cases e : xb = fb
    · subst e
      exfalso
      unfold World.cell? at h4
      rw [hf] at h4
      match fo, h4 with
      | 0, h4 => simp [esV] at h4
      | fo + 1, h4 => simp at h4
    · exact .inr (.inr ⟨n, xb, fo, h1, h2, (World.cell?_of_block (hk xb e)).trans h3, (World.cell?_of_block (hk xb e)).trans h4, h5⟩)
theorem alike_r {ts : List Tok} {w : World} {B5 B6 : Option Addr} {n5 n6 d5 d6 : Nat} {S S' : Nat → Prop} (hts : ts.length ≤ 1000) (h : (n5 = (parseQ ts).1.length ∧ n6 = (parseQ ts).1.length ∧ RdF w S (parseQ ts).1 B5 ∧ RdF w S' (parseQ ts).1 B6) ∨ (n5 = 0 ∧ n6 = 0)) :
    Calls Tryz.prog 10 #[.slice B5 n5 d5, .slice B6 n6 d6] w (Ret (.int .i64 1) w) := by
  have hb := bd_parseQ ts
  rcases h with ⟨rfl, rfl, h1, h2⟩ | ⟨rfl, rfl⟩
  · exact Alike_any (N := ts.length + 2) (by omega) hb.1 hb.2 S S' B5 B6 d5 d6 w h1 h2
  · exact Alike_any (N := 0) (by omega) (fs := []) (Nat.le_refl _) (fun f hf => absurd hf List.not_mem_nil) (fun _ => True) (fun _ => True) B5 B6 d5 d6 w (fun i hi => absurd hi (by simp)) (fun i hi => absurd hi (by simp))
set_option maxHeartbeats 8000000 in
set_option maxRecDepth 100000 in
theorem TreeParses_walk (E : Nat → Addr) (s : ByteArray) (w : World) (hE : Laid E w) :
    Calls Tryz.prog 3 #[.string s] w (Ret (.bool true) w) := by
  have HT := Lib.hid (treed_any E w hE)
  have HE := Lib.hid hE
  clear hE
  by_cases hl : (2000 : Int) < s.size
  · have hl2 : decide (2000 < s.size) = true := by simp; omega
    go_enter Tryz.func3, Tryz.ntmps3
    go_wp2_with (go_at_call 4; (with_reducible refine HT.out.mono ?_); rintro x w' ⟨rfl, hb⟩)
    go_ret
    exact ⟨rfl, hb⟩
  · have hl2 : decide (2000 < s.size) = false := by simp; omega
    have HLX := Lib.hid (fun w' => lexof_r s (by omega) w')
    go_enter Tryz.func3, Tryz.ntmps3
    go_upto_region 5 with (first
      | (go_at_call 4; (with_reducible refine HT.out.mono ?_); rintro x w1 ⟨rfl, hb1⟩; have HB1 := Lib.hid hb1; clear hb1)
      | (go_at_call 5; (with_reducible refine (HLX.out _).mono ?_); rintro x w2 ⟨hb2, ⟨c, a, hc, rfl⟩ | ⟨A, ts, c, hts, htk, rfl, hr⟩⟩))
    · have hb3 : Below w.heap.size w (w2.alloc (.cells #[.int .i64 c, .int .i64 a] 25)) := grow_alloc (grow_trans HB1.out hb2) _
      have HB3 := Lib.hid hb3
      clear hb2 hb3
      go_wp2_with fail
      go_ret
      exact ⟨rfl, HB3.out⟩
    · obtain ⟨fb, hfb⟩ : ∃ fb, w2.heap.size = fb := ⟨_, rfl⟩
      obtain ⟨w3, hw3⟩ : ∃ w3, w2.alloc (.cells #[.int .i64 0, .int .i64 (-1)] 25) = w3 := ⟨_, rfl⟩
      have hb23 : Below w2.heap.size w2 w3 := by rw [← hw3]; exact grow_alloc (grow_refl _) _
      have hm3 : w3.heap[fb]? = some (.cells #[.int .i64 0, .int .i64 (-1)] 25 (0, 0)) := by rw [← hw3, ← hfb]; exact heap_alloc_new w2 _
      have hr3 : Row w3 A (ts.flatMap tokCells) := hr.keep (Keeps.of_below hb23)
      have hb3 : Below w.heap.size w w3 := grow_trans (grow_trans HB1.out hb2) hb23
      have hfl : fb < w3.heap.size := (Array.getElem?_eq_some_iff.1 hm3).1
      have hwf : w.heap.size ≤ fb := by have := HB1.out.size; have := hb2.size; omega
      obtain ⟨f0, f1⟩ : w3.cell? ⟨fb, 0, none⟩ = some (.int .i64 0) ∧ w3.cell? ⟨fb, 1, none⟩ = some (.int .i64 (-1)) := ⟨cell_of_row _ _ 0 _ _ _ hm3, cell_of_row _ _ 1 _ _ _ hm3⟩
      have H3 := Lib.hid (And.intro hb3 (And.intro hr3 (And.intro hm3 (And.intro hfl hwf))))
      have HTS := Lib.hid (And.intro hts htk)
      rw [hfb, hw3]
      clear hw3 hfb hb23 hm3 hr3 hb3 hb2 hr hts htk hfl hwf
      have HTO := Lib.hid (tokensOf_any ts (by have := HTS.out.1; omega) A c w3 H3.out.2.1)
      have HPA : Hid (∀ w' B d, Below w3.heap.size w3 w' → Row w' B (ts.flatMap tokCells) → Calls Tryz.prog 6 #[.slice B ts.length d] w' (ParsePost E ts w')) := fun w' B d hb hr => Parse_any (c := d) ⟨HE.out.keep (grow_trans H3.out.1 hb), hr, by have := HTS.out.1; omega⟩ HTS.out.2.num
      have HPO : Hid (∀ w', Below w3.heap.size w3 w' → Calls Tryz.prog 8 #[.slice A ts.length c] w' (ParseOfPost ts w')) := fun w' hb => ParseOf_any ⟨H3.out.2.1.keep (Keeps.of_below hb), by have := HTS.out.1; omega⟩ HTS.out.2
      go_upto_region 8 with (first
        | (go_at_call 7; (with_reducible refine HTO.out.mono ?_); rintro y w4 ⟨B, d, rfl, hr4, hb4⟩; have H4 := Lib.hid (And.intro hb4 hr4); clear hb4 hr4)
        | (go_at_call 6; (with_reducible refine (HPA.out _ _ _ H4.out.1 H4.out.2).mono ?_); intro y w5 hp5; obtain ⟨B5, n5, d5, er, ec, ea, rfl, hei, hcs⟩ := parse_err E ts w4 w5 y hp5; have H5 := Lib.hid (And.intro (grow_trans H4.out.1 hp5.1) (And.intro hei hcs)); clear hp5 hei hcs))
      clear f0 f1
      go_upto_region 9 with (go_at_call 8; (with_reducible refine (HPO.out _ H5.out.1).mono ?_); intro y w6 hp6; obtain ⟨B6, n6, d6, fc, fa, rfl, hcs6⟩ := parseof_err ts w5 w6 y hp6; have hb36 := grow_trans H5.out.1 hp6.1; have hm6 := (hb36.block _ H3.out.2.2.2.1).trans H3.out.2.2.1; have g0 := cell_of_row _ _ 0 _ _ _ hm6; have g1 := cell_of_row _ _ 1 _ _ _ hm6; have y0 := row_frozen hm6 0; have y1 := row_frozen hm6 1; have H6 := Lib.hid (And.intro hp6.1 (And.intro hb36 (And.intro hm6 hcs6))); clear hp6 hcs6 hb36 hm6)
      obtain ⟨w7, hw7⟩ : ∃ w7, (w6.setCell ⟨fb, 0, none⟩ (.int .i64 fc)).setCell ⟨fb, 1, none⟩ (.int .i64 fa) = w7 := ⟨_, rfl⟩
      have hm7 : w7.heap[fb]? = some (.cells #[.int .i64 fc, .int .i64 fa] 25 (0, 0)) := by rw [← hw7]; exact row_set (j := 1) (cs := #[.int .i64 fc, .int .i64 (-1)]) _ (row_set (j := 0) _ H6.out.2.2.1 rfl) rfl
      have hfar : ∀ k, k ≠ fb → w7.heap[k]? = w6.heap[k]? := fun k hk => by rw [← hw7]; exact (Below.heap_setCell _ _ _ _ hk).trans (Below.heap_setCell _ _ _ _ hk)
      have hb7 : Below w.heap.size w w7 := by rw [← hw7]; exact ((grow_trans H3.out.1 H6.out.2.1).setCell H3.out.2.2.2.2 _).setCell H3.out.2.2.2.2 _
      have hei : ErrIs E w7 er ec ea := errIs_far (H5.out.2.1.keep (Keeps.of_below H6.out.1)) H6.out.2.2.1 hfar
      have hs45 := H4.out.1.size
      have hs56 := H5.out.1.size
      have hkp : ∀ {b : Nat}, w3.heap.size ≤ b → KeepsIn (fun n => b ≤ n) w6 w7 := fun hb a v hs hv => (World.cell?_of_block (hfar _ (by have := H3.out.2.2.2.1; omega))).trans hv
      have hal : ∀ w', Below w7.heap.size w7 w' → Calls Tryz.prog 10 #[.slice B5 n5 d5, .slice B6 n6 d6] w' (Ret (.int .i64 1) w') := fun w' hb => by
        refine alike_r (S := newA w4) (S' := newA w5) HTS.out.1 ?_
        rcases H5.out.2.2 with ⟨e1, e2, e3, e4⟩ | ⟨z, p, e1, e2, e3, e4⟩
        · rcases H6.out.2.2.2 with ⟨g1, g2, g3, g4⟩ | ⟨z, p, g1, g2, g3, g4⟩
          · refine .inl ⟨e3, g3, (RdF.keep (hkp hs45) (fun n hn => hn) (e4.keep ((Keeps.of_below H6.out.1).in _) fun n hn => hn)).keep ((Keeps.of_below hb).in _) fun n hn => hn, (RdF.keep (hkp (by have := H5.out.1.size; omega)) (fun n hn => hn) g4).keep ((Keeps.of_below hb).in _) fun n hn => hn⟩
          · rw [e1] at g1; cases g1
        · rcases H6.out.2.2.2 with ⟨g1, g2, g3, g4⟩ | ⟨z', p', g1, g2, g3, g4⟩
          · rw [e1] at g1; cases g1
          · exact .inr ⟨e4, g4⟩
      have hcc : fc = ec ∧ (ec = 0 ∨ ea = fa) := by
        rcases H5.out.2.2 with ⟨e1, e2, e3, e4⟩ | ⟨z, p, e1, e2, e3, e4⟩
        · rcases H6.out.2.2.2 with ⟨g1, g2, g3, g4⟩ | ⟨z, p, g1, g2, g3, g4⟩
          · exact ⟨by rw [e2, g2], .inl e2⟩
          · rw [e1] at g1; cases g1
        · rcases H6.out.2.2.2 with ⟨g1, g2, g3, g4⟩ | ⟨z', p', g1, g2, g3, g4⟩
          · rw [e1] at g1; cases g1
          · rw [e1] at g1
            injection g1 with g1
            injection g1 with gz gp
            exact ⟨by rw [e2, g2, gz], .inr (by rw [e3, g3, gp])⟩
      have HAL := Lib.hid hal
      have HFL : Hid (Calls Tryz.prog 9 #[er, .agg #[.int .i64 fc, .int .i64 fa]] w7 (Ret (.bool true) w7)) := show Calls _ _ _ _ _ by
        rw [hcc.1]
        exact faulted_fine E w7 (HE.out.keep hb7) er ec ea fa hei hcc.2
      have HB7 := Lib.hid hb7
      obtain ⟨q0, q1⟩ : w7.cell? ⟨fb, 0, none⟩ = some (.int .i64 fc) ∧ w7.cell? ⟨fb, 1, none⟩ = some (.int .i64 fa) := ⟨cell_of_row _ _ 0 _ _ _ hm7, cell_of_row _ _ 1 _ _ _ hm7⟩
      rw [hw7]
      clear hw7 hm7 hfar hb7 hei hs45 hs56 hkp hal hcc g0 g1 y0 y1
      go_wp2_with (first
        | (go_at_call 9; (with_reducible refine HFL.out.mono ?_); rintro y w8 ⟨rfl, hb8⟩; have HB8 := Lib.hid hb8; clear hb8)
        | (go_at_call 10; (with_reducible refine (HAL.out _ HB8.out).mono ?_); rintro y w9 ⟨rfl, hb9⟩; have HB9 := Lib.hid hb9; clear hb9))
      go_ret
      exact ⟨rfl, grow_trans HB7.out (grow_trans HB8.out HB9.out)⟩
end Go.Proofs.YtpfgimohginbdaaGreatDoor
