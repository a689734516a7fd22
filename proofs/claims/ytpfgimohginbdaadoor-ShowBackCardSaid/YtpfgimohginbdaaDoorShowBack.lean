import Derived.Test.YtpfgimohginbdaaDoorBn22
import Derived.Test.YtpfgimohginbdaaDoorBn23
import Derived.Test.YtpfgimohginbdaaDoorBn35
set_option linter.unusedVariables false
set_option linter.unusedSimpArgs false
namespace Go.Proofs.YtpfgimohginbdaaDoor
open Go.RowKit

/-! the law ShowBack -/
/-- What a call of the parser leaves in two slots. -/
def SbRes (ts : List Tok) (w w' : World) (v e : Value) : Prop := (∃ (B : Option Addr) (d : Nat), (parseP ts).2.err = none ∧ v = .slice B (parseP ts).1.length d ∧ e = .nilIface ∧ RdF w' (newA w) (parseP ts).1 B) ∨ ((parseP ts).2.err ≠ none ∧ v = .slice none 0 0 ∧ ∃ t, e = .iface 49 t)
theorem parse_sb (E : Nat → Addr) (w : World) (hE : Laid E w) (ts : List Tok) (hN : NumOk ts) (hl : ts.length ≤ 100000) (A : Option Addr) (c : Nat) (hr : Row w A (ts.flatMap tokCells)) :
    Calls Tryd.prog 7 #[.slice A ts.length c] w fun e w' => ∃ v er, e = .returned (.tuple #[v, er]) ∧ SbRes ts w w' v er ∧ Below w.heap.size w w' := by
  refine (Parse_any (c := c) ⟨hE, hr, hl⟩ hN).mono ?_
  rintro e w' ⟨hb, h⟩
  rcases h with ⟨B, d, he, rfl, hf⟩ | ⟨z, p, fb, he, -, -, rfl, -⟩
  · exact ⟨_, _, rfl, .inl ⟨B, d, he, rfl, rfl, hf⟩, hb⟩
  · exact ⟨_, _, rfl, .inr ⟨by rw [he]; simp, rfl, _, rfl⟩, hb⟩
theorem row_of {w : World} {base : Nat} {e : TypeId} {v : Value} {ts : List Tok} (h : w.ownsRow base e 3 v ts.length (ts.flatMap tokCells)) : ∃ A c, v = .slice A ts.length c ∧ Row w A (ts.flatMap tokCells) := by
  obtain ⟨B, d, rfl, hB⟩ := owns_at h
  refine ⟨B, d, rfl, fun j u hj => ?_⟩
  have h0 : 0 < ts.length := by
    rcases Nat.eq_zero_or_pos ts.length with h0 | h0
    · rw [List.length_eq_zero_iff.1 h0] at hj; simp at hj
    · exact h0
  obtain ⟨g, rfl, -, -, hc⟩ := hB h0
  exact ⟨g, 0, rfl, by rw [Nat.zero_add]; exact hc j u hj⟩
theorem num_ok (l : List UInt8) : NumOk (lexA l 0).1 := fun t ht hk => (lexA_ok _ l 0 (Nat.le_refl _) t ht).num hk
/-- A text, read. -/
theorem read_ok (E : Nat → Addr) (x : List UInt8) (w : World) (hE : Laid E w) (h4 : x.length ≤ 4000) (hn : (lexA x 0).2 = none) (hl : (lexA x 0).1.length ≤ 1000) :
    Calls Tryd.prog 6 #[.string (mkB x)] w fun e w' => ∃ A c, e = .returned (.tuple #[.slice A (lexA x 0).1.length c, .nilIface]) ∧ Row w' A ((lexA x 0).1.flatMap tokCells) ∧ Below w.heap.size w w' := by
  have hb : bytesL (mkB x) = x := by simp [bytesL, mkB]
  have hz : (mkB x).size = x.length := mkB_len x
  refine (Read_any (mkB x) (by omega) _ _ _ w hE.c0 hE.c1 hE.c7).mono ?_
  rintro e w' ⟨sl, er, rfl, hv, hb2⟩
  unfold ReadVal at hv
  rw [hb] at hv
  rcases hv with ⟨h, _⟩ | ⟨_, p, fb, h, _⟩ | ⟨_, _, h, _⟩ | ⟨_, _, _, rfl, ho⟩
  · omega
  · rw [hn] at h; cases h
  · omega
  · obtain ⟨A, c, rfl, hr⟩ := row_of ho
    exact ⟨A, c, rfl, hr, hb2⟩
/-- Functions, shown. -/
theorem show_ok (fs : List PFun) {ts : List Tok} (hs : Shown ts fs) {S : Nat → Prop} (w0 w : World) (hT : Lib.TabBelow Tryd.prog w0.heap.size w0 "internal/strconv.uint64pow10" .u64 Lib.pow10Tab) (hb : Below w0.heap.size w0 w) (A : Option Addr) (c : Nat) (hr : RdF w S fs A) :
    Calls Tryd.prog 9 #[.slice A fs.length c] w (Ret (strV (textG fs)) w) :=
  ShowProgram_any fs A c w hs.tx hs.len hs.text (show RdF _ _ _ _ from hr.lt.keep (Keeps.in (Keeps.refl w) _) fun _ h => h.2) ⟨w0, hT, hb.size, hb⟩
set_option maxHeartbeats 8000000 in
set_option maxRecDepth 100000 in
theorem ShowBack_walk (E : Nat → Addr) (s : ByteArray) (w : World) (hE : Laid E w) (hT : Lib.TabBelow Tryd.prog w.heap.size w "internal/strconv.uint64pow10" .u64 Lib.pow10Tab) :
    Calls Tryd.prog 4 #[.string s] w (Ret (.bool true) w) := by
  have HS := Lib.hid (shown_any w ⟨w, hT, Below.refl _ _⟩)
  have HE := Lib.hid hE
  have HTB := Lib.hid hT
  clear hE hT
  by_cases hl : (1500 : Int) < s.size
  · have hl2 : decide (1500 < s.size) = true := by simp; omega
    go_enter Tryd.func4, Tryd.ntmps4
    go_wp2_with (go_at_call 8; (with_reducible refine HS.out.mono ?_); rintro x w' ⟨rfl, hb⟩)
    go_ret
    exact ⟨rfl, hb⟩
  · have hl2 : decide (1500 < s.size) = false := by simp; omega
    have HRD : Hid (∀ w', Below w.heap.size w w' → Calls Tryd.prog 6 #[.string s] w' fun e w2 => ∃ sl er, e = .returned (.tuple #[sl, er]) ∧ ReadVal s (E 0) (E 1) (E 7) w2 w'.heap.size sl er ∧ Below w'.heap.size w' w2) := fun w' hb => Read_any s (by omega) _ _ _ w' (HE.out.keep hb).c0 (HE.out.keep hb).c1 (HE.out.keep hb).c7
    go_enter Tryd.func4, Tryd.ntmps4
    go_upto_region 5 with (first
      | (go_at_call 8; (with_reducible refine HS.out.mono ?_); rintro x w1 ⟨rfl, hb1⟩; have HB1 := Lib.hid hb1; clear hb1)
      | (go_at_call 6; (with_reducible refine (HRD.out _ HB1.out).mono ?_); rintro x w2 ⟨sl, er, rfl, hv, hb2⟩; have HV := Lib.hid (And.intro hv (grow_trans HB1.out hb2)); clear hv hb2))
    have hv := HV.out.1
    rcases hv with ⟨-, rfl, rfl⟩ | ⟨-, p, fb, -, rfl, rfl, -, -⟩ | ⟨-, -, -, rfl, rfl⟩ | ⟨-, -, hts, rfl, ho⟩
    · unfold esV
      go_wp2_with fail
      go_ret
      exact ⟨rfl, HV.out.2⟩
    · unfold ftV
      go_wp2_with fail
      go_ret
      exact ⟨rfl, HV.out.2⟩
    · unfold esV
      go_wp2_with fail
      go_ret
      exact ⟨rfl, HV.out.2⟩
    · obtain ⟨A, c, rfl, hr⟩ := row_of ho
      have HSH : Hid ((parseP (lexA (bytesL s) 0).1).2.err = none → Shown (lexA (bytesL s) 0).1 (parseP (lexA (bytesL s) 0).1).1) := shown_back hts
      have hN := num_ok (bytesL s)
      obtain ⟨ts, hts2⟩ : ∃ ts, (lexA (bytesL s) 0).1 = ts := ⟨_, rfl⟩
      rw [hts2] at hts hr HSH hN ⊢
      have HB2 := Lib.hid HV.out.2
      have HP1 := Lib.hid (parse_sb E w2 (HE.out.keep HB2.out) ts hN (by omega) A c hr)
      have HTS := Lib.hid hts
      obtain ⟨tl, htl⟩ : ∃ tl, ts.length = tl := ⟨_, rfl⟩
      have HTL := Lib.hid htl
      rw [htl] at HP1 ⊢
      clear ho hr hts hts2 hN HV HRD htl
      go_upto_region 8 with (go_at_call 7; (with_reducible refine HP1.out.mono ?_); rintro y w3 ⟨v3, er3, rfl, hp3, hb3⟩; have H3 := Lib.hid (And.intro hp3 (grow_trans HB2.out hb3)); clear hp3 hb3)
      rcases H3.out.1 with ⟨B, d, he, rfl, rfl, hf⟩ | ⟨he, rfl, t, rfl⟩
      · have HSW := Lib.hid (HSH.out he)
        obtain ⟨fs, hfs⟩ : ∃ fs, (parseP ts).1 = fs := ⟨_, rfl⟩
        rw [hfs] at hf HSW ⊢
        have HRF := Lib.hid hf
        have HB3 := Lib.hid H3.out.2
        have HSP : Hid (Calls Tryd.prog 9 #[.slice B fs.length d] w3 (Ret (.string (mkB (textG fs))) w3)) := show_ok fs HSW.out w w3 HTB.out HB3.out B d hf
        have hsz : (mkB (textG fs)).size = (textG fs).length := mkB_len _
        have HSZ := Lib.hid hsz
        clear he hf hfs hsz H3 HSH HP1
        by_cases hbig : 4000 < (textG fs).length
        · have hb2 : decide ((4000 : Int) < ((mkB (textG fs)).size : Int)) = true := by have := HSZ.out; simp; omega
          go_wp2_with (go_at_call 9; (with_reducible refine HSP.out.mono ?_); rintro y w4 ⟨rfl, hb4⟩)
          go_ret
          exact ⟨rfl, grow_trans HB3.out hb4⟩
        · have hb2 : decide ((4000 : Int) < ((mkB (textG fs)).size : Int)) = false := by have := HSZ.out; simp; omega
          have HR4 : Hid (∀ w', Below w.heap.size w w' → Calls Tryd.prog 6 #[.string (mkB (textG fs))] w' fun e w2 => ∃ A c, e = .returned (.tuple #[.slice A (lexA (textG fs) 0).1.length c, .nilIface]) ∧ Row w2 A ((lexA (textG fs) 0).1.flatMap tokCells) ∧ Below w'.heap.size w' w2) := fun w' hb =>
            read_ok E _ w' (HE.out.keep hb) (by omega) HSW.out.lex (by have := HSW.out.few; have := HTS.out; omega)
          have hfew := HSW.out.few
          rw [HTL.out] at hfew
          have hN2 := num_ok (textG fs)
          have hok2 := HSW.out.ok
          have hsm2 := HSW.out.same
          have hle2 : (lexA (textG fs) 0).1.length ≤ 1000 := by have := HSW.out.few; have := HTS.out; omega
          obtain ⟨ms, hms⟩ : ∃ ms, (lexA (textG fs) 0).1 = ms := ⟨_, rfl⟩
          rw [hms] at HR4 hfew hN2 hok2 hsm2 hle2
          have HP5 : Hid (∀ w' A c, Below w.heap.size w w' → Row w' A (ms.flatMap tokCells) → Calls Tryd.prog 7 #[.slice A ms.length c] w' fun e w2 => ∃ B d, e = .returned (.tuple #[.slice B fs.length d, .nilIface]) ∧ RdF w2 (newA w') fs B ∧ Below w'.heap.size w' w2) := fun w' A c hb hr => by
            refine (parse_sb E w' (HE.out.keep hb) ms hN2 (by omega) A c hr).mono ?_
            rintro e w2 ⟨v, er, rfl, h, hb2⟩
            rcases h with ⟨B, d, he, rfl, rfl, hf⟩ | ⟨he, -⟩
            · rw [hsm2] at hf ⊢
              exact ⟨B, d, rfl, hf, hb2⟩
            · exact absurd hok2 he
          have HS6 : Hid (∀ w' (S : Nat → Prop) A c, Below w.heap.size w w' → RdF w' S fs A → Calls Tryd.prog 9 #[.slice A fs.length c] w' (Ret (.string (mkB (textG fs))) w')) := fun w' S A c hb hr => show_ok fs HSW.out w w' HTB.out hb A c hr
          obtain ⟨ml, hml⟩ : ∃ ml, ms.length = ml := ⟨_, rfl⟩
          rw [hml] at HR4 HP5 hfew
          have hfi : (ml : Int) ≤ (tl : Int) := by omega
          have hfd : decide ((ml : Int) ≤ (tl : Int)) = true := by simpa using hfi
          clear hfew hN2 hok2 hsm2 hle2 hms hml
          obtain ⟨tx, htx⟩ : ∃ tx, mkB (textG fs) = tx := ⟨_, rfl⟩
          rw [htx] at HSP HR4 HS6 hb2 HSZ
          obtain ⟨fl, hfl⟩ : ∃ n, fs.length = n := ⟨_, rfl⟩
          rw [hfl] at HSP HP5 HS6 ⊢
          clear htx hfl
          go_wp2_with (first
            | (go_at_call 9; (with_reducible refine HSP.out.mono ?_); rintro y w4 ⟨rfl, hb4⟩; have H4 := Lib.hid (grow_trans HB3.out hb4); clear hb4)
            | (go_at_call 6; (with_reducible refine (HR4.out _ H4.out).mono ?_); rintro y w5 ⟨A5, c5, rfl, hr5, hb5⟩; have H5 := Lib.hid (And.intro hr5 (grow_trans H4.out hb5)); clear hr5 hb5)
            | (go_at_call 7; (with_reducible refine (HP5.out _ _ _ H5.out.2 H5.out.1).mono ?_); rintro y w6 ⟨B6, d6, rfl, hf6, hb6⟩; have H6 := Lib.hid (And.intro hf6 (grow_trans H5.out.2 hb6)); clear hf6 hb6)
            | (go_at_call 9; (with_reducible refine (HS6.out _ _ _ _ H6.out.2 H6.out.1).mono ?_); rintro y w7 ⟨rfl, hb7⟩; have H7 := Lib.hid (grow_trans H6.out.2 hb7); clear hb7))
          go_ret
          exact ⟨by simp, H7.out⟩
      · clear he
        have HB3 := Lib.hid H3.out.2
        go_wp2_with fail
        go_ret
        exact ⟨rfl, HB3.out⟩
end Go.Proofs.YtpfgimohginbdaaDoor
