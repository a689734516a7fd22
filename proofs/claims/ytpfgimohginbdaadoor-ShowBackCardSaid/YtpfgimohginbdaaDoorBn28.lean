import Derived.Test.YtpfgimohginbdaaDoorBn26
import Derived.Test.YtpfgimohginbdaaDoorBn27
set_option linter.unusedVariables false
set_option linter.unusedSimpArgs false
namespace Go.Proofs.YtpfgimohginbdaaDoor
open Go.RowKit

/-! the parser: a list of arguments, whole -/
section
variable {E : Nat → Addr} {l : List Tok} {pb : Nat} {A : Option Addr} {c : Nat} {w0 wE : World} {eb : Nat} {nm : List UInt8} {ks : List PExpr} {s s' s1 : PSt} {w : World}
/-- What stands at the head of the loop over the arguments. -/
structure LsAt (E : Nat → Addr) (l : List Tok) (pb : Nat) (A : Option Addr) (c : Nat) (w0 wE : World) (eb : Nat) (nm : List UInt8) (n : Nat) (es : List PExpr) (s' : PSt) (k : Nat) (ks : List PExpr) (st : PSt) (w : World) : Prop where
  le : k ≤ n
  args : argsF l k ks st = some (es, s')
  ok : PStOk l st
  at_ : ArAt E l pb A c w0 wE eb nm ks st w
  cnt : ks.length ≤ st.pos + 1
set_option maxHeartbeats 8000000 in
set_option maxRecDepth 100000 in
theorem list_any (I : PaIn E l A w0) {n : Nat} (IH : ∀ m, m ≤ n → ExI E l pb A c w0 m) {es : List PExpr} (hs : PStOk l s) (hf : listF l (n + 1) s = some (es, s')) (h : ArAt E l pb A c w0 wE eb nm [] s w) {qb : Nat} (hq : wE.heap[qb]? = some (.cells #[.pointer (some ⟨pb, 0, none⟩)] 52 (0, 0))) (hpe : pb < wE.heap.size) (hee : eb < wE.heap.size) (hne : eb ≠ pb) (hqe : qb ≠ eb) (hqp : qb ≠ pb) (hle : w0.heap.size ≤ eb) :
    Calls Tryd.prog 26 #[.pointer (some ⟨pb, 0, none⟩), .func (.func 75) #[] #[.pointer (some ⟨eb, 0, none⟩), .pointer (some ⟨qb, 0, none⟩)]] w (fun y w' => y = .returned (.tuple #[]) ∧ ArAt E l pb A c w0 wE eb nm es s' w') := by
  have hlen := I.len
  have HTH : Hid (∀ ks s s' w w', ArAt E l pb A c w0 wE eb nm ks s w → PaAt E l pb A c w0 s' w' → But pb w w' → ArAt E l pb A c w0 wE eb nm ks s' w') := fun ks s s' w w' h hpa hb => h.then hpa hb hpe hne
  have HAR : Hid (∀ m, m ≤ n → ∀ e1 ks s s1 w, PStOk l s → exprF l m 0 s = some (e1, s1) → ArAt E l pb A c w0 wE eb nm ks s w → ks.length ≤ 100000 → Calls Tryd.prog 75 #[.pointer (some ⟨eb, 0, none⟩), .pointer (some ⟨qb, 0, none⟩)] w (fun y w' => y = .returned (.tuple #[]) ∧ ArAt E l pb A c w0 wE eb nm (ks ++ [e1]) s1 w')) := fun m hm e1 ks s s1 w h1 h2 h3 h4 => arg_any I (IH m hm) h1 h2 h3 h4 hq hpe hee hne hqe hqp hle
  have HI := Lib.hid I
  have HS := Lib.hid hs
  have HH := Lib.hid h
  have HIS : Hid (∀ st w' x, PaAt E l pb A c w0 st w' → Calls Tryd.prog 42 #[.pointer (some ⟨pb, 0, none⟩), .string (mkB x)] w' (fun e w2 => e = .returned (.bool (isP l st x)) ∧ ∃ n, w2 = w'.drewN n)) := fun st w' x hw => is_lit I hw _
  have HIS1 : Hid (Calls Tryd.prog 42 #[.pointer (some ⟨pb, 0, none⟩), .string ⟨#[41]⟩] w (fun e w2 => e = .returned (.bool (isP l s [41])) ∧ ∃ n, w2 = w.drewN n)) := HIS.out s w [41] h.pa
  have HTK : Hid (∀ st w', PStOk l st → PaAt E l pb A c w0 st w' → Calls Tryd.prog 24 #[.pointer (some ⟨pb, 0, none⟩), .string ⟨#[41]⟩] w' (PaRet E l pb A c w0 (.tuple #[]) (takeP l [41] st) w')) := fun st w' h1 h2 => take_lit I h2 h1.hi [41]
  clear I IH hs h hq
  rw [listF] at hf
  cases hb : isP l s [41]
  · rw [hb] at HIS1 hf
    rw [if_neg (by decide)] at hf
    cases hx : exprF l n 0 s with
    | none => rw [hx] at hf; cases hf
    | some p =>
      obtain ⟨e1, s1⟩ := p
      rw [hx] at hf
      have hw1 := (went_expr l n).expr 0 s e1 s1 HS.out.hi hx
      have hs1 := HS.out.went hw1
      have HAR1 : Hid (∀ m, Calls Tryd.prog 75 #[.pointer (some ⟨eb, 0, none⟩), .pointer (some ⟨qb, 0, none⟩)] (w.drewN m) (fun y w' => y = .returned (.tuple #[]) ∧ ArAt E l pb A c w0 wE eb nm [e1] s1 w')) := fun m => HAR.out n (Nat.le_refl _) e1 [] s s1 (w.drewN m) HS.out hx (HTH.out _ _ _ _ _ HH.out (HH.out.pa.drewN m) ((But.refl pb w).drewN m)) (by simp)
      have HF := Lib.hid (And.intro hf hs1)
      clear hf hs1 hw1 hx hb
      go_enter Tryd.func26, Tryd.ntmps26
      go_upto_region 3 with (first
        | (go_at_call 42; (with_reducible refine HIS1.out.mono ?_); rintro y w2 ⟨rfl, n2, rfl⟩)
        | (go_at_call 75; (with_reducible refine (HAR1.out n2).mono ?_); rintro y w3 ⟨rfl, h3⟩; have H3 := Lib.hid h3; clear h3))
      go_loopw [] (fun wr => ∃ k ks st, LsAt E l pb A c w0 wE eb nm n es s' k ks st wr) (fun wr => l.length - posOf pb wr)
      case atStart => exact ⟨n, [e1], s1, Nat.le_refl _, HF.out.1, HF.out.2, H3.out, by simp⟩
      case round =>
        obtain ⟨k, ks, st, hL⟩ := hrel
        have HL := Lib.hid hL
        have HPOS := Lib.hid hL.at_.pa.pos
        have HISR : Hid (Calls Tryd.prog 42 #[.pointer (some ⟨pb, 0, none⟩), .string ⟨#[44]⟩] wr (fun e w2 => e = .returned (.bool (isP l st [44])) ∧ ∃ n, w2 = wr.drewN n)) := HIS.out st wr [44] hL.at_.pa
        have ha := hL.args
        cases k with
        | zero => rw [argsF] at ha; cases ha
        | succ k =>
          rw [argsF] at ha
          cases hc : isP l st [44]
          · rw [hc] at HISR ha
            rw [if_neg (by decide)] at ha
            have hxs : es = ks ∧ s' = takeP l [41] st := by cases ha; exact ⟨rfl, rfl⟩
            obtain ⟨rfl, rfl⟩ := hxs
            have HTK1 := Lib.hid (fun m => HTK.out st (wr.drewN m) hL.ok (hL.at_.pa.drewN m))
            clear ha hL hc
            go_wp2_with (first
              | (go_at_call 42; (with_reducible refine HISR.out.mono ?_); rintro y w2 ⟨rfl, n2, rfl⟩)
              | (go_at_call 24; (with_reducible refine (HTK1.out n2).mono ?_); rintro y w4 ⟨rfl, h4, hb4⟩; have H4 := Lib.hid (And.intro h4 hb4); clear h4 hb4))
            go_end0
            exact ⟨rfl, HTH.out _ _ _ _ _ HL.out.at_ H4.out.1 (((But.refl pb wr).drewN n2).trans H4.out.2)⟩
          · rw [hc] at HISR ha
            rw [if_pos rfl] at ha
            obtain ⟨hse, t, htk, -, hpl, -⟩ := isP_some hc
            cases hx : exprF l k 0 st.step with
            | none => rw [hx] at ha; cases ha
            | some p =>
              obtain ⟨e2, s2⟩ := p
              rw [hx] at ha
              have hstk : PStOk l st.step := hL.ok.went (went_step hpl hse)
              have hw2 := (went_expr l k).expr 0 _ e2 s2 hstk.hi hx
              have hs2 := hstk.went hw2
              have hkn : k ≤ n := by have := hL.le; omega
              have hcnt := hL.cnt
              have HAR2 : Hid (∀ w', ArAt E l pb A c w0 wE eb nm ks st.step w' → Calls Tryd.prog 75 #[.pointer (some ⟨eb, 0, none⟩), .pointer (some ⟨qb, 0, none⟩)] w' (fun y w2 => y = .returned (.tuple #[]) ∧ ArAt E l pb A c w0 wE eb nm (ks ++ [e2]) s2 w2)) := fun w' hw => HAR.out k hkn e2 ks st.step s2 w' hstk hx hw (by omega)
              have hlo2 : st.pos + 1 ≤ s2.pos := hw2.lo
              have HN : Hid (∀ w', ArAt E l pb A c w0 wE eb nm (ks ++ [e2]) s2 w' → LsAt E l pb A c w0 wE eb nm n es s' k (ks ++ [e2]) s2 w') := fun w' hw => ⟨hkn, ha, hs2, hw, by rw [List.length_append, List.length_singleton]; omega⟩
              have HPP : Hid (st.pos < l.length ∧ st.pos + 1 ≤ s2.pos) := ⟨hpl, hlo2⟩
              have hwp : IntKind.i64.wrap ((st.pos : Int) + 1) = (st.pos : Int) + 1 := IntWalk.i64_in _ (by omega)
              have hpi : (st.pos : Int) ≤ 100000 := by omega
              obtain ⟨v2, -, c1, -, -, -⟩ := hL.at_.pa.cells
              have z1 := hL.at_.pa.frozen 1
              clear ha hL hc hse htk hpl hx hstk hw2 hs2 hkn hcnt hlo2
              go_upto_region 5 with (go_at_call 42; (with_reducible refine HISR.out.mono ?_); rintro y w2 ⟨rfl, n2, rfl⟩; have d1 : (wr.drewN n2).cell? ⟨pb, 1, none⟩ = some (.int .i64 (st.pos : Nat)) := c1; have dz : (wr.drewN n2).frozen? ⟨pb, 1, none⟩ = false := z1)
              obtain ⟨w3, hw3⟩ : ∃ w3, (wr.drewN n2).setCell ⟨pb, 1, none⟩ (.int .i64 ((st.pos : Int) + 1)) = w3 := ⟨_, rfl⟩
              have h3 : PaAt E l pb A c w0 st.step w3 := by rw [← hw3]; exact (HL.out.at_.pa.drewN n2).setPos (st.pos + 1)
              have hb3 : But pb wr w3 := by rw [← hw3]; exact ((But.refl pb wr).drewN n2).set 1 _
              have HA3 := Lib.hid (HTH.out _ _ _ _ _ HL.out.at_ h3 hb3)
              rw [hw3]
              clear hw3 h3 hb3 d1 dz c1 z1
              go_wp2_with (go_at_call 75; (with_reducible refine (HAR2.out _ HA3.out).mono ?_); rintro y w4 ⟨rfl, h4⟩; have H4 := Lib.hid h4; clear h4)
              go_roundw
              case rel => exact ⟨k, _, _, HN.out _ H4.out⟩
              case measure =>
                have h1 := H4.out.pa.pos
                have h2 := HPP.out
                rw [h1, HPOS.out]
                omega
  · rw [hb] at HIS1 hf
    rw [if_pos rfl] at hf
    have hxs : es = [] ∧ s' = s.step := by cases hf; exact ⟨rfl, rfl⟩
    obtain ⟨rfl, rfl⟩ := hxs
    obtain ⟨hse, t, htk, -, hpl, -⟩ := isP_some hb
    have hwp : IntKind.i64.wrap ((s.pos : Int) + 1) = (s.pos : Int) + 1 := IntWalk.i64_in _ (by omega)
    have hpi : (s.pos : Int) ≤ 100000 := by omega
    obtain ⟨v2, -, c1, -, -, -⟩ := HH.out.pa.cells
    have z1 := HH.out.pa.frozen 1
    clear hf hb hse htk hpl
    go_enter Tryd.func26, Tryd.ntmps26
    go_wp2_with (go_at_call 42; (with_reducible refine HIS1.out.mono ?_); rintro y w2 ⟨rfl, n2, rfl⟩; have d1 : (w.drewN n2).cell? ⟨pb, 1, none⟩ = some (.int .i64 (s.pos : Nat)) := c1; have dz : (w.drewN n2).frozen? ⟨pb, 1, none⟩ = false := z1)
    first | go_end0 | refine bodyPost_ret (v := .tuple #[]) (by simp [results, Tryd.results26, go_sem]; try rfl) rfl ?_ | (trace_state; fail)
    all_goals exact ⟨rfl, HTH.out _ _ _ _ _ HH.out ((HH.out.pa.drewN n2).setPos (s.pos + 1)) (((But.refl pb w).drewN n2).set 1 _)⟩
end
end Go.Proofs.YtpfgimohginbdaaDoor
