import Derived.Test.YtpfgimohginbdaaDoorBn29
import Derived.Test.YtpfgimohginbdaaDoorBn30
import Derived.Test.YtpfgimohginbdaaDoorBn31
set_option linter.unusedVariables false
set_option linter.unusedSimpArgs false
namespace Go.Proofs.YtpfgimohginbdaaDoor
open Go.RowKit

/-! the parser: expressions, whole -/
section
variable {E : Nat → Addr} {l : List Tok} {pb : Nat} {A : Option Addr} {c : Nat} {w0 : World}
theorem atom_step (I : PaIn E l A w0) (hN : NumOk l) {n : Nat} (IH : ∀ m, m ≤ n → ExI E l pb A c w0 m) {s s' : PSt} {e : PExpr} {w : World} (hs : PStOk l s) (hf : atomF l (n + 1) s = some (e, s')) (h : PaAt E l pb A c w0 s w) :
    Calls Tryd.prog 68 #[.pointer (some ⟨pb, 0, none⟩)] w (ExPost E l pb A c w0 e s' w) := by
  rw [atomF] at hf
  by_cases hg : (s.err.isNone && decide (s.pos < l.length)) = true
  · rw [if_pos hg] at hf
    simp only [Bool.and_eq_true, Option.isNone_iff_eq_none, decide_eq_true_eq] at hg
    obtain ⟨he, hlt⟩ := hg
    cases hb : isP l s [40]
    · rw [hb, if_neg (by decide)] at hf
      cases hn : ofB l kNumber s
      · rw [hn, if_neg (by decide)] at hf
        obtain ⟨nm, s2, hof⟩ : ∃ nm s2, ofP l kName s = (nm, s2) := ⟨_, _, rfl⟩
        rw [hof] at hf
        dsimp only at hf
        have hs2 : PStOk l s2 := hs.went (by have := ofP_went (x := kName) hs.hi; rw [hof] at this; exact this)
        cases hp : isP l s2 [40]
        · rw [hp, if_neg (by decide)] at hf
          exact atom_name I hb hn hof hp (Option.some.inj hf) hs hlt he h
        · rw [hp, if_pos rfl] at hf
          obtain ⟨hse, t, htk, -, hpl, -⟩ := isP_some hp
          cases hq : (nestP s2).err.isNone
          · rw [hq, if_neg (by decide)] at hf
            exact atom_deep I hb hn hof hp hq (Option.some.inj hf) hs hlt he h
          · rw [hq, if_pos rfl] at hf
            have hst : PStOk l (nestP s2).step := by
              obtain ⟨-, h2, h3⟩ := nestP_ok (none_of hq)
              rw [h3]
              exact ⟨by show s2.pos + 1 ≤ l.length; omega, by show 0 ≤ s2.deep + 1; have := hs2.lo; omega, by show s2.deep + 1 ≤ 13; omega, fun _ => h2⟩
            cases hl : listF l n (nestP s2).step with
            | none => rw [hl] at hf; cases hf
            | some p =>
              obtain ⟨ks, s3⟩ := p
              rw [hl] at hf
              have hs3 := hst.went ((went_expr l n).list _ ks s3 hst.hi hl)
              cases n with
              | zero => rw [listF] at hl; cases hl
              | succ n => exact atom_call I (fun m hm => IH m (by omega)) hb hn hof hp hq hl hst ⟨hs3.lo, by have := hs3.top; omega⟩ (Option.some.inj hf) hs hlt he h
      · rw [hn, if_pos rfl] at hf
        exact atom_num I hN hb hn (Option.some.inj hf) hs hlt he h
    · rw [hb, if_pos rfl] at hf
      exact atom_in I (IH n (Nat.le_refl _)) hb hf hs hlt he h
  · rw [if_neg hg] at hf
    have hx : e = zeroE ∧ s' = failP s 1 := by cases hf; exact ⟨rfl, rfl⟩
    obtain ⟨rfl, rfl⟩ := hx
    refine atom_bad I hs (fun q => hg ?_) h
    rw [q.1]
    simp [q.2]
/-- All that the parser's expressions do. -/
theorem ExI_all (I : PaIn E l A w0) (hN : NumOk l) : ∀ n, ∀ m, m ≤ n → ExI E l pb A c w0 m := by
  intro n
  induction n with
  | zero =>
    intro m hm
    obtain rfl : m = 0 := by omega
    refine ⟨?_, ?_, ?_, ?_⟩
    · intro lv s e s' w _ _ h; rw [exprF] at h; cases h
    · intro s e s' w _ h; rw [oneF] at h; cases h
    · intro s e s' w _ h; rw [atomF] at h; cases h
    · intro s e s' w _ _ _ h; rw [innerF] at h; cases h
  | succ n ih =>
    intro m hm
    by_cases hmn : m ≤ n
    · exact ih m hmn
    · obtain rfl : m = n + 1 := by omega
      exact ⟨fun lv s e s' w hlv hs hf h => expr_step I ih hlv hs hf h, fun s e s' w hs hf h => one_step I (ih n (Nat.le_refl _)) hs hf h, fun s e s' w hs hf h => atom_step I hN ih hs hf h, fun s e s' w hs hlt he hf h => inner_step I (ih n (Nat.le_refl _)) hs hlt he hf h⟩
theorem expr_any (I : PaIn E l A w0) (hN : NumOk l) {n : Nat} {s s' : PSt} {e : PExpr} {w : World} (hs : PStOk l s) (hf : exprF l n 0 s = some (e, s')) (h : PaAt E l pb A c w0 s w) :
    Calls Tryd.prog 57 #[.pointer (some ⟨pb, 0, none⟩), .int .i64 0] w (ExPost E l pb A c w0 e s' w) :=
  (ExI_all I hN n n (Nat.le_refl _)).expr 0 s e s' w (by omega) hs hf h
end
end Go.Proofs.YtpfgimohginbdaaDoor
