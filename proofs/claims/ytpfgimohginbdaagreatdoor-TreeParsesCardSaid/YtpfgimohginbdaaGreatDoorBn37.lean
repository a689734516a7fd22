import Derived.Test.YtpfgimohginbdaaGreatDoorBn19
import Derived.Test.YtpfgimohginbdaaGreatDoorBn20
set_option linter.unusedVariables false
set_option linter.unusedSimpArgs false
namespace Go.Proofs.YtpfgimohginbdaaGreatDoor
open Go.RowKit

/-! the reference's parser: a list that grows; args -/
theorem exprInfoQ : (Tryz.prog.info? 88).map (fun i => (i.zero, i.size, i.bytes)) = some (some (.agg #[.string ⟨#[]⟩, .int .i64 0, .string ⟨#[]⟩, .slice none 0 0]), 4, 64) := by kernel_rfl
section
variable {l : List Tok} {pb : Nat} {A : Option Addr} {c : Nat} {w0 : World} {s s' : PSt} {w w' w1 : World}
/-- The slice's own row stays where only the parser turns. -/
theorem But.own2 {base : Nat} {e : TypeId} {size : Nat} {v : Value} {n : Nat} {xs : List Value} (hb : But pb w w') (h : w.ownsRow base e size v n xs) (hp : pb < base) : w'.ownsRow base e size v n xs :=
  ownS_same h fun k hk => hb.block k (ownS_lt h hk).2 (by have := (ownS_lt h hk).1; omega)
/-- A list that was appended to: what was made stands. -/
theorem grow_next {α : Type} {Ok : World → (Nat → Prop) → α → Prop} (hkeep : ∀ (w w' : World) (S S' : Nat → Prop) (t : α), KeepsIn S w w' → (∀ n, S n → S' n) → Ok w S t → Ok w' S' t) (hlt : ∀ (w : World) (S : Nat → Prop) (t : α), Ok w S t → Ok w (fun n => S n ∧ n < w.heap.size) t)
    {T : TypeId} {size n : Nat} {xs : List Value} {wS wr wq w4 wa w5 : World} {v v' : Value} {ts : List α} {x : α} (hown : wr.ownsRow wS.heap.size T size v n xs) (hets : ∀ t ∈ ts, Ok wr (Apart wS.heap.size v) t) (hok : Ok w4 (newA wq) x) (h4 : RaAt l pb A c w0 s w4) (hb4 : But pb wr w4) (hbq : But pb wr wq) (hbut : But pb wS wr) (hw0 : w0.heap.size ≤ wS.heap.size) (hp : pb < wS.heap.size)
    (hwa : Below w4.heap.size w4 wa) (hgrow : wa.grownBy w5 v.ownBlock) (hat : v'.ownBlock = v.ownBlock ∨ ∃ m, v'.ownBlock = some m ∧ w4.heap.size ≤ m) :
    RaAt l pb A c w0 s w5 ∧ But pb wS w5 ∧ ∀ t ∈ ts ++ [x], Ok w5 (Apart wS.heap.size v') t := by
  have hlow : ∀ i, v.ownBlock = some i → wS.heap.size ≤ i ∧ i < wr.heap.size := fun i hi => ownS_lt hown hi
  have hsr := hbut.size
  have hs4 := hb4.size
  have hsa := hwa.size
  have hgs := hgrow.size
  have hfar : ∀ i, i < w4.heap.size → v.ownBlock ≠ some i → w5.heap[i]? = w4.heap[i]? := fun i hi hn => (hgrow.block i (by omega) (fun e => hn e.symm)).trans (hwa.block i hi)
  have hkeep5 : KeepsIn (fun n => Apart wS.heap.size v n ∧ n < w4.heap.size) w4 w5 := fun a u hs hc => (World.cell?_of_block (hfar _ hs.2 (fun e => hs.1.2 e.symm))).trans hc
  have hap' : ∀ n, Apart wS.heap.size v n ∧ n < w4.heap.size → Apart wS.heap.size v' n := fun n ⟨⟨h1, h2⟩, h3⟩ => by
    refine ⟨h1, ?_⟩
    rcases hat with e | ⟨m, e, hm⟩
    · rw [e]; exact h2
    · rw [e]; intro q; simp at q; omega
  refine ⟨?_, ?_, fun t ht => ?_⟩
  · exact h4.move ⟨hgrow.os.trans hwa.os, hgrow.tape.trans hwa.tape, hgrow.output.trans hwa.output, by omega⟩ (hfar pb h4.lt fun e => by have := (hlow _ e).1; omega) (fun i hi => hfar i (by have := h4.under; omega) (fun e => by have := (hlow _ e).1; omega))
  · have hbS := hbut.trans hb4
    exact ⟨hgrow.os.trans (hwa.os.trans hbS.os), hgrow.tape.trans (hwa.tape.trans hbS.tape), hgrow.output.trans (hwa.output.trans hbS.output), by omega, fun i hi hq => (hfar i (by omega) (fun e => by have := (hlow _ e).1; omega)).trans (hbS.block i hi hq)⟩
  · rcases List.mem_append.1 ht with h | h
    · exact hkeep _ _ _ _ _ hkeep5 hap' (hlt _ _ _ (hkeep _ _ _ _ _ (hb4.keepsIn fun i hi => by have := hi.1; omega) (fun _ h => h) (hets t h)))
    · simp only [List.mem_singleton] at h
      subst h
      have hap : ∀ n, newA wq n → Apart wS.heap.size v n := fun n hn => by
        have h1 : wq.heap.size ≤ n := hn
        have h2 := hbq.size
        exact ⟨by omega, fun q => by have := (hlow _ q.symm).2; omega⟩
      exact hkeep _ _ _ _ _ hkeep5 hap' (hlt _ _ _ (hkeep _ _ _ (Apart wS.heap.size v) _ (Keeps.in (Keeps.refl _) _) hap hok))
theorem ec_keep : ∀ (w w' : World) (S S' : Nat → Prop) (t : EC), KeepsIn S w w' → (∀ n, S n → S' n) → t.Ok w S → t.Ok w' S' := fun _ _ _ _ _ k h o => o.keep k h
theorem ec_lt : ∀ (w : World) (S : Nat → Prop) (t : EC), t.Ok w S → t.Ok w (fun n => S n ∧ n < w.heap.size) := fun _ _ _ o => o.lt
/-- A row of expressions that the call makes. -/
def RowE (base : Nat) (ks : List PExpr) (v : Value) (w : World) : Prop := ∃ ts : List EC, w.ownsRow base 88 4 v ks.length (ts.flatMap EC.cells) ∧ ts.map (·.e) = ks ∧ ∀ t ∈ ts, t.Ok w (Apart base v)
theorem RowE.but {base : Nat} {ks : List PExpr} {v : Value} (h : RowE base ks v w) (hb : But pb w w') (hp : pb < base) : RowE base ks v w' := by
  obtain ⟨ts, h1, h2, h3⟩ := h
  exact ⟨ts, hb.own2 h1 hp, h2, fun t ht => (h3 t ht).keep (hb.keepsIn fun i hi => by have := hi.1; omega) fun _ h => h⟩
theorem RowE.read {base : Nat} {ks : List PExpr} {v : Value} (h : RowE base ks v w) : ∃ B d, v = .slice B ks.length d ∧ RdE w (fun n => base ≤ n) ks B := by
  obtain ⟨ts, h1, h2, h3⟩ := h
  subst h2
  rw [List.length_map] at h1
  obtain ⟨B, d, hv, hr⟩ := EC.row h1 h3
  exact ⟨B, d, by rw [List.length_map]; exact hv, hr⟩
/-- What stands at the head of the loop over arguments. -/
structure AgAt (l : List Tok) (pb : Nat) (A : Option Addr) (c : Nat) (w0 wS : World) (n : Nat) (es : List PExpr) (s' : PSt) (k : Nat) (ks : List PExpr) (st : PSt) (v : Value) (w : World) : Prop where
  le : k ≤ n
  run : argsL l k ks st = some (es, s')
  ok : PStOk l st
  pa : RaAt l pb A c w0 st w
  but : But pb wS w
  row : RowE wS.heap.size ks v w
  cnt : ks.length ≤ st.pos + 1
theorem ag_end {wS wr w5 : World} {es : List PExpr} {v : Value} (hS : But pb w wS) (hb : But pb wS w5) (hrow : RowE wS.heap.size es v wr) (hbr : But pb wr w5) (hp : pb < wS.heap.size) (hp5 : RaAt l pb A c w0 s' w5) : RgPost l pb A c w0 es s' w (.returned v) w5 := by
  obtain ⟨B, d, rfl, hr⟩ := (hrow.but hbr hp).read
  refine ⟨B, d, rfl, hr.keep (Keeps.in (Keeps.refl _) _) fun k hk => ?_, hp5, hS.trans hb⟩
  have := hS.size
  show w.heap.size ≤ k
  omega
theorem reat_lit (I : RaIn l A w0) (h : RaAt l pb A c w0 s w) (hp : s.pos ≤ l.length) {x : List UInt8} (hx : x ≠ []) {b : Bool} (hb : isP l s x = b) : Calls Tryz.prog 21 #[.pointer (some ⟨pb, 0, none⟩), .string (mkB x)] w (RaRet l pb A c w0 (.bool b) (if b = true then s.step else s) w) := by
  have := reat_any I h hp hx
  rwa [hb] at this
set_option maxHeartbeats 16000000 in
set_option maxRecDepth 100000 in
theorem rargs_step (I : RaIn l A w0) {n : Nat} (IH : ∀ m, m ≤ n → RxI l pb A c w0 m) {es : List PExpr} (hs : PStOk l s) (hf : argsR l (n + 1) s = some (es, s')) (h : RaAt l pb A c w0 s w) :
    Calls Tryz.prog 73 #[.pointer (some ⟨pb, 0, none⟩)] w (RgPost l pb A c w0 es s' w) := by
  have hlen := I.len
  obtain ⟨ti, hi, hz0, hz1, hz2⟩ := info_parts exprInfoQ
  have HH := Lib.hid h
  have HS := Lib.hid hs
  have HI := Lib.hid I
  have HIH := Lib.hid IH
  have hlt0 := h.lt
  have hlo0 := h.under
  obtain ⟨Q, hQ⟩ : ∃ Q, RgPost l pb A c w0 es s' w = Q := ⟨_, rfl⟩
  have HQ := Lib.hid hQ
  rw [hQ]
  clear hQ
  rw [argsR] at hf
  cases hb : isP l s [41]
  · rw [hb, if_neg (by decide)] at hf
    have HEAT : Hid (Calls Tryz.prog 21 #[.pointer (some ⟨pb, 0, none⟩), .string ⟨#[41]⟩] w (RaRet l pb A c w0 (.bool false) s w)) := reat_lit I h hs.hi (x := [41]) (by decide) hb
    have HRUN := Lib.hid hf
    clear I IH h hs hf hb
    go_enter Tryz.func73, Tryz.ntmps73
    go_upto_region 4 with (go_at_call 21; (with_reducible refine HEAT.out.mono ?_); rintro y wS ⟨rfl, hS, hbS⟩; have HWS := Lib.hid (And.intro hS (And.intro hbS hS.lt)); clear hS hbS)
    go_loopw [3] (fun v wr => ∃ k ks st, AgAt l pb A c w0 wS n es s' k ks st v wr) (fun _ wr => (l.length - posR pb wr) + errR pb wr)
    case atStart => exact ⟨n, [], _, Nat.le_refl _, HRUN.out, HS.out, HWS.out.1, But.refl _ _, ⟨[], World.ownsRow_nil _ _ _ _, rfl, fun t ht => absurd ht List.not_mem_nil⟩, by simp⟩
    case round =>
      clear HRUN
      obtain ⟨k, ks, st, hK⟩ := hrel
      have HK := Lib.hid hK
      have HPOS := Lib.hid hK.pa.pos
      have hru := hK.run
      cases k with
      | zero => rw [argsL] at hru; cases hru
      | succ k =>
        rw [argsL] at hru
        by_cases hse : st.err = none
        · rw [if_pos (by rw [hse]; rfl)] at hru
          have k3 := hK.pa.code0 hse
          cases hx : exprR l k 0 st with
          | none => rw [hx] at hru; cases hru
          | some p =>
            obtain ⟨e1, s1⟩ := p
            rw [hx] at hru
            have hkn : k ≤ n := by have := hK.le; omega
            have hwe := (went_exprR l k).expr 0 st e1 s1 hK.ok.hi hx
            have hs1 := hK.ok.went hwe
            have HST : Hid (∀ w', RaAt l pb A c w0 st w' → Calls Tryz.prog 50 #[.pointer (some ⟨pb, 0, none⟩), .int .i64 0] w' (RxPost l pb A c w0 e1 s1 w')) := fun w' hw => (HIH.out k hkn).expr 0 st e1 s1 w' (by omega) hK.ok hx hw
            obtain ⟨ts, hown, hmap, hets⟩ := hK.row
            have hkl : ks.length ≤ 100001 := by have := hK.cnt; have := hK.ok.hi; omega
            have HRW := Lib.hid (And.intro hown (And.intro hmap hets))
            have HNX := Lib.hid (And.intro hru (And.intro hkn (And.intro hwe hs1)))
            have HER := Lib.hid (hK.pa.errN hse)
            have HPA := Lib.hid (And.intro hK.pa hK.but)
            obtain ⟨AK, cK, hvK⟩ := owns_slice hown
            subst hvK
            have hgx : (isP l s1 [44] = true) ∨ (isP l s1 [44] = false) := by cases isP l s1 [44] <;> simp
            clear hru hx hwe hs1 hown hmap hets hK hse
            rcases hgx with hg | hg
            · have hru2 := HNX.out.1
              dsimp only at hru2
              rw [if_pos hg] at hru2
              obtain ⟨hse1, t1, ht1, -, hpl1, -⟩ := isP_some hg
              have hcn := HK.out.cnt
              have HEA : Hid (∀ w', RaAt l pb A c w0 s1 w' → Calls Tryz.prog 21 #[.pointer (some ⟨pb, 0, none⟩), .string ⟨#[44]⟩] w' (RaRet l pb A c w0 (.bool true) s1.step w')) := fun w' hw => reat_lit HI.out hw HNX.out.2.2.2.hi (x := [44]) (by decide) hg
              have hlo1 := HNX.out.2.2.1.lo
              have HN2 : Hid (∀ v w', RaAt l pb A c w0 s1.step w' → But pb wS w' → RowE wS.heap.size (ks ++ [e1]) v w' → AgAt l pb A c w0 wS n es s' k (ks ++ [e1]) s1.step v w' ∧ s1.step.pos ≤ l.length ∧ st.pos < s1.step.pos ∧ s1.step.err = none) := fun v w' h1 h2 h3 =>
                ⟨⟨HNX.out.2.1, hru2, HNX.out.2.2.2.went (went_step hpl1 hse1), h1, h2, h3, by rw [List.length_append, List.length_singleton]; show ks.length + 1 ≤ s1.pos + 1 + 1; omega⟩, by show s1.pos + 1 ≤ _; omega, by show st.pos < s1.pos + 1; omega, hse1⟩
              clear hru2 hse1 ht1 hpl1 hcn hlo1 hg
              go_wp2_with (first
                | (go_at_call 50; (with_reducible refine (HST.out _ HPA.out.1).mono ?_); rintro y w4 ⟨B, d, rfl, hB, hN, h4, hb4⟩; rw [show exV e1 B d = .agg #[.string (mkB e1.kind), .int .i64 e1.num, .string (mkB e1.name), .slice B e1.kids.length d] from rfl]; have hO4 := hb4.own2 HRW.out.1 HWS.out.2.2; have H4 := Lib.hid (And.intro (And.intro hN hB) (And.intro h4 hb4)); have HO4 := Lib.hid hO4; clear hB hN h4 hb4 hO4)
                | (at_builtin; refine wpList_append_own_at _ rfl _ _ 86 rfl wS.heap.size 88 ti _ 4 64 Tryz.underlying86 hi hz0 hz1 hz2 rfl (by decide) _ _ _ rfl ((HO4.out.alloc _).alloc _) ⟨w4.heap.size + 1, 0, none⟩ 1 1 (exprL e1 B d) rfl rfl ?c1 ?c2 ?c3 ?c4 ?c5 ?_))
              case c1 =>
                intro i u hu
                match i, hu with
                | 0, hu => simp [exprL] at hu; subst hu; simp [Addr.add]
                | 1, hu => simp [exprL] at hu; subst hu; simp [Addr.add]
                | 2, hu => simp [exprL] at hu; subst hu; simp [Addr.add]
                | 3, hu => simp [exprL] at hu; subst hu; simp [Addr.add]
              case c2 => intro u hu; simp [exprL] at hu; rcases hu with rfl | rfl | rfl | rfl <;> rfl
              case c3 => unfold maxLen; omega
              case c4 => omega
              case c5 => have := HPA.out.2.size; have := H4.out.2.2.size; simp; omega
              · intro v' w5 hown' hgrow _ hat
                have hG := grow_next (Ok := fun w S (t : EC) => t.Ok w S) (x := ⟨e1, B, d⟩) ec_keep ec_lt HRW.out.1 HRW.out.2.2 H4.out.1 H4.out.2.1 H4.out.2.2 (But.refl _ _) HPA.out.2 HWS.out.1.under HWS.out.2.2 (grow_alloc (grow_alloc (grow_refl _) _) _) hgrow (hat.imp id fun e => ⟨_, e, by first | omega | (simp; omega)⟩)
                have hR5 : RowE wS.heap.size (ks ++ [e1]) v' w5 := ⟨ts ++ [⟨e1, B, d⟩], by rw [List.length_append, List.length_singleton, List.flatMap_append, List.flatMap_singleton]; exact hown', by rw [List.map_append, HRW.out.2.1]; rfl, hG.2.2⟩
                have HG5 := Lib.hid (And.intro hG.1 (And.intro hG.2.1 hR5))
                clear hG hR5 hown' hgrow hat
                go_wp2_with (go_at_call 21; (with_reducible refine (HEA.out _ HG5.out.1).mono ?_); rintro y w6 ⟨rfl, h6, hb6⟩; have H6 := Lib.hid (And.intro h6 hb6); clear h6 hb6)
                have HNN := Lib.hid (HN2.out v' w6 H6.out.1 (HG5.out.2.1.trans H6.out.2) (HG5.out.2.2.but H6.out.2 HWS.out.2.2))
                go_roundw
                case rel => exact ⟨k, _, _, HNN.out.1⟩
                case measure =>
                  have h1 := H6.out.1.pos
                  have h2 := HNN.out.2
                  rw [h1, HPOS.out, HER.out, H6.out.1.errN h2.2.2]
                  omega
            · have hru2 := HNX.out.1
              dsimp only at hru2
              rw [if_neg (by rw [hg]; decide)] at hru2
              have HES : Hid (es = ks ++ [e1] ∧ s' = takeP l [41] s1) := show _ ∧ _ by cases hru2; exact ⟨rfl, rfl⟩
              have HEA : Hid (∀ w', RaAt l pb A c w0 s1 w' → Calls Tryz.prog 21 #[.pointer (some ⟨pb, 0, none⟩), .string ⟨#[44]⟩] w' (RaRet l pb A c w0 (.bool false) s1 w')) := fun w' hw => reat_lit HI.out hw HNX.out.2.2.2.hi (x := [44]) (by decide) hg
              have HMU : Hid (∀ w', RaAt l pb A c w0 s1 w' → Calls Tryz.prog 19 #[.pointer (some ⟨pb, 0, none⟩), .string ⟨#[41]⟩] w' (RaRet l pb A c w0 (.tuple #[]) (takeP l [41] s1) w')) := fun w' hw => rmust_any HI.out hw HNX.out.2.2.2.hi (x := [41]) (by decide)
              clear hru2 hg
              go_wp2_with (first
                | (go_at_call 50; (with_reducible refine (HST.out _ HPA.out.1).mono ?_); rintro y w4 ⟨B, d, rfl, hB, hN, h4, hb4⟩; rw [show exV e1 B d = .agg #[.string (mkB e1.kind), .int .i64 e1.num, .string (mkB e1.name), .slice B e1.kids.length d] from rfl]; have hO4 := hb4.own2 HRW.out.1 HWS.out.2.2; have H4 := Lib.hid (And.intro (And.intro hN hB) (And.intro h4 hb4)); have HO4 := Lib.hid hO4; clear hB hN h4 hb4 hO4)
                | (at_builtin; refine wpList_append_own_at _ rfl _ _ 86 rfl wS.heap.size 88 ti _ 4 64 Tryz.underlying86 hi hz0 hz1 hz2 rfl (by decide) _ _ _ rfl ((HO4.out.alloc _).alloc _) ⟨w4.heap.size + 1, 0, none⟩ 1 1 (exprL e1 B d) rfl rfl ?c1 ?c2 ?c3 ?c4 ?c5 ?_))
              case c1 =>
                intro i u hu
                match i, hu with
                | 0, hu => simp [exprL] at hu; subst hu; simp [Addr.add]
                | 1, hu => simp [exprL] at hu; subst hu; simp [Addr.add]
                | 2, hu => simp [exprL] at hu; subst hu; simp [Addr.add]
                | 3, hu => simp [exprL] at hu; subst hu; simp [Addr.add]
              case c2 => intro u hu; simp [exprL] at hu; rcases hu with rfl | rfl | rfl | rfl <;> rfl
              case c3 => unfold maxLen; omega
              case c4 => omega
              case c5 => have := HPA.out.2.size; have := H4.out.2.2.size; simp; omega
              · intro v' w5 hown' hgrow _ hat
                have hG := grow_next (Ok := fun w S (t : EC) => t.Ok w S) (x := ⟨e1, B, d⟩) ec_keep ec_lt HRW.out.1 HRW.out.2.2 H4.out.1 H4.out.2.1 H4.out.2.2 (But.refl _ _) HPA.out.2 HWS.out.1.under HWS.out.2.2 (grow_alloc (grow_alloc (grow_refl _) _) _) hgrow (hat.imp id fun e => ⟨_, e, by first | omega | (simp; omega)⟩)
                have hR5 : RowE wS.heap.size (ks ++ [e1]) v' w5 := ⟨ts ++ [⟨e1, B, d⟩], by rw [List.length_append, List.length_singleton, List.flatMap_append, List.flatMap_singleton]; exact hown', by rw [List.map_append, HRW.out.2.1]; rfl, hG.2.2⟩
                have HG5 := Lib.hid (And.intro hG.1 (And.intro hG.2.1 hR5))
                clear hG hR5 hown' hgrow hat
                go_wp2_with (first
                  | (go_at_call 21; (with_reducible refine (HEA.out _ HG5.out.1).mono ?_); rintro y w6 ⟨rfl, h6, hb6⟩; have H6 := Lib.hid (And.intro h6 hb6); clear h6 hb6)
                  | (go_at_call 19; (with_reducible refine (HMU.out _ H6.out.1).mono ?_); rintro y w7 ⟨rfl, h7, hb7⟩; have H7 := Lib.hid (And.intro h7 hb7); clear h7 hb7))
                rw [← HQ.out, HES.out.1, HES.out.2]
                have hb57 := H6.out.2.trans H7.out.2
                exact ag_end HWS.out.2.1 (HG5.out.2.1.trans hb57) HG5.out.2.2 hb57 HWS.out.2.2 H7.out.1
        · rw [if_neg (fun q => hse (none_of q))] at hru
          have HES : Hid (es = ks ∧ s' = st) := show _ ∧ _ by cases hru; exact ⟨rfl, rfl⟩
          obtain ⟨q, hq, k3⟩ := hK.pa.code1 hse
          have hq' : (1 : Int) ≤ (q : Int) := by omega
          clear hru hse hK
          go_wp2_with fail
          rw [← HQ.out, HES.out.1, HES.out.2]
          exact ag_end HWS.out.2.1 HK.out.but HK.out.row (But.refl _ _) HWS.out.2.2 HK.out.pa
  · rw [hb, if_pos rfl] at hf
    have HEAT : Hid (Calls Tryz.prog 21 #[.pointer (some ⟨pb, 0, none⟩), .string ⟨#[41]⟩] w (RaRet l pb A c w0 (.bool true) s.step w)) := reat_lit I h hs.hi (x := [41]) (by decide) hb
    have HES : Hid (es = [] ∧ s' = s.step) := show _ ∧ _ by cases hf; exact ⟨rfl, rfl⟩
    clear I IH h hs hf hb
    go_enter Tryz.func73, Tryz.ntmps73
    go_wp2_with (go_at_call 21; (with_reducible refine HEAT.out.mono ?_); rintro y wS ⟨rfl, hS, hbS⟩; have HWS := Lib.hid (And.intro hS hbS); clear hS hbS)
    rw [← HQ.out, HES.out.1, HES.out.2]
    exact ⟨none, 0, rfl, RdE.nil _ _ _, HWS.out.1, HWS.out.2⟩
end
end Go.Proofs.YtpfgimohginbdaaGreatDoor
