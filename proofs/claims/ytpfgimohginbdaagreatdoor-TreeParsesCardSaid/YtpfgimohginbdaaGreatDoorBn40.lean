import Derived.Test.YtpfgimohginbdaaGreatDoorBn39
import Derived.Test.YtpfgimohginbdaaGreatDoorBn32
set_option linter.unusedVariables false
set_option linter.unusedSimpArgs false
namespace Go.Proofs.YtpfgimohginbdaaGreatDoor
open Go.RowKit

/-! the reference's parser: statements, what is told of them; block -/
theorem stmtInfoQ : (Tryz.prog.info? 90).map (fun i => (i.zero, i.size, i.bytes)) = some (some (.agg #[.string ⟨#[]⟩, .string ⟨#[]⟩, .string ⟨#[]⟩, .int .i64 0, .string ⟨#[]⟩, .slice none 0 0, .slice none 0 0, .slice none 0 0]), 8, 144) := by kernel_rfl
def RsPost (l : List Tok) (pb : Nat) (A : Option Addr) (c : Nat) (w0 : World) (x : PStmt) (s' : PSt) (w : World) : Ending → World → Prop := fun y w' =>
  ∃ X cx T ct L cl, y = .returned (stV x X cx T ct L cl) ∧ (SC.mk x X cx T ct L cl).Ok w' (newA w) ∧ RaAt l pb A c w0 s' w' ∧ But pb w w'
def RbPost (l : List Tok) (pb : Nat) (A : Option Addr) (c : Nat) (w0 : World) (ss : List PStmt) (s' : PSt) (w : World) : Ending → World → Prop := fun y w' =>
  ∃ B d, y = .returned (.slice B ss.length d) ∧ RdS w' (newA w) ss B ∧ RaAt l pb A c w0 s' w' ∧ But pb w w'
structure RsI (l : List Tok) (pb : Nat) (A : Option Addr) (c : Nat) (w0 : World) (n : Nat) : Prop where
  block : ∀ s ss s' w, PStOk l s → blockR l n s = some (ss, s') → RaAt l pb A c w0 s w → Calls Tryz.prog 22 #[.pointer (some ⟨pb, 0, none⟩)] w (RbPost l pb A c w0 ss s' w)
  stmt : ∀ s x s' w, PStOk l s → s.err = none → stmtR l n s = some (x, s') → RaAt l pb A c w0 s w → Calls Tryz.prog 37 #[.pointer (some ⟨pb, 0, none⟩)] w (RsPost l pb A c w0 x s' w)
theorem sc_keep : ∀ (w w' : World) (S S' : Nat → Prop) (t : SC), KeepsIn S w w' → (∀ n, S n → S' n) → t.Ok w S → t.Ok w' S' := fun _ _ _ _ _ k h o => o.keep k h
theorem sc_lt : ∀ (w : World) (S : Nat → Prop) (t : SC), t.Ok w S → t.Ok w (fun n => S n ∧ n < w.heap.size) := fun _ _ _ o => o.lt
/-- A row of statements that the call makes. -/
def RowSt (base : Nat) (ks : List PStmt) (v : Value) (w : World) : Prop := ∃ ts : List SC, w.ownsRow base 90 8 v ks.length (ts.flatMap SC.cells) ∧ ts.map (·.s) = ks ∧ ∀ t ∈ ts, t.Ok w (Apart base v)
section
variable {l : List Tok} {pb : Nat} {A : Option Addr} {c : Nat} {w0 : World} {s s' : PSt} {w w' w1 : World}
theorem RowSt.but {base : Nat} {ks : List PStmt} {v : Value} (h : RowSt base ks v w) (hb : But pb w w') (hp : pb < base) : RowSt base ks v w' := by
  obtain ⟨ts, h1, h2, h3⟩ := h
  exact ⟨ts, hb.own2 h1 hp, h2, fun t ht => (h3 t ht).keep (hb.keepsIn fun i hi => by have := hi.1; omega) fun _ h => h⟩
theorem RowSt.read {base : Nat} {ks : List PStmt} {v : Value} (h : RowSt base ks v w) : ∃ B d, v = .slice B ks.length d ∧ RdS w (fun n => base ≤ n) ks B := by
  obtain ⟨ts, h1, h2, h3⟩ := h
  subst h2
  rw [List.length_map] at h1
  obtain ⟨B, d, hv, hr⟩ := SC.row h1 h3
  exact ⟨B, d, by rw [List.length_map]; exact hv, hr⟩
/-- What stands at the head of the loop over statements. -/
structure BrAt (l : List Tok) (pb : Nat) (A : Option Addr) (c : Nat) (w0 wS : World) (n : Nat) (es : List PStmt) (s' : PSt) (k : Nat) (ks : List PStmt) (st : PSt) (v : Value) (w : World) : Prop where
  le : k ≤ n
  run : stmtsR l k ks st = some (es, s')
  ok : PStOk l st
  pa : RaAt l pb A c w0 st w
  but : But pb wS w
  row : RowSt wS.heap.size ks v w
  cnt : ks.length ≤ st.pos + 1
  cnt0 : st.err = none → ks.length ≤ st.pos
theorem br_end {wS wr w5 : World} {es : List PStmt} {s2 : PSt} {v : Value} (hes : s' = s2.up) (hS : But pb w wS) (hb : But pb wS w5) (hrow : RowSt wS.heap.size es v wr) (hbr : But pb wr w5) (hp : pb < wS.heap.size) (hp5 : RaAt l pb A c w0 s2 w5) : RbPost l pb A c w0 es s' w (.returned v) (w5.setCell ⟨pb, 2, none⟩ (.int .i64 (s2.deep - 1))) := by
  subst hes
  have hb6 : But pb wr (w5.setCell ⟨pb, 2, none⟩ (.int .i64 (s2.deep - 1))) := hbr.set 2 _
  obtain ⟨B, d, rfl, hr⟩ := (hrow.but hb6 hp).read
  refine ⟨B, d, rfl, hr.keep (Keeps.in (Keeps.refl _) _) fun k hk => ?_, hp5.setDeep (s2.deep - 1), (hS.trans hb).set 2 _⟩
  have := hS.size
  show w.heap.size ≤ k
  omega
set_option maxHeartbeats 16000000 in
set_option maxRecDepth 100000 in
theorem rblock_step (I : RaIn l A w0) (T : TkOk l) {n : Nat} (IH : ∀ m, m ≤ n → RsI l pb A c w0 m) {es : List PStmt} (hs : PStOk l s) (hf : blockR l (n + 1) s = some (es, s')) (h : RaAt l pb A c w0 s w) :
    Calls Tryz.prog 22 #[.pointer (some ⟨pb, 0, none⟩)] w (RbPost l pb A c w0 es s' w) := by
  have hlen := I.len
  obtain ⟨ti, hi, hz0, hz1, hz2⟩ := info_parts stmtInfoQ
  have HH := Lib.hid h
  have HS := Lib.hid hs
  have HI := Lib.hid I
  have HIH := Lib.hid IH
  have hlt0 := h.lt
  have hlo0 := h.under
  have HN0 := Lib.hid (nxt_lit I h kSign)
  rw [show mkB kSign = ⟨#[115, 105, 103, 110]⟩ from rfl] at HN0
  obtain ⟨xk, hxk⟩ : ∃ xk, mkB (nxtP l s kSign) = xk := ⟨_, rfl⟩
  rw [hxk] at HN0
  obtain ⟨Q, hQ⟩ : ∃ Q, RbPost l pb A c w0 es s' w = Q := ⟨_, rfl⟩
  have HQ := Lib.hid hQ
  rw [hQ]
  clear hQ
  rw [blockR] at hf
  cases hb : isP l s [123]
  · rw [hb, if_neg (by decide)] at hf
    have hx1 := nxt_eq T (by decide) (by decide) hb hxk
    have HES : Hid (es = [] ∧ s' = failP s 1) := show _ ∧ _ by cases hf; exact ⟨rfl, rfl⟩
    have HFA : Hid (∀ n, Calls Tryz.prog 34 #[.pointer (some ⟨pb, 0, none⟩), .int .i64 1] (w.drewN n) (RaRet l pb A c w0 (.tuple #[]) (failP s 1) (w.drewN n))) := fun n => rfail_any (HH.out.drewN n) (z := 1) (by omega) (by omega)
    clear I IH h hs hf hb hxk T
    go_enter Tryz.func22, Tryz.ntmps22
    go_wp2_with (first
      | (go_at_call 35; (with_reducible refine HN0.out.mono ?_); rintro y w1 ⟨rfl, n1, rfl⟩)
      | (go_at_call 34; (with_reducible refine (HFA.out _).mono ?_); rintro y w2 ⟨rfl, h2, hb2⟩; have H2 := Lib.hid (And.intro h2 (((But.refl pb w).drewN _).trans hb2)); clear h2 hb2))
    rw [← HQ.out, HES.out.1, HES.out.2]
    exact ⟨none, 0, rfl, RdS.nil _ _ _, H2.out.1, H2.out.2⟩
  · rw [hb, if_pos rfl] at hf
    have hx1 := nxt_eq T (by decide) (by decide) hb hxk
    obtain ⟨hse, t0, -, -, hpl, -⟩ := isP_some hb
    have HDN : Hid (∀ n, Calls Tryz.prog 36 #[.pointer (some ⟨pb, 0, none⟩)] (w.drewN n) (RaRet l pb A c w0 (.bool (nestP s).err.isNone) (nestP s) (w.drewN n))) := fun n => rdown_any (HH.out.drewN n) ⟨hs.lo, by have := hs.top; omega⟩
    by_cases hn : (nestP s).err.isNone = true
    · rw [if_pos hn] at hf
      rw [hn] at HDN
      have hst : PStOk l (nestP s).step := by
        obtain ⟨-, h2, h3⟩ := nestP_ok (none_of hn)
        rw [h3]
        exact ⟨by show s.pos + 1 ≤ l.length; omega, by show 0 ≤ s.deep + 1; have := hs.lo; omega, by show s.deep + 1 ≤ 13; omega, fun _ => h2⟩
      cases hx : stmtsR l n [] (nestP s).step with
      | none => rw [hx] at hf; cases hf
      | some p =>
        obtain ⟨ss, s1⟩ := p
        rw [hx] at hf
        have hs1 := hst.went ((adv_stmtR l n).stmts [] _ ss s1 hst.hi hx)
        have hd1 := hs1.lo
        have hd2 := hs1.top
        have HES : Hid (es = ss ∧ s' = s1.up) := show _ ∧ _ by cases hf; exact ⟨rfl, rfl⟩
        have HRUN := Lib.hid (And.intro hx hst)
        obtain ⟨pn, hpn⟩ : ∃ pn, nestP s = pn := ⟨_, rfl⟩
        have hne := nestP_pos s
        rw [hpn] at HDN HRUN hne
        have hpos : (pn.pos : Int) ≤ 100000 := by omega
        have hwp : IntKind.i64.wrap ((pn.pos : Int) + 1) = (pn.pos : Int) + 1 := IntWalk.i64_in _ (by omega)
        clear hf hx hst hs1 hn hpn hb hse hpl hne hxk T I IH h hs
        go_enter Tryz.func22, Tryz.ntmps22
        go_upto_region 8 with (first
          | (go_at_call 35; (with_reducible refine HN0.out.mono ?_); rintro y w1 ⟨rfl, n1, rfl⟩)
          | (go_at_call 36; (with_reducible refine (HDN.out _).mono ?_); rintro y w2 ⟨rfl, h2, hb2⟩; obtain ⟨-, c1, -, -, -⟩ := h2.cells; have z1 := h2.frozen 1; have H2 := Lib.hid (And.intro h2 (((But.refl pb w).drewN _).trans hb2)); clear h2 hb2))
        go_upto_region 9 with fail
        obtain ⟨wS, hwS⟩ : ∃ wS, w2.setCell ⟨pb, 1, none⟩ (.int .i64 ((pn.pos : Int) + 1)) = wS := ⟨_, rfl⟩
        have hS : RaAt l pb A c w0 pn.step wS := by rw [← hwS]; exact H2.out.1.setPos (pn.pos + 1)
        have hbS : But pb w wS := by rw [← hwS]; exact H2.out.2.set 1 _
        have hpS : pb < wS.heap.size := hS.lt
        have HWS := Lib.hid (And.intro hS (And.intro hbS hpS))
        rw [hwS]
        clear hwS hS hbS hpS c1 z1 H2
        go_loopw [3, 5] (fun v _ wr => ∃ k ks st, BrAt l pb A c w0 wS n ss s1 k ks st v wr) (fun _ _ wr => (l.length - posR pb wr) + errR pb wr)
        case atStart => exact ⟨n, [], _, Nat.le_refl _, HRUN.out.1, HRUN.out.2, HWS.out.1, But.refl _ _, ⟨[], World.ownsRow_nil _ _ _ _, rfl, fun t ht => absurd ht List.not_mem_nil⟩, by simp, fun _ => by simp⟩
        case round =>
          clear HRUN
          obtain ⟨k, ks, st, hK⟩ := hrel
          have HK := Lib.hid hK
          have HPOS := Lib.hid hK.pa.pos
          have hru := hK.run
          have hkl0 : ks.length ≤ 100001 := by have := hK.cnt; have := hK.ok.hi; omega
          obtain ⟨ts0, hown0, -, -⟩ := hK.row
          obtain ⟨AK, cK, hvK⟩ := owns_slice hown0
          subst hvK
          clear hown0 ts0
          cases k with
          | zero => rw [stmtsR] at hru; cases hru
          | succ k =>
            rw [stmtsR] at hru
            by_cases he : st.err = none
            · rw [if_pos (by rw [he]; rfl)] at hru
              have k3 := hK.pa.code0 he
              cases hg : isP l st [125]
              · rw [hg, if_neg (by decide)] at hru
                have HEA : Hid (Calls Tryz.prog 21 #[.pointer (some ⟨pb, 0, none⟩), .string ⟨#[125]⟩] wr (RaRet l pb A c w0 (.bool false) st wr)) := reat_lit HI.out hK.pa hK.ok.hi (x := [125]) (by decide) hg
                cases hx : stmtR l k st with
                | none => rw [hx] at hru; cases hru
                | some p =>
                  obtain ⟨x, s3⟩ := p
                  rw [hx] at hru
                  have hkn : k ≤ n := by have := hK.le; omega
                  have hav := (adv_stmtR l k).stmt st x s3 hK.ok.hi he hx
                  have hs3 := hK.ok.went hav.w
                  have HST : Hid (∀ w', RaAt l pb A c w0 st w' → Calls Tryz.prog 37 #[.pointer (some ⟨pb, 0, none⟩)] w' (RsPost l pb A c w0 x s3 w')) := fun w' hw => (HIH.out k hkn).stmt st x s3 w' hK.ok he hx hw
                  obtain ⟨ts, hown, hmap, hets⟩ := hK.row
                  have HRW := Lib.hid (And.intro hown (And.intro hmap hets))
                  have HER := Lib.hid (hK.pa.errN he)
                  have HPA := Lib.hid (And.intro hK.pa hK.but)
                  have hru2 : stmtsR l k (ks ++ [x]) s3 = some (ss, s1) := hru
                  have hc0 := hK.cnt0 he
                  have HN2 : Hid (∀ v w', RaAt l pb A c w0 s3 w' → But pb wS w' → RowSt wS.heap.size (ks ++ [x]) v w' → BrAt l pb A c w0 wS n ss s1 k (ks ++ [x]) s3 v w') := fun v w' h1 h2 h3 =>
                    ⟨hkn, hru2, hs3, h1, h2, h3, by rw [List.length_append, List.length_singleton]; have := hav.w.lo; omega, fun e => by rw [List.length_append, List.length_singleton]; have := hav.adv e; omega⟩
                  have HAV := Lib.hid hav
                  clear hru hru2 hx hav hs3 hown hmap hets hK he hg hc0
                  go_wp2_with (first
                    | (go_at_call 21; (with_reducible refine HEA.out.mono ?_); rintro y w2 ⟨rfl, h2, hb2⟩; have H2 := Lib.hid (And.intro h2 hb2); clear h2 hb2)
                    | (go_at_call 37; (with_reducible refine (HST.out _ H2.out.1).mono ?_); rintro y w4 ⟨X, cx, T, ct, L, cl, rfl, hok, h4, hb4⟩; rw [show stV x X cx T ct L cl = .agg #[.string (mkB x.kind), .string (mkB x.name), .string (mkB x.e.kind), .int .i64 x.e.num, .string (mkB x.e.name), .slice X x.e.kids.length cx, .slice T x.th.length ct, .slice L x.el.length cl] from rfl]; have hO4 := (H2.out.2.trans hb4).own2 HRW.out.1 HWS.out.2.2; have H4 := Lib.hid (And.intro hok (And.intro h4 (H2.out.2.trans hb4))); have HO4 := Lib.hid hO4; clear hok h4 hb4 hO4)
                    | (at_builtin; refine wpList_append_own_at _ rfl _ _ 68 rfl wS.heap.size 90 ti _ 8 144 Tryz.underlying68 hi hz0 hz1 hz2 rfl (by decide) _ _ _ rfl ((HO4.out.alloc _).alloc _) ⟨w4.heap.size + 1, 0, none⟩ 1 1 (stmtL x X cx T ct L cl) rfl rfl ?c1 ?c2 ?c3 ?c4 ?c5 ?_))
                  case c1 =>
                    intro i u hu
                    match i, hu with
                    | 0, hu => simp [stmtL] at hu; subst hu; simp [Addr.add]
                    | 1, hu => simp [stmtL] at hu; subst hu; simp [Addr.add]
                    | 2, hu => simp [stmtL] at hu; subst hu; simp [Addr.add]
                    | 3, hu => simp [stmtL] at hu; subst hu; simp [Addr.add]
                    | 4, hu => simp [stmtL] at hu; subst hu; simp [Addr.add]
                    | 5, hu => simp [stmtL] at hu; subst hu; simp [Addr.add]
                    | 6, hu => simp [stmtL] at hu; subst hu; simp [Addr.add]
                    | 7, hu => simp [stmtL] at hu; subst hu; simp [Addr.add]
                  case c2 => intro u hu; simp [stmtL] at hu; rcases hu with rfl | rfl | rfl | rfl | rfl | rfl | rfl | rfl <;> rfl
                  case c3 => unfold maxLen; omega
                  case c4 => omega
                  case c5 => have := HPA.out.2.size; have := H4.out.2.2.size; simp; omega
                  · intro v' w5 hown' hgrow _ hat
                    have hG := grow_next (Ok := fun w S (t : SC) => t.Ok w S) (x := ⟨x, X, cx, T, ct, L, cl⟩) sc_keep sc_lt HRW.out.1 HRW.out.2.2 H4.out.1 H4.out.2.1 H4.out.2.2 H2.out.2 HPA.out.2 HWS.out.1.under HWS.out.2.2 (grow_alloc (grow_alloc (grow_refl _) _) _) hgrow (hat.imp id fun e => ⟨_, e, by first | omega | (simp; omega)⟩)
                    have hR5 : RowSt wS.heap.size (ks ++ [x]) v' w5 := ⟨ts ++ [⟨x, X, cx, T, ct, L, cl⟩], by rw [List.length_append, List.length_singleton, List.flatMap_append, List.flatMap_singleton]; exact hown', by rw [List.map_append, HRW.out.2.1]; rfl, hG.2.2⟩
                    have HNN := Lib.hid (HN2.out v' w5 hG.1 hG.2.1 hR5)
                    clear hG hR5 hown' hgrow hat
                    go_wp2_with fail
                    go_roundw
                    case rel => exact ⟨k, _, _, HNN.out⟩
                    case measure =>
                      have h1 := HNN.out.pa.pos
                      have h2 := HAV.out
                      have h3 := h2.w.hi
                      rw [h1, HPOS.out, HER.out]
                      cases he : s3.err with
                      | none =>
                        have h4 := h2.adv he
                        rw [HNN.out.pa.errN he]
                        omega
                      | some z =>
                        have h4 := h2.w.lo
                        rw [HNN.out.pa.errS (by rw [he]; simp)]
                        omega
              · rw [hg, if_pos rfl] at hru
                have HES2 : Hid (ss = ks ∧ s1 = st.step) := show _ ∧ _ by cases hru; exact ⟨rfl, rfl⟩
                have HEA : Hid (Calls Tryz.prog 21 #[.pointer (some ⟨pb, 0, none⟩), .string ⟨#[125]⟩] wr (RaRet l pb A c w0 (.bool true) st.step wr)) := reat_lit HI.out hK.pa hK.ok.hi (x := [125]) (by decide) hg
                obtain ⟨sx, hsx⟩ : ∃ sx, st.step = sx := ⟨_, rfl⟩
                rw [hsx] at HEA HES2
                have hde : s1.deep = sx.deep := by rw [HES2.out.2]
                have hde1 : 0 ≤ sx.deep := by omega
                have hde2 : sx.deep ≤ 13 := by omega
                clear hru hg hK he hsx hde
                go_upto_region 13 with (go_at_call 21; (with_reducible refine HEA.out.mono ?_); rintro y w5 ⟨rfl, h5, hb5⟩; obtain ⟨-, -, c5, -, -⟩ := h5.cells; have z5 := h5.frozen 2; have H5 := Lib.hid (And.intro h5 hb5); clear h5 hb5)
                go_wp2_with fail
                rw [← HQ.out, HES.out.1, HES2.out.1]
                exact br_end (by rw [HES.out.2, HES2.out.2]) HWS.out.2.1 (HK.out.but.trans H5.out.2) HK.out.row H5.out.2 HWS.out.2.2 H5.out.1
            · rw [if_neg (fun q => he (none_of q))] at hru
              have HES2 : Hid (ss = ks ∧ s1 = st) := show _ ∧ _ by cases hru; exact ⟨rfl, rfl⟩
              obtain ⟨zz, hzz, k3⟩ := hK.pa.code1 he
              have hzi : (1 : Int) ≤ (zz : Int) := by omega
              obtain ⟨-, -, c5, -, -⟩ := hK.pa.cells
              have z5 := hK.pa.frozen 2
              have hde : s1.deep = st.deep := by rw [HES2.out.2]
              have hde1 : 0 ≤ st.deep := by omega
              have hde2 : st.deep ≤ 13 := by omega
              clear hru hK he hde
              go_wp2_with fail
              rw [← HQ.out, HES.out.1, HES2.out.1]
              exact br_end (by rw [HES.out.2, HES2.out.2]) HWS.out.2.1 HK.out.but HK.out.row (But.refl _ _) HWS.out.2.2 HK.out.pa
    · rw [if_neg hn] at hf
      rw [(Bool.not_eq_true _).mp hn] at HDN
      have HES : Hid (es = [] ∧ s' = nestP s) := show _ ∧ _ by cases hf; exact ⟨rfl, rfl⟩
      obtain ⟨pn, hpn⟩ : ∃ pn, nestP s = pn := ⟨_, rfl⟩
      rw [hpn] at HDN HES
      clear hf hn hpn hb hse hpl hxk T I IH h hs
      go_enter Tryz.func22, Tryz.ntmps22
      go_wp2_with (first
        | (go_at_call 35; (with_reducible refine HN0.out.mono ?_); rintro y w1 ⟨rfl, n1, rfl⟩)
        | (go_at_call 36; (with_reducible refine (HDN.out _).mono ?_); rintro y w2 ⟨rfl, h2, hb2⟩; have H2 := Lib.hid (And.intro h2 (((But.refl pb w).drewN _).trans hb2)); clear h2 hb2))
      rw [← HQ.out, HES.out.1, HES.out.2]
      exact ⟨none, 0, rfl, RdS.nil _ _ _, H2.out.1, H2.out.2⟩
end
end Go.Proofs.YtpfgimohginbdaaGreatDoor
