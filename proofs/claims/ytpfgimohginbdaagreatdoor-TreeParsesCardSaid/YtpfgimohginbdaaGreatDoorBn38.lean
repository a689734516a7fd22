import Derived.Test.YtpfgimohginbdaaGreatDoorBn19
import Derived.Test.YtpfgimohginbdaaGreatDoorBn35
set_option linter.unusedVariables false
set_option linter.unusedSimpArgs false
namespace Go.Proofs.YtpfgimohginbdaaGreatDoor
open Go.RowKit

/-! the reference's parser: Expr -/
section
variable {l : List Tok} {pb : Nat} {A : Option Addr} {c : Nat} {w0 : World} {s s' : PSt} {w w' w1 : World}
/-- The state at the head of the loop over ops. -/
structure LrAt (l : List Tok) (pb : Nat) (A : Option Addr) (c : Nat) (w0 w2 : World) (vb lv n : Nat) (e : PExpr) (s' : PSt) (k : Nat) (e1 : PExpr) (st : PSt) (B : Option Addr) (d : Nat) (w : World) : Prop where
  le : k ≤ n
  ops : loopR l k lv e1 st = some (e, s')
  ok : PStOk l st
  pa : RaAt l pb A c w0 st w
  but : But pb w2 w
  row : w.heap[vb]? = some (.cells #[.string (mkB e1.kind), .int .i64 e1.num, .string (mkB e1.name), .slice B e1.kids.length d] 88 (0, 0))
  kids : RdE w (fun n => newA w2 n ∧ n ≠ vb) e1.kids B
  num : okN e1.num
/-- The row of an expression that a call made, in its box. -/
def boxE (e : PExpr) (B : Option Addr) (d : Nat) : Obj := .cells #[.string (mkB e.kind), .int .i64 e.num, .string (mkB e.name), .slice B e.kids.length d] 88
def boxE2 (e r : PExpr) (B : Option Addr) (d : Nat) (D : Option Addr) (g : Nat) : Obj := .cells #[.string (mkB e.kind), .int .i64 e.num, .string (mkB e.name), .slice B e.kids.length d, .string (mkB r.kind), .int .i64 r.num, .string (mkB r.name), .slice D r.kids.length g] 88
theorem LrAt.drewN {w2 : World} {vb lv n k : Nat} {e e1 : PExpr} {st : PSt} {B : Option Addr} {d : Nat} (h : LrAt l pb A c w0 w2 vb lv n e s' k e1 st B d w) (m : Nat) : LrAt l pb A c w0 w2 vb lv n e s' k e1 st B d (w.drewN m) :=
  ⟨h.le, h.ops, h.ok, h.pa.drewN m, h.but.drewN m, h.row, h.kids.keep ((Keeps.drewN w m).in _) fun _ h => h, h.num⟩
theorem LrAt.next {w2 wq w3 w4 : World} {vb lv n k k' : Nat} {e e1 r : PExpr} {st s1 : PSt} {B D : Option Addr} {d g : Nat} {x : List UInt8} (h : LrAt l pb A c w0 w2 vb lv n e s' k' e1 st B d wq) (hne : vb ≠ pb) (h2v : w2.heap.size ≤ vb) (hp2 : pb < w2.heap.size) (hlo : w0.heap.size ≤ vb) (hb3 : But pb wq w3)
    (hD : RdE w4 (newA w3) r.kids D) (hM : okN r.num) (h4 : RaAt l pb A c w0 s1 w4) (hb4 : But pb w3 w4) (hle : k ≤ n) (hops : loopR l k lv ⟨yTwo, 0, x, [e1, r]⟩ s1 = some (e, s')) (hok : PStOk l s1) :
    LrAt l pb A c w0 w2 vb lv n e s' k ⟨yTwo, 0, x, [e1, r]⟩ s1 (some ⟨w4.heap.size + 1, 0, none⟩) 2 ((((((w4.alloc (boxE r D g)).alloc (boxE2 e1 r B d D g)).setCell ⟨vb, 0, none⟩ (.string ⟨#[116, 119, 111]⟩)).setCell ⟨vb, 1, none⟩ (.int .i64 0)).setCell ⟨vb, 2, none⟩ (.string (mkB x))).setCell ⟨vb, 3, none⟩ (.slice (some ⟨w4.heap.size + 1, 0, none⟩) 2 2)) := by
  have hq4 : But pb wq w4 := hb3.trans hb4
  have hv4 := hq4.row h.row hne
  have hvl := (Array.getElem?_eq_some_iff.1 hv4).1
  have hvq := (Array.getElem?_eq_some_iff.1 h.row).1
  have hz : (w4.alloc (boxE r D g)).heap.size = w4.heap.size + 1 := by simp
  have hbA : Below w4.heap.size w4 ((w4.alloc (boxE r D g)).alloc (boxE2 e1 r B d D g)) := grow_alloc (grow_alloc (grow_refl _) _) _
  have hn4 : ((w4.alloc (boxE r D g)).alloc (boxE2 e1 r B d D g)).heap[w4.heap.size + 1]? = some (boxE2 e1 r B d D g) := by rw [← hz]; exact heap_alloc_new _ _
  have hv5 := (hbA.block _ hvl).trans hv4
  have h2q := h.but.size
  have h23 := hb3.size
  have h34 := hb4.size
  refine ⟨hle, hops, hok, (h4.keep hbA).set4 hv5 hlo, ((h.but.trans hq4).trans (But.of_below hbA)).set4 h2v, set4T hv5, ?_, okN0⟩
  generalize (w4.alloc (boxE r D g)).alloc (boxE2 e1 r B d D g) = wz at hbA hn4 hv5 ⊢
  have hn5 : wz.heap[w4.heap.size + 1]? = some (.cells #[.string (mkB e1.kind), .int .i64 e1.num, .string (mkB e1.name), .slice B e1.kids.length d, .string (mkB r.kind), .int .i64 r.num, .string (mkB r.name), .slice D r.kids.length g] 88 (0, 0)) := hn4
  refine RdE.two (B := B) (D := D) (b := d) (d := g) ((far4T (by omega)).trans hn5) ?_ ?_ h.num hM ⟨show w2.heap.size ≤ _ by omega, by omega⟩
  · refine RdE.set4 (S := fun n => newA w2 n ∧ n ≠ vb) (h.kids.keep ((hq4.trans (But.of_below hbA)).keepsIn fun k hk => ?_) fun k hk => hk) fun k hk => ⟨hk.2, hk⟩
    have h1 : w2.heap.size ≤ k := hk.1
    omega
  · refine RdE.set4 (S := newA w3) (hD.keep ((Keeps.of_below hbA).in _) fun k hk => hk) fun k hk => ?_
    have h1 : w3.heap.size ≤ k := hk
    refine ⟨by omega, ?_, by omega⟩
    show w2.heap.size ≤ k
    omega
set_option maxHeartbeats 16000000 in
set_option maxRecDepth 100000 in
theorem rexpr_step (I : RaIn l A w0) {n : Nat} (IH : ∀ m, m ≤ n → RxI l pb A c w0 m) {lv : Nat} (hlv : lv ≤ 8) {e : PExpr} (hs : PStOk l s) (hf : exprR l (n + 1) lv s = some (e, s')) (h : RaAt l pb A c w0 s w) :
    Calls Tryz.prog 50 #[.pointer (some ⟨pb, 0, none⟩), .int .i64 (lv : Nat)] w (RxPost l pb A c w0 e s' w) := by
  have hlen := I.len
  obtain ⟨rb, hrb⟩ : ∃ rb, w.heap.size = rb := ⟨_, rfl⟩
  obtain ⟨wA, hwA⟩ : ∃ wA, w.alloc (.cells #[.string ⟨#[]⟩, .int .i64 0, .string ⟨#[]⟩, .slice none 0 0] 88) = wA := ⟨_, rfl⟩
  have hbA : Below w.heap.size w wA := by rw [← hwA]; exact grow_alloc (grow_refl _) _
  have hmA : wA.heap[rb]? = some (.cells #[.string ⟨#[]⟩, .int .i64 0, .string ⟨#[]⟩, .slice none 0 0] 88 (0, 0)) := by rw [← hwA, ← hrb]; exact heap_alloc_new w _
  have hA := h.keep hbA
  have hpr : pb < rb := by have := h.lt; omega
  have hlo : w0.heap.size ≤ rb := by have := h.under; omega
  have hra : rb < wA.heap.size := (Array.getElem?_eq_some_iff.1 hmA).1
  have HBA : Hid (But pb w wA) := But.of_below hbA
  have HR : Hid (∀ w', But pb wA w' → w'.heap[rb]? = some (.cells #[.string ⟨#[]⟩, .int .i64 0, .string ⟨#[]⟩, .slice none 0 0] 88 (0, 0))) := fun w' hb => hb.row hmA (by omega)
  have HWA := Lib.hid (And.intro hwA hrb)
  have HPL := Lib.hid (And.intro hpr (And.intro hlo hra))
  have HA := Lib.hid hA
  have HS := Lib.hid hs
  have HI := Lib.hid I
  have HIH := Lib.hid IH
  have HLN := Lib.hid hlen
  have HLV := Lib.hid hlv
  obtain ⟨Q, hQ⟩ : ∃ Q, RxPost l pb A c w0 e s' w = Q := ⟨_, rfl⟩
  have HQ := Lib.hid hQ
  rw [hQ]
  rw [exprR] at hf
  cases hx : aheadR l n s with
  | none => rw [hx] at hf; cases hf
  | some p =>
    obtain ⟨e0, s1⟩ := p
    rw [hx] at hf
    have hops : loopR l n lv e0 s1 = some (e, s') := hf
    have hs1 := hs.went ((went_exprR l n).ahead s e0 s1 hs.hi hx)
    have HAH : Hid (∀ w', RaAt l pb A c w0 s w' → Calls Tryz.prog 64 #[.pointer (some ⟨pb, 0, none⟩)] w' (RxPost l pb A c w0 e0 s1 w')) := fun w' hw => (HIH.out n (Nat.le_refl _)).ahead s e0 s1 w' HS.out hx hw
    have HOPS := Lib.hid (And.intro hops hs1)
    clear hs h hA hbA hmA hwA hrb I IH hf hQ hpr hlo hra hlen hx hops hs1 hlv
    go_enter Tryz.func50, Tryz.ntmps50
    go_upto_region 1 with fail
    rw [HWA.out.1, HWA.out.2]
    go_upto_region 2 with (go_at_call 64; (with_reducible refine (HAH.out _ HA.out).mono ?_); rintro y w4 ⟨B, d, rfl, hB, hN, h4, hb4⟩; rw [show exV e0 B d = .agg #[.string (mkB e0.kind), .int .i64 e0.num, .string (mkB e0.name), .slice B e0.kids.length d] from rfl]; have H4 := Lib.hid (And.intro hB (And.intro hN (And.intro h4 hb4))); clear hB hN h4 hb4)
    obtain ⟨vb, hvb⟩ : ∃ vb, w4.heap.size = vb := ⟨_, rfl⟩
    obtain ⟨w5, hw5⟩ : ∃ w5, w4.alloc (.cells #[.string (mkB e0.kind), .int .i64 e0.num, .string (mkB e0.name), .slice B e0.kids.length d] 88) = w5 := ⟨_, rfl⟩
    have hb5 : Below w4.heap.size w4 w5 := by rw [← hw5]; exact grow_alloc (grow_refl _) _
    have hm5 : w5.heap[vb]? = some (.cells #[.string (mkB e0.kind), .int .i64 e0.num, .string (mkB e0.name), .slice B e0.kids.length d] 88 (0, 0)) := by rw [← hw5, ← hvb]; exact heap_alloc_new w4 _
    have hpv : pb < vb := by have := H4.out.2.2.1.lt; omega
    have h2v : wA.heap.size ≤ vb := by have := H4.out.2.2.2.size; omega
    have hLv : LrAt l pb A c w0 wA vb lv n e s' n e0 s1 B d w5 :=
      ⟨Nat.le_refl _, HOPS.out.1, HOPS.out.2, H4.out.2.2.1.keep hb5, H4.out.2.2.2.trans (But.of_below hb5), hm5, H4.out.1.lt.keep ((Keeps.of_below hb5).in _) (fun k hk => ⟨hk.1, by have := hk.2; omega⟩), H4.out.2.1⟩
    have HLV2 := Lib.hid hLv
    have HVB := Lib.hid (And.intro hpv h2v)
    have hne : vb ≠ pb := by omega
    rw [hvb, hw5]
    clear hw5 hvb hb5 hm5 hLv hpv h2v
    go_loopw [6, 7, 8] (fun _ _ _ wr => ∃ k e1 st B d, LrAt l pb A c w0 wA vb lv n e s' k e1 st B d wr) (fun _ _ _ wr => l.length - posR pb wr)
    case atStart => exact ⟨_, _, _, _, _, HLV2.out⟩
    case round =>
      clear HOPS H4 HLV2 HAH
      obtain ⟨k, e1, st, B, d, hLv⟩ := hrel
      have HLV2 := Lib.hid hLv
      have HPOS := Lib.hid hLv.pa.pos
      have hf := hLv.ops
      cases k with
      | zero => rw [loopR] at hf; cases hf
      | succ k =>
        rw [loopR] at hf
        have HEND : Hid (leB lv (levR l st) = false → e = e1 ∧ s' = st) := fun hl => by
          rw [if_neg (by rw [hl]; decide)] at hf
          cases hf
          exact ⟨rfl, rfl⟩
        by_cases he : st.err = none
        · have k3 := hLv.pa.code0 he
          have HNX := Lib.hid (nxt_lit HI.out hLv.pa kSign)
          rw [show mkB kSign = ⟨#[115, 105, 103, 110]⟩ from rfl] at HNX
          have HLO : Hid (∀ w', Calls Tryz.prog 65 #[.string (mkB (nxtP l st kSign))] w' (fun e w2 => e = .returned (.int .i64 (levI (nxtP l st kSign))) ∧ w2 = w')) := fun w' => levelof_any _ w'
          have hlx := lev_nxt (l := l) (s := st)
          by_cases hlb : leB lv (levR l st) = true
          · obtain ⟨-, t, kk, htk, hkd, hln, hlr, hle, hpl⟩ := lev_some hlb
            rw [hlr] at hlx
            simp only at hlx
            rw [hlx] at HLO
            rw [if_pos hlb, hlr] at hf
            simp only [Option.getD_some] at hf
            have hkk := lev_le hlr
            have hks : (t.kind == kSign) = true := by rw [hkd]; exact beq_self_eq_true _
            have hnx : nxtP l st kSign = t.text := by unfold nxtP txtP ofB; rw [he, htk]; simp [hks]
            have htx : txtP l st = t.text := by unfold txtP; rw [htk]; rfl
            rw [hnx] at HNX HLO
            rw [htx] at hf
            cases hx : exprR l k (kk + 1) st.step with
            | none => rw [hx] at hf; cases hf
            | some p =>
              obtain ⟨r, s1⟩ := p
              rw [hx] at hf
              have hf2 : loopR l k lv ⟨yTwo, 0, t.text, [e1, r]⟩ s1 = some (e, s') := hf
              have hstk : PStOk l st.step := HLV2.out.ok.went (went_step hpl he)
              have hwe := (went_exprR l k).expr (kk + 1) _ r s1 hstk.hi hx
              have hs1 := hstk.went hwe
              have hkn : k ≤ n := by have := HLV2.out.le; omega
              have HEX : Hid (∀ w', RaAt l pb A c w0 st.step w' → Calls Tryz.prog 50 #[.pointer (some ⟨pb, 0, none⟩), .int .i64 ((kk : Int) + 1)] w' (RxPost l pb A c w0 r s1 w')) := fun w' hw => (HIH.out k hkn).expr (kk + 1) st.step r s1 w' (by omega) hstk hx hw
              have HF2 : Hid (loopR l k lv ⟨yTwo, 0, t.text, [e1, r]⟩ s1 = some (e, s') ∧ PStOk l s1 ∧ k ≤ n ∧ st.pos < s1.pos ∧ st.pos < l.length) := And.intro hf2 (And.intro hs1 (And.intro hkn (And.intro (by have := hwe.lo; exact this) hpl)))
              have hdl : decide (kk < lv) = false := by simpa using hle
              have hlen := HLN.out
              have hwp : IntKind.i64.wrap ((st.pos : Int) + 1) = (st.pos : Int) + 1 := IntWalk.i64_in _ (by omega)
              have hwk : IntKind.i64.wrap ((kk : Int) + 1) = (kk : Int) + 1 := IntWalk.i64_in _ (by omega)
              have hpi : (st.pos : Int) ≤ 100000 := by omega
              have hki : (kk : Int) ≤ 8 := by omega
              obtain ⟨-, c1, -, -, -⟩ := hLv.pa.cells
              have z1 := hLv.pa.frozen 1
              clear hks hf hf2 hx hstk hwe hs1 hkn hpl hle hkk hnx htx hlr hln hkd htk hlb hlx hLv he HEND
              go_upto_region 6 with (first
                | (go_at_call 35; (with_reducible refine HNX.out.mono ?_); rintro y w2 ⟨rfl, n2, rfl⟩; have d1 : (wr.drewN n2).cell? ⟨pb, 1, none⟩ = some (.int .i64 (st.pos : Nat)) := c1; have dz : (wr.drewN n2).frozen? ⟨pb, 1, none⟩ = false := z1)
                | (go_at_call 65; (with_reducible refine (HLO.out _).mono ?_); rintro y w2 ⟨rfl, rfl⟩))
              go_upto_region 7 with fail
              obtain ⟨w3, hw3⟩ : ∃ w3, (wr.drewN n2).setCell ⟨pb, 1, none⟩ (.int .i64 ((st.pos : Int) + 1)) = w3 := ⟨_, rfl⟩
              have h3 : RaAt l pb A c w0 st.step w3 := by rw [← hw3]; exact (HLV2.out.pa.drewN n2).setPos (st.pos + 1)
              have hb3 : But pb wr w3 := by rw [← hw3]; exact ((But.refl pb wr).drewN n2).set 1 _
              have hv3 := hb3.row HLV2.out.row hne
              have H3 := Lib.hid (And.intro h3 (And.intro hb3 hv3))
              rw [hw3]
              clear hw3 h3 hb3 hv3 c1 z1 d1 dz
              go_upto_region 8 with (go_at_call 50; (with_reducible refine (HEX.out _ H3.out.1).mono ?_); rintro y w4 ⟨D, g, rfl, hD, hM, h4, hb4⟩; rw [show exV r D g = .agg #[.string (mkB r.kind), .int .i64 r.num, .string (mkB r.name), .slice D r.kids.length g] from rfl]; have hv4 := hb4.row H3.out.2.2 hne; have H4 := Lib.hid (And.intro hD (And.intro hM (And.intro h4 (And.intro hb4 hv4)))); clear hD hM h4 hb4 hv4)
              have hvl : vb < w4.heap.size := (Array.getElem?_eq_some_iff.1 H4.out.2.2.2.2).1
              have hv5 : (w4.alloc (.cells #[.string (mkB r.kind), .int .i64 r.num, .string (mkB r.name), .slice D r.kids.length g] 88)).heap[vb]? = some (.cells #[.string (mkB e1.kind), .int .i64 e1.num, .string (mkB e1.name), .slice B e1.kids.length d] 88 (0, 0)) := (old_block _ _ hvl).trans H4.out.2.2.2.2
              have hv6 : ((w4.alloc (.cells #[.string (mkB r.kind), .int .i64 r.num, .string (mkB r.name), .slice D r.kids.length g] 88)).alloc (.cells #[.string (mkB e1.kind), .int .i64 e1.num, .string (mkB e1.name), .slice B e1.kids.length d, .string (mkB r.kind), .int .i64 r.num, .string (mkB r.name), .slice D r.kids.length g] 88)).heap[vb]? = some (.cells #[.string (mkB e1.kind), .int .i64 e1.num, .string (mkB e1.name), .slice B e1.kids.length d] 88 (0, 0)) := (old_block _ _ (by simp; omega)).trans hv5
              obtain ⟨f0, f1, f2, f3⟩ := row4T hv5
              obtain ⟨j0, j1, j2, j3⟩ := row4T hv6
              have y0 := row_frozen hv6 0
              have y1 := row_frozen hv6 1
              have y2 := row_frozen hv6 2
              have y3 := row_frozen hv6 3
              have HV := Lib.hid (And.intro hvl (And.intro hv5 hv6))
              clear hvl hv5 hv6
              go_wp2_with fail
              have HNX2 := Lib.hid (LrAt.next (x := t.text) (w3 := w3) (g := g) HLV2.out hne HVB.out.2 (by have := HPL.out.1; have := HPL.out.2.2; omega) (by have := HPL.out.2.1; have := HPL.out.2.2; have := HVB.out.2; omega) H3.out.2.1 H4.out.1 H4.out.2.1 H4.out.2.2.1 H4.out.2.2.2.1 HF2.out.2.2.1 HF2.out.1 HF2.out.2.1)
              go_roundw
              case rel => exact ⟨_, _, _, _, _, HNX2.out⟩
              case measure =>
                have h1 := HNX2.out.pa.pos
                have h2 := HF2.out.2.2.2
                unfold boxE boxE2 at h1
                rw [h1, HPOS.out]
                omega
          · have hlf : leB lv (levR l st) = false := by simpa using hlb
            have HE := Lib.hid (HEND.out hlf)
            have hlt : ∃ z : Int, levI (nxtP l st kSign) = z ∧ decide (z < (lv : Int)) = true ∧ -1 ≤ z ∧ z ≤ 8 := by
              refine ⟨_, rfl, ?_⟩
              rw [hlx]
              cases hq : levR l st with
              | none => simp; omega
              | some kk =>
                rw [hq] at hlf
                have hk := lev_le hq
                simp [leB] at hlf ⊢
                omega
            obtain ⟨z, hz, hz1, hz2, hz3⟩ := hlt
            rw [hz] at HLO
            obtain ⟨xk, hxk⟩ : ∃ xk, mkB (nxtP l st kSign) = xk := ⟨_, rfl⟩
            rw [hxk] at HNX HLO
            clear hf hlb hlf hlx hz hLv he HEND hxk
            go_upto_region 9 with (first
              | (go_at_call 35; (with_reducible refine HNX.out.mono ?_); rintro y w2 ⟨rfl, n2, rfl⟩)
              | (go_at_call 65; (with_reducible refine (HLO.out _).mono ?_); rintro y w2 ⟨rfl, rfl⟩))
            have hq := HLV2.out.drewN n2
            obtain ⟨rfl, rfl⟩ := HE.out
            have hr9 := HR.out _ hq.but
            have hv9 := hq.row
            have HZ := Lib.hid (And.intro hq.pa (And.intro hq.but (And.intro hr9 (And.intro hq.kids hq.num))))
            obtain ⟨q0, q1, q2, q3⟩ := row4T hv9
            obtain ⟨r0, r1, r2, r3⟩ := row4T hr9
            have y0 := row_frozen hr9 0
            have y1 := row_frozen hr9 1
            have y2 := row_frozen hr9 2
            have y3 := row_frozen hr9 3
            clear hv9 hr9 hq
            go_wp2_with fail
            obtain ⟨u0, u1, u2, u3⟩ := row4T (set4T (v0 := .string (mkB e.kind)) (v1 := .int .i64 e.num) (v2 := .string (mkB e.name)) (v3 := .slice B e.kids.length d) HZ.out.2.2.1)
            refine bodyPost_ret (v := exV e B d) (by simp [results, Tryz.results50, go_sem, u0, u1, u2, u3]; try rfl) rfl ?_
            rw [← HQ.out]
            exact rx_end (B := B) (d := d) HBA.out HWA.out.2 HZ.out.2.1 HZ.out.2.2.1 HPL.out.2.1 HZ.out.2.2.2.1 (fun n hn => by have h1 : wA.heap.size ≤ n := hn.1; have := HPL.out.2.2; omega) HZ.out.2.2.2.2 HZ.out.1
        · have hlf : leB lv (levR l st) = false := by rw [levR_err he]; rfl
          have HE := Lib.hid (HEND.out hlf)
          obtain ⟨zz, hzz, k3⟩ := hLv.pa.code1 he
          have hzi : (1 : Int) ≤ (zz : Int) := by omega
          clear hf hlf hLv he HEND
          go_upto_region 9 with fail
          have hq := HLV2.out
          obtain ⟨rfl, rfl⟩ := HE.out
          have hr9 := HR.out _ hq.but
          have hv9 := hq.row
          have HZ := Lib.hid (And.intro hq.pa (And.intro hq.but (And.intro hr9 (And.intro hq.kids hq.num))))
          obtain ⟨q0, q1, q2, q3⟩ := row4T hv9
          obtain ⟨r0, r1, r2, r3⟩ := row4T hr9
          have y0 := row_frozen hr9 0
          have y1 := row_frozen hr9 1
          have y2 := row_frozen hr9 2
          have y3 := row_frozen hr9 3
          clear hv9 hr9 hq
          go_wp2_with fail
          obtain ⟨u0, u1, u2, u3⟩ := row4T (set4T (v0 := .string (mkB e.kind)) (v1 := .int .i64 e.num) (v2 := .string (mkB e.name)) (v3 := .slice B e.kids.length d) HZ.out.2.2.1)
          refine bodyPost_ret (v := exV e B d) (by simp [results, Tryz.results50, go_sem, u0, u1, u2, u3]; try rfl) rfl ?_
          rw [← HQ.out]
          exact rx_end (B := B) (d := d) HBA.out HWA.out.2 HZ.out.2.1 HZ.out.2.2.1 HPL.out.2.1 HZ.out.2.2.2.1 (fun n hn => by have h1 : wA.heap.size ≤ n := hn.1; have := HPL.out.2.2; omega) HZ.out.2.2.2.2 HZ.out.1
end
end Go.Proofs.YtpfgimohginbdaaGreatDoor
