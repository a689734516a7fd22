import Derived.Deep.CutBlock
import Derived.Deep.DeepCutAuto
import Derived.Deep.AppendLies
import Derived.Test.YtpfgimohginbdaaGreatDoorBn41
import Derived.Test.YtpfgimohginbdaaGreatDoorBn33
import Derived.Test.YtpfgimohginbdaaGreatDoorBn35
import Derived.Test.YtpfgimohginbdaaGreatDoorBn11
import Derived.Test.YtpfgimohginbdaaGreatDoorBn4
set_option linter.unusedVariables false
set_option linter.unusedSimpArgs false
namespace Go.Proofs.YtpfgimohginbdaaGreatDoor
open Go.RowKit

/-! the reference's parser: functions -/
theorem funInfoQ : (Tryz.prog.info? 70).map (fun i => (i.zero, i.size, i.bytes)) = some (some (.agg #[.string ⟨#[]⟩, .slice none 0 0, .slice none 0 0]), 3, 64) := by kernel_rfl
def faultQ (z : Int) (p : Int) : Value := .agg #[.int .i64 z, .int .i64 p]
theorem fine_q (w : World) : Calls Tryz.prog 17 #[] w (Ret (faultQ 0 (-1)) w) := by
  unfold faultQ
  go_enter Tryz.func17, Tryz.ntmps17
  go_wp2_with fail
  go_returns
  exact ⟨rfl, (Below.refl _ _).alloc (Nat.le_refl _) _⟩
/-- What the reference's parser answers. -/
def ParseOfPost (l : List Tok) (w : World) : Ending → World → Prop := fun y w' =>
  Below w.heap.size w w' ∧ ((∃ B d, (parseQ l).2.err = none ∧ y = .returned (.tuple #[.slice B (parseQ l).1.length d, faultQ 0 (-1)]) ∧ RdF w' (newA w) (parseQ l).1 B) ∨
    (∃ z p : Nat, (parseQ l).2.err = some (z, p) ∧ 1 ≤ z ∧ z ≤ 10 ∧ y = .returned (.tuple #[.slice none 0 0, faultQ z p])))
theorem fc_keep : ∀ (w w' : World) (S S' : Nat → Prop) (t : FC), KeepsIn S w w' → (∀ n, S n → S' n) → t.Ok w S → t.Ok w' S' := fun _ _ _ _ _ k h o => o.keep k h
theorem fc_lt : ∀ (w : World) (S : Nat → Prop) (t : FC), t.Ok w S → t.Ok w (fun n => S n ∧ n < w.heap.size) := fun _ _ _ o => o.lt
/-- A row of functions that the call makes. -/
def RowFn (base : Nat) (ks : List PFun) (v : Value) (w : World) : Prop := ∃ ts : List FC, w.ownsRow base 70 3 v ks.length (ts.flatMap FC.cells) ∧ ts.map (·.f) = ks ∧ ∀ t ∈ ts, t.Ok w (Apart base v)
section
variable {l : List Tok} {pb : Nat} {A : Option Addr} {c : Nat} {w0 : World} {s s' s1 : PSt} {w w' w1 : World}
theorem RowFn.read {base : Nat} {ks : List PFun} {v : Value} (h : RowFn base ks v w) : ∃ B d, v = .slice B ks.length d ∧ RdF w (fun n => base ≤ n) ks B := by
  obtain ⟨ts, h1, h2, h3⟩ := h
  subst h2
  rw [List.length_map] at h1
  obtain ⟨B, d, hv, hr⟩ := FC.row h1 h3
  exact ⟨B, d, by rw [List.length_map]; exact hv, hr⟩
/-- What stands at the head of the loop over functions. -/
structure QrAt (l : List Tok) (pb : Nat) (A : Option Addr) (c : Nat) (w0 wS : World) (es : List PFun) (s' : PSt) (k : Nat) (fs : List PFun) (st : PSt) (v : Value) (w : World) : Prop where
  run : parseR l k fs st = some (es, s')
  ok : PStOk l st
  pa : RaAt l pb A c w0 st w
  but : But pb wS w
  row : RowFn wS.heap.size fs v w
  cnt : fs.length ≤ st.pos + 1
  cnt0 : st.err = none → fs.length ≤ st.pos
/-- A function's block under way: its name, its parameters so far. -/
structure RnAt (l : List Tok) (pb : Nat) (A : Option Addr) (c : Nat) (w0 wE : World) (fb : Nat) (nm : List UInt8) (ps : List (List UInt8)) (s : PSt) (w : World) : Prop where
  but : But2 pb fb wE w
  pa : RaAt l pb A c w0 s w
  row : ∃ vP : Value, w.heap[fb]? = some (.cells #[.string (mkB nm), vP, .slice none 0 0] 70 (0, 0)) ∧ w.ownsRow wE.heap.size 9 1 vP ps.length (ps.map tmV)
variable {wE : World} {fb : Nat} {nm : List UInt8} {ps : List (List UInt8)}
theorem RnAt.then (h : RnAt l pb A c w0 wE fb nm ps s w) (hpa : RaAt l pb A c w0 s' w') (hb : But pb w w') (hpe : pb < wE.heap.size) (hne : fb ≠ pb) : RnAt l pb A c w0 wE fb nm ps s' w' := by
  obtain ⟨vP, h1, h2⟩ := h.row
  exact ⟨h.but.then hb, hpa, vP, hb.row h1 hne, hb.own2 h2 hpe⟩
theorem RnAt.push {w4 w9 : World} {x : List UInt8} {vP v' : Value} {o : Obj} (hbut : But2 pb fb wE w) (hown : w.ownsRow wE.heap.size 9 1 vP ps.length (ps.map tmV)) (hb5 : But pb w w4) (hpa : RaAt l pb A c w0 s1 w4) (hr4 : w4.heap[fb]? = some (.cells #[.string (mkB nm), vP, .slice none 0 0] 70 (0, 0))) (hpe : pb < wE.heap.size) (hee : fb < wE.heap.size) (hne : fb ≠ pb) (hle : w0.heap.size ≤ fb)
    (hown9 : w9.ownsRow wE.heap.size 9 1 v' (ps.length + 1) (ps.map tmV ++ [.string (mkB x)])) (hgrow : (w4.alloc o).grownBy w9 vP.ownBlock) :
    w9.heap[fb]? = some (.cells #[.string (mkB nm), vP, .slice none 0 0] 70 (0, 0)) ∧ RnAt l pb A c w0 wE fb nm (ps ++ [x]) s1 (w9.setCell ⟨fb, 1, none⟩ v') := by
  have hsw := hbut.size
  have hs4 := hb5.size
  have hz : (w4.alloc o).heap.size = w4.heap.size + 1 := by simp
  have hgs := hgrow.size
  have hown4 : w4.ownsRow wE.heap.size 9 1 vP ps.length (ps.map tmV) := hb5.own2 hown hpe
  have hlow : ∀ k, vP.ownBlock = some k → wE.heap.size ≤ k ∧ k < w4.heap.size := fun k hk => ownS_lt hown4 hk
  have hfar : ∀ k, k < w4.heap.size → vP.ownBlock ≠ some k → w9.heap[k]? = w4.heap[k]? := fun k hk hkn => (hgrow.block k (by omega) (fun e => hkn e.symm)).trans (old_block _ _ hk)
  have hw0 := hpa.under
  have hpl := hpa.lt
  have hr9 := (hfar fb (by omega) (fun e => by have := (hlow _ e).1; omega)).trans hr4
  have hpa9 : RaAt l pb A c w0 s1 w9 := hpa.move ⟨hgrow.os, hgrow.tape, hgrow.output, by omega⟩ (hfar pb hpl fun e => by have := (hlow _ e).1; omega) (fun i hi => hfar i (by omega) (fun e => by have := (hlow _ e).1; have := hpa.lo; omega))
  have hb9 : But2 pb fb wE w9 := ⟨hgrow.os.trans (hb5.os.trans hbut.os), hgrow.tape.trans (hb5.tape.trans hbut.tape), hgrow.output.trans (hb5.output.trans hbut.output), by omega, fun k hk h1 h2 => (hfar k (by omega) (fun e => by have := (hlow _ e).1; omega)).trans ((hb5.block k (by omega) h1).trans (hbut.block k hk h1 h2))⟩
  refine ⟨hr9, ⟨hb9.os, hb9.tape, hb9.output, by have := hb9.size; simpa using this, fun k hk h1 h2 => (Below.heap_setCell _ _ _ _ h2).trans (hb9.block k hk h1 h2)⟩, hpa9.other hr9 (by decide) hle, _, row_set (j := 1) _ hr9 rfl, ?_⟩
  rw [List.length_append, List.length_singleton, List.map_append, List.map_cons, List.map_nil]
  refine ownS_same hown9 fun k hk => Below.heap_setCell _ _ _ _ ?_
  have := (ownS_lt hown9 hk).1
  show k ≠ fb
  omega
/-- What stands at the head of the loop over parameters. -/
structure NmAt (l : List Tok) (pb : Nat) (A : Option Addr) (c : Nat) (w0 wE : World) (fb : Nat) (nm : List UInt8) (es : List (List UInt8)) (s' : PSt) (k : Nat) (ps : List (List UInt8)) (st : PSt) (w : World) : Prop where
  run : namesR l k ps st = some (es, s')
  ok : PStOk l st
  at_ : RnAt l pb A c w0 wE fb nm ps st w
  cnt : ps.length ≤ st.pos + 1
/-- Behind the body. -/
theorem rfun_fin {wr w4 w6 : World} {bd : List PStmt} {B : Option Addr} {d : Nat} {vP : Value} (hb4 : But pb wr w4) (h6 : RnAt l pb A c w0 w4 fb nm ps s' w6) (hrow6 : w6.heap[fb]? = some (.cells #[.string (mkB nm), vP, .slice none 0 0] 70 (0, 0))) (hown : w6.ownsRow w4.heap.size 9 1 vP ps.length (ps.map tmV)) (hB : RdS w6 (fun n => w4.heap.size ≤ n) bd B) (hfa : wr.heap.size ≤ fb) (hlt : fb < w4.heap.size) (hw0 : w0.heap.size ≤ fb) :
    ∃ P cp, vP = .slice P ps.length cp ∧ (w6.setCell ⟨fb, 2, none⟩ (.slice B bd.length d)).heap[fb]? = some (.cells #[.string (mkB nm), .slice P ps.length cp, .slice B bd.length d] 70 (0, 0)) ∧ (FC.mk ⟨nm, ps, bd⟩ P cp B d).Ok (w6.setCell ⟨fb, 2, none⟩ (.slice B bd.length d)) (newA wr) ∧ RaAt l pb A c w0 s' (w6.setCell ⟨fb, 2, none⟩ (.slice B bd.length d)) ∧ But pb wr (w6.setCell ⟨fb, 2, none⟩ (.slice B bd.length d)) := by
  obtain ⟨P, cp, rfl, hT⟩ := texts_row hown
  have hst := h6.pa.other (j := 2) (u := .slice B bd.length d) hrow6 (by decide) hw0
  have hsz := hb4.size
  have hb6 : But pb wr w6 := ⟨h6.but.os.trans hb4.os, h6.but.tape.trans hb4.tape, h6.but.output.trans hb4.output, Nat.le_trans hb4.size h6.but.size, fun k hk h1 => (h6.but.block k (Nat.lt_of_lt_of_le hk hb4.size) h1 (by omega)).trans (hb4.block k hk h1)⟩
  refine ⟨P, cp, rfl, row_set (j := 2) _ hrow6 rfl, ⟨fun i hi => ?_, hB.keep (keeps_store _ fun k hk => by have hk' : w4.heap.size ≤ k := hk; omega) fun k hk => by have hk' : w4.heap.size ≤ k := hk; show wr.heap.size ≤ k; omega⟩, hst, hb6.setHi hfa 2 _⟩
  obtain ⟨b, off, e, h1, h2⟩ := hT i hi
  exact ⟨b, off, e, by show wr.heap.size ≤ b; omega, (World.cell?_of_block (Below.heap_setCell _ _ _ _ (by show b ≠ fb; omega))).trans h2⟩
set_option maxHeartbeats 32000000 in
set_option maxRecDepth 100000 in
theorem ParseOf_any (I : RaIn l A w) (T : TkOk l) :
    Calls Tryz.prog 8 #[.slice A l.length c] w (ParseOfPost l w) := by
  have hlen := I.len
  obtain ⟨ti, hi, hz0, hz1, hz2⟩ := info_parts funInfoQ
  obtain ⟨i0, hi0, hy0, hy1, hy2⟩ := info_parts strInfoT
  obtain ⟨xb, hxb⟩ : ∃ xb, w.heap.size = xb := ⟨_, rfl⟩
  obtain ⟨wX, hwX⟩ : ∃ wX, w.alloc (.cells #[.int .i64 0, .int .i64 0] 25) = wX := ⟨_, rfl⟩
  have hbX : Below w.heap.size w wX := by rw [← hwX]; exact grow_alloc (grow_refl _) _
  have hmX : wX.heap[xb]? = some (.cells #[.int .i64 0, .int .i64 0] 25 (0, 0)) := by rw [← hwX, ← hxb]; exact heap_alloc_new w _
  have HFI : Hid (∀ w', Calls Tryz.prog 17 #[] w' (Ret (faultQ 0 (-1)) w')) := fun w' => fine_q w'
  have HWX := Lib.hid (And.intro hwX (And.intro hxb (And.intro hbX hmX)))
  obtain ⟨es, s1, hps⟩ : ∃ es s1, parseQ l = (es, s1) := ⟨_, _, rfl⟩
  have hru0 := parseQ_eq l
  rw [hps] at hru0
  have h0 : PStOk l s0P := ⟨Nat.zero_le _, Int.le_refl _, by decide, fun _ => by decide⟩
  have HRUN := Lib.hid (And.intro hru0 h0)
  have HI := Lib.hid (And.intro I T)
  obtain ⟨Q, hQ⟩ : ∃ Q, ParseOfPost l w = Q := ⟨_, rfl⟩
  have HQ := Lib.hid (And.intro hQ hps)
  rw [hQ]
  clear I T hwX hbX hmX hxb hru0 h0 hps hQ
  go_enter Tryz.func8, Tryz.ntmps8
  go_upto_region 1 with fail
  rw [HWX.out.1, HWX.out.2.1]
  go_upto_region 2 with (go_at_call 17; (with_reducible refine (HFI.out _).mono ?_); rintro y wF ⟨rfl, hbF⟩; have HBF := Lib.hid hbF; clear hbF; rw [show faultQ 0 (-1) = .agg #[.int .i64 0, .int .i64 (-1)] from rfl])
  obtain ⟨pb, hpb⟩ : ∃ pb, wF.heap.size = pb := ⟨_, rfl⟩
  obtain ⟨wS, hwS⟩ : ∃ wS, wF.alloc (.cells #[.slice A l.length c, .int .i64 0, .int .i64 0, .int .i64 0, .int .i64 (-1)] 65) = wS := ⟨_, rfl⟩
  have hbS1 : Below wF.heap.size wF wS := by rw [← hwS]; exact grow_alloc (grow_refl _) _
  have hmS : wS.heap[pb]? = some (.cells #[.slice A l.length c, .int .i64 0, .int .i64 0, .int .i64 0, .int .i64 (-1)] 65 (0, 0)) := by rw [← hwS, ← hpb]; exact heap_alloc_new wF _
  have hbS : Below w.heap.size w wS := grow_trans HWX.out.2.2.1 (grow_trans HBF.out hbS1)
  have hxF : xb < wF.heap.size := by have := HBF.out.size; have := (Array.getElem?_eq_some_iff.1 HWX.out.2.2.2).1; omega
  have hxS : wS.heap[xb]? = some (.cells #[.int .i64 0, .int .i64 0] 25 (0, 0)) := (hbS1.block _ hxF).trans ((HBF.out.block _ (Array.getElem?_eq_some_iff.1 HWX.out.2.2.2).1).trans HWX.out.2.2.2)
  have hS : RaAt l pb A c w s0P wS := ⟨hbS, by have := HWX.out.2.1; omega, fun p hp => (by cases hp), hmS⟩
  have hxp : xb ≠ pb := by omega
  have HWS := Lib.hid (And.intro hS (And.intro hbS (And.intro hS.lt hS.lo)))
  have HXR : Hid (∀ w', But pb wS w' → w'.heap[xb]? = some (.cells #[.int .i64 0, .int .i64 0] 25 (0, 0))) := fun w' hb => hb.row hxS hxp
  rw [hpb, hwS]
  clear hwS hpb hbS1 hmS hbS hxF hxS hS hxp
  go_upto_region 3 with fail
  go_loopw [5, 6, 7, 8] (fun v _ _ _ wr => ∃ k ks st, QrAt l pb A c w wS es s1 k ks st v wr) (fun _ _ _ _ wr => (l.length - posR pb wr) + errR pb wr)
  case atStart => exact ⟨_, [], _, HRUN.out.1, HRUN.out.2, HWS.out.1, But.refl _ _, ⟨[], World.ownsRow_nil _ _ _ _, rfl, fun t ht => absurd ht List.not_mem_nil⟩, by simp, fun _ => by simp⟩
  case round =>
    clear HRUN
    obtain ⟨k, ks, st, hK⟩ := hrel
    have HK := Lib.hid hK
    have HPOS := Lib.hid hK.pa.pos
    obtain ⟨c0, c1, -, -, -⟩ := hK.pa.cells
    have hru := hK.run
    obtain ⟨ts0, hown0, -, -⟩ := hK.row
    obtain ⟨AK, cK, hvK⟩ := owns_slice hown0
    subst hvK
    clear hown0 ts0
    cases k with
    | zero => rw [parseR] at hru; cases hru
    | succ k =>
      rw [parseR] at hru
      by_cases hse : st.err = none
      · have k3 := hK.pa.code0 hse
        by_cases hlt : st.pos < l.length
        · rw [if_pos (by rw [hse]; simpa using hlt)] at hru
          have q1 : (st.pos : Int) < (l.length : Int) := by omega
          cases hx : funR l k st with
          | none => rw [hx] at hru; cases hru
          | some p =>
            obtain ⟨x, s3⟩ := p
            rw [hx] at hru
            have hru2 : parseR l k (ks ++ [x]) s3 = some (es, s1) := hru
            have hav := fun_advR hK.ok.hi hx
            have hs3 := hK.ok.went hav.w
            obtain ⟨ts, hown, hmap, hets⟩ := hK.row
            have hkl : ks.length ≤ 100000 := by have := hK.cnt0 hse; have := hK.ok.hi; omega
            have hc0 := hK.cnt0 hse
            have HRW := Lib.hid (And.intro hown (And.intro hmap hets))
            have HAV := Lib.hid (And.intro hav hs3)
            have HN2 : Hid (∀ v w', RaAt l pb A c w s3 w' → But pb wS w' → RowFn wS.heap.size (ks ++ [x]) v w' → QrAt l pb A c w wS es s1 k (ks ++ [x]) s3 v w') := fun v w' h1 h2 h3 =>
              ⟨hru2, hs3, h1, h2, h3, by rw [List.length_append, List.length_singleton]; have := hav.w.lo; omega, fun e => by rw [List.length_append, List.length_singleton]; have := hav.adv e; omega⟩
            have HER := Lib.hid (hK.pa.errN hse)
            have HPA := Lib.hid (And.intro hK.pa hK.but)
            have hok1 := hK.ok.went (takeP_went (x := zFn) hK.ok.hi)
            have HM1 : Hid (∀ w', RaAt l pb A c w st w' → Calls Tryz.prog 19 #[.pointer (some ⟨pb, 0, none⟩), .string ⟨#[102, 110]⟩] w' (RaRet l pb A c w (.tuple #[]) (takeP l zFn st) w')) := fun w' hw => rmust_any HI.out.1 hw hK.ok.hi (x := zFn) (by decide)
            obtain ⟨nm, s5, hof⟩ : ∃ nm s5, ofP l kName (takeP l zFn st) = (nm, s5) := ⟨_, _, rfl⟩
            have hok5 : PStOk l s5 := hok1.went (by have := ofP_went (x := kName) hok1.hi; rw [hof] at this; exact this)
            have HNM : Hid (∀ w', RaAt l pb A c w (takeP l zFn st) w' → Calls Tryz.prog 20 #[.pointer (some ⟨pb, 0, none⟩)] w' (RaRet l pb A c w (.string (mkB nm)) s5 w')) := fun w' hw => by
              have := rname_any HI.out.1 HI.out.2.nam hw hok1.hi
              rw [hof] at this
              exact this
            have HM2 : Hid (∀ w', RaAt l pb A c w s5 w' → Calls Tryz.prog 19 #[.pointer (some ⟨pb, 0, none⟩), .string ⟨#[40]⟩] w' (RaRet l pb A c w (.tuple #[]) (takeP l [40] s5) w')) := fun w' hw => rmust_any HI.out.1 hw hok5.hi (x := [40]) (by decide)
            have hok6 := hok5.went (takeP_went (x := [40]) hok5.hi)
            have hhd : headP l st = (nm, takeP l [40] s5) := by unfold headP; rw [hof]
            obtain ⟨s6, hs6⟩ : ∃ s6, takeP l [40] s5 = s6 := ⟨_, rfl⟩
            rw [hs6] at HM2 hok6 hhd
            unfold funR at hx
            rw [hhd] at hx
            dsimp only at hx
            cases hq : paramsR l k s6 with
            | none => rw [hq] at hx; cases hx
            | some p =>
              obtain ⟨ps, s7⟩ := p
              rw [hq] at hx
              dsimp only at hx
              have hok7 := hok6.went (params_wentR hok6.hi hq)
              cases hy : blockR l k s7 with
              | none => rw [hy] at hx; cases hx
              | some p =>
                obtain ⟨bd, s8⟩ := p
                rw [hy] at hx
                have hxs : x = ⟨nm, ps, bd⟩ ∧ s3 = s8 := by cases hx; exact ⟨rfl, rfl⟩
                obtain ⟨rfl, rfl⟩ := hxs
                have HBL : Hid (∀ w', RaAt l pb A c w s7 w' → Calls Tryz.prog 22 #[.pointer (some ⟨pb, 0, none⟩)] w' (RbPost l pb A c w bd s3 w')) := fun w' hw => rblock_any HI.out.1 HI.out.2 hok7 hy hw
                have HQ6 := Lib.hid (And.intro hq hok6)
                clear hx hq hy hhd hs6 hok7 hok6 hok5 hok1 hof hru hru2 hav hs3 hown hmap hets hK hse hlt hc0
                go_upto_region 6 with (first
                  | (go_at_call 19; (with_reducible refine (HM1.out _ HPA.out.1).mono ?_); rintro y w2 ⟨rfl, h2, hb2⟩; have H2 := Lib.hid (And.intro h2 hb2); clear h2 hb2)
                  | (go_at_call 20; (with_reducible refine (HNM.out _ H2.out.1).mono ?_); rintro y w3 ⟨rfl, h3, hb3⟩; have H3 := Lib.hid (And.intro h3 (H2.out.2.trans hb3)); clear h3 hb3))
                obtain ⟨fb, hfb⟩ : ∃ fb, w3.heap.size = fb := ⟨_, rfl⟩
                obtain ⟨w4, hw4⟩ : ∃ w4, w3.alloc (.cells #[.string (mkB nm), .slice none 0 0, .slice none 0 0] 70) = w4 := ⟨_, rfl⟩
                have hb34 : Below w3.heap.size w3 w4 := by rw [← hw4]; exact grow_alloc (grow_refl _) _
                have hm4 : w4.heap[fb]? = some (.cells #[.string (mkB nm), .slice none 0 0, .slice none 0 0] 70 (0, 0)) := by rw [← hw4, ← hfb]; exact heap_alloc_new w3 _
                have h4 := H3.out.1.keep hb34
                have hb4 : But pb wr w4 := H3.out.2.trans (But.of_below hb34)
                have hfl : fb < w4.heap.size := (Array.getElem?_eq_some_iff.1 hm4).1
                have hpf : pb < fb := by have := H3.out.1.lt; omega
                have hrf : wr.heap.size ≤ fb := by have := H3.out.2.size; omega
                have H4 := Lib.hid (And.intro h4 (And.intro hb4 (And.intro hm4 (And.intro hpf hrf))))
                have HEB : Hid (pb < w4.heap.size ∧ fb < w4.heap.size ∧ fb ≠ pb ∧ w.heap.size ≤ fb) := ⟨by omega, hfl, by omega, by have := HWS.out.2.2.2; omega⟩
                rw [hfb, hw4]
                clear hfb hw4 hb34 hm4 h4 hb4 hfl hpf hrf
                go_upto_region 7 with (go_at_call 19; (with_reducible refine (HM2.out _ H4.out.1).mono ?_); rintro y w5 ⟨rfl, h5, hb5⟩; have HR5 : Hid (RnAt l pb A c w w4 fb nm [] s6 w5) := (show RnAt l pb A c w w4 fb nm [] s6 w5 from ⟨(But2.refl pb fb w4).then hb5, h5, .slice none 0 0, hb5.row H4.out.2.2.1 HEB.out.2.2.1, World.ownsRow_nil _ _ _ _⟩); clear h5 hb5)
                obtain ⟨b7, sz, hD⟩ : ∃ (b7 : Bool) (sz : PSt), (s6.err ≠ none ∧ b7 = false ∧ sz = s6 ∧ ps = [] ∧ s7 = sz) ∨ (s6.err = none ∧ isP l s6 [41] = true ∧ b7 = false ∧ sz = s6.step ∧ ps = [] ∧ s7 = sz) ∨ (s6.err = none ∧ isP l s6 [41] = false ∧ b7 = true ∧ sz = s6 ∧ namesR l k [] s6 = some (ps, s7)) := by
                  have hq := HQ6.out.1
                  unfold paramsR at hq
                  by_cases he6 : s6.err = none
                  · rw [if_pos (by rw [he6]; rfl)] at hq
                    cases hg6 : isP l s6 [41]
                    · rw [hg6, if_neg (by decide)] at hq
                      exact ⟨true, s6, .inr (.inr ⟨he6, rfl, rfl, rfl, hq⟩)⟩
                    · rw [hg6, if_pos rfl] at hq
                      exact ⟨false, s6.step, .inr (.inl ⟨he6, rfl, rfl, rfl, by cases hq; exact ⟨rfl, rfl⟩⟩)⟩
                  · rw [if_neg (fun q => he6 (none_of q))] at hq
                    exact ⟨false, s6, .inl ⟨he6, rfl, rfl, by cases hq; exact ⟨rfl, rfl⟩⟩⟩
                have HD := Lib.hid hD
                clear hD
                go_cut [45] from 13 to 71 (fun v wx => v = .bool b7 ∧ RnAt l pb A c w w4 fb nm [] sz wx)
                case first =>
                  rcases HD.out with ⟨he6, hb7, hsz, -, -⟩ | ⟨he6, hg6, hb7, hsz, -, -⟩ | ⟨he6, hg6, hb7, hsz, -⟩
                  · have HE6 := Lib.hid (And.intro hb7 hsz)
                    obtain ⟨zz, hzz, k5⟩ := HR5.out.pa.code1 he6
                    have hzi : (1 : Int) ≤ (zz : Int) := by omega
                    clear he6 hb7 hsz
                    go_wp2_with fail
                    go_meet
                    rw [HE6.out.1, HE6.out.2]
                    exact ⟨rfl, HR5.out⟩
                  · have k5 := HR5.out.pa.code0 he6
                    have HE6 := Lib.hid (And.intro hb7 hsz)
                    have HEA6 : Hid (∀ w', RaAt l pb A c w s6 w' → Calls Tryz.prog 21 #[.pointer (some ⟨pb, 0, none⟩), .string ⟨#[41]⟩] w' (RaRet l pb A c w (.bool true) s6.step w')) := fun w' hw => reat_lit HI.out.1 hw HQ6.out.2.hi (x := [41]) (by decide) hg6
                    clear he6 hg6 hb7 hsz
                    go_wp2_with (go_at_call 21; (with_reducible refine (HEA6.out _ HR5.out.pa).mono ?_); rintro y w6 ⟨rfl, h6, hb6⟩; have HR6 := Lib.hid (HR5.out.then h6 hb6 HEB.out.1 HEB.out.2.2.1); clear h6 hb6)
                    go_meet
                    rw [HE6.out.1, HE6.out.2]
                    exact ⟨rfl, HR6.out⟩
                  · have k5 := HR5.out.pa.code0 he6
                    have HE6 := Lib.hid (And.intro hb7 hsz)
                    have HEA6 : Hid (∀ w', RaAt l pb A c w s6 w' → Calls Tryz.prog 21 #[.pointer (some ⟨pb, 0, none⟩), .string ⟨#[41]⟩] w' (RaRet l pb A c w (.bool false) s6 w')) := fun w' hw => reat_lit HI.out.1 hw HQ6.out.2.hi (x := [41]) (by decide) hg6
                    clear he6 hg6 hb7 hsz
                    go_wp2_with (go_at_call 21; (with_reducible refine (HEA6.out _ HR5.out.pa).mono ?_); rintro y w6 ⟨rfl, h6, hb6⟩; have HR6 := Lib.hid (HR5.out.then h6 hb6 HEB.out.1 HEB.out.2.2.1); clear h6 hb6)
                    go_meet
                    rw [HE6.out.1, HE6.out.2]
                    exact ⟨rfl, HR6.out⟩
                case rest =>
                obtain ⟨rfl, hcut⟩ := hcut
                rename_i wb
                have HR6 := Lib.hid hcut
                clear hcut HR5
                go_upto_if 45 with fail
                go_cut [7] from 13 to 71 (fun _ wx => RnAt l pb A c w w4 fb nm ps s7 wx)
                case first =>
                  have hD := HD.out
                  cases b7
                  · have HE6 : Hid (ps = [] ∧ s7 = sz) := show _ ∧ _ by
                      rcases hD with ⟨-, -, -, h1, h2⟩ | ⟨-, -, -, -, h1, h2⟩ | ⟨-, -, h, -, -⟩
                      · exact ⟨h1, h2⟩
                      · exact ⟨h1, h2⟩
                      · cases h
                    clear hD
                    go_wp2_with fail
                    go_meet
                    rw [HE6.out.1, HE6.out.2]
                    exact HR6.out
                  · have hE6 : sz = s6 ∧ namesR l k [] s6 = some (ps, s7) := by
                      rcases hD with ⟨-, h, -, -, -⟩ | ⟨-, -, h, -, -, -⟩ | ⟨-, -, -, h1, h2⟩
                      · cases h
                      · cases h
                      · exact ⟨h1, h2⟩
                    have HQ7 := Lib.hid hE6.2
                    obtain rfl : sz = s6 := hE6.1
                    clear hD hE6
                    go_wp2_with fail
                    go_loopw [7] (fun _ wi => ∃ j qs sq, NmAt l pb A c w w4 fb nm ps s7 j qs sq wi) (fun _ wi => l.length - posR pb wi)
                    case atStart => exact ⟨k, [], sz, HQ7.out, HQ6.out.2, HR6.out, by simp⟩
                    case round =>
                      obtain ⟨j, qs, sq, hN⟩ := hrel
                      have HNQ := Lib.hid hN
                      have HPO2 := Lib.hid hN.at_.pa.pos
                      have hr := hN.run
                      cases j with
                      | zero => rw [namesR] at hr; cases hr
                      | succ j =>
                        rw [namesR] at hr
                        by_cases he : sq.err = none
                        · rw [if_pos (by rw [he]; rfl)] at hr
                          have k4 := hN.at_.pa.code0 he
                          obtain ⟨x1, s9, hof9⟩ : ∃ x1 s9, ofP l kName sq = (x1, s9) := ⟨_, _, rfl⟩
                          have hw9 : Went l sq s9 := by have := ofP_went (l := l) (x := kName) hN.ok.hi; rw [hof9] at this; exact this
                          have hok9 : PStOk l s9 := hN.ok.went hw9
                          rw [hof9] at hr
                          dsimp only at hr
                          have HNM2 : Hid (∀ w', RaAt l pb A c w sq w' → Calls Tryz.prog 20 #[.pointer (some ⟨pb, 0, none⟩)] w' (RaRet l pb A c w (.string (mkB x1)) s9 w')) := fun w' hw => by
                            have := rname_any HI.out.1 HI.out.2.nam hw hN.ok.hi
                            rw [hof9] at this
                            exact this
                          obtain ⟨vP, hrow9, hown9⟩ := hN.at_.row
                          obtain ⟨AP, cP, hvP⟩ := owns_slice hown9
                          subst hvP
                          have hqn := hN.cnt
                          have hqs : qs.length ≤ 100001 := by have := hN.ok.hi; omega
                          have HRQ := Lib.hid (And.intro hrow9 (And.intro hown9 hN.at_.but))
                          have HPQ := Lib.hid (And.intro hN.at_.pa hN.ok)
                          have HO0 := Lib.hid hof9
                          cases hg : isP l s9 [44]
                          · rw [hg, if_neg (by decide)] at hr
                            have HE9 : Hid (ps = qs ++ [x1] ∧ s7 = takeP l [41] s9) := show _ ∧ _ by cases hr; exact ⟨rfl, rfl⟩
                            have HEA : Hid (∀ w', RaAt l pb A c w s9 w' → Calls Tryz.prog 21 #[.pointer (some ⟨pb, 0, none⟩), .string ⟨#[44]⟩] w' (RaRet l pb A c w (.bool false) s9 w')) := fun w' hw => reat_lit HI.out.1 hw hok9.hi (x := [44]) (by decide) hg
                            have HMU : Hid (∀ w', RaAt l pb A c w s9 w' → Calls Tryz.prog 19 #[.pointer (some ⟨pb, 0, none⟩), .string ⟨#[41]⟩] w' (RaRet l pb A c w (.tuple #[]) (takeP l [41] s9) w')) := fun w' hw => rmust_any HI.out.1 hw hok9.hi (x := [41]) (by decide)
                            clear hr hg hok9 hrow9 hown9 hN he hof9 hw9 hqn
                            go_wp2_with (first
                              | (go_at_call 20; (with_reducible refine (HNM2.out _ HPQ.out.1).mono ?_); rintro y w8 ⟨rfl, h8, hb8⟩; have hr8 := hb8.row HRQ.out.1 HEB.out.2.2.1; have f1 := cell_of_row _ _ 1 _ _ _ hr8; have hO8 := hb8.own2 HRQ.out.2.1 HEB.out.1; have H8 := Lib.hid (And.intro h8 (And.intro hb8 hr8)); have HO9 := Lib.hid hO8; clear h8 hb8 hr8 hO8)
                              | (at_builtin; refine wpList_append_own_at _ rfl _ _ 43 rfl w4.heap.size 9 i0 _ 1 16 Tryz.underlying43 hi0 hy0 hy1 hy2 rfl (by decide) _ _ _ rfl (HO9.out.alloc _) ⟨w8.heap.size, 0, none⟩ 1 1 [.string (mkB x1)] rfl rfl ?c1 ?c2 ?c3 ?c4 ?c5 ?_))
                            case c1 =>
                              intro i u hu
                              match i, hu with
                              | 0, hu => simp at hu; subst hu; simp [Addr.add]
                            case c2 => intro u hu; simp at hu; rcases hu with rfl; rfl
                            case c3 => unfold maxLen; omega
                            case c4 => omega
                            case c5 => have := HRQ.out.2.2.size; have := H8.out.2.1.size; simp; omega
                            · intro v' w9 hown' hgrow _ hat
                              obtain ⟨A9, c9, hv9⟩ := owns_slice hown'
                              subst hv9
                              obtain ⟨hr9, hRN⟩ := RnAt.push HRQ.out.2.2 HRQ.out.2.1 H8.out.2.1 H8.out.1 H8.out.2.2 HEB.out.1 HEB.out.2.1 HEB.out.2.2.1 HEB.out.2.2.2 hown' hgrow
                              have k1 := cell_of_row _ _ 1 _ _ _ hr9
                              have y1 := row_frozen hr9 1
                              have HRN9 := Lib.hid hRN
                              clear hr9 hRN hown' hgrow hat
                              go_wp2_with (first
                                | (go_at_call 21; (with_reducible refine (HEA.out _ HRN9.out.pa).mono ?_); rintro y w10 ⟨rfl, h10, hb10⟩; have H10 := Lib.hid (And.intro h10 hb10); clear h10 hb10)
                                | (go_at_call 19; (with_reducible refine (HMU.out _ H10.out.1).mono ?_); rintro y w11 ⟨rfl, h11, hb11⟩; have H11 := Lib.hid (And.intro h11 hb11); clear h11 hb11))
                              go_meet
                              rw [HE9.out.1, HE9.out.2]
                              exact (HRN9.out.then H10.out.1 H10.out.2 HEB.out.1 HEB.out.2.2.1).then H11.out.1 H11.out.2 HEB.out.1 HEB.out.2.2.1
                          · rw [hg, if_pos rfl] at hr
                            obtain ⟨hse9, t9, -, -, hpl9, -⟩ := isP_some hg
                            have HEA : Hid (∀ w', RaAt l pb A c w s9 w' → Calls Tryz.prog 21 #[.pointer (some ⟨pb, 0, none⟩), .string ⟨#[44]⟩] w' (RaRet l pb A c w (.bool true) s9.step w')) := fun w' hw => reat_lit HI.out.1 hw hok9.hi (x := [44]) (by decide) hg
                            have HNX : Hid (∀ w', RnAt l pb A c w w4 fb nm (qs ++ [x1]) s9.step w' → NmAt l pb A c w w4 fb nm ps s7 j (qs ++ [x1]) s9.step w' ∧ sq.pos < s9.step.pos ∧ s9.step.pos ≤ l.length) := fun w' h1 =>
                              ⟨⟨hr, hok9.went (went_step hpl9 hse9), h1, by rw [List.length_append, List.length_singleton]; have := hw9.lo; show qs.length + 1 ≤ s9.pos + 1 + 1; omega⟩, by have := hw9.lo; show sq.pos < s9.pos + 1; omega, by show s9.pos + 1 ≤ _; omega⟩
                            clear hr hg hok9 hrow9 hown9 hN he hof9 hw9 hqn hse9 hpl9
                            go_wp2_with (first
                              | (go_at_call 20; (with_reducible refine (HNM2.out _ HPQ.out.1).mono ?_); rintro y w8 ⟨rfl, h8, hb8⟩; have hr8 := hb8.row HRQ.out.1 HEB.out.2.2.1; have f1 := cell_of_row _ _ 1 _ _ _ hr8; have hO8 := hb8.own2 HRQ.out.2.1 HEB.out.1; have H8 := Lib.hid (And.intro h8 (And.intro hb8 hr8)); have HO9 := Lib.hid hO8; clear h8 hb8 hr8 hO8)
                              | (at_builtin; refine wpList_append_own_at _ rfl _ _ 43 rfl w4.heap.size 9 i0 _ 1 16 Tryz.underlying43 hi0 hy0 hy1 hy2 rfl (by decide) _ _ _ rfl (HO9.out.alloc _) ⟨w8.heap.size, 0, none⟩ 1 1 [.string (mkB x1)] rfl rfl ?c1 ?c2 ?c3 ?c4 ?c5 ?_))
                            case c1 =>
                              intro i u hu
                              match i, hu with
                              | 0, hu => simp at hu; subst hu; simp [Addr.add]
                            case c2 => intro u hu; simp at hu; rcases hu with rfl; rfl
                            case c3 => unfold maxLen; omega
                            case c4 => omega
                            case c5 => have := HRQ.out.2.2.size; have := H8.out.2.1.size; simp; omega
                            · intro v' w9 hown' hgrow _ hat
                              obtain ⟨A9, c9, hv9⟩ := owns_slice hown'
                              subst hv9
                              obtain ⟨hr9, hRN⟩ := RnAt.push HRQ.out.2.2 HRQ.out.2.1 H8.out.2.1 H8.out.1 H8.out.2.2 HEB.out.1 HEB.out.2.1 HEB.out.2.2.1 HEB.out.2.2.2 hown' hgrow
                              have k1 := cell_of_row _ _ 1 _ _ _ hr9
                              have y1 := row_frozen hr9 1
                              have HRN9 := Lib.hid hRN
                              clear hr9 hRN hown' hgrow hat
                              go_wp2_with (go_at_call 21; (with_reducible refine (HEA.out _ HRN9.out.pa).mono ?_); rintro y w10 ⟨rfl, h10, hb10⟩; have H10 := Lib.hid (And.intro h10 hb10); clear h10 hb10)
                              have HNN := Lib.hid (HNX.out w10 (HRN9.out.then H10.out.1 H10.out.2 HEB.out.1 HEB.out.2.2.1))
                              go_roundw
                              case rel => exact ⟨j, _, _, HNN.out.1⟩
                              case measure =>
                                have h1 := H10.out.1.pos
                                have h2 := HNN.out.2
                                rw [h1, HPO2.out]
                                omega
                        · rw [if_neg (fun q => he (none_of q))] at hr
                          have HE9 : Hid (ps = qs ∧ s7 = sq) := show _ ∧ _ by cases hr; exact ⟨rfl, rfl⟩
                          obtain ⟨zz, hzz, k4⟩ := hN.at_.pa.code1 he
                          have hzi : (1 : Int) ≤ (zz : Int) := by omega
                          have HA9 := Lib.hid hN.at_
                          clear hr hN he
                          go_wp2_with fail
                          go_meet
                          rw [HE9.out.1, HE9.out.2]
                          exact HA9.out
                case rest =>
                  rename_i wc
                  have HC := Lib.hid hcut
                  clear hcut
                  go_upto_region 14 with (go_at_call 22; (with_reducible refine (HBL.out _ HC.out.pa).mono ?_); rintro y w6 ⟨B, d, rfl, hB, h6, hb6⟩; have HB6 := Lib.hid (And.intro hB (HC.out.then h6 hb6 HEB.out.1 HEB.out.2.2.1)); clear hB h6 hb6)
                  obtain ⟨vP, hrow6, hown6⟩ := HB6.out.2.row
                  obtain ⟨P, cp, hvP, h7a, h7b, h7c, h7d⟩ := rfun_fin (d := d) H4.out.2.1 HB6.out.2 hrow6 hown6 (HB6.out.1.keep (Keeps.in (Keeps.refl _) _) fun n hn => by have hn' : wc.heap.size ≤ n := hn; have := HC.out.but.size; omega) H4.out.2.2.2.2 HEB.out.2.1 HEB.out.2.2.2
                  subst hvP
                  obtain ⟨f0, f1, f2⟩ := row3T hrow6
                  have y2 := row_frozen hrow6 2
                  clear hrow6 hown6
                  go_upto_region 15 with fail
                  obtain ⟨w7, hw7⟩ : ∃ w7, w6.setCell ⟨fb, 2, none⟩ (.slice B bd.length d) = w7 := ⟨_, rfl⟩
                  rw [hw7] at h7a h7b h7c h7d
                  rw [hw7]
                  have hO7 := h7d.own2 HRW.out.1 (by have := HWS.out.2.2.1; exact this)
                  obtain ⟨e0, e1, e2⟩ := row3T h7a
                  have H7 := Lib.hid (And.intro h7b (And.intro h7c h7d))
                  have HO7 := Lib.hid hO7
                  clear hw7 h7a h7b h7c h7d hO7 f0 f1 f2 y2
                  go_wp2_with (at_builtin; refine wpList_append_own_at _ rfl _ _ 35 rfl wS.heap.size 70 ti _ 3 64 Tryz.underlying35 hi hz0 hz1 hz2 rfl (by decide) _ _ _ rfl (HO7.out.alloc _) ⟨w7.heap.size, 0, none⟩ 1 1 (funL ⟨nm, ps, bd⟩ P cp B d) rfl rfl ?c1 ?c2 ?c3 ?c4 ?c5 ?_)
                  case c1 =>
                    intro i u hu
                    match i, hu with
                    | 0, hu => simp [funL] at hu; subst hu; simp [Addr.add]
                    | 1, hu => simp [funL] at hu; subst hu; simp [Addr.add]
                    | 2, hu => simp [funL] at hu; subst hu; simp [Addr.add]
                  case c2 => intro u hu; simp [funL] at hu; rcases hu with rfl | rfl | rfl <;> rfl
                  case c3 => unfold maxLen; omega
                  case c4 => omega
                  case c5 => have := HPA.out.2.size; have := H7.out.2.2.size; simp; omega
                  · intro v' w9 hown' hgrow _ hat
                    have hG := grow_next (Ok := fun w S (t : FC) => t.Ok w S) (x := ⟨⟨nm, ps, bd⟩, P, cp, B, d⟩) fc_keep fc_lt HRW.out.1 HRW.out.2.2 H7.out.1 H7.out.2.1 H7.out.2.2 (But.refl _ _) HPA.out.2 HWS.out.1.under HWS.out.2.2.1 (grow_alloc (grow_refl _) _) hgrow (hat.imp id fun e => ⟨_, e, by first | omega | (simp; omega)⟩)
                    have hR5 : RowFn wS.heap.size (ks ++ [⟨nm, ps, bd⟩]) v' w9 := ⟨ts ++ [⟨⟨nm, ps, bd⟩, P, cp, B, d⟩], by rw [List.length_append, List.length_singleton, List.flatMap_append, List.flatMap_singleton]; exact hown', by rw [List.map_append, HRW.out.2.1]; rfl, hG.2.2⟩
                    have HNN := Lib.hid (HN2.out v' w9 hG.1 hG.2.1 hR5)
                    clear hG hR5 hown' hgrow hat
                    go_wp2_with fail
                    go_roundw
                    case rel => first | exact ⟨k, _, _, HNN.out⟩ | ((repeat apply Exists.intro); exact ⟨HNN.out, rfl⟩)
                    case measure =>
                      have h1 := HNN.out.pa.pos
                      have h2 := HAV.out.1
                      have h3 := h2.w.hi
                      rw [h1, HPOS.out, HER.out]
                      cases he : s3.err with
                      | none =>
                        have h4 := h2.adv he
                        rw [HNN.out.pa.errN he]
                        omega
                      | some z =>
                        have h4 := h2.w.lo
                        rw [HNN.out.pa.errS (by rw [he]; simp)]
                        omega
        · rw [if_neg (by rw [hse]; simpa using hlt)] at hru
          have HES : Hid (es = ks ∧ s1 = st) := show _ ∧ _ by cases hru; exact ⟨rfl, rfl⟩
          have HBW : Hid (Below w.heap.size w wr) := hK.pa.bel
          have q1 : decide (st.pos < l.length) = false := by simpa using hlt
          have q2 : ¬ (st.pos : Int) < (l.length : Int) := by omega
          obtain ⟨B, d, hvv, hrd⟩ := hK.row.read
          injection hvv with hA1 hA2 hA3
          subst hA1
          subst hA3
          have HRD := Lib.hid hrd
          have hxr := HXR.out wr hK.but
          obtain ⟨r0, r1⟩ : wr.cell? ⟨xb, 0, none⟩ = some (.int .i64 0) ∧ wr.cell? ⟨xb, 1, none⟩ = some (.int .i64 0) := ⟨cell_of_row _ _ 0 _ _ _ hxr, cell_of_row _ _ 1 _ _ _ hxr⟩
          have HSE := Lib.hid hse
          have HZ := Lib.hid (And.intro hxr hK.pa.bel.size)
          clear hru hrd hxr hK hse hlt r0 r1
          go_wp2_with (go_at_call 17; (with_reducible refine (HFI.out _).mono ?_); rintro y w2 ⟨rfl, hb2⟩; rw [show faultQ 0 (-1) = .agg #[.int .i64 0, .int .i64 (-1)] from rfl]; have hx2 := (hb2.block xb (Array.getElem?_eq_some_iff.1 HZ.out.1).1).trans HZ.out.1; have r0 := cell_of_row _ _ 0 _ _ _ hx2; have r1 := cell_of_row _ _ 1 _ _ _ hx2; have y0 := row_frozen hx2 0; have y1 := row_frozen hx2 1; have HX2 := Lib.hid (And.intro hx2 hb2); clear hx2 hb2)
          have hx3 : ((w2.setCell ⟨xb, 0, none⟩ (.int .i64 0)).setCell ⟨xb, 1, none⟩ (.int .i64 (-1))).heap[xb]? = some (.cells #[.int .i64 0, .int .i64 (-1)] 25 (0, 0)) := row_set (j := 1) (cs := #[.int .i64 0, .int .i64 0]) _ (row_set (j := 0) _ HX2.out.1 rfl) rfl
          have u0 := cell_of_row _ _ 0 _ _ _ hx3
          have u1 := cell_of_row _ _ 1 _ _ _ hx3
          refine bodyPost_ret (v := .tuple #[.slice AK ks.length cK, .agg #[.int .i64 0, .int .i64 (-1)]]) (by simp [results, Tryz.results8, go_sem, u0, u1]; try rfl) rfl ?_
          rw [← HQ.out.1]
          refine ⟨(((HBW.out.trans (HX2.out.2.mono HZ.out.2)).setCell (by rw [HWX.out.2.1]; exact Nat.le_refl _) _).setCell (by rw [HWX.out.2.1]; exact Nat.le_refl _) _), .inl ⟨AK, cK, ?_, ?_, ?_⟩⟩
          · rw [HQ.out.2]; show s1.err = none; rw [HES.out.2]; exact HSE.out
          · rw [HQ.out.2]; show Ending.returned _ = _; rw [HES.out.1]; rfl
          · rw [HQ.out.2]
            show RdF _ _ es AK
            rw [HES.out.1]
            have h1 : RdF w2 (fun n => wS.heap.size ≤ n) ks AK := HRD.out.keep ((Keeps.of_below HX2.out.2).in _) fun n hn => hn
            have hxl : xb < wS.heap.size := (Array.getElem?_eq_some_iff.1 (HXR.out wS (But.refl _ _))).1
            refine (h1.keep (keeps_store (j := 0) (b := xb) (.int .i64 0) fun n hn => by have hn' : wS.heap.size ≤ n := hn; omega) fun n hn => hn).keep (keeps_store (j := 1) (b := xb) (.int .i64 (-1)) fun n hn => by have hn' : wS.heap.size ≤ n := hn; omega) fun n hn => ?_
            have hn' : wS.heap.size ≤ n := hn
            show w.heap.size ≤ n
            have := HWX.out.2.1
            omega
      · rw [if_neg (by intro q; simp only [Bool.and_eq_true] at q; exact hse (none_of q.1))] at hru
        have HES : Hid (es = ks ∧ s1 = st) := show _ ∧ _ by cases hru; exact ⟨rfl, rfl⟩
        have HBW : Hid (Below w.heap.size w wr) := hK.pa.bel
        obtain ⟨zz, hzz, k3⟩ := hK.pa.code1 hse
        have hzi : (1 : Int) ≤ (zz : Int) := by omega
        obtain ⟨pp, hpp⟩ : ∃ pp, st.err = some pp := by
          cases hz : st.err with
          | none => exact absurd hz hse
          | some p => exact ⟨p, rfl⟩
        obtain ⟨-, -, -, c3, c4⟩ := hK.pa.cells
        rw [hpp] at c3 c4
        have c3' : wr.cell? ⟨pb, 3, none⟩ = some (.int .i64 (pp.1 : Nat)) := c3
        have c4' : wr.cell? ⟨pb, 4, none⟩ = some (.int .i64 (pp.2 : Nat)) := c4
        have hzp := hK.pa.ok pp hpp
        rw [c3'] at k3
        have hzz2 : zz = pp.1 := by
          injection k3 with k3
          injection k3 with _ k3
          exact_mod_cast k3.symm
        subst hzz2
        have hxr := HXR.out wr hK.but
        have r0 := cell_of_row _ _ 0 _ _ _ hxr
        have r1 := cell_of_row _ _ 1 _ _ _ hxr
        have y0 := row_frozen hxr 0
        have y1 := row_frozen hxr 1
        have HZ := Lib.hid (And.intro hxr (And.intro hpp hzp))
        have hne : xb ≠ pb := by
          intro e
          have h1 := hK.pa.blk
          rw [← e, hxr] at h1
          injection h1 with h1
          injection h1 with _ h1 _
          exact absurd h1 (by decide)
        have hne2 : pb ≠ xb := Ne.symm hne
        clear hru hxr hK hse hpp hzp c3 c4 k3
        go_upto_region 17 with fail
        go_region
        all_goals go_wp2_with fail
        have hx3 : (((wr.setCell ⟨xb, 0, none⟩ (.int .i64 (pp.1 : Nat))).setCell ⟨xb, 1, none⟩ (.int .i64 (pp.2 : Nat))).drew).heap[xb]? = some (.cells #[.int .i64 (pp.1 : Nat), .int .i64 (pp.2 : Nat)] 25 (0, 0)) := row_set (j := 1) (cs := #[.int .i64 (pp.1 : Nat), .int .i64 0]) _ (row_set (j := 0) _ HZ.out.1 rfl) rfl
        have u0 := cell_of_row _ _ 0 _ _ _ hx3
        have u1 := cell_of_row _ _ 1 _ _ _ hx3
        refine bodyPost_ret (v := .tuple #[.slice none 0 0, .agg #[.int .i64 (pp.1 : Nat), .int .i64 (pp.2 : Nat)]]) (by simp [results, Tryz.results8, go_sem, u0, u1]; try rfl) rfl ?_
        rw [← HQ.out.1]
        refine ⟨((HBW.out.setCell (by rw [HWX.out.2.1]; exact Nat.le_refl _) _).setCell (by rw [HWX.out.2.1]; exact Nat.le_refl _) _).drew, .inr ⟨pp.1, pp.2, ?_, HZ.out.2.2.1, HZ.out.2.2.2, rfl⟩⟩
        rw [HQ.out.2]
        show s1.err = _
        rw [HES.out.2]
        exact HZ.out.2.1
end
end Go.Proofs.YtpfgimohginbdaaGreatDoor

namespace Go.Proofs.YtpfgimohginbdaaGreatDoor
open Go.RowKit

end Go.Proofs.YtpfgimohginbdaaGreatDoor
