import Derived.BigQuiet
import Derived.Test.YtpfgimohginbdaaDoorBn24
import Derived.Test.YtpfgimohginbdaaDoorBn4
import Derived.Test.YtpfgimohginbdaaDoorBn3
set_option linter.unusedVariables false
set_option linter.unusedSimpArgs false
namespace Go.Proofs.YtpfgimohginbdaaDoor
open Go.RowKit

/-! tree.Parse -/
theorem funInfoT : (Tryd.prog.info? 39).map (fun i => (i.zero, i.size, i.bytes)) = some (some (.agg #[.string ⟨#[]⟩, .slice none 0 0, .slice none 0 0]), 3, 64) := by kernel_rfl
/-- What the parser's answer is. -/
def ParsePost (E : Nat → Addr) (l : List Tok) (w : World) : Ending → World → Prop := fun y w' =>
  Below w.heap.size w w' ∧ ((∃ B d, (parseP l).2.err = none ∧ y = .returned (.tuple #[.slice B (parseP l).1.length d, .nilIface]) ∧ RdF w' (newA w) (parseP l).1 B) ∨
    (∃ z p fb, (parseP l).2.err = some (z, p) ∧ 1 ≤ z ∧ z ≤ 10 ∧ y = .returned (.tuple #[.slice none 0 0, ftV ⟨fb, 0, none⟩]) ∧ w'.heap[fb]? = some (.cells #[.int .i64 (p : Nat), esV (E (z - 1))] 51 (0, 0))))
/-- What stands at the head of the loop over functions. -/
structure PrAt (E : Nat → Addr) (l : List Tok) (pb : Nat) (A : Option Addr) (c : Nat) (w0 wS : World) (es : List PFun) (s' : PSt) (k : Nat) (fs : List PFun) (st : PSt) (v : Value) (w : World) : Prop where
  run : parseF l k fs st = some (es, s')
  ok : PStOk l st
  pa : PaAt E l pb A c w0 st w
  but : But pb wS w
  row : ∃ ts : List FC, w.ownsRow wS.heap.size 39 3 v fs.length (ts.flatMap FC.cells) ∧ ts.map (·.f) = fs ∧ ∀ t ∈ ts, t.Ok w (Apart wS.heap.size v)
  cnt : fs.length ≤ st.pos + 1
  cnt0 : st.err = none → fs.length ≤ st.pos
section
variable {E : Nat → Addr} {l : List Tok} {pb : Nat} {A : Option Addr} {c : Nat} {w0 : World} {s s' : PSt} {w w' w1 : World}
/-- One function more. -/
theorem PrAt.next {wS wr wq w4 w5 : World} {k : Nat} {es ks : List PFun} {s1 s3 : PSt} {st : PSt} {v v' : Value} {ts : List FC} {x : PFun} {P : Option Addr} {cp : Nat} {B : Option Addr} {d : Nat} {o : Obj} (hK : PrAt E l pb A c w0 wS es s1 (k + 1) ks st v wr)
    (hown : wr.ownsRow wS.heap.size 39 3 v ks.length (ts.flatMap FC.cells)) (hmap : ts.map (·.f) = ks) (hets : ∀ t ∈ ts, t.Ok wr (Apart wS.heap.size v)) (hse : st.err = none) (hru : parseF l k (ks ++ [x]) s3 = some (es, s1)) (hav : Adv l st s3) (hs3 : PStOk l s3)
    (hok : (FC.mk x P cp B d).Ok w4 (newA wq)) (h4 : PaAt E l pb A c w0 s3 w4) (hb4 : But pb wr w4) (hbq : But pb wr wq) (hp : pb < wS.heap.size)
    (hown' : w5.ownsRow wS.heap.size 39 3 v' (ks.length + 1) (ts.flatMap FC.cells ++ funL x P cp B d)) (hgrow : (w4.alloc o).grownBy w5 v.ownBlock) (hat : v'.ownBlock = v.ownBlock ∨ v'.ownBlock = some (w4.heap.size + 1)) :
    PrAt E l pb A c w0 wS es s1 k (ks ++ [x]) s3 v' w5 := by
  have hlow : ∀ i, v.ownBlock = some i → wS.heap.size ≤ i ∧ i < wr.heap.size := fun i hi => ownS_lt hown hi
  have hsr := hK.but.size
  have hs4 := hb4.size
  have hz : (w4.alloc o).heap.size = w4.heap.size + 1 := by simp
  have hgs := hgrow.size
  have hfar : ∀ i, i < w4.heap.size → v.ownBlock ≠ some i → w5.heap[i]? = w4.heap[i]? := fun i hi hn => (hgrow.block i (by omega) (fun e => hn e.symm)).trans (old_block _ _ hi)
  have hown4 : w4.ownsRow wS.heap.size 39 3 v ks.length (ts.flatMap FC.cells) := hb4.owns hown hp
  have hlo := h4.lo
  have hw0 := hK.pa.under
  have hkeep : KeepsIn (fun n => Apart wS.heap.size v n ∧ n < w4.heap.size) w4 w5 := fun a u hs hc => (World.cell?_of_block (hfar _ hs.2 (fun e => hs.1.2 e.symm))).trans hc
  refine ⟨hru, hs3, ?_, ?_, ⟨ts ++ [⟨x, P, cp, B, d⟩], ?_, by rw [List.map_append, hmap]; rfl, fun t ht => ?_⟩, ?_, fun he => ?_⟩
  · refine h4.move ⟨hgrow.os, hgrow.tape, hgrow.output, by omega⟩ (hfar pb h4.lt fun e => by have := (hlow _ e).1; omega) (fun i hi => ?_) (fun fb cs hf => ?_)
    · exact hfar i (by have := h4.under; omega) (fun e => by have := (hlow _ e).1; omega)
    · exact hfar fb (Array.getElem?_eq_some_iff.1 hf).1 (ownS_else hown4 hf fun cs' e => by injection e with _ e _; exact absurd e (by decide))
  · have hbS := hK.but.trans hb4
    exact ⟨hgrow.os.trans hbS.os, hgrow.tape.trans hbS.tape, hgrow.output.trans hbS.output, by omega, fun i hi hq => (hfar i (by omega) (fun e => by have := (hlow _ e).1; omega)).trans (hbS.block i hi hq)⟩
  · rw [List.length_append, List.length_singleton, List.flatMap_append, List.flatMap_singleton]
    exact hown'
  · rcases List.mem_append.1 ht with h | h
    · exact (((hets t h).keep (hb4.keepsIn fun i hi => by have := hi.1; omega) (fun _ h => h)).lt).keep hkeep (apart_own (w1 := w4) hat (by omega))
    · simp only [List.mem_singleton] at h
      subst h
      have hap : ∀ n, newA wq n → Apart wS.heap.size v n := fun n hn => by
        have h1 : wq.heap.size ≤ n := hn
        have h2 := hbq.size
        exact ⟨by omega, fun q => by have := (hlow _ q.symm).2; omega⟩
      exact FC.Ok.keep hkeep (apart_own (w1 := w4) hat (by omega)) (FC.Ok.lt (S := Apart wS.heap.size v) (hok.keep (Keeps.in (Keeps.refl _) _) hap))
  · have h1 := hK.cnt0 hse
    have h2 := hav.w.lo
    rw [List.length_append, List.length_singleton]
    omega
  · have h1 := hK.cnt0 hse
    have h2 := hav.adv he
    rw [List.length_append, List.length_singleton]
    omega
set_option maxHeartbeats 16000000 in
set_option maxRecDepth 100000 in
theorem Parse_any (I : PaIn E l A w) (hN : NumOk l) :
    Calls Tryd.prog 7 #[.slice A l.length c] w (ParsePost E l w) := by
  have hlen := I.len
  obtain ⟨ti, hi, hz0, hz1, hz2⟩ := info_parts funInfoT
  obtain ⟨pb, hpb⟩ : ∃ pb, w.heap.size = pb := ⟨_, rfl⟩
  obtain ⟨wS, hwS⟩ : ∃ wS, w.alloc (.cells #[.slice A l.length c, .int .i64 0, .int .i64 0, .nilIface] 54) = wS := ⟨_, rfl⟩
  have hmS : wS.heap[pb]? = some (.cells #[.slice A l.length c, .int .i64 0, .int .i64 0, .nilIface] 54 (0, 0)) := by rw [← hwS, ← hpb]; exact heap_alloc_new w _
  have hbS : Below w.heap.size w wS := by rw [← hwS]; exact grow_alloc (grow_refl _) _
  have hS : PaAt E l pb A c w s0P wS := ⟨hbS, by omega, _, hmS, rfl⟩
  have HWS := Lib.hid (And.intro hS (And.intro hbS (Array.getElem?_eq_some_iff.1 hmS).1))
  have HWB := Lib.hid (And.intro hwS hpb)
  have HI := Lib.hid (And.intro I hN)
  obtain ⟨es, s1, hps⟩ : ∃ es s1, parseP l = (es, s1) := ⟨_, _, rfl⟩
  have hru0 := parseP_eq l
  rw [hps] at hru0
  have h0 : PStOk l s0P := ⟨Nat.zero_le _, Int.le_refl _, by decide, fun _ => by decide⟩
  have HRUN := Lib.hid (And.intro hru0 h0)
  obtain ⟨Q, hQ⟩ : ∃ Q, ParsePost E l w = Q := ⟨_, rfl⟩
  have HQ := Lib.hid (And.intro hQ hps)
  rw [hQ]
  clear I hN hwS hmS hbS hS hru0 h0 hps hQ
  go_enter Tryd.func7, Tryd.ntmps7
  go_upto_region 3 with fail
  rw [HWB.out.1]
  try rw [HWB.out.2]
  clear hpb
  go_loopw [5] (fun v wr => ∃ k ks st, PrAt E l pb A c w wS es s1 k ks st v wr) (fun _ wr => (l.length - posOf pb wr) + errOf pb wr)
  case atStart => exact ⟨_, [], _, HRUN.out.1, HRUN.out.2, HWS.out.1, But.refl _ _, ⟨[], World.ownsRow_nil _ _ _ _, rfl, fun t ht => absurd ht List.not_mem_nil⟩, by simp, fun _ => by simp⟩
  case round =>
    clear HRUN
    obtain ⟨k, ks, st, hK⟩ := hrel
    have HK := Lib.hid hK
    have HPOS := Lib.hid hK.pa.pos
    obtain ⟨v3, c0, c1, -, c3, hv⟩ := hK.pa.cells
    have hru := hK.run
    cases k with
    | zero => rw [parseF] at hru; cases hru
    | succ k =>
      rw [parseF] at hru
      by_cases hg : (st.err.isNone && decide (st.pos < l.length)) = true
      · rw [if_pos hg] at hru
        simp only [Bool.and_eq_true, Option.isNone_iff_eq_none, decide_eq_true_eq] at hg
        obtain ⟨hse, hni⟩ := hg
        rw [hse] at hv
        have hv' : v3 = .nilIface := hv
        subst hv'
        cases hx : funF l k st with
        | none => rw [hx] at hru; cases hru
        | some p =>
          obtain ⟨x, s3⟩ := p
          rw [hx] at hru
          have hav := fun_adv hK.ok.hi hx
          have hs3 := hK.ok.went hav.w
          have HST : Hid (∀ w', PaAt E l pb A c w st w' → Calls Tryd.prog 13 #[.pointer (some ⟨pb, 0, none⟩)] w' (FnPost E l pb A c w x s3 w')) := fun w' hw => fun_any HI.out.1 HI.out.2 hK.ok hx hw
          obtain ⟨ts, hown, hmap, hets⟩ := hK.row
          have hkl : ks.length ≤ 100000 := by have := hK.cnt0 hse; have := hK.ok.hi; omega
          have HRW := Lib.hid (And.intro hown (And.intro hmap hets))
          have HNX := Lib.hid (And.intro hru (And.intro hav hs3))
          have HER := Lib.hid (hK.pa.errN hse)
          have HSE := Lib.hid hse
          obtain ⟨AK, cK, hvK⟩ := owns_slice hown
          subst hvK
          clear hru hx hav hs3 hown hmap hets hK hv hse
          have q1 : (st.pos : Int) < (l.length : Int) := by omega
          have HQ2 : Hid (PaAt E l pb A c w st wr ∧ But pb wr wr) := ⟨HK.out.pa, But.refl _ _⟩
          go_wp2_with (first
            | (go_at_call 13; (with_reducible refine (HST.out _ HQ2.out.1).mono ?_); rintro y w4 ⟨P, cp, B, d, rfl, hok, h4, hb4⟩; rw [show fnV x P cp B d = .agg #[.string (mkB x.name), .slice P x.params.length cp, .slice B x.body.length d] from rfl]; have hO4 := (HQ2.out.2.trans hb4).owns HRW.out.1 HWS.out.2.2; have H4 := Lib.hid (And.intro hok (And.intro h4 (HQ2.out.2.trans hb4))); have HO4 := Lib.hid hO4; clear hok h4 hb4 hO4)
            | (at_builtin; refine wpList_append_own_at _ rfl _ _ 28 rfl wS.heap.size 39 ti _ 3 64 Tryd.underlying28 hi hz0 hz1 hz2 rfl (by decide) _ _ _ rfl (HO4.out.alloc _) ⟨w4.heap.size, 0, none⟩ 1 1 (funL x P cp B d) rfl rfl ?c1 ?c2 ?c3 ?c4 ?c5 ?_))
          case c1 =>
            intro i u hu
            match i, hu with
            | 0, hu => simp [funL] at hu; subst hu; simp [Addr.add]
            | 1, hu => simp [funL] at hu; subst hu; simp [Addr.add]
            | 2, hu => simp [funL] at hu; subst hu; simp [Addr.add]
          case c2 => intro u hu; simp [funL] at hu; rcases hu with rfl | rfl | rfl <;> rfl
          case c3 => unfold maxLen; omega
          case c4 => omega
          case c5 => have := HK.out.but.size; have := H4.out.2.2.size; simp; omega
          · intro v' w5 hown' hgrow _ hat
            have HNW := Lib.hid (PrAt.next HK.out HRW.out.1 HRW.out.2.1 HRW.out.2.2 HSE.out HNX.out.1 HNX.out.2.1 HNX.out.2.2 H4.out.1 H4.out.2.1 H4.out.2.2 HQ2.out.2 HWS.out.2.2 hown' hgrow hat)
            clear hown' hgrow hat
            go_wp2_with fail
            go_roundw
            case rel => exact ⟨k, _, _, HNW.out⟩
            case measure =>
              have h1 := HNW.out.pa.pos
              have h2 := HNX.out.2.1
              have h3 := h2.w.hi
              rw [h1, HPOS.out, HER.out]
              cases he : s3.err with
              | none =>
                have h4 := h2.adv he
                rw [HNW.out.pa.errN he]
                omega
              | some z =>
                have h4 := h2.w.lo
                rw [HNW.out.pa.errS (by rw [he]; simp)]
                omega
      · rw [if_neg hg] at hru
        have hxs : es = ks ∧ s1 = st := by cases hru; exact ⟨rfl, rfl⟩
        obtain ⟨rfl, rfl⟩ := hxs
        obtain ⟨ts, hown, hmap, hets⟩ := hK.row
        subst hmap
        rw [List.length_map] at hown
        obtain ⟨B, d, hvv, hrd⟩ := FC.row hown hets
        subst hvv
        have HRD := Lib.hid hrd
        have HPA := Lib.hid hK.pa
        have HBT := Lib.hid hK.but
        have hwS := HWS.out.2.1.size
        cases he : s1.err with
        | some p =>
          rw [he] at hv
          obtain ⟨hz1', hz2', fb, rfl, hfb⟩ := hv
          unfold ftV at c3
          have HFB := Lib.hid (And.intro hz1' (And.intro hz2' (And.intro hfb he)))
          clear hru hg hown hets hrd hK he hz1' hz2' hfb
          go_upto_region 6 with fail
          go_quiet (fail)
          go_wp2_with fail
          rw [← HQ.out.1]
          refine ⟨below_drewN HPA.out.bel _, .inr ⟨p.1, p.2, fb, ?_, HFB.out.1, HFB.out.2.1, rfl, HFB.out.2.2.1⟩⟩
          rw [HQ.out.2]
          exact HFB.out.2.2.2
        | none =>
          rw [he] at hv
          have hv' : v3 = .nilIface := hv
          subst hv'
          have q1 : ¬ (s1.pos : Int) < (l.length : Int) := by
            rw [he] at hg
            simp at hg
            omega
          have HE := Lib.hid he
          clear hru hg hown hets hrd hK he hv
          go_wp2_with fail
          rw [← HQ.out.1]
          refine ⟨HPA.out.bel, .inl ⟨B, d, ?_, ?_, ?_⟩⟩
          · rw [HQ.out.2]; exact HE.out
          · rw [HQ.out.2, List.length_map]
          · rw [HQ.out.2]
            have h0 : RdF wr (fun n => wS.heap.size ≤ n) (ts.map (·.f)) B := HRD.out
            exact h0.keep (Keeps.in (Keeps.refl _) _) fun k hk => by have hk' : wS.heap.size ≤ k := hk; show w.heap.size ≤ k; omega
end
end Go.Proofs.YtpfgimohginbdaaDoor

namespace Go.Proofs.YtpfgimohginbdaaDoor
open Go.RowKit

/-! treed -/
theorem toks_at {w : World} {A : Option Addr} {ts : List Tok} (h : Row w A (ts.flatMap tokCells)) {k : Nat} (hk : k < ts.length) :
    ∃ b off, A = some ⟨b, off, none⟩ ∧ w.cell? ⟨b, off + k * 3, none⟩ = some (.string (mkB ts[k].kind)) ∧ w.cell? ⟨b, off + k * 3 + 1, none⟩ = some (.string (mkB ts[k].text)) ∧ w.cell? ⟨b, off + k * 3 + 2, none⟩ = some (.int .i64 ts[k].pos) := by
  have hg : ∀ j u, (tokCells ts[k])[j]? = some u → (ts.flatMap tokCells)[k * 3 + j]? = some u := fun j u hj => flat_cells (n := 3) (F := tokCells) (fun x _ => rfl) hk hj
  obtain ⟨b, off, e, h0⟩ := h (k * 3 + 0) _ (hg 0 _ rfl)
  obtain ⟨b', off', e', h1⟩ := h (k * 3 + 1) _ (hg 1 _ rfl)
  obtain ⟨b2, off2, e2, h2⟩ := h (k * 3 + 2) _ (hg 2 _ rfl)
  rw [e] at e' e2; injection e' with e'; injection e' with e1 e1' _; injection e2 with e2; injection e2 with e3 e3' _
  subst e1; subst e1'; subst e3; subst e3'
  exact ⟨b, off, e, h0, by rw [Nat.add_assoc]; exact h1, by rw [Nat.add_assoc]; exact h2⟩
def trTxt : ByteArray := ⟨#[102, 110, 32, 102, 40, 97, 41, 32, 123, 32, 114, 101, 116, 117, 114, 110, 32, 97, 32, 43, 32, 50, 32, 42, 32, 97, 59, 32, 125]⟩
def trToks : List Tok := [⟨kWord, [102, 110], 0⟩, ⟨kName, [102], 3⟩, ⟨kSign, [40], 4⟩, ⟨kName, [97], 5⟩, ⟨kSign, [41], 6⟩, ⟨kSign, [123], 8⟩, ⟨kWord, [114, 101, 116, 117, 114, 110], 10⟩, ⟨kName, [97], 17⟩, ⟨kSign, [43], 19⟩, ⟨kNumber, [50], 21⟩, ⟨kSign, [42], 23⟩, ⟨kName, [97], 25⟩, ⟨kSign, [59], 26⟩, ⟨kSign, [125], 28⟩]
theorem tr_toks : lexA (bytesL trTxt) 0 = (trToks, none) := by decide +kernel
def trFun : PFun := ⟨[102], [[97]], [⟨zReturn, [], ⟨yTwo, 0, [43], [⟨yName, 0, [97], []⟩, ⟨yTwo, 0, [42], [⟨yNum, 2, [], []⟩, ⟨yName, 0, [97], []⟩]⟩]⟩, [], []⟩]⟩
set_option maxRecDepth 100000 in
theorem tr_parse : parseP trToks = ([trFun], ⟨14, 0, none⟩) := by kernel_rfl
theorem row_of_owns {w : World} {base : Nat} {e : TypeId} {v : Value} {ts : List Tok} (h : w.ownsRow base e 3 v ts.length (ts.flatMap tokCells)) : ∃ A c, v = .slice A ts.length c ∧ Row w A (ts.flatMap tokCells) := by
  obtain ⟨B, d, rfl, hB⟩ := owns_at h
  refine ⟨B, d, rfl, fun j u hj => ?_⟩
  have h0 : 0 < ts.length := by
    rcases Nat.eq_zero_or_pos ts.length with h0 | h0
    · rw [List.length_eq_zero_iff.1 h0] at hj; simp at hj
    · exact h0
  obtain ⟨g, rfl, -, -, hc⟩ := hB h0
  exact ⟨g, 0, rfl, by rw [Nat.zero_add]; exact hc j u hj⟩
theorem read_tr (E : Nat → Addr) (w : World) (hE : Laid E w) : Calls Tryd.prog 6 #[.string ⟨#[102, 110, 32, 102, 40, 97, 41, 32, 123, 32, 114, 101, 116, 117, 114, 110, 32, 97, 32, 43, 32, 50, 32, 42, 32, 97, 59, 32, 125]⟩] w fun e w' => ∃ A c, e = .returned (.tuple #[.slice A 14 c, .nilIface]) ∧ Row w' A (trToks.flatMap tokCells) ∧ Below w.heap.size w w' := by
  refine (Read_any trTxt (by decide) _ _ _ w hE.c0 hE.c1 hE.c7).mono ?_
  rintro e w' ⟨sl, er, rfl, hv, hb⟩
  unfold ReadVal at hv
  rw [tr_toks] at hv
  rcases hv with ⟨h, _⟩ | ⟨_, p, fb, h, _⟩ | ⟨_, _, h, _⟩ | ⟨_, _, _, rfl, ho⟩
  · exact absurd h (by decide)
  · cases h
  · exact absurd h (by decide)
  · obtain ⟨A, c, rfl, hr⟩ := row_of_owns ho
    exact ⟨A, c, rfl, hr, hb⟩
theorem parse_tr (E : Nat → Addr) (w : World) (hE : Laid E w) (A : Option Addr) (c : Nat) (hr : Row w A (trToks.flatMap tokCells)) : Calls Tryd.prog 7 #[.slice A 14 c] w fun e w' => ∃ b off d b2 o2 g b3 o3 x, e = .returned (.tuple #[.slice (some ⟨b, off, none⟩) 1 d, .nilIface]) ∧ w'.cell? ⟨b, off + 2, none⟩ = some (.slice (some ⟨b2, o2, none⟩) 1 g) ∧ w'.cell? ⟨b2, o2 + 4, none⟩ = some (.string ⟨#[43]⟩) ∧ w'.cell? ⟨b2, o2 + 5, none⟩ = some (.slice (some ⟨b3, o3, none⟩) 2 x) ∧ w'.cell? ⟨b3, o3 + 4 + 2, none⟩ = some (.string ⟨#[42]⟩) ∧ Below w.heap.size w w' := by
  have hN : NumOk trToks := by
    have h0 := lexA_ok _ (bytesL trTxt) 0 (Nat.le_refl _)
    rw [tr_toks] at h0
    exact fun t ht hk => (h0 t ht).num hk
  refine (Parse_any (c := c) ⟨hE, hr, by decide⟩ hN).mono ?_
  rintro e w' ⟨hb, h⟩
  rw [tr_parse] at h
  rcases h with ⟨B, d, -, rfl, hf⟩ | ⟨z, p, fb, h, -⟩
  · obtain ⟨b, off, P, p, D, g, rfl, -, hc, -, hs⟩ := hf 0 (by decide)
    obtain ⟨b2, o2, X, x, T, t, L, l, rfl, -, hc2, -, hx, -, -⟩ := hs.at (i := 0) (by decide)
    obtain ⟨b3, o3, Y, y, rfl, -, hc3, -, -⟩ := hx.at (i := 1) (by decide)
    have e1 := (cells_fun hc).2.2
    have e2 := (cells_stmt hc2).2.2.2.2.1
    have e3 := (cells_stmt hc2).2.2.2.2.2.1
    have e4 := (cells_expr hc3).2.2.1
    exact ⟨b, off, d, b2, o2, g, b3, o3, x, rfl, by rw [Nat.zero_mul, Nat.add_zero] at e1; exact e1, by rw [Nat.zero_mul, Nat.add_zero] at e2; exact e2, by rw [Nat.zero_mul, Nat.add_zero] at e3; exact e3, by rw [Nat.one_mul] at e4; exact e4, hb⟩
  · cases h
set_option maxHeartbeats 4000000 in
set_option maxRecDepth 100000 in
theorem treed_any (E : Nat → Addr) (w : World) (hE : Laid E w) : Calls Tryd.prog 5 #[] w (Ret (.bool true) w) := by
  have H1 := Lib.hid (read_tr E w hE)
  have H2 : Hid (∀ w', Below w.heap.size w w' → ∀ A c, Row w' A (trToks.flatMap tokCells) → Calls Tryd.prog 7 #[.slice A 14 c] w' fun e w2 => ∃ b off d b2 o2 g b3 o3 x, e = .returned (.tuple #[.slice (some ⟨b, off, none⟩) 1 d, .nilIface]) ∧ w2.cell? ⟨b, off + 2, none⟩ = some (.slice (some ⟨b2, o2, none⟩) 1 g) ∧ w2.cell? ⟨b2, o2 + 4, none⟩ = some (.string ⟨#[43]⟩) ∧ w2.cell? ⟨b2, o2 + 5, none⟩ = some (.slice (some ⟨b3, o3, none⟩) 2 x) ∧ w2.cell? ⟨b3, o3 + 4 + 2, none⟩ = some (.string ⟨#[42]⟩) ∧ Below w'.heap.size w' w2) := fun w' hb A c hr => parse_tr E w' (hE.keep hb) A c hr
  clear hE
  go_enter Tryd.func5, Tryd.ntmps5
  go_wp2_with (first
    | (go_at_call 6; (with_reducible refine H1.out.mono ?_); rintro y w1 ⟨A, c, rfl, hr, hb1⟩; have HR := Lib.hid (And.intro hb1 hr); clear hr hb1)
    | (go_at_call 7; (with_reducible refine (H2.out _ HR.out.1 _ _ HR.out.2).mono ?_); rintro y w2 ⟨b, off, d, b2, o2, g, b3, o3, x, rfl, e1, e2, e3, e4, hb2⟩; have e5 : w2.cell? ⟨b3, o3 + 6, none⟩ = some (.string ⟨#[42]⟩) := e4; have HB2 := Lib.hid (grow_trans HR.out.1 hb2); clear hb2))
  go_ret
  exact ⟨rfl, HB2.out⟩
end Go.Proofs.YtpfgimohginbdaaDoor
