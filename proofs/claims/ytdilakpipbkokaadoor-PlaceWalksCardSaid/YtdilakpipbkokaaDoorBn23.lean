import Derived.Test.YtdilakpipbkokaaDoorBn21
import Derived.Test.YtdilakpipbkokaaDoorBn22
set_option linter.unusedVariables false
set_option linter.unusedSimpArgs false
namespace Go.Proofs.YtdilakpipbkokaaDoor
open Go.RowKit

/-! the walker's walk (printed by gen_plww.py) -/
section
variable {c : PCo} {A : Option Addr} {ca : Nat} {X : Option Addr} {args : List Int} {xc : Nat} {Y : Option Addr} {ans : List Int} {yc : Nat} {T : Int} {w0 : World} {mb gb hb n : Nat} {F : Nat → Array Value → Prop} {s : WSt} {h : List UInt8} {v : Int} {vO vC : Value} {ts : List CC} {w w' w1 : World}

theorem run_in {j k : Nat} {x : PBk} {s : WSt} (hj : j < 100000) (hk : c.blocks[k]? = some x) : runW c T args ans (100000 - j) k s = match inssW T args ans x.ins s with
      | (0, s') => (match endW c x s' with
        | .go k' s2 => runW c T args ans (100000 - (j + 1)) k' s2
        | .done v => some (hDone, v, s')
        | .stuck => some (hStuck, 0, s'))
      | (1, s') => some (hOver, 0, s')
      | (_, s') => some (hStuck, 0, s') := by
  obtain ⟨n, hn⟩ : ∃ n, 100000 - j = n + 1 := ⟨100000 - j - 1, by omega⟩
  rw [hn, show 100000 - (j + 1) = n by omega]
  conv => lhs; unfold runW
  rw [hk]
  dsimp only
  rcases inssW T args ans x.ins s with ⟨o, s'⟩
  match o with
  | 0 => cases endW c x s' <;> rfl
  | 1 => rfl
  | o + 2 => rfl
theorem run_bad {j k : Nat} {x : PBk} {s s' : WSt} {o : Nat} (hj : j < 100000) (hk : c.blocks[k]? = some x) (ho : o ≠ 0) (hi : inssW T args ans x.ins s = (o, s')) : runW c T args ans (100000 - j) k s = some (howO o, 0, s') := by
  rw [run_in hj hk, hi]
  match o, ho with
  | 1, _ => rfl
  | o + 2, _ => rfl
theorem run_end {j k : Nat} {x : PBk} {s s' : WSt} (hj : j < 100000) (hk : c.blocks[k]? = some x) (hi : inssW T args ans x.ins s = (0, s')) : runW c T args ans (100000 - j) k s = match endW c x s' with
        | .go k' s2 => runW c T args ans (100000 - (j + 1)) k' s2
        | .done v => some (hDone, v, s')
        | .stuck => some (hStuck, 0, s') := by
  rw [run_in hj hk, hi]
  cases he : endW c x s' <;> simp only [he]
theorem insW_bad {x : PIn} {s s' : WSt} {o : Nat} (h : insW T args ans x s = (o, s')) (ho : o ≠ 0) : s' = s ∧ o ≤ 2 := by
  unfold insW at h
  split at h
  · injection h with h1 h2; exact ⟨h2.symm, by omega⟩
  · split at h
    · split at h
      · injection h with h1 h2; exact ⟨h2.symm, by omega⟩
      · injection h with h1 h2; omega
    · split at h
      · injection h with h1 h2; exact ⟨h2.symm, by omega⟩
      · injection h with h1 h2; omega
    · split at h
      · injection h with h1 h2; exact ⟨h2.symm, by omega⟩
      · injection h with h1 h2; omega
    · injection h with h1 h2; omega
theorem end_lt {b : PBk} (hb : BkF c b) {s s' : WSt} {k : Nat} (h : endW c b s = .go k s') : k < c.blocks.length := by
  have hnx := hb.nx
  unfold endW at h
  split at h
  · rename_i hf
    have hf' : b.fin = eJump := by simpa using hf
    rw [hf'] at hnx
    have hn1 : b.nx.length = 1 := by have : endN eJump = 1 := rfl; omega
    split at h
    · cases h
    · rename_i p hp
      injection h with h1 h2
      subst h1
      exact (leave_lt (k' := p.1) (s' := p.2) hb (by omega) hp).1
  · rename_i hj
    split at h
    · split at h
      · cases h
      · rename_i hr
        have hn2 : b.nx.length = 2 := by
          rcases finP_cases hb.fin with hf | hf | hf
          · exact absurd (by rw [hf]; rfl) hj
          · rw [hf] at hnx; have : endN eIf = 2 := rfl; omega
          · exact absurd (by rw [hf]; rfl) hr
        split at h
        · cases h
        · rename_i p hp
          injection h with h1 h2
          subst h1
          exact (leave_lt (k' := p.1) (s' := p.2) hb (by split <;> omega) hp).1
    · cases h
def PWalkP (c : PCo) (A : Option Addr) (ca : Nat) (X : Option Addr) (args : List Int) (xc : Nat) (Y : Option Addr) (ans : List Int) (yc : Nat) (T : Int) (w0 : World) (mb gb hb n : Nat) : Ending → World → Prop := fun e w' =>
  ∃ (hw : List UInt8) (v : Int) (s' : WSt) (vO vC : Value) (ts : List CC), e = .returned (.string (mkB hw)) ∧ PwAt c A ca X args xc Y ans yc T w0 mb gb hb n (fun _ _ => False) s' [] v vO vC ts w' ∧ WOk c T ans s' ∧ ∀ z, runW c T args ans 100000 0 (WSt0 c) = some z → z = (hw, v, s')
set_option maxHeartbeats 8000000 in
set_option maxRecDepth 100000 in
theorem pwalk_any (H : PwAt c A ca X args xc Y ans yc T w0 mb gb hb n (fun _ _ => False) (WSt0 c) [] 0 vO vC ts w) (hnn : n = c.values.toNat) (hg : GoodC c) (hsm : ∀ b ∈ c.blocks, PSm b) (hbn : ∀ b ∈ c.blocks, BkN b) (hrd : RdP w0 c.blocks A) (hT : 0 ≤ T) (hT6 : T ≤ 60) (han : ans.length ≤ 1000) (hpa : (args.length : Int) = c.params) (ha6 : ∀ n ∈ args, I64 n) (hn6 : ∀ n ∈ ans, I64 n)
    (K : Value) (hK : ∀ w', Below w0.heap.size w0 w' → w'.cell? ⟨5, 0, none⟩ = some K) (hX : Row w0 X (intVs args)) (hY : Row w0 Y (intVs ans)) :
    Calls Tryd.prog 26 #[.pointer (some ⟨mb, 0, none⟩)] w (PWalkP c A ca X args xc Y ans yc T w0 mb gb hb n) := by
  have hmost := hg.most
  have hncv : (n : Int) = c.values := by rw [hnn]; exact Int.toNat_of_nonneg hg.values.1
  have HBF : Hid (∀ q ∈ c.blocks, BkF c q) := fun q hq => bk_facts (hg.blocks q hq)
  have HINS : Hid (∀ (F : Nat → Array Value → Prop) (s : WSt) (vO vC : Value) (ts : List CC) (w' : World) (y : PIn) (A5 : Option Addr) (c5 : Nat), PwAt c A ca X args xc Y ans yc T w0 mb gb hb n F s [] 0 vO vC ts w' → WOk c T ans s → InF c y → y.args.length ≤ 8 → Row w' A5 (intVs y.args) → Calls Tryd.prog 39 #[.pointer (some ⟨mb, 0, none⟩), inV y A5 c5] w' (InsP c A ca X args xc Y ans yc T w0 mb gb hb n F s [] 0 (insW T args ans y s))) := fun F s vO vC ts w' y A5 c5 H' hok hf h8 hrow => ins_any H' hok hnn hT6 han hpa y hf h8 A5 c5 hrow K hK hX hY
  have HEND : Hid (∀ (F : Nat → Array Value → Prop) (s : WSt) (vO vC : Value) (ts : List CC) (w' : World), PwAt c A ca X args xc Y ans yc T w0 mb gb hb n F s [] 0 vO vC ts w' → WOk c T ans s → ∀ (b : PBk) (P : Option Addr) (p : Nat) (I : Option Addr) (i : Nat) (Tt : Option Addr) (t : Nat) (W : Option Addr) (wc : Nat), b ∈ c.blocks → BkRows w0 b P I Tt W → Calls Tryd.prog 40 #[.pointer (some ⟨mb, 0, none⟩), bkV b P p I i Tt t W wc] w' (EndP c A ca X args xc Y ans yc T w0 mb gb hb n F [] 0 vO vC ts s (endW c b s))) := fun F s vO vC ts w' H' hok b P p I i Tt t W wc hb hr =>
    end_any H' ⟨hok.g.trans hnn.symm, hok.h.trans hnn.symm⟩ hncv hrd HBF.out b (HBF.out b hb) (hsm b hb) P p I i Tt t W wc hr
  have HRD := Lib.hid hrd
  have HSM := Lib.hid hsm
  have HBN := Lib.hid hbn
  have HH := Lib.hid H
  have HOK0 : Hid (WOk c T ans (WSt0 c)) := wok_start hT
  have HOKI : Hid (∀ {x : PIn}, I64 x.num → x.args.length ≤ 8 → ∀ {s s' : WSt} {o : Nat}, WOk c T ans s → insW T args ans x s = (o, s') → WOk c T ans s') := fun hx h8 _ _ _ h hs => wok_ins ha6 hn6 hx h8 h hs
  have hlen0 : 0 < c.blocks.length := hg.some
  clear hrd hg hsm hbn H hT hT6 han hpa ha6 hn6 hK hX hY hncv hnn
  go_enter Tryd.func26, Tryd.ntmps26
  go_wp2_with fail
  go_loopw [3, 4, 6, 7, 8, 9, 10] (fun kk _ _ _ _ _ jj wr => ∃ (jn kn : Nat) (s : WSt) (vO vC : Value) (ts : List CC), jn ≤ 100000 ∧ jj = .int .i64 jn ∧ kk = .int .i64 kn ∧ kn < c.blocks.length ∧ WOk c T ans s ∧ PwAt c A ca X args xc Y ans yc T w0 mb gb hb n (fun _ _ => False) s [] 0 vO vC ts wr ∧ runW c T args ans 100000 0 (WSt0 c) = runW c T args ans (100000 - jn) kn s) (fun _ _ _ _ _ _ jj _ => 100000 - (intOf jj).toNat)
  case atStart => exact ⟨0, 0, WSt0 c, _, _, _, Nat.zero_le _, rfl, rfl, hlen0, HOK0.out, HH.out, rfl⟩
  case round =>
    obtain ⟨j, k, s, vO1, vC1, ts1, hj, rfl, rfl, hk, hok, H1, hrun⟩ := hrel
    have HRUN := Lib.hid hrun
    clear hrun
    by_cases hlt : j < 100000
    · have hlt' : (j : Int) < 100000 := by omega
      have hk0 : (0 : Int) ≤ (k : Int) := by omega
      have hk1 : (k : Int) < (c.blocks.length : Int) := by omega
      obtain ⟨b8, off8, P, p, I, i, Tt, t, W, wc, e8, hB0⟩ := bks_at HRD.out hk
      subst e8
      obtain ⟨x, hx⟩ : ∃ x, c.blocks[k] = x := ⟨_, rfl⟩
      rw [hx] at hB0
      have hbm : x ∈ c.blocks := hx ▸ List.getElem_mem hk
      have HKX : Hid (c.blocks[k]? = some x) := show _ = _ by rw [List.getElem?_eq_getElem hk, hx]
      have HBO : Hid (BkF c x) := HBF.out x hbm
      have HXS : Hid (PSm x) := HSM.out x hbm
      have HXN : Hid (BkN x) := HBN.out x hbm
      have HBM := Lib.hid hbm
      have hl25 := (HSM.out x hbm).ins
      have HRW : Hid (BkRows w0 x P I Tt W) := ⟨hB0.params, hB0.ins, hB0.nx, hB0.wth⟩
      have b0 := Keeps.of_below H1.bel _ _ hB0.c0
      have b1 := Keeps.of_below H1.bel _ _ hB0.c1
      have b2 := Keeps.of_below H1.bel _ _ hB0.c2
      have b3 := Keeps.of_below H1.bel _ _ hB0.c3
      have b4 := Keeps.of_below H1.bel _ _ hB0.c4
      have b5 := Keeps.of_below H1.bel _ _ hB0.c5
      have i3 : wr.cell? ⟨mb, 3, none⟩ = some (.slice (some ⟨b8, off8, none⟩) c.blocks.length ca) := H1.cellM rfl
      obtain ⟨q, hq⟩ : ∃ q, wr.heap.size = q := ⟨_, rfl⟩
      obtain ⟨wB, hwB⟩ : ∃ wB, wr.alloc (.cells #[.slice P x.params.length p, .slice I x.ins.length i, .string (mkB x.fin), .int .i64 x.v, .slice Tt x.nx.length t, .slice W x.wth.length wc] 56) = wB := ⟨_, rfl⟩
      have hbB : Below wr.heap.size wr wB := by rw [← hwB]; exact grow_alloc (grow_refl _) _
      have hmB : wB.heap[q]? = some (.cells #[.slice P x.params.length p, .slice I x.ins.length i, .string (mkB x.fin), .int .i64 x.v, .slice Tt x.nx.length t, .slice W x.wth.length wc] 56 (0, 0)) := by rw [← hwB, ← hq]; exact heap_alloc_new wr _
      have HB : Hid (PwAt c (some ⟨b8, off8, none⟩) ca X args xc Y ans yc T w0 mb gb hb n (fun q9 cs9 => q9 = q ∧ cs9 = #[.slice P x.params.length p, .slice I x.ins.length i, .string (mkB x.fin), .int .i64 x.v, .slice Tt x.nx.length t, .slice W x.wth.length wc]) s [] 0 vO1 vC1 ts1 wB) := (H1.below hbB).reF (fun q9 cs9 h9 => by obtain ⟨rfl, rfl⟩ := h9; exact hmB)
      have HWB := Lib.hid hwB
      have HQ2 := Lib.hid hq
      have HOKS := Lib.hid hok
      have HLT := Lib.hid hlt
      have HK := Lib.hid hk
      clear hwB hmB hbB hx hq H1 hB0 hok hlt hk hbm
      go_upto_region 5 with fail
      try change Code.wp _ _ _ _ (wr.alloc (.cells #[.slice P x.params.length p, .slice I x.ins.length i, .string (mkB x.fin), .int .i64 x.v, .slice Tt x.nx.length t, .slice W x.wth.length wc] 56))
      rw [HQ2.out, HWB.out]
      clear b0 b1 b2 b3 b4 b5
      obtain ⟨b0, b1, b2, b3, b4, b5⟩ := row6B (HB.out.fr q _ ⟨rfl, rfl⟩)
      go_wp2_with fail
      go_loopw [6, 7, 23] (fun _ _ z wx => ∃ (m : Nat) (s2 : WSt) (vO2 vC2 : Value) (ts2 : List CC), m ≤ x.ins.length ∧ z = .int .i64 m ∧ inssW T args ans x.ins s = inssW T args ans (x.ins.drop m) s2 ∧ WOk c T ans s2 ∧ PwAt c (some ⟨b8, off8, none⟩) ca X args xc Y ans yc T w0 mb gb hb n (fun q9 cs9 => q9 = q ∧ cs9 = #[.slice P x.params.length p, .slice I x.ins.length i, .string (mkB x.fin), .int .i64 x.v, .slice Tt x.nx.length t, .slice W x.wth.length wc]) s2 [] 0 vO2 vC2 ts2 wx) (fun _ _ z _ => x.ins.length - (intOf z).toNat)
      case atStart => exact ⟨0, s, _, _, _, Nat.zero_le _, rfl, rfl, HOKS.out, HB.out⟩
      case round =>
        obtain ⟨m, s2, vO2, vC2, ts2, hm, rfl, hin, hok2, H2⟩ := hrel
        have HIN := Lib.hid hin
        have HOK2 := Lib.hid hok2
        have HH2 := Lib.hid H2
        clear hin b0 b1 b2 b3 b4 b5 i3
        obtain ⟨b0, b1, b2, b3, b4, b5⟩ := row6B (H2.fr q _ ⟨rfl, rfl⟩)
        by_cases hlt2 : m < x.ins.length
        · have hlt2' : (m : Int) < (x.ins.length : Int) := by omega
          have hm0 : (0 : Int) ≤ (m : Int) := by omega
          obtain ⟨b5', off5, A5, c5, e5, hL5⟩ := ins_at (HRW.out.ins.keep (Keeps.of_below H2.bel) fun _ _ => GoodI.keep (Keeps.of_below H2.bel)) hlt2
          subst e5
          have hym : x.ins[m] ∈ x.ins := List.getElem_mem hlt2
          have HSTP := Lib.hid (inssW_step (T := T) (args := args) (ans := ans) (s := s2) hlt2)
          obtain ⟨y, hy⟩ : ∃ y, x.ins[m] = y := ⟨_, rfl⟩
          rw [hy] at hL5 hym HSTP
          obtain ⟨l0, l1, l2, l3, l4, hrowy⟩ := hL5
          have HLT2 := Lib.hid hlt2
          have HLF : Hid (InF c y) := HBO.out.ins y hym
          have HY6 : Hid (I64 y.num) := (HXN.out.ins y hym).num
          have HY8 : Hid (y.args.length ≤ 8) := (HXS.out.each y hym).1
          obtain ⟨q2, hq2⟩ : ∃ q2, wr.heap.size = q2 := ⟨_, rfl⟩
          obtain ⟨wL, hwL⟩ : ∃ wL, wr.alloc (.cells #[.string (mkB y.kind), .int .i64 y.d, .slice A5 y.args.length c5, .int .i64 y.num, .string (mkB y.name)] 52) = wL := ⟨_, rfl⟩
          have hbL : Below wr.heap.size wr wL := by rw [← hwL]; exact grow_alloc (grow_refl _) _
          have hmL : wL.heap[q2]? = some (.cells #[.string (mkB y.kind), .int .i64 y.d, .slice A5 y.args.length c5, .int .i64 y.num, .string (mkB y.name)] 52 (0, 0)) := by rw [← hwL, ← hq2]; exact heap_alloc_new wr _
          have HL := Lib.hid (H2.below hbL)
          have HC := Lib.hid (HINS.out _ s2 vO2 vC2 ts2 wL y A5 c5 HL.out HOK2.out HLF.out HY8.out (hrowy.keep (Keeps.of_below hbL)))
          unfold inV at HC
          have HWL := Lib.hid hwL
          have HQL := Lib.hid hq2
          have HML := Lib.hid hmL
          obtain ⟨o, s3, hi⟩ : ∃ o s3, insW T args ans y s2 = (o, s3) := ⟨_, _, rfl⟩
          have HI := Lib.hid hi
          rw [hi] at HC HSTP
          have HOK3 : Hid (WOk c T ans s3) := HOKI.out HY6.out HY8.out HOK2.out HI.out
          obtain ⟨hw, hhw⟩ : ∃ hw, howO o = hw := ⟨_, rfl⟩
          have hC2 := HC.out
          unfold InsP at hC2
          simp only [hhw] at hC2
          have HC2 := Lib.hid hC2
          clear HC
          have HC := HC2
          clear HC2 hC2 hwL hmL hbL hq2 H2 hok2 hlt2 hy hym hrowy
          by_cases ho : o = 0
          · subst ho
            have hw0 : hw = [] := hhw.symm
            have q1 : ((mkB hw).toList == []) = true := by rw [mkB_toList, hw0]; rfl
            have q2' : ((mkB hw).toList != []) = false := by rw [bne, q1]; rfl
            have HF : Hid (inssW T args ans x.ins s = inssW T args ans (x.ins.drop (m + 1)) s3) := show _ = _ by rw [HIN.out, HSTP.out]; rfl
            clear hw0 hhw hi
            go_upto_region 8 with fail
            try change Code.wp _ _ _ _ (wr.alloc (.cells #[.string (mkB y.kind), .int .i64 y.d, .slice A5 y.args.length c5, .int .i64 y.num, .string (mkB y.name)] 52))
            rw [HQL.out, HWL.out]
            clear l0 l1 l2 l3 l4 b0 b1 b2 b3 b4 b5
            obtain ⟨l0, l1, l2, l3, l4⟩ := row5B HML.out
            go_wp2_with (go_at_call 39; (with_reducible refine HC.out.mono ?_); rintro e9 w1 ⟨rfl, vO3, vC3, ts3, H3⟩; have HI3 := Lib.hid H3; clear H3)
            go_roundw
            case rel =>
              have hlt2 := HLT2.out
              exact ⟨m + 1, s3, _, _, _, by omega, by go_num, HF.out, HOK3.out, HI3.out⟩
            case measure => have hlt2 := HLT2.out; simp [intOf]; omega
          · have hb9 := insW_bad hi ho
            have hwn : hw ≠ [] := by
              rw [← hhw]
              match o, ho, hb9.2 with
              | 1, _, _ => decide
              | 2, _, _ => decide
            have q1 : ((mkB hw).toList == []) = false := by rw [mkB_toList]; exact beq_eq_false_iff_ne.2 hwn
            have q2' : ((mkB hw).toList != []) = true := by rw [bne, q1]; rfl
            have HF : Hid (inssW T args ans x.ins s = (o, s3)) := show _ = _ by
              rw [HIN.out, HSTP.out]
              match o, ho with
              | 1, _ => rfl
              | o + 2, _ => rfl
            have HHW := Lib.hid hhw
            have HO := Lib.hid ho
            clear hwn hhw hi hb9 ho
            go_upto_region 8 with fail
            try change Code.wp _ _ _ _ (wr.alloc (.cells #[.string (mkB y.kind), .int .i64 y.d, .slice A5 y.args.length c5, .int .i64 y.num, .string (mkB y.name)] 52))
            rw [HQL.out, HWL.out]
            clear l0 l1 l2 l3 l4 b0 b1 b2 b3 b4 b5
            obtain ⟨l0, l1, l2, l3, l4⟩ := row5B HML.out
            go_wp2_with (go_at_call 39; (with_reducible refine HC.out.mono ?_); rintro e9 w1 ⟨rfl, vO3, vC3, ts3, H3⟩; have HI3 := Lib.hid H3; clear H3)
            go_ret
            refine ⟨hw, 0, s3, _, _, _, rfl, HI3.out.reF (fun _ _ h9 => h9.elim), HOK3.out, fun z hz => ?_⟩
            rw [HRUN.out, run_bad HLT.out HKX.out HO.out HF.out, HHW.out] at hz
            exact (Option.some.inj hz).symm
        · have hm' : m = x.ins.length := by omega
          subst hm'
          have HIE : Hid (inssW T args ans x.ins s = (0, s2)) := show _ = _ by rw [HIN.out, List.drop_length]; rfl
          have HC := Lib.hid (HEND.out _ s2 vO2 vC2 ts2 wr HH2.out HOK2.out x P p I i Tt t W wc HBM.out HRW.out)
          unfold bkV at HC
          have HOKE : Hid (∀ k' s', endW c x s2 = .go k' s' → WOk c T ans s' ∧ k' < c.blocks.length) := fun k' s' he => ⟨wok_end HOK2.out he, end_lt HBO.out he⟩
          clear hlt2 H2 hok2
          cases he : endW c x s2 with
          | go k' s' =>
            have HE := Lib.hid he
            rw [he] at HC
            have hkl : k' < c.blocks.length := (HOKE.out k' s' he).2
            have hC3 := HC.out
            unfold EndP at hC3
            simp only at hC3
            obtain ⟨kz, hkz⟩ : ∃ z : Int, (k' : Int) = z := ⟨_, rfl⟩
            rw [hkz] at hC3
            have hk0' : (0 : Int) ≤ kz := by omega
            have hk9 : decide (kz < 0) = false := by simp; omega
            have HC3 := Lib.hid hC3
            have HKZ := Lib.hid hkz
            have HKL := Lib.hid hkl
            clear he hC3 HC hkz hkl
            go_wp2_with (go_at_call 40; (with_reducible refine HC3.out.mono ?_); rintro e9 w1 ⟨rfl, H3⟩; have HI3 := Lib.hid H3; clear H3)
            go_roundw
            case rel =>
              have hlt := HLT.out
              refine ⟨j + 1, k', s', _, _, _, by omega, by go_num, by rw [HKZ.out], HKL.out, (HOKE.out k' s' HE.out).1, HI3.out.reF (fun _ _ h9 => h9.elim), ?_⟩
              rw [HRUN.out, run_end hlt HKX.out HIE.out, HE.out]
            case measure => have hlt := HLT.out; simp [intOf]; omega
          | done z =>
            have HE := Lib.hid he
            rw [he] at HC
            clear he
            go_wp2_with (go_at_call 40; (with_reducible refine HC.out.mono ?_); rintro e9 w1 ⟨rfl, H3⟩; have HI3 := Lib.hid H3; clear H3)
            go_ret
            refine ⟨hDone, z, s2, _, _, _, rfl, HI3.out.reF (fun _ _ h9 => h9.elim), HOK2.out, fun z' hz => ?_⟩
            rw [HRUN.out, run_end HLT.out HKX.out HIE.out, HE.out] at hz
            exact (Option.some.inj hz).symm
          | stuck =>
            have HE := Lib.hid he
            rw [he] at HC
            clear he
            have hn0 := nOne_neg
            go_wp2_with (go_at_call 40; (with_reducible refine HC.out.mono ?_); rintro e9 w1 ⟨rfl, H3⟩; have HI3 := Lib.hid H3; clear H3)
            go_ret
            refine ⟨hStuck, 0, s2, _, _, _, rfl, HI3.out.reF (fun _ _ h9 => h9.elim), HOK2.out, fun z' hz => ?_⟩
            rw [HRUN.out, run_end HLT.out HKX.out HIE.out, HE.out] at hz
            exact (Option.some.inj hz).symm
    · have hj' : j = 100000 := by omega
      subst hj'
      go_wp2_with fail
      go_ret
      refine ⟨hStuck, 0, s, _, _, _, rfl, H1, hok, fun z hz => ?_⟩
      rw [HRUN.out, Nat.sub_self] at hz
      cases hz
end
end Go.Proofs.YtdilakpipbkokaaDoor
