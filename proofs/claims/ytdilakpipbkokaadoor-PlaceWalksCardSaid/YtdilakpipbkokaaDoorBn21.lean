import Derived.Test.YtdilakpipbkokaaDoorBn17
import Derived.Test.YtdilakpipbkokaaDoorBn20
set_option linter.unusedVariables false
set_option linter.unusedSimpArgs false
namespace Go.Proofs.YtdilakpipbkokaaDoor
open Go.RowKit

/-! the walker: leaving a block -/
section
variable {c : PCo} {A : Option Addr} {ca : Nat} {X : Option Addr} {args : List Int} {xc : Nat} {Y : Option Addr} {ans : List Int} {yc : Nat} {T : Int} {w0 : World} {mb gb hb n : Nat} {F : Nat → Array Value → Prop} {s : WSt} {h : List UInt8} {v : Int} {vO vC : Value} {ts : List CC} {w w' w1 : World}
/-- A walk's state, and that all but what was made is as it was. -/
def LvAt (c : PCo) (A : Option Addr) (ca : Nat) (X : Option Addr) (args : List Int) (xc : Nat) (Y : Option Addr) (ans : List Int) (yc : Nat) (T : Int) (w0 : World) (mb gb hb n : Nat) (F : Nat → Array Value → Prop) (h : List UInt8) (v : Int) (vO vC : Value) (ts : List CC) (w1 : World) (s : WSt) (w : World) : Prop :=
  PwAt c A ca X args xc Y ans yc T w0 mb gb hb n F s h v vO vC ts w ∧ ∀ k, k ≠ gb → k ≠ hb → w.heap[k]? = w1.heap[k]?
theorem LvAt.drewN (H : LvAt c A ca X args xc Y ans yc T w0 mb gb hb n F h v vO vC ts w1 s w) (j : Nat) : LvAt c A ca X args xc Y ans yc T w0 mb gb hb n F h v vO vC ts w1 s (w.drewN j) := ⟨H.1.drewN j, H.2⟩
theorem LvAt.put (H : LvAt c A ca X args xc Y ans yc T w0 mb gb hb n F h v vO vC ts w1 s w) {d : Nat} (z : Int) : LvAt c A ca X args xc Y ans yc T w0 mb gb hb n F h v vO vC ts w1 (putW s d z) ((w.setCell ⟨gb, d, none⟩ (.int .i64 z)).setCell ⟨hb, d, none⟩ (.bool true)) :=
  ⟨H.1.put z, fun k h1 h2 => (Below.heap_setCell _ _ _ _ h2).trans ((Below.heap_setCell _ _ _ _ h1).trans (H.2 k h1 h2))⟩
theorem LvAt.put' (H : LvAt c A ca X args xc Y ans yc T w0 mb gb hb n F h v vO vC ts w1 s w) {d : Nat} (z : Int) : LvAt c A ca X args xc Y ans yc T w0 mb gb hb n F h v vO vC ts w1 (putW s d z) ((w.setCell ⟨hb, d, none⟩ (.bool true)).setCell ⟨gb, d, none⟩ (.int .i64 z)) :=
  ⟨H.1.put' z, fun k h1 h2 => (Below.heap_setCell _ _ _ _ h1).trans ((Below.heap_setCell _ _ _ _ h2).trans (H.2 k h1 h2))⟩
def LeaveP (c : PCo) (A : Option Addr) (ca : Nat) (X : Option Addr) (args : List Int) (xc : Nat) (Y : Option Addr) (ans : List Int) (yc : Nat) (T : Int) (w0 : World) (mb gb hb n : Nat) (F : Nat → Array Value → Prop) (h : List UInt8) (v : Int) (vO vC : Value) (ts : List CC) (s : WSt) (z : Option (Nat × WSt)) : Ending → World → Prop := fun e w' =>
  match z with
  | none => e = .returned (.int .i64 (-1)) ∧ PwAt c A ca X args xc Y ans yc T w0 mb gb hb n F s h v vO vC ts w'
  | some p => e = .returned (.int .i64 (p.1 : Nat)) ∧ PwAt c A ca X args xc Y ans yc T w0 mb gb hb n F p.2 h v vO vC ts w'
set_option maxRecDepth 100000 in
def ixLv : Op := Op.indexAddr 25 (Operand.tmp 45) (Operand.tmp 46)
@[go_sem] theorem ixLv_eq : ixLv = Op.indexAddr 25 (Operand.tmp 45) (Operand.tmp 46) := rfl
set_option maxHeartbeats 8000000 in
theorem leave_any (H : PwAt c A ca X args xc Y ans yc T w0 mb gb hb n F s h v vO vC ts w) (hok : s.got.length = n ∧ s.has.length = n) (hn : (n : Int) = c.values) (hrd : RdP w0 c.blocks A) (hbk : ∀ q ∈ c.blocks, BkF c q) (b : PBk) (hb9 : BkF c b) (hsm : PSm b) (P : Option Addr) (p : Nat) (I : Option Addr) (i : Nat) (Tt : Option Addr) (t : Nat) (W : Option Addr) (wc : Nat) (hr : BkRows w0 b P I Tt W) (k : Nat) (hk : k < b.nx.length) :
    Calls Tryd.prog 64 #[.pointer (some ⟨mb, 0, none⟩), bkV b P p I i Tt t W wc, .int .i64 (k : Nat)] w (LeaveP c A ca X args xc Y ans yc T w0 mb gb hb n F h v vO vC ts s (leaveW c b k s)) := by
  obtain ⟨q, hq⟩ : ∃ q, w.heap.size = q := ⟨_, rfl⟩
  obtain ⟨bx, hbx⟩ : ∃ bx, w.alloc (.cells #[.slice P b.params.length p, .slice I b.ins.length i, .string (mkB b.fin), .int .i64 b.v, .slice Tt b.nx.length t, .slice W b.wth.length wc] 56) = bx := ⟨_, rfl⟩
  have hbb : Below w.heap.size w bx := by rw [← hbx]; exact grow_alloc (grow_refl _) _
  have hnn : bx.heap[q]? = some (.cells #[.slice P b.params.length p, .slice I b.ins.length i, .string (mkB b.fin), .int .i64 b.v, .slice Tt b.nx.length t, .slice W b.wth.length wc] 56 (0, 0)) := by rw [← hbx, ← hq]; exact heap_alloc_new w _
  have h2 := H.below hbb
  obtain ⟨b0, b1, b2, b3, b4, b5⟩ := row6B hnn
  -- the way's numbers
  have hkw : k < b.wth.length := by have h1 := hb9.nx; have h3 := hb9.wn; omega
  have hkx : b.nx[k] = b.nx.getD k 0 := by rw [List.getD_eq_getElem?_getD, List.getElem?_eq_getElem hk]; rfl
  have hfar := hb9.far b.nx[k] (List.getElem_mem hk)
  obtain ⟨tn, htn⟩ : ∃ tn : Nat, b.nx[k] = (tn : Int) := ⟨b.nx[k].toNat, (Int.toNat_of_nonneg hfar.1).symm⟩
  have htl : tn < c.blocks.length := by omega
  have hfit := hb9.fit k hk
  rw [withFit_eq hkw hk htn htl] at hfit
  have hfit2 : b.wth[k].length = c.blocks[tn].params.length := by simpa using hfit
  obtain ⟨b7, off7, L, lc, hL, hcell7, hrow7⟩ := wth_at (hr.wth.keep (Keeps.of_below h2.bel) fun _ _ => GoodL.keep (Keeps.of_below h2.bel)) hkw
  obtain ⟨l0, hl0⟩ : ∃ l, b.wth[k] = l := ⟨_, rfl⟩
  rw [hl0] at hcell7 hrow7 hfit2
  have hl12 : l0.length ≤ 12 := by rw [← hl0]; exact hsm.wths _ (List.getElem_mem hkw)
  have hin0 : ∀ v ∈ l0, 0 ≤ v ∧ v < (n : Int) := fun v hv => by rw [← hl0] at hv; have := hb9.wth _ (List.getElem_mem hkw) v hv; omega
  obtain ⟨b8, off8, P8, p8, I8, i8, T8, t8, W8, c8, hA8, hB8⟩ := bks_at hrd htl
  obtain ⟨ps, hps⟩ : ∃ ps, c.blocks[tn].params = ps := ⟨_, rfl⟩
  have hx8 := hB8.c0
  have hp8 := hB8.params
  rw [hps] at hx8 hp8 hfit2
  have hpn : ∀ v ∈ ps, 0 ≤ v ∧ v < (n : Int) := fun v hv => by rw [← hps] at hv; have := (hbk _ (List.getElem_mem htl)).params v hv; omega
  obtain ⟨b6, off6, hT6, hc6⟩ := hr.nx k _ (intVs_get hk)
  rw [htn] at hc6
  have HLV : Hid (leaveW c b k s = match pickW s l0 with | none => none | some l => some (tn, putsW ps l s)) := show _ = _ by
    unfold leaveW
    rw [List.getD_eq_getElem?_getD, List.getElem?_eq_getElem hkw, Option.getD_some, hl0, ← hkx, htn, Int.toNat_natCast, List.getElem?_eq_getElem htl]
    simp only [Option.map_some, Option.getD_some, hps]
    cases pickW s l0 <;> rfl
  have HV := Lib.hid (values_any h2 hok.1 hok.2 l0 (by omega) hin0 L lc hrow7)
  have HW0 : Hid (∀ W', Below w0.heap.size w0 W' → W'.cell? ⟨b6, off6 + k, none⟩ = some (.int .i64 (tn : Int)) ∧ W'.cell? ⟨b8, off8 + tn * 6, none⟩ = some (.slice P8 ps.length p8) ∧ Row W' P8 (intVs ps)) := fun W' hW => ⟨Keeps.of_below hW _ _ hc6, Keeps.of_below hW _ _ hx8, hp8.keep (Keeps.of_below hW)⟩
  have HH : Hid (PwAt c A ca X args xc Y ans yc T w0 mb gb hb n (fun q9 cs9 => F q9 cs9 ∨ (q9 = q ∧ cs9 = #[.slice P b.params.length p, .slice I b.ins.length i, .string (mkB b.fin), .int .i64 b.v, .slice Tt b.nx.length t, .slice W b.wth.length wc])) s h v vO vC ts bx) := h2.reF (fun q9 cs9 h9 => by
    rcases h9 with h9 | ⟨rfl, rfl⟩
    · exact h2.fr q9 cs9 h9
    · exact hnn)
  have HBX := Lib.hid hbx
  have HQ := Lib.hid hq
  have HOK := Lib.hid hok
  have HPN := Lib.hid hpn
  have HFT := Lib.hid hfit2
  have hps12 : ps.length ≤ 12 := by omega
  have hk0 : (0 : Int) ≤ (k : Int) := by omega
  have hk1 : (k : Int) < (b.wth.length : Int) := by omega
  have hk2 : (k : Int) < (b.nx.length : Int) := by omega
  have ht0 : (0 : Int) ≤ (tn : Int) := by omega
  have ht1 : (tn : Int) < (c.blocks.length : Int) := by omega
  subst hL hA8 hT6
  obtain ⟨Q, hQ⟩ : ∃ Q, LeaveP c (some ⟨b8, off8, none⟩) ca X args xc Y ans yc T w0 mb gb hb n F h v vO vC ts s (leaveW c b k s) = Q := ⟨_, rfl⟩
  have HQQ := Lib.hid hQ
  rw [hQ]
  unfold bkV
  clear H h2 hbx hbb hnn hq hok hpn hfit hfit2 hfar htn hkx hl0 hr hrd hB8 hps hp8 hx8 hc6 hrow7 hin0 hsm hb9 hbk hQ
  go_enter Tryd.func64, Tryd.ntmps64
  go_upto_region 1 with fail
  change Code.wp _ _ _ _ (w.alloc (.cells #[.slice P b.params.length p, .slice I b.ins.length i, .string (mkB b.fin), .int .i64 b.v, .slice (some ⟨b6, off6, none⟩) b.nx.length t, .slice (some ⟨b7, off7, none⟩) b.wth.length wc] 56))
  rw [HQ.out, HBX.out]
  cases hp : pickW s l0 with
  | none =>
    have HP := Lib.hid hp
    have HF : Hid (leaveW c b k s = none) := show _ = _ by rw [HLV.out, hp]
    clear hp
    go_wp2_with (go_at_call 62; (with_reducible refine HV.out.mono ?_); rintro y w1 ⟨hb1, (⟨hno, rfl⟩ | ⟨r, A6, c6, hr, rfl, ho⟩)⟩; rotate_left; (exact absurd (HP.out.symm.trans hr) (by simp)))
    rw [← HQQ.out, HF.out]
    exact ⟨rfl, (HH.out.below hb1).reF fun q9 cs9 h9 => (HH.out.below hb1).fr q9 cs9 (.inl h9)⟩
  | some l =>
    have HP := Lib.hid hp
    have HF : Hid (leaveW c b k s = some (tn, putsW ps l s)) := show _ = _ by rw [HLV.out, hp]
    have HLL : Hid (l.length = ps.length) := show _ = _ by rw [pickW_len hp, HFT.out]
    clear hp
    go_upto_region 2 with (go_at_call 62; (with_reducible refine HV.out.mono ?_); rintro y w1 ⟨hb1, (⟨hno, -⟩ | ⟨r, A6, c6, hr, rfl, ho⟩)⟩; (exact absurd (hno.symm.trans HP.out) (by simp)); obtain rfl := Option.some.inj (hr.symm.trans HP.out))
    have H1 := HH.out.below hb1
    clear b0 b1 b2 b3 b4 b5 hcell7
    obtain ⟨b0, b1, b2, b3, b4, b5⟩ := row6B (H1.fr q _ (.inr ⟨rfl, rfl⟩))
    obtain ⟨t6, x8, -⟩ := HW0.out w1 H1.bel
    have c3 : w1.cell? ⟨mb, 3, none⟩ = some (.slice (some ⟨b8, off8, none⟩) c.blocks.length ca) := H1.cellM rfl
    have HR6 : Hid (Row w1 A6 (intVs r)) := by
      obtain ⟨A6', c6', e6, -, hr6⟩ := owns_rowA ho
      injection e6 with e6 _ _
      subst e6
      exact hr6
    have HUP : Hid (∀ a, A6 = some a → a.block ≠ gb ∧ a.block ≠ hb) := fun a ha => by
      have h9 := (own_lt ho (k := a.block) (by show Value.ownBlock (.slice A6 r.length c6) = _; rw [ha]; rfl)).1
      have h8 := HH.out.ltG
      have h7 := HH.out.ltH
      omega
    have HL1 : Hid (∀ j9, LvAt c (some ⟨b8, off8, none⟩) ca X args xc Y ans yc T w0 mb gb hb n (fun q9 cs9 => F q9 cs9 ∨ (q9 = q ∧ cs9 = #[.slice P b.params.length p, .slice I b.ins.length i, .string (mkB b.fin), .int .i64 b.v, .slice (some ⟨b6, off6, none⟩) b.nx.length t, .slice (some ⟨b7, off7, none⟩) b.wth.length wc])) h v vO vC ts w1 s (w1.drewN j9)) := fun j9 => ⟨H1.drewN j9, fun _ _ _ => rfl⟩
    clear H1 ho hr hb1
    go_wp2_with fail
    go_quiet (fail)
    go_wp2_with fail
    go_loopw [9, 10, 37] (fun _ _ z wr => ∃ (j : Nat) (s2 : WSt), j ≤ ps.length ∧ z = .int .i64 j ∧ putsW ps r s = putsW (ps.drop j) (r.drop j) s2 ∧ (s2.got.length = n ∧ s2.has.length = n) ∧ LvAt c (some ⟨b8, off8, none⟩) ca X args xc Y ans yc T w0 mb gb hb n (fun q9 cs9 => F q9 cs9 ∨ (q9 = q ∧ cs9 = #[.slice P b.params.length p, .slice I b.ins.length i, .string (mkB b.fin), .int .i64 b.v, .slice (some ⟨b6, off6, none⟩) b.nx.length t, .slice (some ⟨b7, off7, none⟩) b.wth.length wc])) h v vO vC ts w1 s2 wr) (fun _ _ z _ => ps.length - (intOf z).toNat)
    case atStart => exact ⟨0, s, Nat.zero_le _, rfl, rfl, HOK.out, HL1.out _⟩
    case round =>
      obtain ⟨j, s2, hj, rfl, hI, hok2, hL2⟩ := hrel
      have HI := Lib.hid hI
      have HL2 := Lib.hid hL2
      have HOK2 := Lib.hid hok2
      clear hI hL2 hok2 b0 b1 b2 b3 b4 b5 t6 x8 c3
      obtain ⟨b0, b1, b2, b3, b4, b5⟩ := row6B (HL2.out.1.fr q _ (.inr ⟨rfl, rfl⟩))
      obtain ⟨t6, x8, hrow8⟩ := HW0.out wr HL2.out.1.bel
      by_cases hlt : j < ps.length
      · have hlt' : (j : Int) < (ps.length : Int) := by omega
        have hlr : j < r.length := by have := HLL.out; omega
        have hlr' : (j : Int) < (r.length : Int) := by omega
        have hj0 : (0 : Int) ≤ (j : Int) := by omega
        obtain ⟨b9, o9, rfl, hc9⟩ := hrow8 j _ (intVs_get hlt)
        obtain ⟨b5', o5, rfl, hc5⟩ := (row_by (w' := wr) HR6.out (fun _ a ha => HL2.out.2 a.block (HUP.out a ha).1 (HUP.out a ha).2)) j _ (intVs_get hlr)
        have hpj := HPN.out _ (List.getElem_mem hlt)
        have HST := Lib.hid (putsW_step (s := s2) hlt hlr)
        obtain ⟨dn, hdn⟩ : ∃ dn : Nat, ps[j] = (dn : Int) := ⟨ps[j].toNat, (Int.toNat_of_nonneg hpj.1).symm⟩
        obtain ⟨z, hz⟩ : ∃ z, r[j] = z := ⟨_, rfl⟩
        rw [hdn, hz] at HST
        rw [hdn] at hc9 hpj
        rw [hz] at hc5
        have hd0 : (0 : Int) ≤ (dn : Int) := by omega
        have hd1 : (dn : Int) < (n : Int) := by omega
        have hd2 : dn < n := by omega
        have H9 := HL2.out.1
        have c12 : wr.cell? ⟨mb, 12, none⟩ = some (.slice (some ⟨gb, 0, none⟩) n n) := H9.cellM rfl
        have c13 : wr.cell? ⟨mb, 13, none⟩ = some (.slice (some ⟨hb, 0, none⟩) n n) := H9.cellM rfl
        have cg := H9.cellG (j := dn) (by rw [HOK2.out.1]; exact hd2)
        have ch := H9.cellH (j := dn) (by rw [HOK2.out.2]; exact hd2)
        have zg := H9.frozG dn
        have zh := H9.frozH dn
        obtain ⟨ug, hug⟩ : ∃ z, s2.got.getD dn 0 = z := ⟨_, rfl⟩
        obtain ⟨uh, huh⟩ : ∃ z, s2.has.getD dn false = z := ⟨_, rfl⟩
        rw [hug] at cg
        rw [huh] at ch
        have hne1 : ¬ gb = hb := H9.neGH
        have hne2 : ¬ hb = gb := Ne.symm H9.neGH
        have hm1 : mb ≠ gb := H9.neMG
        have hm2 : mb ≠ hb := H9.neMH
        have hy := HUP.out ⟨b5', o5, none⟩ rfl
        have hy1 : b5' ≠ gb := hy.1
        have hy2 : b5' ≠ hb := hy.2
        have HS : Hid (wr.cell? ⟨mb, 12, none⟩ = some (.slice (some ⟨gb, 0, none⟩) n n) ∧ wr.cell? ⟨mb, 13, none⟩ = some (.slice (some ⟨hb, 0, none⟩) n n) ∧ wr.cell? ⟨b5', o5 + j, none⟩ = some (.int .i64 z)) := ⟨c12, c13, hc5⟩
        have HA1 := Lib.hid (fun j9 => (HL2.out.drewN j9).put (d := dn) z)
        have HA2 := Lib.hid (fun j9 => (HL2.out.drewN j9).put' (d := dn) z)
        have HOK3 : Hid ((putW s2 dn z).got.length = n ∧ (putW s2 dn z).has.length = n) := by
          refine ⟨?_, ?_⟩
          · simp [putW, HOK2.out.1]
          · simp [putW, HOK2.out.2]
        clear hpj hdn hz H9 hy hug huh hrow8
        go_upto_region 7 with fail
        rw [show Op.indexAddr 25 (Operand.tmp 45) (Operand.tmp 46) = ixLv from rfl]
        go_region_held3 (fun w' => w'.cell? ⟨mb, 12, none⟩ = some (.slice (some ⟨gb, 0, none⟩) n n) ∧ w'.cell? ⟨mb, 13, none⟩ = some (.slice (some ⟨hb, 0, none⟩) n n) ∧ w'.cell? ⟨b5', o5 + j, none⟩ = some (.int .i64 z))
          (first
            | exact HS.out
            | (go_split_ands
               refine ⟨?_, ?_, ?_⟩
               all_goals (first | assumption | exact cell_othW (by assumption) hm1 | exact cell_othW (by assumption) hm2 | exact cell_othW (by assumption) hy1 | exact cell_othW (by assumption) hy2)))
          (fail)
        all_goals go_wp2_with fail
        all_goals
          go_roundw
          case measure => simp [intOf]; omega
          case rel =>
            refine ⟨j + 1, putW s2 dn z, by omega, by go_num, by rw [HI.out, HST.out], HOK3.out, ?_⟩
            first
              | exact HA1.out _
              | exact HA2.out _
              | exact (HA1.out 0).drewN 1
              | exact (HA2.out 0).drewN 1
      · have hj' : j = ps.length := by omega
        have HE : Hid (putsW ps r s = s2) := show _ = _ by
          rw [HI.out, hj', List.drop_length, List.drop_of_length_le (by have := HLL.out; omega)]
          rfl
        clear hlt hrow8
        have hltf : ¬ (j : Int) < (ps.length : Int) := by omega
        go_wp2_with fail
        rw [← HQQ.out, HF.out, HE.out]
        exact ⟨rfl, HL2.out.1.reF fun q9 cs9 h9 => HL2.out.1.fr q9 cs9 (.inl h9)⟩
end
end Go.Proofs.YtdilakpipbkokaaDoor

namespace Go.Proofs.YtdilakpipbkokaaDoor
open Go.RowKit

/-! the walker: the end of a block -/
def goW : Option (Nat × WSt) → EndW
  | none => .stuck
  | some p => .go p.1 p.2
theorem finP_cases {b : PBk} (h : 0 ≤ endN b.fin) : b.fin = eJump ∨ b.fin = eIf ∨ b.fin = eReturn := by
  by_cases h1 : b.fin = eJump
  · exact .inl h1
  · by_cases h2 : b.fin = eIf
    · exact .inr (.inl h2)
    · by_cases h3 : b.fin = eReturn
      · exact .inr (.inr h3)
      · unfold endN at h
        simp [h1, h2, h3] at h
section
variable {c : PCo} {A : Option Addr} {ca : Nat} {X : Option Addr} {args : List Int} {xc : Nat} {Y : Option Addr} {ans : List Int} {yc : Nat} {T : Int} {w0 : World} {mb gb hb n : Nat} {F : Nat → Array Value → Prop} {s : WSt} {h : List UInt8} {v : Int} {vO vC : Value} {ts : List CC} {w w' w1 : World}
def nOne : Int := -1
theorem nOne_neg : nOne < 0 := by decide
def EndP (c : PCo) (A : Option Addr) (ca : Nat) (X : Option Addr) (args : List Int) (xc : Nat) (Y : Option Addr) (ans : List Int) (yc : Nat) (T : Int) (w0 : World) (mb gb hb n : Nat) (F : Nat → Array Value → Prop) (h : List UInt8) (v : Int) (vO vC : Value) (ts : List CC) (s : WSt) (z : EndW) : Ending → World → Prop := fun e w' =>
  match z with
  | .go k s' => e = .returned (.tuple #[.int .i64 (k : Nat), .bool false]) ∧ PwAt c A ca X args xc Y ans yc T w0 mb gb hb n F s' h v vO vC ts w'
  | .stuck => e = .returned (.tuple #[.int .i64 nOne, .bool false]) ∧ PwAt c A ca X args xc Y ans yc T w0 mb gb hb n F s h v vO vC ts w'
  | .done z => e = .returned (.tuple #[.int .i64 nOne, .bool true]) ∧ PwAt c A ca X args xc Y ans yc T w0 mb gb hb n F s h z vO vC ts w'
theorem endP_leave {e : Ending} {x : Option (Nat × WSt)} {k : Int} (hl : LeaveP c A ca X args xc Y ans yc T w0 mb gb hb n F h v vO vC ts s x (.returned (.int .i64 k)) w') (he : e = .returned (.tuple #[.int .i64 k, .bool false])) :
    EndP c A ca X args xc Y ans yc T w0 mb gb hb n F h v vO vC ts s (goW x) e w' := by
  subst he
  cases x with
  | none =>
    obtain ⟨e, h⟩ := hl
    injection e with e
    injection e with _ e
    subst e
    exact ⟨rfl, h⟩
  | some p =>
    obtain ⟨e, h⟩ := hl
    injection e with e
    injection e with _ e
    subst e
    exact ⟨rfl, h⟩
theorem leave_ret {x : Option (Nat × WSt)} {e : Ending} (hl : LeaveP c A ca X args xc Y ans yc T w0 mb gb hb n F h v vO vC ts s x e w') : ∃ k : Int, e = .returned (.int .i64 k) := by
  cases x with
  | none => exact ⟨_, hl.1⟩
  | some p => exact ⟨_, hl.1⟩
set_option maxRecDepth 100000 in
set_option maxHeartbeats 8000000 in
theorem end_any (H : PwAt c A ca X args xc Y ans yc T w0 mb gb hb n F s h v vO vC ts w) (hok : s.got.length = n ∧ s.has.length = n) (hn : (n : Int) = c.values) (hrd : RdP w0 c.blocks A) (hbk : ∀ q ∈ c.blocks, BkF c q) (b : PBk) (hb9 : BkF c b) (hsm : PSm b) (P : Option Addr) (p : Nat) (I : Option Addr) (i : Nat) (Tt : Option Addr) (t : Nat) (W : Option Addr) (wc : Nat) (hr : BkRows w0 b P I Tt W) :
    Calls Tryd.prog 40 #[.pointer (some ⟨mb, 0, none⟩), bkV b P p I i Tt t W wc] w (EndP c A ca X args xc Y ans yc T w0 mb gb hb n F h v vO vC ts s (endW c b s)) := by
  obtain ⟨q, hq⟩ : ∃ q, w.heap.size = q := ⟨_, rfl⟩
  obtain ⟨bx, hbx⟩ : ∃ bx, w.alloc (.cells #[.slice P b.params.length p, .slice I b.ins.length i, .string (mkB b.fin), .int .i64 b.v, .slice Tt b.nx.length t, .slice W b.wth.length wc] 56) = bx := ⟨_, rfl⟩
  have hbb : Below w.heap.size w bx := by rw [← hbx]; exact grow_alloc (grow_refl _) _
  have hnn : bx.heap[q]? = some (.cells #[.slice P b.params.length p, .slice I b.ins.length i, .string (mkB b.fin), .int .i64 b.v, .slice Tt b.nx.length t, .slice W b.wth.length wc] 56 (0, 0)) := by rw [← hbx, ← hq]; exact heap_alloc_new w _
  have h2 := H.below hbb
  obtain ⟨b0, b1, b2, b3, b4, b5⟩ := row6B hnn
  have HL : Hid (∀ (W' : World) (k : Nat), k < b.nx.length → Below bx.heap.size bx W' → Calls Tryd.prog 64 #[.pointer (some ⟨mb, 0, none⟩), .agg #[.slice P b.params.length p, .slice I b.ins.length i, .string (mkB b.fin), .int .i64 b.v, .slice Tt b.nx.length t, .slice W b.wth.length wc], .int .i64 (k : Nat)] W' (LeaveP c A ca X args xc Y ans yc T w0 mb gb hb n F h v vO vC ts s (leaveW c b k s))) := fun W' k hk hW =>
    leave_any (h2.below hW) hok hn hrd hbk b hb9 hsm P p I i Tt t W wc hr k hk
  have e1 : ((mkB b.fin).toList == [106, 117, 109, 112]) = (b.fin == eJump) := by rw [mkB_eq]; rfl
  have e2 : ((mkB b.fin).toList == [114, 101, 116, 117, 114, 110]) = (b.fin == eReturn) := by rw [mkB_eq]; rfl
  have hfin := hb9.fin
  have hnx := hb9.nx
  have hv := hb9.v
  have HBX := Lib.hid hbx
  have HQ := Lib.hid hq
  have HH := Lib.hid h2
  have HNN := Lib.hid hnn
  obtain ⟨Q, hQ⟩ : ∃ Q, EndP c A ca X args xc Y ans yc T w0 mb gb hb n F h v vO vC ts s (endW c b s) = Q := ⟨_, rfl⟩
  have HQQ := Lib.hid hQ
  rw [hQ]
  unfold bkV
  by_cases hj : b.fin = eJump
  · have h0 : 0 < b.nx.length := by rw [hj] at hnx; have : endN eJump = 1 := rfl; omega
    have h1 := HL.out bx 0 h0 (grow_refl _)
    rw [show ((0 : Nat) : Int) = 0 from rfl] at h1
    have H1 := Lib.hid h1
    have HF : Hid (endW c b s = goW (leaveW c b 0 s)) := show _ = _ by
      unfold endW
      rw [if_pos (by rw [hj]; rfl)]
      cases leaveW c b 0 s <;> rfl
    have e1' : ((mkB b.fin).toList == [106, 117, 109, 112]) = true := by rw [e1, hj]; rfl
    clear H h2 hbx hbb hnn hq hr hrd hsm hb9 hbk hQ hj e1 e2 hfin hnx hv h1 hok h0
    go_enter Tryd.func40, Tryd.ntmps40
    go_upto_region 1 with fail
    change Code.wp _ _ _ _ (w.alloc (.cells #[.slice P b.params.length p, .slice I b.ins.length i, .string (mkB b.fin), .int .i64 b.v, .slice Tt b.nx.length t, .slice W b.wth.length wc] 56))
    rw [HQ.out, HBX.out]
    go_wp2_with (go_at_call 64; (with_reducible refine H1.out.mono ?_); intro e9 w9 h9; obtain ⟨kz, rfl⟩ := leave_ret h9; have H9 := Lib.hid h9; clear h9)
    rw [← HQQ.out, HF.out]
    exact endP_leave H9.out rfl
  · have hv9 := hv hj
    obtain ⟨vn, hvn⟩ : ∃ vn : Nat, b.v = (vn : Int) := ⟨b.v.toNat, (Int.toNat_of_nonneg hv9.1).symm⟩
    obtain ⟨wV, hwV⟩ : ∃ wV, bx.alloc (.cells #[.int .i64 b.v] 3) = wV := ⟨_, rfl⟩
    have hbV : Below bx.heap.size bx wV := by rw [← hwV]; exact grow_alloc (grow_refl _) _
    have hrV : Row wV (some ⟨bx.heap.size, 0, none⟩) (intVs [b.v]) := fun j u hj => by
      refine ⟨bx.heap.size, 0, rfl, ?_⟩
      have hm : wV.heap[bx.heap.size]? = some (.cells #[.int .i64 b.v] 3 (0, 0)) := by rw [← hwV]; exact heap_alloc_new bx _
      rw [Nat.zero_add, cell_of_row _ _ j _ _ _ hm, ← hj]
      exact List.getElem?_toArray
    have h1 := values_any (h2.below hbV) hok.1 hok.2 [b.v] (by simp) (fun z hz => by rw [List.mem_singleton.1 hz]; omega) (some ⟨bx.heap.size, 0, none⟩) 1 hrV
    have hcv : Calls Tryd.prog 62 #[.pointer (some ⟨mb, 0, none⟩), .slice (some ⟨bx.heap.size, 0, none⟩) 1 1] (bx.alloc (.cells #[.int .i64 b.v] 3)) (ValsP s [b.v] wV) := by rw [hwV]; exact h1
    have HV := Lib.hid hcv
    have HBV := Lib.hid hbV
    have HNJ : Hid (endW c b s = if hasW s b.v = true then (if (b.fin == eReturn) = true then .done (gotW s b.v) else goW (leaveW c b (if gotW s b.v ≠ 0 then 0 else 1) s)) else .stuck) := show _ = _ by
      unfold endW
      rw [if_neg (by simpa using hj)]
      cases leaveW c b (if gotW s b.v ≠ 0 then 0 else 1) s <;> rfl
    have HPK : Hid (pickW s [b.v] = if hasW s b.v = true then some [gotW s b.v] else none) := show _ = _ by
      unfold pickW
      cases hasW s b.v <;> rfl
    have e1' : ((mkB b.fin).toList == [106, 117, 109, 112]) = false := by rw [e1]; exact beq_eq_false_iff_ne.2 hj
    clear h1 hcv hbV hrV hwV
    cases hhv : hasW s b.v with
    | false =>
      rw [hhv] at HPK HNJ
      have HF : Hid (endW c b s = .stuck) := show _ = _ by rw [HNJ.out]; rfl
      clear H h2 hbx hbb hnn hq hr hrd hsm hb9 hbk hQ hj e1 e2 hfin hnx hv hok hv9 hvn hhv
      go_enter Tryd.func40, Tryd.ntmps40
      go_upto_region 1 with fail
      change Code.wp _ _ _ _ (w.alloc (.cells #[.slice P b.params.length p, .slice I b.ins.length i, .string (mkB b.fin), .int .i64 b.v, .slice Tt b.nx.length t, .slice W b.wth.length wc] 56))
      rw [HQ.out, HBX.out]
      go_wp2_with (go_at_call 62; (with_reducible refine HV.out.mono ?_); rintro y w1 ⟨hb1, (⟨hno, rfl⟩ | ⟨r, A6, c6, hr, rfl, ho⟩)⟩; rotate_left; (exact absurd (HPK.out.symm.trans hr) (by simp)))
      rw [← HQQ.out, HF.out]
      exact ⟨rfl, HH.out.below (grow_trans HBV.out hb1)⟩
    | true =>
      rw [hhv] at HPK HNJ
      obtain ⟨gv, hgv⟩ : ∃ z, gotW s b.v = z := ⟨_, rfl⟩
      rw [hgv] at HPK HNJ
      by_cases hret : b.fin = eReturn
      · have e2' : ((mkB b.fin).toList == [114, 101, 116, 117, 114, 110]) = true := by rw [e2, hret]; rfl
        have HF : Hid (endW c b s = .done gv) := show _ = _ by rw [HNJ.out, if_pos rfl, if_pos (by rw [hret]; rfl)]
        clear H h2 hbx hbb hnn hq hr hrd hsm hb9 hbk hQ hj e1 e2 hfin hnx hv hok hv9 hvn hhv hgv hret
        go_enter Tryd.func40, Tryd.ntmps40
        go_upto_region 1 with fail
        change Code.wp _ _ _ _ (w.alloc (.cells #[.slice P b.params.length p, .slice I b.ins.length i, .string (mkB b.fin), .int .i64 b.v, .slice Tt b.nx.length t, .slice W b.wth.length wc] 56))
        rw [HQ.out, HBX.out]
        go_upto_region 4 with (go_at_call 62; (with_reducible refine HV.out.mono ?_); rintro y w1 ⟨hb1, (⟨hno, -⟩ | ⟨r, A6, c6, hr, rfl, ho⟩)⟩; (exact absurd (hno.symm.trans HPK.out) (by simp)); obtain rfl := Option.some.inj (hr.symm.trans HPK.out))
        obtain ⟨A6', c6', e6, -, hr6⟩ := owns_rowA ho
        injection e6 with e6 _ _
        subst e6
        obtain ⟨b6, o6, hA6, r0⟩ := hr6 0 _ rfl
        rw [Nat.add_zero] at r0
        subst hA6
        have hb2 := grow_trans HBV.out hb1
        have H1 := HH.out.below hb2
        clear b0 b1 b2 b3 b4 b5
        obtain ⟨b0, b1, b2, b3, b4, b5⟩ := row6B ((hb2.block q (Array.getElem?_eq_some_iff.1 HNN.out).1).trans HNN.out)
        have y8 : w1.cell? ⟨mb, 8, none⟩ = some (.int .i64 v) := H1.cellM rfl
        have z8 := H1.frozM 8
        have HST := Lib.hid (fun j9 => (H1.drewN j9).set (t' := s.ticks) (h' := h) (v' := gv) (j := 8) (.int .i64 gv) rfl)
        have HS0 := Lib.hid (H1.set (t' := s.ticks) (h' := h) (v' := gv) (j := 8) (.int .i64 gv) rfl)
        clear H1 hr6 ho hb1 hb2 hr
        go_wp2_with fail
        try go_region
        try go_wp2_with fail
        rw [← HQQ.out, HF.out]
        first
          | exact ⟨rfl, HST.out _⟩
          | exact ⟨rfl, HS0.out⟩
          | exact ⟨rfl, HS0.out.drewN 1⟩
      · have e2' : ((mkB b.fin).toList == [114, 101, 116, 117, 114, 110]) = false := by rw [e2]; exact beq_eq_false_iff_ne.2 hret
        have hnx2 : b.nx.length = 2 := by
          rcases finP_cases hfin with hf | hf | hf
          · exact absurd hf hj
          · rw [hf] at hnx; have : endN eIf = 2 := rfl; omega
          · exact absurd hf hret
        by_cases hz : gv = 0
        · have HF : Hid (endW c b s = goW (leaveW c b 1 s)) := show _ = _ by rw [HNJ.out, if_pos rfl, if_neg (by simpa using hret), if_neg (by simp [hz])]
          have HLV : Hid (∀ W', Below bx.heap.size bx W' → Calls Tryd.prog 64 #[.pointer (some ⟨mb, 0, none⟩), .agg #[.slice P b.params.length p, .slice I b.ins.length i, .string (mkB b.fin), .int .i64 b.v, .slice Tt b.nx.length t, .slice W b.wth.length wc], .int .i64 1] W' (LeaveP c A ca X args xc Y ans yc T w0 mb gb hb n F h v vO vC ts s (leaveW c b 1 s))) := fun W' hW => HL.out W' 1 (by omega) hW
          subst hz
          clear H h2 hbx hbb hnn hq hr hrd hsm hb9 hbk hQ hj e1 e2 hfin hnx hv hok hv9 hvn hhv hgv hret HL hnx2
          go_enter Tryd.func40, Tryd.ntmps40
          go_upto_region 1 with fail
          change Code.wp _ _ _ _ (w.alloc (.cells #[.slice P b.params.length p, .slice I b.ins.length i, .string (mkB b.fin), .int .i64 b.v, .slice Tt b.nx.length t, .slice W b.wth.length wc] 56))
          rw [HQ.out, HBX.out]
          go_upto_region 4 with (go_at_call 62; (with_reducible refine HV.out.mono ?_); rintro y w1 ⟨hb1, (⟨hno, -⟩ | ⟨r, A6, c6, hr, rfl, ho⟩)⟩; (exact absurd (hno.symm.trans HPK.out) (by simp)); obtain rfl := Option.some.inj (hr.symm.trans HPK.out))
          obtain ⟨A6', c6', e6, -, hr6⟩ := owns_rowA ho
          injection e6 with e6 _ _
          subst e6
          obtain ⟨b6, o6, hA6, r0⟩ := hr6 0 _ rfl
          rw [Nat.add_zero] at r0
          subst hA6
          have HB2 := Lib.hid (grow_trans HBV.out hb1)
          clear b0 b1 b2 b3 b4 b5
          obtain ⟨b0, b1, b2, b3, b4, b5⟩ := row6B ((HB2.out.block q (Array.getElem?_eq_some_iff.1 HNN.out).1).trans HNN.out)
          clear hr6 ho hb1 hr
          go_wp2_with (go_at_call 64; (with_reducible refine (HLV.out _ HB2.out).mono ?_); intro e9 w9 h9; obtain ⟨kz, rfl⟩ := leave_ret h9; have H9 := Lib.hid h9; clear h9)
          rw [← HQQ.out, HF.out]
          exact endP_leave H9.out rfl
        · have hzb : (gv == 0) = false := beq_eq_false_iff_ne.2 hz
          have hzb2 : (gv != 0) = true := by rw [bne, hzb]; rfl
          have HF : Hid (endW c b s = goW (leaveW c b 0 s)) := show _ = _ by rw [HNJ.out, if_pos rfl, if_neg (by simpa using hret), if_pos hz]
          have HLV : Hid (∀ W', Below bx.heap.size bx W' → Calls Tryd.prog 64 #[.pointer (some ⟨mb, 0, none⟩), .agg #[.slice P b.params.length p, .slice I b.ins.length i, .string (mkB b.fin), .int .i64 b.v, .slice Tt b.nx.length t, .slice W b.wth.length wc], .int .i64 0] W' (LeaveP c A ca X args xc Y ans yc T w0 mb gb hb n F h v vO vC ts s (leaveW c b 0 s))) := fun W' hW => HL.out W' 0 (by omega) hW
          clear H h2 hbx hbb hnn hq hr hrd hsm hb9 hbk hQ hj e1 e2 hfin hnx hv hok hv9 hvn hhv hgv hret HL hnx2
          go_enter Tryd.func40, Tryd.ntmps40
          go_upto_region 1 with fail
          change Code.wp _ _ _ _ (w.alloc (.cells #[.slice P b.params.length p, .slice I b.ins.length i, .string (mkB b.fin), .int .i64 b.v, .slice Tt b.nx.length t, .slice W b.wth.length wc] 56))
          rw [HQ.out, HBX.out]
          go_upto_region 4 with (go_at_call 62; (with_reducible refine HV.out.mono ?_); rintro y w1 ⟨hb1, (⟨hno, -⟩ | ⟨r, A6, c6, hr, rfl, ho⟩)⟩; (exact absurd (hno.symm.trans HPK.out) (by simp)); obtain rfl := Option.some.inj (hr.symm.trans HPK.out))
          obtain ⟨A6', c6', e6, -, hr6⟩ := owns_rowA ho
          injection e6 with e6 _ _
          subst e6
          obtain ⟨b6, o6, hA6, r0⟩ := hr6 0 _ rfl
          rw [Nat.add_zero] at r0
          subst hA6
          have HB2 := Lib.hid (grow_trans HBV.out hb1)
          clear b0 b1 b2 b3 b4 b5
          obtain ⟨b0, b1, b2, b3, b4, b5⟩ := row6B ((HB2.out.block q (Array.getElem?_eq_some_iff.1 HNN.out).1).trans HNN.out)
          clear hr6 ho hb1 hr hz
          go_wp2_with (go_at_call 64; (with_reducible refine (HLV.out _ HB2.out).mono ?_); intro e9 w9 h9; obtain ⟨kz, rfl⟩ := leave_ret h9; have H9 := Lib.hid h9; clear h9)
          rw [← HQQ.out, HF.out]
          exact endP_leave H9.out rfl
end
end Go.Proofs.YtdilakpipbkokaaDoor

namespace Go.Proofs.YtdilakpipbkokaaDoor
open Go.RowKit

/-! the walker: an instruction, whole; leaving a block -/
def howO : Nat → List UInt8
  | 0 => []
  | 1 => hOver
  | _ => hStuck
section
variable (c : PCo) (A : Option Addr) (ca : Nat) (X : Option Addr) (args : List Int) (xc : Nat) (Y : Option Addr) (ans : List Int) (yc : Nat) (T : Int) (w0 : World) (mb gb hb n : Nat) (F : Nat → Array Value → Prop)
def InsP (s : WSt) (h : List UInt8) (v : Int) (z : Nat × WSt) : Ending → World → Prop := fun e w' => e = .returned (.string (mkB (howO z.1))) ∧ ∃ vO vC ts, PwAt c A ca X args xc Y ans yc T w0 mb gb hb n F z.2 h v vO vC ts w'
end
section
variable {c : PCo} {A : Option Addr} {ca : Nat} {X : Option Addr} {args : List Int} {xc : Nat} {Y : Option Addr} {ans : List Int} {yc : Nat} {T : Int} {w0 : World} {mb gb hb n : Nat} {F : Nat → Array Value → Prop} {s : WSt} {h : List UInt8} {v : Int} {vO vC : Value} {ts : List CC} {w w' : World}
theorem kindW_of {k : List UInt8} : (kindW k = 5 ↔ k = kCall) := by
  unfold kindW
  repeat' split
  all_goals simp_all
  all_goals decide
theorem insW_else (T : Int) (args ans : List Int) {x : PIn} {s : WSt} {r : List Int} (hp : pickW s x.args = some r) (h5 : kindW x.kind ≠ 5) (h6 : kindW x.kind ≠ 6) (h7 : kindW x.kind ≠ 7) : insW T args ans x s = (0, putW s x.d (pureW args x r)) := by
  unfold insW
  rw [hp]
  dsimp only
  split
  · rename_i e; exact absurd e h6
  · rename_i e; exact absurd e h7
  · rename_i e; exact absurd e h5
  · rfl
theorem ins_any (H : PwAt c A ca X args xc Y ans yc T w0 mb gb hb n F s h v vO vC ts w) (hok : WOk c T ans s) (hn : n = c.values.toNat) (hT6 : T ≤ 60) (han : ans.length ≤ 1000) (hpa : (args.length : Int) = c.params) (x : PIn) (hf : InF c x) (h8 : x.args.length ≤ 8) (A5 : Option Addr) (c5 : Nat) (hrow : Row w A5 (intVs x.args))
    (K : Value) (hK : ∀ w', Below w0.heap.size w0 w' → w'.cell? ⟨5, 0, none⟩ = some K) (hX : Row w0 X (intVs args)) (hY : Row w0 Y (intVs ans)) :
    Calls Tryd.prog 39 #[.pointer (some ⟨mb, 0, none⟩), inV x A5 c5] w (InsP c A ca X args xc Y ans yc T w0 mb gb hb n F s h v (insW T args ans x s)) := by
  have hg : s.got.length = n ∧ s.has.length = n := ⟨hok.g.trans hn.symm, hok.h.trans hn.symm⟩
  have hin : ∀ v ∈ x.args, 0 ≤ v ∧ v < (n : Int) := fun v hv => by have := hf.args v hv; omega
  obtain ⟨-, k6, k7⟩ := @kindW_is x.kind
  have k5 := @kindW_of x.kind
  cases hp : pickW s x.args with
  | none =>
    have e : insW T args ans x s = (2, s) := by unfold insW; rw [hp]
    rw [e]
    refine (ins_stuck H hg x A5 c5 hrow h8 hin hp).mono ?_
    rintro e w' ⟨rfl, h1⟩
    exact ⟨rfl, _, _, _, h1⟩
  | some r =>
    by_cases h6 : x.kind = kTick
    · have hk := k6.2 h6
      by_cases ht : T ≤ s.ticks
      · have e : insW T args ans x s = (1, s) := by unfold insW; rw [hp]; dsimp only; rw [hk]; exact if_pos ht
        rw [e]
        refine (ins_tick_no H hg x A5 c5 hrow h8 hin hp h6 ht).mono ?_
        rintro e w' ⟨rfl, h1⟩
        exact ⟨rfl, _, _, _, h1⟩
      · have e : insW T args ans x s = (0, { s with ticks := s.ticks + 1 }) := by unfold insW; rw [hp]; dsimp only; rw [hk]; exact if_neg ht
        rw [e]
        refine (ins_tick_go H hg x A5 c5 hrow h8 hin hp h6 (by omega) hok.ticks.1 hT6).mono ?_
        rintro e w' ⟨rfl, h1⟩
        exact ⟨rfl, _, _, _, h1⟩
    · by_cases h7 : x.kind = kPrint
      · have hk := k7.2 h7
        by_cases ho : 1000 ≤ s.out.length
        · have e : insW T args ans x s = (1, s) := by unfold insW; rw [hp]; dsimp only; rw [hk]; exact if_pos ho
          rw [e]
          refine (ins_print_no H hg x A5 c5 hrow h8 hin hp h7 (by omega)).mono ?_
          rintro e w' ⟨rfl, h1⟩
          exact ⟨rfl, _, _, _, h1⟩
        · have e : insW T args ans x s = (0, { s with out := s.out ++ [r.getD 0 0] }) := by unfold insW; rw [hp]; dsimp only; rw [hk]; exact if_neg ho
          rw [e]
          refine (ins_print_go H hg x A5 c5 hrow h8 hin hp h7 (hf.print hk) (by omega)).mono ?_
          rintro e w' ⟨rfl, vO', h1⟩
          exact ⟨rfl, _, _, _, h1⟩
      · have hd := hf.d (fun e => h6 (k6.1 e)) (fun e => h7 (k7.1 e))
        have hdn : x.d = (x.d.toNat : Int) := (Int.toNat_of_nonneg hd.1).symm
        have hdl : x.d.toNat < n := by omega
        by_cases h5 : x.kind = kCall
        · have hk := k5.2 h5
          by_cases hc : ans.length ≤ s.calls.length
          · have e : insW T args ans x s = (1, s) := by unfold insW; rw [hp]; dsimp only; rw [hk]; exact if_pos hc
            rw [e]
            refine (ins_call_no H hg x A5 c5 hrow h8 hin hp h5 (by omega)).mono ?_
            rintro e w' ⟨rfl, h1⟩
            exact ⟨rfl, _, _, _, h1⟩
          · have e : insW T args ans x s = (0, putW { s with calls := s.calls ++ [(x.name, r)] } x.d (ans.getD s.calls.length 0)) := by unfold insW; rw [hp]; dsimp only; rw [hk]; exact if_neg hc
            rw [e]
            refine (ins_call_go H hg x A5 c5 hrow h8 hin hp h5 x.d.toNat hdn hdl hY (by omega) (by have := hok.calls; omega)).mono ?_
            rintro e w' ⟨rfl, vC', ts', h1⟩
            rw [← hdn] at h1
            exact ⟨rfl, _, _, _, h1⟩
        · rw [insW_else T args ans hp (fun e => h5 (k5.1 e)) (fun e => h6 (k6.1 e)) (fun e => h7 (k7.1 e))]
          refine (ins_pure H hg x A5 c5 hrow h8 hin hp h6 h7 h5 x.d.toNat hdn hdl hf hpa hX K hK).mono ?_
          rintro e w' ⟨rfl, h1⟩
          rw [← hdn] at h1
          exact ⟨rfl, _, _, _, h1⟩
end
end Go.Proofs.YtdilakpipbkokaaDoor
