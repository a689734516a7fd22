import Derived.BigQuiet
import Derived.Test.YtpfgimohginbdaaGreatDoorBn37
import Derived.Test.YtpfgimohginbdaaGreatDoorBn38
set_option linter.unusedVariables false
set_option linter.unusedSimpArgs false
namespace Go.Proofs.YtpfgimohginbdaaGreatDoor
open Go.RowKit

/-! the reference's parser: ahead -/
section
variable {l : List Tok} {pb : Nat} {A : Option Addr} {c : Nat} {w0 : World} {s s' : PSt} {w w' w1 : World} {e : PExpr}
theorem nxt_txt (T : TkOk l) {x : List UInt8} (hx : x ∉ wordsB) (hne : x ≠ []) (hb : isP l s x = true) : nxtP l s kSign = x ∧ txtP l s = x := by
  have h1 := sign_is (s := s) T hx hne
  rw [hb, beq_iff_eq] at h1
  obtain ⟨-, t, htk, htx, -, -⟩ := isP_some hb
  exact ⟨h1, by unfold txtP; rw [htk]; exact htx⟩
theorem nxt_eq (T : TkOk l) {x : List UInt8} (hx : x ∉ wordsB) (hne : x ≠ []) {b : Bool} (hb : isP l s x = b) {xk : ByteArray} (hk : mkB (nxtP l s kSign) = xk) : (xk.toList == x) = b := by
  rw [← hk, mkB_toList, sign_is T hx hne, hb]
set_option maxHeartbeats 16000000 in
set_option maxRecDepth 100000 in
theorem ahead_one (I : RaIn l A w0) (T : TkOk l) {n : Nat} (IH : RxI l pb A c w0 n) (hs : PStOk l s) (ho : isP l s [45] = true ∨ isP l s [33] = true) (hf : aheadR l (n + 1) s = some (e, s')) (h : RaAt l pb A c w0 s w) :
    Calls Tryz.prog 64 #[.pointer (some ⟨pb, 0, none⟩)] w (RxPost l pb A c w0 e s' w) := by
  have hlen := I.len
  obtain ⟨rb, hrb⟩ : ∃ rb, w.heap.size = rb := ⟨_, rfl⟩
  obtain ⟨wA, hwA⟩ : ∃ wA, w.alloc (.cells #[.string ⟨#[]⟩, .int .i64 0, .string ⟨#[]⟩, .slice none 0 0] 88) = wA := ⟨_, rfl⟩
  have hbA : Below w.heap.size w wA := by rw [← hwA]; exact grow_alloc (grow_refl _) _
  have hmA : wA.heap[rb]? = some (.cells #[.string ⟨#[]⟩, .int .i64 0, .string ⟨#[]⟩, .slice none 0 0] 88 (0, 0)) := by rw [← hwA, ← hrb]; exact heap_alloc_new w _
  have hA := h.keep hbA
  have hpr : pb < rb := by have := h.lt; omega
  have hlo : w0.heap.size ≤ rb := by have := h.under; omega
  have hra : rb < wA.heap.size := (Array.getElem?_eq_some_iff.1 hmA).1
  have HBA : Hid (But pb w wA) := But.of_below hbA
  have HR : Hid (∀ w', But pb wA w' → w'.heap[rb]? = some (.cells #[.string ⟨#[]⟩, .int .i64 0, .string ⟨#[]⟩, .slice none 0 0] 88 (0, 0))) := fun w' hb => hb.row hmA (by omega)
  have HWA := Lib.hid (And.intro hwA hrb)
  have HPL := Lib.hid (And.intro hpr (And.intro hlo hra))
  have HA := Lib.hid hA
  have HS := Lib.hid hs
  have HI := Lib.hid I
  have HLN := Lib.hid hlen
  have HN0 := Lib.hid (nxt_lit I hA kSign)
  rw [show mkB kSign = ⟨#[115, 105, 103, 110]⟩ from rfl] at HN0
  obtain ⟨Q, hQ⟩ : ∃ Q, RxPost l pb A c w0 e s' w = Q := ⟨_, rfl⟩
  have HQ := Lib.hid hQ
  rw [hQ]
  obtain ⟨xk, hxk⟩ : ∃ xk, mkB (nxtP l s kSign) = xk := ⟨_, rfl⟩
  rw [hxk] at HN0
  have hx : s.err = none ∧ s.pos < l.length ∧ mkB (txtP l s) = xk := by
    rcases ho with ho | ho
    · obtain ⟨he, t, -, -, hp, -⟩ := isP_some ho
      have := nxt_txt T (by decide) (by decide) ho
      exact ⟨he, hp, by rw [← hxk, this.1, this.2]⟩
    · obtain ⟨he, t, -, -, hp, -⟩ := isP_some ho
      have := nxt_txt T (by decide) (by decide) ho
      exact ⟨he, hp, by rw [← hxk, this.1, this.2]⟩
  obtain ⟨hse, hpl, hxt⟩ := hx
  have hor : ((xk.toList == [45]) = true) ∨ ((xk.toList == [45]) = false ∧ (xk.toList == [33]) = true) := by
    cases h1 : isP l s [45]
    · refine .inr ⟨nxt_eq T (by decide) (by decide) h1 hxk, nxt_eq T (by decide) (by decide) (ho.resolve_left (by rw [h1]; decide)) hxk⟩
    · exact .inl (nxt_eq T (by decide) (by decide) h1 hxk)
  have HXT := Lib.hid hxt
  have HDN : Hid (∀ w', RaAt l pb A c w0 s w' → Calls Tryz.prog 36 #[.pointer (some ⟨pb, 0, none⟩)] w' (RaRet l pb A c w0 (.bool (nestP s).err.isNone) (nestP s) w')) := fun w' hw => rdown_any hw ⟨hs.lo, by have := hs.top; omega⟩
  have HSS := HS
  rw [aheadR, if_pos ho] at hf
  by_cases hn : (nestP s).err.isNone = true
  · rw [if_pos hn] at hf
    rw [hn] at HDN
    have hst : PStOk l (nestP s).step := by
      obtain ⟨-, h2, h3⟩ := nestP_ok (none_of hn)
      rw [h3]
      exact ⟨by show s.pos + 1 ≤ l.length; omega, by show 0 ≤ s.deep + 1; have := HSS.out.lo; omega, by show s.deep + 1 ≤ 13; omega, fun _ => h2⟩
    cases hx : aheadR l n (nestP s).step with
    | none => rw [hx] at hf; cases hf
    | some p =>
      obtain ⟨e1, s1⟩ := p
      rw [hx] at hf
      have hs1 := hst.went ((went_exprR l n).ahead _ e1 s1 hst.hi hx)
      have hd1 := hs1.lo
      have hd2 := hs1.top
      have HES : Hid (e = ⟨yOne, 0, txtP l s, [e1]⟩ ∧ s' = s1.up) := show _ ∧ _ by cases hf; exact ⟨rfl, rfl⟩
      have HCALL : Hid (∀ w', RaAt l pb A c w0 (nestP s).step w' → Calls Tryz.prog 64 #[.pointer (some ⟨pb, 0, none⟩)] w' (RxPost l pb A c w0 e1 s1 w')) := fun w' hw => IH.ahead _ e1 s1 w' hst hx hw
      obtain ⟨pn, hpn⟩ : ∃ pn, nestP s = pn := ⟨_, rfl⟩
      have hne := nestP_pos s
      rw [hpn] at HDN HCALL hne
      have hpos : (pn.pos : Int) ≤ 100000 := by omega
      have hwp : IntKind.i64.wrap ((pn.pos : Int) + 1) = (pn.pos : Int) + 1 := IntWalk.i64_in _ (by omega)
      clear hf hx hst hs1 hn hpn hne ho hse hpl hxt hxk IH T h hA hbA hmA hwA hrb I hQ hpr hlo hra hlen hs
      rcases hor with ho | ⟨ho, ho2⟩
      all_goals
        go_enter Tryz.func64, Tryz.ntmps64
        go_upto_region 1 with fail
        rw [HWA.out.1, HWA.out.2]
        go_upto_region 6 with (first
          | (go_at_call 35; (with_reducible refine HN0.out.mono ?_); rintro y w1 ⟨rfl, n1, rfl⟩)
          | (go_at_call 36; (with_reducible refine (HDN.out _ (HA.out.drewN n1)).mono ?_); rintro y w2 ⟨rfl, h2, hb2⟩; obtain ⟨-, c1, c2, -, -⟩ := h2.cells; have z1 := h2.frozen 1; have z2 := h2.frozen 2; have H2 := Lib.hid (And.intro h2 (((But.refl pb wA).drewN n1).trans hb2)); clear h2 hb2))
        go_upto_region 7 with fail
        obtain ⟨w3, hw3⟩ : ∃ w3, w2.setCell ⟨pb, 1, none⟩ (.int .i64 ((pn.pos : Int) + 1)) = w3 := ⟨_, rfl⟩
        have h3 : RaAt l pb A c w0 pn.step w3 := by rw [← hw3]; exact H2.out.1.setPos (pn.pos + 1)
        have hb3 : But pb wA w3 := by rw [← hw3]; exact H2.out.2.set 1 _
        rw [hw3]
        have H3 := Lib.hid (And.intro h3 hb3)
        clear hw3 h3 hb3 c1 z1 c2 z2
        go_upto_region 8 with (go_at_call 64; (with_reducible refine (HCALL.out _ H3.out.1).mono ?_); rintro y w4 ⟨B, d, rfl, hB, hN, h4, hb4⟩; rw [show exV e1 B d = .agg #[.string (mkB e1.kind), .int .i64 e1.num, .string (mkB e1.name), .slice B e1.kids.length d] from rfl]; have H4 := Lib.hid (And.intro hB (And.intro hN (And.intro h4 hb4))); clear hB hN h4 hb4)
        obtain ⟨kb, hkb⟩ : ∃ kb, w4.heap.size = kb := ⟨_, rfl⟩
        obtain ⟨w5, hw5⟩ : ∃ w5, w4.alloc (.cells #[.string (mkB e1.kind), .int .i64 e1.num, .string (mkB e1.name), .slice B e1.kids.length d] 88) = w5 := ⟨_, rfl⟩
        have hb5 : Below w4.heap.size w4 w5 := by rw [← hw5]; exact grow_alloc (grow_refl _) _
        have hm5 : w5.heap[kb]? = some (.cells #[.string (mkB e1.kind), .int .i64 e1.num, .string (mkB e1.name), .slice B e1.kids.length d] 88 (0, 0)) := by rw [← hw5, ← hkb]; exact heap_alloc_new w4 _
        have hpk : pb < kb := by have := H4.out.2.2.1.lt; omega
        have hrk : rb < kb := by have := H3.out.2.size; have := H4.out.2.2.2.size; have := HPL.out.2.2; omega
        have h5 := H4.out.2.2.1.keep hb5
        have hb5A : But pb wA w5 := (H3.out.2.trans H4.out.2.2.2).trans (But.of_below hb5)
        have HM5 : Hid (∀ w', But pb w5 w' → w'.heap[kb]? = some (.cells #[.string (mkB e1.kind), .int .i64 e1.num, .string (mkB e1.name), .slice B e1.kids.length d] 88 (0, 0))) := fun w' hb => hb.row hm5 (by omega)
        have hB5 : RdE w5 (fun n => rb < n ∧ n ≠ pb) e1.kids B := (H4.out.1.keep ((Keeps.of_below hb5).in _) fun n hn => by
          have h1 : w3.heap.size ≤ n := hn
          have h2 := H3.out.1.lt
          have h3 := H3.out.2.size
          have h4 := HPL.out.2.2
          exact ⟨by omega, by omega⟩)
        have H5 := Lib.hid (And.intro h5 (And.intro hb5A (And.intro hB5 H4.out.2.1)))
        have HKB := Lib.hid (And.intro hkb (And.intro hpk hrk))
        rw [hkb, hw5]
        clear hw5 hkb hb5 hm5 h5 hb5A hB5 hpk hrk
        have H5b : Hid (RaAt l pb A c w0 s1 w5 ∧ But pb wA w5) := ⟨H5.out.1, H5.out.2.1⟩
        obtain ⟨-, -, c2, -, -⟩ := H5b.out.1.cells
        have z2 := H5b.out.1.frozen 2
        go_upto_region 9 with fail
        obtain ⟨w7, hw7⟩ : ∃ w7, w5.setCell ⟨pb, 2, none⟩ (.int .i64 (s1.deep - 1)) = w7 := ⟨_, rfl⟩
        have h7 : RaAt l pb A c w0 s1.up w7 := by rw [← hw7]; exact H5b.out.1.setDeep (s1.deep - 1)
        have hb7 : But pb wA w7 := by rw [← hw7]; exact H5b.out.2.set 2 _
        have hb67 : But pb w5 w7 := by rw [← hw7]; exact (But.refl pb w5).set 2 _
        rw [hw7]
        have H7 := Lib.hid (And.intro h7 (And.intro hb7 hb67))
        clear hw7 h7 hb7 hb67 c2 z2
        have hm7 := HM5.out w7 H7.out.2.2
        obtain ⟨k0, k1, k2, k3⟩ := row4T hm7
        obtain ⟨eb, heb⟩ : ∃ eb, w7.heap.size = eb := ⟨_, rfl⟩
        have HEB := Lib.hid heb
        have hbW : Below w7.heap.size w7 (w7.alloc (.cells #[.string (mkB e1.kind), .int .i64 e1.num, .string (mkB e1.name), .slice B e1.kids.length d] 88)) := grow_alloc (grow_refl _) _
        have hnW := heap_alloc_new w7 (.cells #[.string (mkB e1.kind), .int .i64 e1.num, .string (mkB e1.name), .slice B e1.kids.length d] 88)
        have hr9 := (hbW.block rb (by rw [heb]; have := H7.out.2.1.size; have := HPL.out.2.2; omega)).trans (HR.out w7 H7.out.2.1)
        obtain ⟨r0, r1, r2, r3⟩ := row4T hr9
        have y0 := row_frozen hr9 0
        have y1 := row_frozen hr9 1
        have y2 := row_frozen hr9 2
        have y3 := row_frozen hr9 3
        have HR9 := Lib.hid hr9
        have HW := Lib.hid (And.intro hbW hnW)
        rw [heb] at hnW
        clear hr9 hbW hnW heb hm7
        go_wp2_with fail
        obtain ⟨u0, u1, u2, u3⟩ := row4T (set4T (v0 := .string ⟨#[111, 110, 101]⟩) (v1 := .int .i64 0) (v2 := .string xk) (v3 := .slice (some ⟨w7.heap.size, 0, none⟩) 1 1) HR9.out)
        refine bodyPost_ret (v := .agg #[.string ⟨#[111, 110, 101]⟩, .int .i64 0, .string xk, .slice (some ⟨w7.heap.size, 0, none⟩) 1 1]) (by simp [results, Tryz.results64, go_sem, u0, u1, u2, u3]; try rfl) rfl ?_
        rw [← HQ.out]
        rw [HES.out.1, HES.out.2, ← HXT.out]
        refine rx_end (e := ⟨yOne, 0, txtP l s, [e1]⟩) (B := some ⟨w7.heap.size, 0, none⟩) (d := 1) (S := fun n => rb < n) HBA.out HWA.out.2 (H7.out.2.1.trans (But.of_below HW.out.1)) HR9.out HPL.out.2.1 ?_ (fun _ h => h) okN0 (H7.out.1.keep HW.out.1)
        refine RdE.one (d := d) HW.out.2 ?_ H5.out.2.2.2 (by have := H7.out.2.1.size; have := HPL.out.2.2; omega)
        exact ((H5.out.2.2.1.keep ((H7.out.2.2.trans (But.of_below HW.out.1)).keepsIn fun k hk => hk.2) fun k hk => hk.1) : RdE _ (fun n => rb < n) e1.kids B)
    
  · rw [if_neg hn] at hf
    rw [(Bool.not_eq_true _).mp hn] at HDN
    have HES : Hid (e = zeroE ∧ s' = nestP s) := show _ ∧ _ by cases hf; exact ⟨rfl, rfl⟩
    obtain ⟨pn, hpn⟩ : ∃ pn, nestP s = pn := ⟨_, rfl⟩
    rw [hpn] at HDN HES
    clear hf hn hpn ho hse hpl hxt hxk IH T h hA hbA hmA hwA hrb I hQ hpr hlo hra hlen hs
    rcases hor with ho | ⟨ho, ho2⟩
    all_goals
      go_enter Tryz.func64, Tryz.ntmps64
      go_upto_region 1 with fail
      rw [HWA.out.1, HWA.out.2]
      go_upto_region 5 with (first
        | (go_at_call 35; (with_reducible refine HN0.out.mono ?_); rintro y w1 ⟨rfl, n1, rfl⟩)
        | (go_at_call 36; (with_reducible refine (HDN.out _ (HA.out.drewN n1)).mono ?_); rintro y w2 ⟨rfl, h2, hb2⟩; obtain ⟨-, c1, c2, -, -⟩ := h2.cells; have z1 := h2.frozen 1; have z2 := h2.frozen 2; have H2 := Lib.hid (And.intro h2 (((But.refl pb wA).drewN n1).trans hb2)); clear h2 hb2))
      have hr9 := HR.out w2 H2.out.2
      obtain ⟨r0, r1, r2, r3⟩ := row4T hr9
      have y0 := row_frozen hr9 0
      have y1 := row_frozen hr9 1
      have y2 := row_frozen hr9 2
      have y3 := row_frozen hr9 3
      have HR9 := Lib.hid hr9
      clear hr9
      go_wp2_with fail
      obtain ⟨u0, u1, u2, u3⟩ := row4T (set4T (v0 := .string ⟨#[]⟩) (v1 := .int .i64 0) (v2 := .string ⟨#[]⟩) (v3 := .slice none 0 0) HR9.out)
      refine bodyPost_ret (v := exV zeroE none 0) (by simp [results, Tryz.results64, go_sem, u0, u1, u2, u3]; try rfl) rfl ?_
      rw [← HQ.out]
      rw [HES.out.1, HES.out.2]
      exact rx_end (e := zeroE) (B := none) (d := 0) (S := fun n => rb < n) HBA.out HWA.out.2 H2.out.2 HR9.out HPL.out.2.1 (RdE.nil _ _ _) (fun _ h => h) okN0 H2.out.1
    
set_option maxHeartbeats 16000000 in
set_option maxRecDepth 100000 in
theorem ahead_in (I : RaIn l A w0) (T : TkOk l) {n : Nat} (IH : RxI l pb A c w0 n) (hs : PStOk l s) (ho1 : isP l s [45] = false) (ho2 : isP l s [33] = false) (ho : isP l s [40] = true) (hf : aheadR l (n + 1) s = some (e, s')) (h : RaAt l pb A c w0 s w) :
    Calls Tryz.prog 64 #[.pointer (some ⟨pb, 0, none⟩)] w (RxPost l pb A c w0 e s' w) := by
  have hlen := I.len
  obtain ⟨rb, hrb⟩ : ∃ rb, w.heap.size = rb := ⟨_, rfl⟩
  obtain ⟨wA, hwA⟩ : ∃ wA, w.alloc (.cells #[.string ⟨#[]⟩, .int .i64 0, .string ⟨#[]⟩, .slice none 0 0] 88) = wA := ⟨_, rfl⟩
  have hbA : Below w.heap.size w wA := by rw [← hwA]; exact grow_alloc (grow_refl _) _
  have hmA : wA.heap[rb]? = some (.cells #[.string ⟨#[]⟩, .int .i64 0, .string ⟨#[]⟩, .slice none 0 0] 88 (0, 0)) := by rw [← hwA, ← hrb]; exact heap_alloc_new w _
  have hA := h.keep hbA
  have hpr : pb < rb := by have := h.lt; omega
  have hlo : w0.heap.size ≤ rb := by have := h.under; omega
  have hra : rb < wA.heap.size := (Array.getElem?_eq_some_iff.1 hmA).1
  have HBA : Hid (But pb w wA) := But.of_below hbA
  have HR : Hid (∀ w', But pb wA w' → w'.heap[rb]? = some (.cells #[.string ⟨#[]⟩, .int .i64 0, .string ⟨#[]⟩, .slice none 0 0] 88 (0, 0))) := fun w' hb => hb.row hmA (by omega)
  have HWA := Lib.hid (And.intro hwA hrb)
  have HPL := Lib.hid (And.intro hpr (And.intro hlo hra))
  have HA := Lib.hid hA
  have HS := Lib.hid hs
  have HI := Lib.hid I
  have HLN := Lib.hid hlen
  have HN0 := Lib.hid (nxt_lit I hA kSign)
  rw [show mkB kSign = ⟨#[115, 105, 103, 110]⟩ from rfl] at HN0
  obtain ⟨Q, hQ⟩ : ∃ Q, RxPost l pb A c w0 e s' w = Q := ⟨_, rfl⟩
  have HQ := Lib.hid hQ
  rw [hQ]
  obtain ⟨xk, hxk⟩ : ∃ xk, mkB (nxtP l s kSign) = xk := ⟨_, rfl⟩
  rw [hxk] at HN0
  obtain ⟨hse, t0, -, -, hpl, -⟩ := isP_some ho
  have hx1 := nxt_eq T (by decide) (by decide) ho1 hxk
  have hx2 := nxt_eq T (by decide) (by decide) ho2 hxk
  have hx3 := nxt_eq T (by decide) (by decide) ho hxk
  have HDN : Hid (∀ w', RaAt l pb A c w0 s w' → Calls Tryz.prog 36 #[.pointer (some ⟨pb, 0, none⟩)] w' (RaRet l pb A c w0 (.bool (nestP s).err.isNone) (nestP s) w')) := fun w' hw => rdown_any hw ⟨hs.lo, by have := hs.top; omega⟩
  have HSS := HS
  rw [aheadR, if_neg (by rw [ho1, ho2]; decide), if_pos ho] at hf
  by_cases hn : (nestP s).err.isNone = true
  · rw [if_pos hn] at hf
    rw [hn] at HDN
    have hst : PStOk l (nestP s).step := by
      obtain ⟨-, h2, h3⟩ := nestP_ok (none_of hn)
      rw [h3]
      exact ⟨by show s.pos + 1 ≤ l.length; omega, by show 0 ≤ s.deep + 1; have := HSS.out.lo; omega, by show s.deep + 1 ≤ 13; omega, fun _ => h2⟩
    cases hx : exprR l n 0 (nestP s).step with
    | none => rw [hx] at hf; cases hf
    | some p =>
      obtain ⟨e1, s1⟩ := p
      rw [hx] at hf
      have hs1 := hst.went ((went_exprR l n).expr 0 _ e1 s1 hst.hi hx)
      have htk := hs1.went (takeP_went (l := l) (x := [41]) hs1.hi)
      have hd1 := htk.lo
      have hd2 := htk.top
      have HMU : Hid (∀ w', RaAt l pb A c w0 s1 w' → Calls Tryz.prog 19 #[.pointer (some ⟨pb, 0, none⟩), .string ⟨#[41]⟩] w' (RaRet l pb A c w0 (.tuple #[]) (takeP l [41] s1) w')) := fun w' hw => rmust_any HI.out hw hs1.hi (x := [41]) (by decide)
      obtain ⟨s2, hs2⟩ : ∃ s2, takeP l [41] s1 = s2 := ⟨_, rfl⟩
      rw [hs2] at HMU hd1 hd2
      have HES : Hid (e = e1 ∧ s' = s2.up) := show _ ∧ _ by rw [← hs2]; cases hf; exact ⟨rfl, rfl⟩
      have HCALL : Hid (∀ w', RaAt l pb A c w0 (nestP s).step w' → Calls Tryz.prog 50 #[.pointer (some ⟨pb, 0, none⟩), .int .i64 0] w' (RxPost l pb A c w0 e1 s1 w')) := fun w' hw => IH.expr 0 _ e1 s1 w' (by omega) hst hx hw
      obtain ⟨pn, hpn⟩ : ∃ pn, nestP s = pn := ⟨_, rfl⟩
      have hne := nestP_pos s
      rw [hpn] at HDN HCALL hne
      have hpos : (pn.pos : Int) ≤ 100000 := by omega
      have hwp : IntKind.i64.wrap ((pn.pos : Int) + 1) = (pn.pos : Int) + 1 := IntWalk.i64_in _ (by omega)
      clear hf hx hst hs1 hn hpn hne htk hs2 ho ho1 ho2 hse hpl hxk IH T h hA hbA hmA hwA hrb I hQ hpr hlo hra hlen hs
      go_enter Tryz.func64, Tryz.ntmps64
      go_upto_region 1 with fail
      rw [HWA.out.1, HWA.out.2]
      go_upto_region 14 with (first
        | (go_at_call 35; (with_reducible refine HN0.out.mono ?_); rintro y w1 ⟨rfl, n1, rfl⟩)
        | (go_at_call 36; (with_reducible refine (HDN.out _ (HA.out.drewN n1)).mono ?_); rintro y w2 ⟨rfl, h2, hb2⟩; obtain ⟨-, c1, c2, -, -⟩ := h2.cells; have z1 := h2.frozen 1; have z2 := h2.frozen 2; have H2 := Lib.hid (And.intro h2 (((But.refl pb wA).drewN n1).trans hb2)); clear h2 hb2))
      go_upto_region 15 with fail
      obtain ⟨w3, hw3⟩ : ∃ w3, w2.setCell ⟨pb, 1, none⟩ (.int .i64 ((pn.pos : Int) + 1)) = w3 := ⟨_, rfl⟩
      have h3 : RaAt l pb A c w0 pn.step w3 := by rw [← hw3]; exact H2.out.1.setPos (pn.pos + 1)
      have hb3 : But pb wA w3 := by rw [← hw3]; exact H2.out.2.set 1 _
      rw [hw3]
      have H3 := Lib.hid (And.intro h3 hb3)
      clear hw3 h3 hb3 c1 z1 c2 z2
      go_upto_region 16 with (go_at_call 50; (with_reducible refine (HCALL.out _ H3.out.1).mono ?_); rintro y w4 ⟨B, d, rfl, hB, hN, h4, hb4⟩; rw [show exV e1 B d = .agg #[.string (mkB e1.kind), .int .i64 e1.num, .string (mkB e1.name), .slice B e1.kids.length d] from rfl]; have H4 := Lib.hid (And.intro hB (And.intro hN (And.intro h4 hb4))); clear hB hN h4 hb4)
      obtain ⟨kb, hkb⟩ : ∃ kb, w4.heap.size = kb := ⟨_, rfl⟩
      obtain ⟨w5, hw5⟩ : ∃ w5, w4.alloc (.cells #[.string (mkB e1.kind), .int .i64 e1.num, .string (mkB e1.name), .slice B e1.kids.length d] 88) = w5 := ⟨_, rfl⟩
      have hb5 : Below w4.heap.size w4 w5 := by rw [← hw5]; exact grow_alloc (grow_refl _) _
      have hm5 : w5.heap[kb]? = some (.cells #[.string (mkB e1.kind), .int .i64 e1.num, .string (mkB e1.name), .slice B e1.kids.length d] 88 (0, 0)) := by rw [← hw5, ← hkb]; exact heap_alloc_new w4 _
      have hpk : pb < kb := by have := H4.out.2.2.1.lt; omega
      have hrk : rb < kb := by have := H3.out.2.size; have := H4.out.2.2.2.size; have := HPL.out.2.2; omega
      have h5 := H4.out.2.2.1.keep hb5
      have hb5A : But pb wA w5 := (H3.out.2.trans H4.out.2.2.2).trans (But.of_below hb5)
      have HM5 : Hid (∀ w', But pb w5 w' → w'.heap[kb]? = some (.cells #[.string (mkB e1.kind), .int .i64 e1.num, .string (mkB e1.name), .slice B e1.kids.length d] 88 (0, 0))) := fun w' hb => hb.row hm5 (by omega)
      have hB5 : RdE w5 (fun n => rb < n ∧ n ≠ pb) e1.kids B := (H4.out.1.keep ((Keeps.of_below hb5).in _) fun n hn => by
        have h1 : w3.heap.size ≤ n := hn
        have h2 := H3.out.1.lt
        have h3 := H3.out.2.size
        have h4 := HPL.out.2.2
        exact ⟨by omega, by omega⟩)
      have H5 := Lib.hid (And.intro h5 (And.intro hb5A (And.intro hB5 H4.out.2.1)))
      have HKB := Lib.hid (And.intro hkb (And.intro hpk hrk))
      rw [hkb, hw5]
      clear hw5 hkb hb5 hm5 h5 hb5A hB5 hpk hrk
      go_upto_region 17 with (go_at_call 19; (with_reducible refine (HMU.out _ H5.out.1).mono ?_); rintro y w6 ⟨rfl, h6, hb6⟩; have H6 := Lib.hid (And.intro h6 (And.intro (H5.out.2.1.trans hb6) hb6)); clear h6 hb6)
      have H6b : Hid (RaAt l pb A c w0 s2 w6 ∧ But pb wA w6) := ⟨H6.out.1, H6.out.2.1⟩
      obtain ⟨-, -, c2, -, -⟩ := H6b.out.1.cells
      have z2 := H6b.out.1.frozen 2
      go_upto_region 18 with fail
      obtain ⟨w7, hw7⟩ : ∃ w7, w6.setCell ⟨pb, 2, none⟩ (.int .i64 (s2.deep - 1)) = w7 := ⟨_, rfl⟩
      have h7 : RaAt l pb A c w0 s2.up w7 := by rw [← hw7]; exact H6b.out.1.setDeep (s2.deep - 1)
      have hb7 : But pb wA w7 := by rw [← hw7]; exact H6b.out.2.set 2 _
      have hb67 : But pb w6 w7 := by rw [← hw7]; exact (But.refl pb w6).set 2 _
      rw [hw7]
      have H7 := Lib.hid (And.intro h7 (And.intro hb7 hb67))
      clear hw7 h7 hb7 hb67 c2 z2
      have hb57 := H6.out.2.2.trans H7.out.2.2
      have hm7 := HM5.out w7 hb57
      obtain ⟨k0, k1, k2, k3⟩ := row4T hm7
      have hr9 := HR.out w7 H7.out.2.1
      obtain ⟨r0, r1, r2, r3⟩ := row4T hr9
      have y0 := row_frozen hr9 0
      have y1 := row_frozen hr9 1
      have y2 := row_frozen hr9 2
      have y3 := row_frozen hr9 3
      have HR9 := Lib.hid hr9
      clear hr9
      have HB57 := Lib.hid hb57
      clear hm7 hb57
      go_wp2_with fail
      obtain ⟨u0, u1, u2, u3⟩ := row4T (set4T (v0 := .string (mkB e1.kind)) (v1 := .int .i64 e1.num) (v2 := .string (mkB e1.name)) (v3 := .slice B e1.kids.length d) HR9.out)
      refine bodyPost_ret (v := exV e1 B d) (by simp [results, Tryz.results64, go_sem, u0, u1, u2, u3]; try rfl) rfl ?_
      rw [← HQ.out]
      rw [HES.out.1, HES.out.2]
      refine rx_end (e := e1) (B := B) (d := d) (S := fun n => rb < n) HBA.out HWA.out.2 H7.out.2.1 HR9.out HPL.out.2.1 ?_ (fun _ h => h) H5.out.2.2.2 H7.out.1
      exact ((H5.out.2.2.1.keep (HB57.out.keepsIn fun k hk => hk.2) fun k hk => hk.1) : RdE _ (fun n => rb < n) e1.kids B)
    
  · rw [if_neg hn] at hf
    rw [(Bool.not_eq_true _).mp hn] at HDN
    have HES : Hid (e = zeroE ∧ s' = nestP s) := show _ ∧ _ by cases hf; exact ⟨rfl, rfl⟩
    obtain ⟨pn, hpn⟩ : ∃ pn, nestP s = pn := ⟨_, rfl⟩
    rw [hpn] at HDN HES
    clear hf hn hpn ho ho1 ho2 hse hpl hxk IH T h hA hbA hmA hwA hrb I hQ hpr hlo hra hlen hs
    go_enter Tryz.func64, Tryz.ntmps64
    go_upto_region 1 with fail
    rw [HWA.out.1, HWA.out.2]
    go_upto_region 13 with (first
      | (go_at_call 35; (with_reducible refine HN0.out.mono ?_); rintro y w1 ⟨rfl, n1, rfl⟩)
      | (go_at_call 36; (with_reducible refine (HDN.out _ (HA.out.drewN n1)).mono ?_); rintro y w2 ⟨rfl, h2, hb2⟩; obtain ⟨-, c1, c2, -, -⟩ := h2.cells; have z1 := h2.frozen 1; have z2 := h2.frozen 2; have H2 := Lib.hid (And.intro h2 (((But.refl pb wA).drewN n1).trans hb2)); clear h2 hb2))
    have hr9 := HR.out w2 H2.out.2
    obtain ⟨r0, r1, r2, r3⟩ := row4T hr9
    have y0 := row_frozen hr9 0
    have y1 := row_frozen hr9 1
    have y2 := row_frozen hr9 2
    have y3 := row_frozen hr9 3
    have HR9 := Lib.hid hr9
    clear hr9
    go_wp2_with fail
    obtain ⟨u0, u1, u2, u3⟩ := row4T (set4T (v0 := .string ⟨#[]⟩) (v1 := .int .i64 0) (v2 := .string ⟨#[]⟩) (v3 := .slice none 0 0) HR9.out)
    refine bodyPost_ret (v := exV zeroE none 0) (by simp [results, Tryz.results64, go_sem, u0, u1, u2, u3]; try rfl) rfl ?_
    rw [← HQ.out]
    rw [HES.out.1, HES.out.2]
    exact rx_end (e := zeroE) (B := none) (d := 0) (S := fun n => rb < n) HBA.out HWA.out.2 H2.out.2 HR9.out HPL.out.2.1 (RdE.nil _ _ _) (fun _ h => h) okN0 H2.out.1
    
end
end Go.Proofs.YtpfgimohginbdaaGreatDoor

namespace Go.Proofs.YtpfgimohginbdaaGreatDoor
open Go.RowKit

/-! the reference's parser: ahead: numbers, names, calls -/
theorem digV_snoc (d : List UInt8) (x : UInt8) : digV (d ++ [x]) = 10 * digV d + ((x.toNat : Int) - 48) := by
  unfold digV
  rw [List.foldl_append]; rfl
theorem digV_bd : ∀ (n : Nat) (d : List UInt8), d.length = n → (∀ x ∈ d, 48 ≤ x.toNat ∧ x.toNat ≤ 57) → 0 ≤ digV d ∧ digV d + 1 ≤ 10 ^ n := by
  intro n
  induction n with
  | zero =>
    intro d hd _
    obtain rfl : d = [] := List.length_eq_zero_iff.1 hd
    exact ⟨by decide, by decide⟩
  | succ n ih =>
    intro d hd h
    have hne : d ≠ [] := by intro e; subst e; simp at hd
    have e := (List.dropLast_concat_getLast hne).symm
    have hl : d.dropLast.length = n := by rw [List.length_dropLast]; omega
    obtain ⟨h1, h2⟩ := ih d.dropLast hl fun x hx => h x (List.dropLast_subset _ hx)
    have h3 := h (d.getLast hne) (List.getLast_mem hne)
    rw [e, digV_snoc]
    rw [Int.pow_succ]
    constructor <;> omega
theorem digV_small {d : List UInt8} (hl : d.length ≤ 17) (h : ∀ x ∈ d, 48 ≤ x.toNat ∧ x.toNat ≤ 57) : 0 ≤ digV d ∧ digV d ≤ 100000000000000000 := by
  obtain ⟨h1, h2⟩ := digV_bd _ d rfl h
  refine ⟨h1, ?_⟩
  have h3 : (10 : Int) ^ d.length ≤ 10 ^ 17 := by
    have : 10 ^ d.length ≤ 10 ^ 17 := Nat.pow_le_pow_right (by decide) hl
    exact_mod_cast this
  have h4 : (10 : Int) ^ 17 = 100000000000000000 := by decide
  omega
theorem digs_ok {d : List UInt8} (hl : d.length ≤ 18) (h : ∀ x ∈ d, 48 ≤ x.toNat ∧ x.toNat ≤ 57) : okN (digV d) := by
  obtain ⟨h1, h2⟩ := digV_bd _ d rfl h
  have h3 : (10 : Int) ^ d.length ≤ 10 ^ 18 := by
    have : 10 ^ d.length ≤ 10 ^ 18 := Nat.pow_le_pow_right (by decide) hl
    exact_mod_cast this
  have h4 : (10 : Int) ^ 18 = 1000000000000000000 := by decide
  constructor <;> omega
theorem take_snocB (s : ByteArray) (k : Nat) (h : k < s.size) : s.data.toList.take (k + 1) = s.data.toList.take k ++ [s[k]] := by
  rw [List.take_succ_eq_append_getElem (by simpa using h)]; rfl
section
variable {l : List Tok} {pb : Nat} {A : Option Addr} {c : Nat} {w0 : World} {s s' : PSt} {w w' w1 : World} {e : PExpr}
set_option maxHeartbeats 16000000 in
set_option maxRecDepth 100000 in
theorem ahead_num (I : RaIn l A w0) (T : TkOk l) {n : Nat} (hs : PStOk l s) (ho1 : isP l s [45] = false) (ho2 : isP l s [33] = false) (ho : isP l s [40] = false) (hn : ofB l kNumber s = true) (hf : aheadR l (n + 1) s = some (e, s')) (h : RaAt l pb A c w0 s w) :
    Calls Tryz.prog 64 #[.pointer (some ⟨pb, 0, none⟩)] w (RxPost l pb A c w0 e s' w) := by
  have hlen := I.len
  obtain ⟨rb, hrb⟩ : ∃ rb, w.heap.size = rb := ⟨_, rfl⟩
  obtain ⟨wA, hwA⟩ : ∃ wA, w.alloc (.cells #[.string ⟨#[]⟩, .int .i64 0, .string ⟨#[]⟩, .slice none 0 0] 88) = wA := ⟨_, rfl⟩
  have hbA : Below w.heap.size w wA := by rw [← hwA]; exact grow_alloc (grow_refl _) _
  have hmA : wA.heap[rb]? = some (.cells #[.string ⟨#[]⟩, .int .i64 0, .string ⟨#[]⟩, .slice none 0 0] 88 (0, 0)) := by rw [← hwA, ← hrb]; exact heap_alloc_new w _
  have hA := h.keep hbA
  have hpr : pb < rb := by have := h.lt; omega
  have hlo : w0.heap.size ≤ rb := by have := h.under; omega
  have hra : rb < wA.heap.size := (Array.getElem?_eq_some_iff.1 hmA).1
  have HBA : Hid (But pb w wA) := But.of_below hbA
  have HR : Hid (∀ w', But pb wA w' → w'.heap[rb]? = some (.cells #[.string ⟨#[]⟩, .int .i64 0, .string ⟨#[]⟩, .slice none 0 0] 88 (0, 0))) := fun w' hb => hb.row hmA (by omega)
  have HWA := Lib.hid (And.intro hwA hrb)
  have HPL := Lib.hid (And.intro hpr (And.intro hlo hra))
  have HA := Lib.hid hA
  have HS := Lib.hid hs
  have HI := Lib.hid I
  have HLN := Lib.hid hlen
  have HN0 := Lib.hid (nxt_lit I hA kSign)
  rw [show mkB kSign = ⟨#[115, 105, 103, 110]⟩ from rfl] at HN0
  obtain ⟨Q, hQ⟩ : ∃ Q, RxPost l pb A c w0 e s' w = Q := ⟨_, rfl⟩
  have HQ := Lib.hid hQ
  rw [hQ]
  obtain ⟨xk, hxk⟩ : ∃ xk, mkB (nxtP l s kSign) = xk := ⟨_, rfl⟩
  rw [hxk] at HN0
  have hx1 := nxt_eq T (by decide) (by decide) ho1 hxk
  have hx2 := nxt_eq T (by decide) (by decide) ho2 hxk
  have hx3 := nxt_eq T (by decide) (by decide) ho hxk
  obtain ⟨he, tk, htk, hkd, hpl⟩ := ofB_some hn
  have htx : txtP l s = tk.text := by unfold txtP; rw [htk]; rfl
  obtain ⟨hd0, hd1, hd2⟩ := T.num tk (List.mem_of_getElem? htk) hkd
  have hnx : nxtP l s kNumber = tk.text := by unfold nxtP; rw [if_pos hn]; exact htx
  have HN1 := Lib.hid (fun m => nxt_lit I (hA.drewN m) kNumber)
  rw [show mkB kNumber = ⟨#[110, 117, 109, 98, 101, 114]⟩ from rfl, hnx] at HN1
  obtain ⟨xd, hxd⟩ : ∃ xd, mkB tk.text = xd := ⟨_, rfl⟩
  rw [hxd] at HN1
  have hxl : xd.data.toList = tk.text := by rw [← hxd]; rfl
  have hxs : xd.size = tk.text.length := by rw [← hxl]; simp
  have hx4 : (xd.toList == []) = false := by rw [← hxd, mkB_toList, beq_eq_false_iff_ne]; intro q; rw [q] at hd0; simp at hd0
  have HDG : Hid (∀ x ∈ xd.data.toList, 48 ≤ x.toNat ∧ x.toNat ≤ 57) := show ∀ x ∈ xd.data.toList, _ by rw [hxl]; exact hd2
  rw [aheadR, if_neg (by rw [ho1, ho2]; decide), if_neg (by rw [ho]; decide), if_pos hn, htx, ← hxl] at hf
  have HES : Hid (e = ⟨yNum, digV xd.data.toList, [], []⟩ ∧ s' = s.step) := show _ ∧ _ by cases hf; exact ⟨rfl, rfl⟩
  have HOK : Hid (okN (digV xd.data.toList)) := show okN _ by rw [hxl]; exact digs_ok hd1 hd2
  have hx18 : xd.size ≤ 18 := by omega
  obtain ⟨-, c1, -, -, -⟩ := hA.cells
  have z1 := hA.frozen 1
  have hpos : (s.pos : Int) ≤ 100000 := by omega
  have hwp : IntKind.i64.wrap ((s.pos : Int) + 1) = (s.pos : Int) + 1 := IntWalk.i64_in _ (by omega)
  clear hf hn ho ho1 ho2 hpl htk hkd he htx hnx hxk hxd hxl hxs hd0 hd1 hd2 T h hA hbA hmA hwA hrb I hQ hpr hlo hra hlen hs
  go_enter Tryz.func64, Tryz.ntmps64
  go_upto_region 1 with fail
  rw [HWA.out.1, HWA.out.2]
  go_upto_region 21 with (first
    | (go_at_call 35; (with_reducible refine HN0.out.mono ?_); rintro y w1 ⟨rfl, n1, rfl⟩)
    | (go_at_call 35; (with_reducible refine (HN1.out _).mono ?_); rintro y w2 ⟨rfl, n2, rfl⟩))
  obtain ⟨wq, hwq⟩ : ∃ wq, (wA.drewN n1).drewN n2 = wq := ⟨_, rfl⟩
  have hpq : RaAt l pb A c w0 s wq := by rw [← hwq]; exact (HA.out.drewN n1).drewN n2
  have hbq : But pb wA wq := by rw [← hwq]; exact ((But.refl pb wA).drewN n1).drewN n2
  try simp only [World.drewN_drewN] at hwq ⊢
  rw [hwq]
  have d1 : wq.cell? ⟨pb, 1, none⟩ = some (.int .i64 (s.pos : Nat)) := hpq.cells.2.1
  have dz : wq.frozen? ⟨pb, 1, none⟩ = false := hpq.frozen 1
  have HQ1 := Lib.hid (And.intro hpq hbq)
  clear hpq hbq hwq c1 z1
  go_upto_region 22 with fail
  obtain ⟨w3, hw3⟩ : ∃ w3, wq.setCell ⟨pb, 1, none⟩ (.int .i64 ((s.pos : Int) + 1)) = w3 := ⟨_, rfl⟩
  have h3 : RaAt l pb A c w0 s.step w3 := by rw [← hw3]; exact HQ1.out.1.setPos (s.pos + 1)
  have hb3 : But pb wA w3 := by rw [← hw3]; exact HQ1.out.2.set 1 _
  rw [hw3]
  have H3 := Lib.hid (And.intro h3 hb3)
  clear hw3 h3 hb3 d1 dz
  go_upto_region 24 with fail
  go_loop [9, 10] (fun v i => ∃ k : Nat, k ≤ xd.size ∧ i = .int .i64 k ∧ v = .int .i64 (digV (xd.data.toList.take k))) (fun _ i => xd.size - (intOf i).toNat)
  case atStart => exact ⟨0, Nat.zero_le _, rfl, rfl⟩
  case round =>
    obtain ⟨k, hk, rfl, rfl⟩ := hrel
    by_cases hlt : k < xd.size
    · have hsn := digV_snoc (xd.data.toList.take k) xd[k]
      have hts := take_snocB xd k hlt
      have HSN : Hid (digV (xd.data.toList.take (k + 1)) = 10 * digV (xd.data.toList.take k) + ((xd[k].toNat : Int) - 48)) := show _ = _ by rw [hts, hsn]
      have hsm := digV_small (d := xd.data.toList.take k) (by rw [List.length_take]; omega) fun x hx => HDG.out x (List.take_subset _ _ hx)
      have hdg := HDG.out xd[k] (by have h0 : xd.data.toList[k]'(by simpa using hlt) ∈ xd.data.toList := List.getElem_mem _; exact h0)
      obtain ⟨dv, hdv⟩ : ∃ dv, digV (xd.data.toList.take k) = dv := ⟨_, rfl⟩
      rw [hdv] at HSN hsm ⊢
      obtain ⟨hq0, hq1⟩ := hsm
      obtain ⟨hg0, hg1⟩ := hdg
      have hw1 : IntKind.u8.wrap ((xd[k].toNat : Int) - 48) = (xd[k].toNat : Int) - 48 := by unfold IntKind.wrap; simp [IntKind.signed, IntKind.bits]; omega
      have hw2 : IntKind.i64.wrap ((xd[k].toNat : Int) - 48) = (xd[k].toNat : Int) - 48 := IntWalk.i64_in _ (by omega)
      have hw3 : IntKind.i64.wrap (10 * dv) = 10 * dv := IntWalk.i64_in _ (by omega)
      have hw4 : IntKind.i64.wrap (10 * dv + ((xd[k].toNat : Int) - 48)) = 10 * dv + ((xd[k].toNat : Int) - 48) := IntWalk.i64_in _ (by omega)
      clear hsn hts hdv
      go_wp2_with fail
      go_round
      case rel => exact ⟨k + 1, by omega, by go_num, by rw [HSN.out]⟩
      case measure => simp [intOf]; omega
    · obtain rfl : k = xd.size := by omega
      have HTK : Hid (xd.data.toList.take xd.size = xd.data.toList) := show _ = _ from List.take_of_length_le (by simp)
      rw [HTK.out]
      have hr9 := HR.out w3 H3.out.2
      obtain ⟨r0, r1, r2, r3⟩ := row4T hr9
      have y0 := row_frozen hr9 0
      have y1 := row_frozen hr9 1
      have y2 := row_frozen hr9 2
      have y3 := row_frozen hr9 3
      have HR9 := Lib.hid hr9
      clear hr9
      go_wp2_with fail
      obtain ⟨u0, u1, u2, u3⟩ := row4T (set4T (v0 := .string ⟨#[110, 117, 109]⟩) (v1 := .int .i64 (digV xd.data.toList)) (v2 := .string ⟨#[]⟩) (v3 := .slice none 0 0) HR9.out)
      refine bodyPost_ret (v := exV ⟨yNum, digV xd.data.toList, [], []⟩ none 0) (by simp [results, Tryz.results64, go_sem, u0, u1, u2, u3]; try rfl) rfl ?_
      rw [← HQ.out]
      rw [HES.out.1, HES.out.2]
      exact rx_end (e := ⟨yNum, digV xd.data.toList, [], []⟩) (B := none) (d := 0) (S := fun n => rb < n) HBA.out HWA.out.2 H3.out.2 HR9.out HPL.out.2.1 (RdE.nil _ _ _) (fun _ h => h) HOK.out H3.out.1
set_option maxHeartbeats 16000000 in
set_option maxRecDepth 100000 in
theorem ahead_name (I : RaIn l A w0) (T : TkOk l) {n : Nat} (IH : RxI l pb A c w0 n) (hs : PStOk l s) (ho1 : isP l s [45] = false) (ho2 : isP l s [33] = false) (ho : isP l s [40] = false) (hn : ofB l kNumber s = false) (hf : aheadR l (n + 1) s = some (e, s')) (h : RaAt l pb A c w0 s w) :
    Calls Tryz.prog 64 #[.pointer (some ⟨pb, 0, none⟩)] w (RxPost l pb A c w0 e s' w) := by
  have hlen := I.len
  obtain ⟨rb, hrb⟩ : ∃ rb, w.heap.size = rb := ⟨_, rfl⟩
  obtain ⟨wA, hwA⟩ : ∃ wA, w.alloc (.cells #[.string ⟨#[]⟩, .int .i64 0, .string ⟨#[]⟩, .slice none 0 0] 88) = wA := ⟨_, rfl⟩
  have hbA : Below w.heap.size w wA := by rw [← hwA]; exact grow_alloc (grow_refl _) _
  have hmA : wA.heap[rb]? = some (.cells #[.string ⟨#[]⟩, .int .i64 0, .string ⟨#[]⟩, .slice none 0 0] 88 (0, 0)) := by rw [← hwA, ← hrb]; exact heap_alloc_new w _
  have hA := h.keep hbA
  have hpr : pb < rb := by have := h.lt; omega
  have hlo : w0.heap.size ≤ rb := by have := h.under; omega
  have hra : rb < wA.heap.size := (Array.getElem?_eq_some_iff.1 hmA).1
  have HBA : Hid (But pb w wA) := But.of_below hbA
  have HR : Hid (∀ w', But pb wA w' → w'.heap[rb]? = some (.cells #[.string ⟨#[]⟩, .int .i64 0, .string ⟨#[]⟩, .slice none 0 0] 88 (0, 0))) := fun w' hb => hb.row hmA (by omega)
  have HWA := Lib.hid (And.intro hwA hrb)
  have HPL := Lib.hid (And.intro hpr (And.intro hlo hra))
  have HA := Lib.hid hA
  have HS := Lib.hid hs
  have HI := Lib.hid I
  have HLN := Lib.hid hlen
  have HN0 := Lib.hid (nxt_lit I hA kSign)
  rw [show mkB kSign = ⟨#[115, 105, 103, 110]⟩ from rfl] at HN0
  obtain ⟨Q, hQ⟩ : ∃ Q, RxPost l pb A c w0 e s' w = Q := ⟨_, rfl⟩
  have HQ := Lib.hid hQ
  rw [hQ]
  obtain ⟨xk, hxk⟩ : ∃ xk, mkB (nxtP l s kSign) = xk := ⟨_, rfl⟩
  rw [hxk] at HN0
  have hx1 := nxt_eq T (by decide) (by decide) ho1 hxk
  have hx2 := nxt_eq T (by decide) (by decide) ho2 hxk
  have hx3 := nxt_eq T (by decide) (by decide) ho hxk
  have hnx : nxtP l s kNumber = [] := by unfold nxtP; rw [hn]; rfl
  have HN1 := Lib.hid (fun m => nxt_lit I (hA.drewN m) kNumber)
  rw [show mkB kNumber = ⟨#[110, 117, 109, 98, 101, 114]⟩ from rfl, hnx, show mkB [] = ⟨#[]⟩ from rfl] at HN1
  rw [aheadR, if_neg (by rw [ho1, ho2]; decide), if_neg (by rw [ho]; decide), if_neg (by rw [hn]; decide)] at hf
  obtain ⟨nm, s2, hof⟩ : ∃ nm s2, ofP l kName s = (nm, s2) := ⟨_, _, rfl⟩
  have hs2 : PStOk l s2 := hs.went (by have := ofP_went (x := kName) hs.hi; rw [hof] at this; exact this)
  have HNM : Hid (∀ w', RaAt l pb A c w0 s w' → But pb wA w' → Calls Tryz.prog 20 #[.pointer (some ⟨pb, 0, none⟩)] w' (RaRet l pb A c w0 (.string (mkB nm)) s2 wA)) := fun w' hw hb => by
    have := rname_any I T.nam hw hs.hi
    rw [hof] at this
    exact this.mono fun y w2 ⟨h1, h2, h3⟩ => ⟨h1, h2, hb.trans h3⟩
  have hnm0 : isP l s2 [40] = true → (( mkB nm).toList == []) = false := fun hp => by
    obtain ⟨he2, -⟩ := isP_some hp
    have h1 := ofP_next (l := l) (x := kName) (s := s) (by rw [hof]; exact he2)
    obtain ⟨-, t, htk, hkd, -⟩ := ofB_some h1.1
    have h2 : nm = t.text := by
      have := h1.2
      rw [hof] at this
      have h3 : nm = txtP l s := congrArg Prod.fst this
      rw [h3]; unfold txtP; rw [htk]; rfl
    rw [mkB_toList, beq_eq_false_iff_ne, h2]
    exact T.nam t (List.mem_of_getElem? htk) hkd
  rw [hof] at hf
  simp only at hf
  obtain ⟨xk2, hxk2⟩ : ∃ xk2, mkB (nxtP l s2 kSign) = xk2 := ⟨_, rfl⟩
  have HN2 : Hid (∀ w', RaAt l pb A c w0 s2 w' → Calls Tryz.prog 35 #[.pointer (some ⟨pb, 0, none⟩), .string ⟨#[115, 105, 103, 110]⟩] w' (fun e w2 => e = .returned (.string xk2) ∧ ∃ n, w2 = w'.drewN n)) := fun w' hw => by
    have := nxt_lit I hw kSign
    rw [hxk2] at this
    exact this
  obtain ⟨xn, hxn⟩ : ∃ xn, mkB nm = xn := ⟨_, rfl⟩
  have HXN := Lib.hid hxn
  rw [hxn] at HNM hnm0
  have HDN : Hid (∀ w', RaAt l pb A c w0 s2 w' → Calls Tryz.prog 36 #[.pointer (some ⟨pb, 0, none⟩)] w' (RaRet l pb A c w0 (.bool (nestP s2).err.isNone) (nestP s2) w')) := fun w' hw => rdown_any hw ⟨hs2.lo, by have := hs2.top; omega⟩
  have HSS := Lib.hid hs2
  cases hq : isP l s2 [40]
  · rw [if_neg (by rw [hq]; decide)] at hf
    have hx4 := nxt_eq T (by decide) (by decide) hq hxk2
    have HES : Hid (e = ⟨yName, 0, nm, []⟩ ∧ s' = s2) := show _ ∧ _ by cases hf; exact ⟨rfl, rfl⟩
    clear hf hn ho ho1 ho2 hnx hxk hxk2 hxn hof hnm0 hq hs2 IH T h hA hbA hmA hwA hrb I hQ hpr hlo hra hlen hs
    go_enter Tryz.func64, Tryz.ntmps64
    go_upto_region 1 with fail
    rw [HWA.out.1, HWA.out.2]
    go_upto_region 30 with (first
      | (go_at_call 35; (with_reducible refine HN0.out.mono ?_); rintro y w1 ⟨rfl, n1, rfl⟩)
      | (go_at_call 35; (with_reducible refine (HN1.out _).mono ?_); rintro y w2 ⟨rfl, n2, rfl⟩)
      | (go_at_call 20; (first | (with_reducible refine (HNM.out _ (HA.out.drewN _) ((But.refl pb wA).drewN _)).mono ?_) | (with_reducible refine (HNM.out _ ((HA.out.drewN n1).drewN n2) (((But.refl pb wA).drewN n1).drewN n2)).mono ?_)); rintro y w3 ⟨rfl, h3, hb3⟩; have H3 := Lib.hid (And.intro h3 hb3); clear h3 hb3)
      | (go_at_call 35; (with_reducible refine (HN2.out _ H3.out.1).mono ?_); rintro y w4 ⟨rfl, n4, rfl⟩))
    have h5 := H3.out.1.drewN n4
    have hb5 := H3.out.2.drewN n4
    obtain ⟨w5, hw5⟩ : ∃ w5, w3.drewN n4 = w5 := ⟨_, rfl⟩
    rw [hw5] at h5 hb5 ⊢
    have H5 := Lib.hid (And.intro h5 hb5)
    clear h5 hb5 hw5
    have hr9 := HR.out w5 H5.out.2
    obtain ⟨r0, r1, r2, r3⟩ := row4T hr9
    have y0 := row_frozen hr9 0
    have y1 := row_frozen hr9 1
    have y2 := row_frozen hr9 2
    have y3 := row_frozen hr9 3
    have HR9 := Lib.hid hr9
    clear hr9
    go_wp2_with fail
    obtain ⟨u0, u1, u2, u3⟩ := row4T (set4T (v0 := .string ⟨#[110, 97, 109, 101]⟩) (v1 := .int .i64 0) (v2 := .string xn) (v3 := .slice none 0 0) HR9.out)
    refine bodyPost_ret (v := .agg #[.string ⟨#[110, 97, 109, 101]⟩, .int .i64 0, .string xn, .slice none 0 0]) (by simp [results, Tryz.results64, go_sem, u0, u1, u2, u3]; try rfl) rfl ?_
    rw [← HQ.out]
    rw [HES.out.1, HES.out.2, ← HXN.out]
    exact rx_end (e := ⟨yName, 0, nm, []⟩) (B := none) (d := 0) (S := fun n => rb < n) HBA.out HWA.out.2 H5.out.2 HR9.out HPL.out.2.1 (RdE.nil _ _ _) (fun _ h => h) okN0 H5.out.1
    
  · rw [if_pos hq] at hf
    have hx4 := nxt_eq T (by decide) (by decide) hq hxk2
    have hx5 := hnm0 hq
    obtain ⟨hse, t0, -, -, hpl, -⟩ := isP_some hq
    by_cases hn : (nestP s2).err.isNone = true
    · rw [if_pos hn] at hf
      rw [hn] at HDN
      have hst : PStOk l (nestP s2).step := by
        obtain ⟨-, h2, h3⟩ := nestP_ok (none_of hn)
        rw [h3]
        exact ⟨by show s2.pos + 1 ≤ l.length; omega, by show 0 ≤ s2.deep + 1; have := HSS.out.lo; omega, by show s2.deep + 1 ≤ 13; omega, fun _ => h2⟩
      cases hx : argsR l n (nestP s2).step with
      | none => rw [hx] at hf; cases hf
      | some p =>
        obtain ⟨ks, s1⟩ := p
        rw [hx] at hf
        have hs1 := hst.went ((went_exprR l n).args _ ks s1 hst.hi hx)
        have hd1 := hs1.lo
        have hd2 := hs1.top
        have HES : Hid (e = ⟨yCall, 0, nm, ks⟩ ∧ s' = s1.up) := show _ ∧ _ by cases hf; exact ⟨rfl, rfl⟩
        have HCALL : Hid (∀ w', RaAt l pb A c w0 (nestP s2).step w' → Calls Tryz.prog 73 #[.pointer (some ⟨pb, 0, none⟩)] w' (RgPost l pb A c w0 ks s1 w')) := fun w' hw => IH.args _ ks s1 w' hst hx hw
        obtain ⟨pn, hpn⟩ : ∃ pn, nestP s2 = pn := ⟨_, rfl⟩
        have hne := nestP_pos s2
        rw [hpn] at HDN HCALL hne
        have hpos : (pn.pos : Int) ≤ 100000 := by omega
        have hwp : IntKind.i64.wrap ((pn.pos : Int) + 1) = (pn.pos : Int) + 1 := IntWalk.i64_in _ (by omega)
        clear hf hx hst hs1 hn hpn hne ho ho1 ho2 hse hpl hnx hxk hxk2 hxn hof hnm0 hq hs2 IH T h hA hbA hmA hwA hrb I hQ hpr hlo hra hlen hs
        go_enter Tryz.func64, Tryz.ntmps64
        go_upto_region 1 with fail
        rw [HWA.out.1, HWA.out.2]
        go_upto_region 34 with (first
          | (first
          | (go_at_call 35; (with_reducible refine HN0.out.mono ?_); rintro y w1 ⟨rfl, n1, rfl⟩)
          | (go_at_call 35; (with_reducible refine (HN1.out _).mono ?_); rintro y w2 ⟨rfl, n2, rfl⟩)
          | (go_at_call 20; (first | (with_reducible refine (HNM.out _ (HA.out.drewN _) ((But.refl pb wA).drewN _)).mono ?_) | (with_reducible refine (HNM.out _ ((HA.out.drewN n1).drewN n2) (((But.refl pb wA).drewN n1).drewN n2)).mono ?_)); rintro y w3 ⟨rfl, h3, hb3⟩; have H3 := Lib.hid (And.intro h3 hb3); clear h3 hb3)
          | (go_at_call 35; (with_reducible refine (HN2.out _ H3.out.1).mono ?_); rintro y w4 ⟨rfl, n4, rfl⟩))
          | (go_at_call 36; (with_reducible refine (HDN.out _ (H3.out.1.drewN n4)).mono ?_); rintro y w2 ⟨rfl, h2, hb2⟩; obtain ⟨-, c1, c2, -, -⟩ := h2.cells; have z1 := h2.frozen 1; have z2 := h2.frozen 2; have H2 := Lib.hid (And.intro h2 ((H3.out.2.drewN n4).trans hb2)); clear h2 hb2))
        go_upto_region 35 with fail
        obtain ⟨w6, hw6⟩ : ∃ w6, w2.setCell ⟨pb, 1, none⟩ (.int .i64 ((pn.pos : Int) + 1)) = w6 := ⟨_, rfl⟩
        have h3 : RaAt l pb A c w0 pn.step w6 := by rw [← hw6]; exact H2.out.1.setPos (pn.pos + 1)
        have hb3 : But pb wA w6 := by rw [← hw6]; exact H2.out.2.set 1 _
        rw [hw6]
        have H6 := Lib.hid (And.intro h3 hb3)
        clear hw6 h3 hb3 c1 z1 c2 z2
        go_upto_region 36 with (go_at_call 73; (with_reducible refine (HCALL.out _ H6.out.1).mono ?_); rintro y w8 ⟨B, d, rfl, hB, h8, hb8⟩; have H8 := Lib.hid (And.intro h8 (And.intro (H6.out.2.trans hb8) hB)); clear hB h8 hb8)
        have H8b : Hid (RaAt l pb A c w0 s1 w8 ∧ But pb wA w8) := ⟨H8.out.1, H8.out.2.1⟩
        obtain ⟨-, -, c2, -, -⟩ := H8b.out.1.cells
        have z2 := H8b.out.1.frozen 2
        go_upto_region 37 with fail
        obtain ⟨w7, hw7⟩ : ∃ w7, w8.setCell ⟨pb, 2, none⟩ (.int .i64 (s1.deep - 1)) = w7 := ⟨_, rfl⟩
        have h7 : RaAt l pb A c w0 s1.up w7 := by rw [← hw7]; exact H8b.out.1.setDeep (s1.deep - 1)
        have hb7 : But pb wA w7 := by rw [← hw7]; exact H8b.out.2.set 2 _
        have hb67 : But pb w8 w7 := by rw [← hw7]; exact (But.refl pb w8).set 2 _
        rw [hw7]
        have H7 := Lib.hid (And.intro h7 (And.intro hb7 hb67))
        clear hw7 h7 hb7 hb67 c2 z2
        have hr9 := HR.out w7 H7.out.2.1
        obtain ⟨r0, r1, r2, r3⟩ := row4T hr9
        have y0 := row_frozen hr9 0
        have y1 := row_frozen hr9 1
        have y2 := row_frozen hr9 2
        have y3 := row_frozen hr9 3
        have HR9 := Lib.hid hr9
        clear hr9
        go_wp2_with fail
        obtain ⟨u0, u1, u2, u3⟩ := row4T (set4T (v0 := .string ⟨#[99, 97, 108, 108]⟩) (v1 := .int .i64 0) (v2 := .string xn) (v3 := .slice B ks.length d) HR9.out)
        refine bodyPost_ret (v := .agg #[.string ⟨#[99, 97, 108, 108]⟩, .int .i64 0, .string xn, .slice B ks.length d]) (by simp [results, Tryz.results64, go_sem, u0, u1, u2, u3]; try rfl) rfl ?_
        rw [← HQ.out]
        rw [HES.out.1, HES.out.2, ← HXN.out]
        have hge : w6.heap.size ≤ w8.heap.size ∨ True := .inr trivial
        refine rx_end (e := ⟨yCall, 0, nm, ks⟩) (B := B) (d := d) (S := fun n => w6.heap.size ≤ n) HBA.out HWA.out.2 H7.out.2.1 HR9.out HPL.out.2.1 (H8.out.2.2.keep (H7.out.2.2.keepsIn fun k hk => ?_) fun k hk => hk) (fun k hk => ?_) okN0 H7.out.1
        · have h1 : w6.heap.size ≤ k := hk
          have h2 := H6.out.1.lt
          omega
        · have h2 := H6.out.2.size
          have h3 := HPL.out.2.2
          omega
    · rw [if_neg hn] at hf
      rw [(Bool.not_eq_true _).mp hn] at HDN
      have HES : Hid (e = zeroE ∧ s' = nestP s2) := show _ ∧ _ by cases hf; exact ⟨rfl, rfl⟩
      obtain ⟨pn, hpn⟩ : ∃ pn, nestP s2 = pn := ⟨_, rfl⟩
      rw [hpn] at HDN HES
      clear hf hn hpn ho ho1 ho2 hse hpl hnx hxk hxk2 hxn hof hnm0 hq hs2 IH T h hA hbA hmA hwA hrb I hQ hpr hlo hra hlen hs
      go_enter Tryz.func64, Tryz.ntmps64
      go_upto_region 1 with fail
      rw [HWA.out.1, HWA.out.2]
      go_upto_region 33 with (first
        | (first
        | (go_at_call 35; (with_reducible refine HN0.out.mono ?_); rintro y w1 ⟨rfl, n1, rfl⟩)
        | (go_at_call 35; (with_reducible refine (HN1.out _).mono ?_); rintro y w2 ⟨rfl, n2, rfl⟩)
        | (go_at_call 20; (first | (with_reducible refine (HNM.out _ (HA.out.drewN _) ((But.refl pb wA).drewN _)).mono ?_) | (with_reducible refine (HNM.out _ ((HA.out.drewN n1).drewN n2) (((But.refl pb wA).drewN n1).drewN n2)).mono ?_)); rintro y w3 ⟨rfl, h3, hb3⟩; have H3 := Lib.hid (And.intro h3 hb3); clear h3 hb3)
        | (go_at_call 35; (with_reducible refine (HN2.out _ H3.out.1).mono ?_); rintro y w4 ⟨rfl, n4, rfl⟩))
        | (go_at_call 36; (with_reducible refine (HDN.out _ (H3.out.1.drewN n4)).mono ?_); rintro y w2 ⟨rfl, h2, hb2⟩; obtain ⟨-, c1, c2, -, -⟩ := h2.cells; have z1 := h2.frozen 1; have z2 := h2.frozen 2; have H2 := Lib.hid (And.intro h2 ((H3.out.2.drewN n4).trans hb2)); clear h2 hb2))
      have hr9 := HR.out w2 H2.out.2
      obtain ⟨r0, r1, r2, r3⟩ := row4T hr9
      have y0 := row_frozen hr9 0
      have y1 := row_frozen hr9 1
      have y2 := row_frozen hr9 2
      have y3 := row_frozen hr9 3
      have HR9 := Lib.hid hr9
      clear hr9
      go_wp2_with fail
      obtain ⟨u0, u1, u2, u3⟩ := row4T (set4T (v0 := .string ⟨#[]⟩) (v1 := .int .i64 0) (v2 := .string ⟨#[]⟩) (v3 := .slice none 0 0) HR9.out)
      refine bodyPost_ret (v := exV zeroE none 0) (by simp [results, Tryz.results64, go_sem, u0, u1, u2, u3]; try rfl) rfl ?_
      rw [← HQ.out]
      rw [HES.out.1, HES.out.2]
      exact rx_end (e := zeroE) (B := none) (d := 0) (S := fun n => rb < n) HBA.out HWA.out.2 H2.out.2 HR9.out HPL.out.2.1 (RdE.nil _ _ _) (fun _ h => h) okN0 H2.out.1
    
/-- ahead, whole. -/
theorem rahead_step (I : RaIn l A w0) (T : TkOk l) {n : Nat} (IH : RxI l pb A c w0 n) (hs : PStOk l s) (hf : aheadR l (n + 1) s = some (e, s')) (h : RaAt l pb A c w0 s w) :
    Calls Tryz.prog 64 #[.pointer (some ⟨pb, 0, none⟩)] w (RxPost l pb A c w0 e s' w) := by
  cases h1 : isP l s [45]
  · cases h2 : isP l s [33]
    · cases h3 : isP l s [40]
      · cases h4 : ofB l kNumber s
        · exact ahead_name I T IH hs h1 h2 h3 h4 hf h
        · exact ahead_num I T hs h1 h2 h3 h4 hf h
      · exact ahead_in I T IH hs h1 h2 h3 hf h
    · exact ahead_one I T IH hs (.inr h2) hf h
  · exact ahead_one I T IH hs (.inl h1) hf h
theorem RxI_all (I : RaIn l A w0) (T : TkOk l) : ∀ n, ∀ m, m ≤ n → RxI l pb A c w0 m := by
  intro n
  induction n with
  | zero =>
    intro m hm
    obtain rfl : m = 0 := by omega
    refine ⟨?_, ?_, ?_⟩
    · intro lv s e s' w _ _ hf; rw [exprR] at hf; cases hf
    · intro s e s' w _ hf; rw [aheadR] at hf; cases hf
    · intro s e s' w _ hf; rw [argsR] at hf; cases hf
  | succ n ih =>
    intro m hm
    by_cases hle : m ≤ n
    · exact ih m hle
    · obtain rfl : m = n + 1 := by omega
      exact ⟨fun lv s e s' w hlv hs hf h => rexpr_step I ih hlv hs hf h, fun s e s' w hs hf h => rahead_step I T (ih n (Nat.le_refl _)) hs hf h, fun s ks s' w hs hf h => rargs_step I ih hs hf h⟩
theorem rexpr_any (I : RaIn l A w0) (T : TkOk l) {n : Nat} (hs : PStOk l s) (hf : exprR l n 0 s = some (e, s')) (h : RaAt l pb A c w0 s w) :
    Calls Tryz.prog 50 #[.pointer (some ⟨pb, 0, none⟩), .int .i64 0] w (RxPost l pb A c w0 e s' w) :=
  (RxI_all I T n n (Nat.le_refl _)).expr 0 s e s' w (by omega) hs hf h
end
end Go.Proofs.YtpfgimohginbdaaGreatDoor
