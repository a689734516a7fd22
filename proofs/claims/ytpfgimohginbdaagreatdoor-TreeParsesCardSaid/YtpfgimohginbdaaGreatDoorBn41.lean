import Derived.Test.YtpfgimohginbdaaGreatDoorBn40
import Derived.Test.YtpfgimohginbdaaGreatDoorBn32
set_option linter.unusedVariables false
set_option linter.unusedSimpArgs false
namespace Go.Proofs.YtpfgimohginbdaaGreatDoor
open Go.RowKit

/-! the reference's parser: stmt -/
section
variable {l : List Tok} {pb : Nat} {A : Option Addr} {c : Nat} {w0 : World} {s s' : PSt} {w w' w1 : World}
theorem RaAt.setS (h : RaAt l pb A c w0 s w) {q j : Nat} {u : Value} {cs : Array Value} {fz : Nat × Nat} (hr : w.heap[q]? = some (.cells cs 90 fz)) (hlo : w0.heap.size ≤ q) :
    RaAt l pb A c w0 s (w.setCell ⟨q, j, none⟩ u) ∧ (w.setCell ⟨q, j, none⟩ u).heap[q]? = some (.cells (cs.setIfInBounds j u) 90 fz) :=
  ⟨h.other hr (by decide) hlo, row_set (j := j) u hr rfl⟩
theorem RaAt.set8 (h : RaAt l pb A c w0 s w) {q : Nat} {v0 v1 v2 v3 v4 v5 v6 v7 : Value} {cs : Array Value} {fz : Nat × Nat} (hr : w.heap[q]? = some (.cells cs 90 fz)) (hlo : w0.heap.size ≤ q) :
    RaAt l pb A c w0 s ((((((((w.setCell ⟨q, 0, none⟩ v0).setCell ⟨q, 1, none⟩ v1).setCell ⟨q, 2, none⟩ v2).setCell ⟨q, 3, none⟩ v3).setCell ⟨q, 4, none⟩ v4).setCell ⟨q, 5, none⟩ v5).setCell ⟨q, 6, none⟩ v6).setCell ⟨q, 7, none⟩ v7) := by
  have h0 := h.setS (j := 0) (u := v0) hr hlo
  have h1 := h0.1.setS (j := 1) (u := v1) h0.2 hlo
  have h2 := h1.1.setS (j := 2) (u := v2) h1.2 hlo
  have h3 := h2.1.setS (j := 3) (u := v3) h2.2 hlo
  have h4 := h3.1.setS (j := 4) (u := v4) h3.2 hlo
  have h5 := h4.1.setS (j := 5) (u := v5) h4.2 hlo
  have h6 := h5.1.setS (j := 6) (u := v6) h5.2 hlo
  exact (h6.1.setS (j := 7) (u := v7) h6.2 hlo).1
/-- The end of a call that has a statement for its result. -/
theorem rs_end {rb : Nat} {wA w9 : World} {x : PStmt} {X : Option Addr} {cx : Nat} {T : Option Addr} {ct : Nat} {L : Option Addr} {cl : Nat} {S : Nat → Prop} (hBA : But pb w wA) (hrb : w.heap.size = rb) (h9 : But pb wA w9) {cs : Array Value} (hr9 : w9.heap[rb]? = some (.cells cs 90 (0, 0))) (hlo : w0.heap.size ≤ rb) (hok : (SC.mk x X cx T ct L cl).Ok w9 S) (hS : ∀ n, S n → rb < n) (hpa : RaAt l pb A c w0 s' w9) :
    RsPost l pb A c w0 x s' w (.returned (stV x X cx T ct L cl)) ((((((((w9.setCell ⟨rb, 0, none⟩ (.string (mkB x.kind))).setCell ⟨rb, 1, none⟩ (.string (mkB x.name))).setCell ⟨rb, 2, none⟩ (.string (mkB x.e.kind))).setCell ⟨rb, 3, none⟩ (.int .i64 x.e.num)).setCell ⟨rb, 4, none⟩ (.string (mkB x.e.name))).setCell ⟨rb, 5, none⟩ (.slice X x.e.kids.length cx)).setCell ⟨rb, 6, none⟩ (.slice T x.th.length ct)).setCell ⟨rb, 7, none⟩ (.slice L x.el.length cl)) :=
  ⟨X, cx, T, ct, L, cl, rfl, hok.keep (keep8T _ _ _ _ _ _ _ _ fun n hn => by have := hS n hn; omega) (fun n hn => by have := hS n hn; show w.heap.size ≤ n; omega), hpa.set8 hr9 hlo, (hBA.trans h9).set8 (by omega)⟩
/-- What holds of a statement's block under way. -/
structure RsAt (l : List Tok) (pb : Nat) (A : Option Addr) (c : Nat) (w0 wA : World) (sb : Nat) (s : PSt) (x : PStmt) (X : Option Addr) (cx : Nat) (T : Option Addr) (ct : Nat) (L : Option Addr) (cl : Nat) (w : World) : Prop where
  pa : RaAt l pb A c w0 s w
  but : But pb wA w
  row : w.heap[sb]? = some (.cells #[.string (mkB x.kind), .string (mkB x.name), .string (mkB x.e.kind), .int .i64 x.e.num, .string (mkB x.e.name), .slice X x.e.kids.length cx, .slice T x.th.length ct, .slice L x.el.length cl] 90 (0, 0))
  ok : (SC.mk x X cx T ct L cl).Ok w (fun n => wA.heap.size ≤ n ∧ n ≠ sb)
theorem RsAt.then {wA : World} {sb : Nat} {x : PStmt} {X : Option Addr} {cx : Nat} {T : Option Addr} {ct : Nat} {L : Option Addr} {cl : Nat} (h : RsAt l pb A c w0 wA sb s x X cx T ct L cl w) (hpa : RaAt l pb A c w0 s' w') (hb : But pb w w') (hp : pb < wA.heap.size) (hq : pb ≠ sb) : RsAt l pb A c w0 wA sb s' x X cx T ct L cl w' :=
  ⟨hpa, h.but.trans hb, hb.row h.row (Ne.symm hq), h.ok.keep (hb.keepsIn fun k hk => by have := hk.1; omega) fun k hk => hk⟩
theorem RsAt.setT {wA w2 : World} {sb : Nat} {kd nm : List UInt8} {e : PExpr} {X : Option Addr} {cx : Nat} {B : Option Addr} {d : Nat} {th : List PStmt} (h : RsAt l pb A c w0 wA sb s ⟨kd, nm, e, [], []⟩ X cx none 0 none 0 w) (hB : RdS w2 (newA w) th B) (h2 : RaAt l pb A c w0 s' w2) (hb : But pb w w2) (hp : pb < wA.heap.size) (hq : pb < sb) (hw0 : w0.heap.size ≤ sb) (hsb : wA.heap.size ≤ sb) :
    RsAt l pb A c w0 wA sb s' ⟨kd, nm, e, th, []⟩ X cx B d none 0 (w2.setCell ⟨sb, 6, none⟩ (.slice B th.length d)) := by
  have h1 := h.then h2 hb hp (by omega)
  have hst := h2.setS (j := 6) (u := .slice B th.length d) h1.row hw0
  have hlt := (Array.getElem?_eq_some_iff.1 h.row).1
  have hsz := h.but.size
  refine ⟨hst.1, h1.but.setHi hsb 6 _, hst.2, h1.ok.1, h1.ok.2.1.keep (keeps_store _ fun k hk => hk.2) fun k hk => hk, hB.keep (keeps_store _ fun k hk => ?_) fun k hk => ?_, RdS.nil _ _ _⟩
  · have hk' : w.heap.size ≤ k := hk
    omega
  · have hk' : w.heap.size ≤ k := hk
    omega
theorem RsAt.setL {wA w2 : World} {sb : Nat} {kd nm : List UInt8} {e : PExpr} {X : Option Addr} {cx : Nat} {T : Option Addr} {ct : Nat} {B : Option Addr} {d : Nat} {th el : List PStmt} (h : RsAt l pb A c w0 wA sb s ⟨kd, nm, e, th, []⟩ X cx T ct none 0 w) (hB : RdS w2 (newA w) el B) (h2 : RaAt l pb A c w0 s' w2) (hb : But pb w w2) (hp : pb < wA.heap.size) (hq : pb < sb) (hw0 : w0.heap.size ≤ sb) (hsb : wA.heap.size ≤ sb) :
    RsAt l pb A c w0 wA sb s' ⟨kd, nm, e, th, el⟩ X cx T ct B d (w2.setCell ⟨sb, 7, none⟩ (.slice B el.length d)) := by
  have h1 := h.then h2 hb hp (by omega)
  have hst := h2.setS (j := 7) (u := .slice B el.length d) h1.row hw0
  have hlt := (Array.getElem?_eq_some_iff.1 h.row).1
  have hsz := h.but.size
  refine ⟨hst.1, h1.but.setHi hsb 7 _, hst.2, h1.ok.1, h1.ok.2.1.keep (keeps_store _ fun k hk => hk.2) fun k hk => hk, h1.ok.2.2.1.keep (keeps_store _ fun k hk => hk.2) fun k hk => hk, hB.keep (keeps_store _ fun k hk => ?_) fun k hk => ?_⟩
  · have hk' : w.heap.size ≤ k := hk
    omega
  · have hk' : w.heap.size ≤ k := hk
    omega
theorem RsAt.fin {rb sb : Nat} {wA w9 : World} {x : PStmt} {X : Option Addr} {cx : Nat} {T : Option Addr} {ct : Nat} {L : Option Addr} {cl : Nat} (h : RsAt l pb A c w0 wA sb s' x X cx T ct L cl w9) (hBA : But pb w wA) (hrb : w.heap.size = rb) (hra : rb < wA.heap.size) {cs : Array Value} (hr9 : w9.heap[rb]? = some (.cells cs 90 (0, 0))) (hlo : w0.heap.size ≤ rb) :
    RsPost l pb A c w0 x s' w (.returned (stV x X cx T ct L cl)) ((((((((w9.setCell ⟨rb, 0, none⟩ (.string (mkB x.kind))).setCell ⟨rb, 1, none⟩ (.string (mkB x.name))).setCell ⟨rb, 2, none⟩ (.string (mkB x.e.kind))).setCell ⟨rb, 3, none⟩ (.int .i64 x.e.num)).setCell ⟨rb, 4, none⟩ (.string (mkB x.e.name))).setCell ⟨rb, 5, none⟩ (.slice X x.e.kids.length cx)).setCell ⟨rb, 6, none⟩ (.slice T x.th.length ct)).setCell ⟨rb, 7, none⟩ (.slice L x.el.length cl)) :=
  rs_end hBA hrb h.but hr9 hlo h.ok (fun n hn => by have := hn.1; omega) h.pa
theorem wrd_eq (T : TkOk l) {x : List UInt8} (hx : x ∈ wordsB) (hne : x ≠ []) {b : Bool} (hb : isP l s x = b) {xk : ByteArray} (hk : mkB (nxtP l s kWord) = xk) : (xk.toList == x) = b := by
  rw [← hk, mkB_toList, word_is T hx hne, hb]
set_option maxHeartbeats 16000000 in
set_option maxRecDepth 100000 in
theorem stmt_br (I : RaIn l A w0) (T : TkOk l) {n : Nat} (IH : ∀ m, m < n → RsI l pb A c w0 m) {kind : List UInt8} {x : PStmt} (hs : PStOk l s) (hb : isP l s kind = true) (hk : kind = zIf ∨ (kind = zWhile ∧ isP l s zIf = false)) (hf : branchR l n kind s = some (x, s')) (h : RaAt l pb A c w0 s w) :
    Calls Tryz.prog 37 #[.pointer (some ⟨pb, 0, none⟩)] w (RsPost l pb A c w0 x s' w) := by
  have hlen := I.len
  obtain ⟨rb, hrb⟩ : ∃ rb, w.heap.size = rb := ⟨_, rfl⟩
  obtain ⟨wA, hwA⟩ : ∃ wA, w.alloc (.cells #[.string ⟨#[]⟩, .string ⟨#[]⟩, .string ⟨#[]⟩, .int .i64 0, .string ⟨#[]⟩, .slice none 0 0, .slice none 0 0, .slice none 0 0] 90) = wA := ⟨_, rfl⟩
  have hbA : Below w.heap.size w wA := by rw [← hwA]; exact grow_alloc (grow_refl _) _
  have hmA : wA.heap[rb]? = some (.cells #[.string ⟨#[]⟩, .string ⟨#[]⟩, .string ⟨#[]⟩, .int .i64 0, .string ⟨#[]⟩, .slice none 0 0, .slice none 0 0, .slice none 0 0] 90 (0, 0)) := by rw [← hwA, ← hrb]; exact heap_alloc_new w _
  have hA := h.keep hbA
  have hpr : pb < rb := by have := h.lt; omega
  have hlo : w0.heap.size ≤ rb := by have := h.under; omega
  have hra : rb < wA.heap.size := (Array.getElem?_eq_some_iff.1 hmA).1
  have HBA : Hid (But pb w wA) := But.of_below hbA
  have HR : Hid (∀ w', But pb wA w' → w'.heap[rb]? = some (.cells #[.string ⟨#[]⟩, .string ⟨#[]⟩, .string ⟨#[]⟩, .int .i64 0, .string ⟨#[]⟩, .slice none 0 0, .slice none 0 0, .slice none 0 0] 90 (0, 0))) := fun w' hb => hb.row hmA (by omega)
  have HWA := Lib.hid (And.intro hwA hrb)
  have HPL := Lib.hid (And.intro hpr (And.intro hlo hra))
  have HA := Lib.hid hA
  have HI := Lib.hid I
  have HN0 := Lib.hid (nxt_lit I hA kWord)
  rw [show mkB kWord = ⟨#[119, 111, 114, 100]⟩ from rfl] at HN0
  obtain ⟨Q, hQ⟩ : ∃ Q, RsPost l pb A c w0 x s' w = Q := ⟨_, rfl⟩
  have HQ := Lib.hid hQ
  rw [hQ]
  obtain ⟨xw, hxw⟩ : ∃ xw, mkB (nxtP l s kWord) = xw := ⟨_, rfl⟩
  rw [hxw] at HN0
  obtain ⟨he, t0, -, -, hlt, -⟩ := isP_some hb
  have hkw : nxtP l s kWord = kind := by
    have h1 := word_is (s := s) T (x := kind) (by rcases hk with e | ⟨e, -⟩ <;> rw [e] <;> decide) (by rcases hk with e | ⟨e, -⟩ <;> rw [e] <;> decide)
    rw [hb, beq_iff_eq] at h1
    exact h1
  have HXW : Hid (mkB kind = xw) := show _ = _ by rw [← hkw]; exact hxw
  have hst : PStOk l s.step := hs.went (went_step hlt he)
  have hor : (kind = zIf ∧ (xw.toList == [105, 102]) = true) ∨ (kind = zWhile ∧ (xw.toList == [105, 102]) = false ∧ (xw.toList == [119, 104, 105, 108, 101]) = true) := by
    rcases hk with e | ⟨e, e2⟩
    · exact .inl ⟨e, by rw [← hxw, mkB_toList, hkw, e]; decide⟩
    · exact .inr ⟨e, wrd_eq (x := zIf) T (by decide) (by decide) e2 hxw, by rw [← hxw, mkB_toList, hkw, e]; decide⟩
  have hpi : (s.pos : Int) ≤ 100000 := by omega
  have hwp : IntKind.i64.wrap ((s.pos : Int) + 1) = (s.pos : Int) + 1 := IntWalk.i64_in _ (by omega)
  obtain ⟨-, c1, -, -, -⟩ := hA.cells
  have z1 := hA.frozen 1
  cases n with
  | zero => rw [branchR] at hf; cases hf
  | succ m =>
    rw [branchR] at hf
    cases hx : exprR l m 0 s.step with
    | none => rw [hx] at hf; cases hf
    | some p =>
      obtain ⟨e, s1⟩ := p
      rw [hx] at hf
      dsimp only at hf
      have hs1 := hst.went ((went_exprR l m).expr 0 _ e s1 hst.hi hx)
      have HEX : Hid (∀ w', RaAt l pb A c w0 s.step w' → Calls Tryz.prog 50 #[.pointer (some ⟨pb, 0, none⟩), .int .i64 0] w' (RxPost l pb A c w0 e s1 w')) := fun w' hw => rexpr_any I T hst hx hw
      cases hy : blockR l m s1 with
      | none => rw [hy] at hf; cases hf
      | some p =>
        obtain ⟨th, s2⟩ := p
        rw [hy] at hf
        dsimp only at hf
        have hs2 := hs1.went ((adv_stmtR l m).block _ th s2 hs1.hi hy)
        have HBL : Hid (∀ w', RaAt l pb A c w0 s1 w' → Calls Tryz.prog 22 #[.pointer (some ⟨pb, 0, none⟩)] w' (RbPost l pb A c w0 th s2 w')) := fun w' hw => (IH m (Nat.lt_succ_self m)).block s1 th s2 w' hs1 hy hw
        have HF := Lib.hid (And.intro hf hs2)
        have HIH := Lib.hid IH
        clear hf hx hy hst hs1 hs2 hlt he hb hk hkw IH h hA hbA hmA hwA hrb I hQ hpr hlo hra hlen hs hxw T
        rcases hor with ⟨hkd, ho⟩ | ⟨hkd, ho, ho2⟩
        · go_enter Tryz.func37, Tryz.ntmps37
          go_upto_region 1 with fail
          rw [HWA.out.1, HWA.out.2]
          go_upto_region 5 with (go_at_call 35; (with_reducible refine HN0.out.mono ?_); rintro y w1 ⟨rfl, n1, rfl⟩)
          have d1 : (wA.drewN n1).cell? ⟨pb, 1, none⟩ = some (.int .i64 (s.pos : Nat)) := c1
          have dz : (wA.drewN n1).frozen? ⟨pb, 1, none⟩ = false := z1
          go_upto_region 6 with fail
          obtain ⟨w3, hw3⟩ : ∃ w3, (wA.drewN n1).setCell ⟨pb, 1, none⟩ (.int .i64 ((s.pos : Int) + 1)) = w3 := ⟨_, rfl⟩
          have h3 : RaAt l pb A c w0 s.step w3 := by rw [← hw3]; exact (HA.out.drewN n1).setPos (s.pos + 1)
          have hb3 : But pb wA w3 := by rw [← hw3]; exact ((But.refl pb wA).drewN n1).set 1 _
          rw [hw3]
          have H3 := Lib.hid (And.intro h3 hb3)
          clear hw3 h3 hb3 c1 z1 d1 dz
          go_upto_region 7 with (go_at_call 50; (with_reducible refine (HEX.out _ H3.out.1).mono ?_); rintro y w4 ⟨B, d, rfl, hB, hM, h4, hb4⟩; rw [show exV e B d = .agg #[.string (mkB e.kind), .int .i64 e.num, .string (mkB e.name), .slice B e.kids.length d] from rfl]; have H4 := Lib.hid (And.intro hB (And.intro hM (And.intro h4 (H3.out.2.trans hb4)))); clear hB hM h4 hb4)
          obtain ⟨sb, hsb⟩ : ∃ sb, w4.heap.size = sb := ⟨_, rfl⟩
          obtain ⟨w5, hw5⟩ : ∃ w5, w4.alloc (.cells #[.string xw, .string ⟨#[]⟩, .string (mkB e.kind), .int .i64 e.num, .string (mkB e.name), .slice B e.kids.length d, .slice none 0 0, .slice none 0 0] 90) = w5 := ⟨_, rfl⟩
          have hm5 : w5.heap[sb]? = some (.cells #[.string xw, .string ⟨#[]⟩, .string (mkB e.kind), .int .i64 e.num, .string (mkB e.name), .slice B e.kids.length d, .slice none 0 0, .slice none 0 0] 90 (0, 0)) := by rw [← hw5, ← hsb]; exact heap_alloc_new w4 _
          have hb5 : Below w4.heap.size w4 w5 := by rw [← hw5]; exact grow_alloc (grow_refl _) _
          have hAs : wA.heap.size ≤ sb := by have := H4.out.2.2.2.size; omega
          have hps : pb < sb := by have := HPL.out; omega
          have hlos : w0.heap.size ≤ sb := by have := HPL.out; omega
          have hpA : pb < wA.heap.size := by have := HPL.out; omega
          have h3A := H3.out.2.size
          rw [← HXW.out] at hm5
          have HS5 : Hid (RsAt l pb A c w0 wA sb s1 ⟨kind, [], e, [], []⟩ B d none 0 none 0 w5) := ⟨H4.out.2.2.1.keep hb5, H4.out.2.2.2.trans (But.of_below hb5), hm5, H4.out.2.1, H4.out.1.lt.keep ((Keeps.of_below hb5).in _) (fun k hk => ⟨by have hk' : w3.heap.size ≤ k := hk.1; omega, by have hk' : k < w4.heap.size := hk.2; omega⟩), RdS.nil _ _ _, RdS.nil _ _ _⟩
          have HSB := Lib.hid (And.intro hAs (And.intro hps (And.intro hlos hpA)))
          rw [hsb, hw5]
          clear hw5 hsb hm5 hb5 h3A hAs hps hlos hpA
          go_upto_region 8 with (go_at_call 22; (with_reducible refine (HBL.out _ HS5.out.pa).mono ?_); rintro y w6 ⟨T, ct, rfl, hT, h6, hb6⟩; have hS6 := HS5.out.then h6 hb6 HSB.out.2.2.2 (Nat.ne_of_lt HSB.out.2.1); obtain ⟨a0, a1, a2, a3, a4, a5, a6, a7⟩ := row8T hS6.row; have z6 := row_frozen hS6.row 6; have H6 := Lib.hid (And.intro hT (And.intro h6 hb6)); clear hT h6 hb6 hS6)
          go_upto_region 9 with fail
          obtain ⟨w7, hw7⟩ : ∃ w7, w6.setCell ⟨sb, 6, none⟩ (.slice T th.length ct) = w7 := ⟨_, rfl⟩
          have hS7 := HS5.out.setT (d := ct) H6.out.1 H6.out.2.1 H6.out.2.2 HSB.out.2.2.2 HSB.out.2.1 HSB.out.2.2.1 HSB.out.1
          rw [hw7] at hS7
          rw [hw7]
          have HS7 := Lib.hid hS7
          clear hw7 hS7 a0 a1 a2 a3 a4 a5 a6 a7 z6
          have hf := HF.out.1
          subst hkd
          rw [show (zIf == zIf) = true from rfl, Bool.true_and] at hf
          cases hb : isP l s2 zElse
          · rw [hb, if_neg (by decide)] at hf
            have HEA : Hid (∀ w', RaAt l pb A c w0 s2 w' → Calls Tryz.prog 21 #[.pointer (some ⟨pb, 0, none⟩), .string ⟨#[101, 108, 115, 101]⟩] w' (RaRet l pb A c w0 (.bool false) s2 w')) := fun w' hw => reat_lit HI.out hw HF.out.2.hi (x := zElse) (by decide) hb
            have HES : Hid (x = ⟨zIf, [], e, th, []⟩ ∧ s' = s2) := show _ ∧ _ by cases hf; exact ⟨rfl, rfl⟩
            clear hf hb
            go_upto_region 12 with (go_at_call 21; (with_reducible refine (HEA.out _ HS7.out.pa).mono ?_); rintro y w8 ⟨rfl, h8, hb8⟩; have HS8 := Lib.hid (HS7.out.then h8 hb8 HSB.out.2.2.2 (Nat.ne_of_lt HSB.out.2.1)); clear h8 hb8)
            obtain ⟨a0, a1, a2, a3, a4, a5, a6, a7⟩ := row8T HS8.out.row
            have hr7 := HR.out w8 HS8.out.but
            obtain ⟨r0, r1, r2, r3, r4, r5, r6, r7⟩ := row8T hr7
            have y0 := row_frozen hr7 0
            have y1 := row_frozen hr7 1
            have y2 := row_frozen hr7 2
            have y3 := row_frozen hr7 3
            have y4 := row_frozen hr7 4
            have y5 := row_frozen hr7 5
            have y6 := row_frozen hr7 6
            have y7 := row_frozen hr7 7
            have HR7 := Lib.hid hr7
            clear hr7
            go_wp2_with fail
            obtain ⟨u0, u1, u2, u3, u4, u5, u6, u7⟩ := row8T (set8T (v0 := .string (mkB zIf)) (v1 := .string (mkB [])) (v2 := .string (mkB e.kind)) (v3 := .int .i64 e.num) (v4 := .string (mkB e.name)) (v5 := .slice B e.kids.length d) (v6 := .slice T th.length ct) (v7 := .slice none 0 0) HR7.out)
            refine bodyPost_ret (v := stV ⟨zIf, [], e, th, []⟩ B d T ct none 0) (by simp [results, Tryz.results37, go_sem, u0, u1, u2, u3, u4, u5, u6, u7]; try rfl) rfl ?_
            rw [← HQ.out, HES.out.1, HES.out.2]
            exact RsAt.fin (x := ⟨zIf, [], e, th, []⟩) HS8.out HBA.out HWA.out.2 HPL.out.2.2 HR7.out HPL.out.2.1
          · rw [hb, if_pos rfl] at hf
            have HEA : Hid (∀ w', RaAt l pb A c w0 s2 w' → Calls Tryz.prog 21 #[.pointer (some ⟨pb, 0, none⟩), .string ⟨#[101, 108, 115, 101]⟩] w' (RaRet l pb A c w0 (.bool true) s2.step w')) := fun w' hw => reat_lit HI.out hw HF.out.2.hi (x := zElse) (by decide) hb
            obtain ⟨hse, t, htk, -, hpl, -⟩ := isP_some hb
            have hst2 : PStOk l s2.step := HF.out.2.went (went_step hpl hse)
            cases hz : blockR l m s2.step with
            | none => rw [hz] at hf; cases hf
            | some p =>
              obtain ⟨el, s3⟩ := p
              rw [hz] at hf
              have HES : Hid (x = ⟨zIf, [], e, th, el⟩ ∧ s' = s3) := show _ ∧ _ by cases hf; exact ⟨rfl, rfl⟩
              have HB2 : Hid (∀ w', RaAt l pb A c w0 s2.step w' → Calls Tryz.prog 22 #[.pointer (some ⟨pb, 0, none⟩)] w' (RbPost l pb A c w0 el s3 w')) := fun w' hw => (HIH.out m (Nat.lt_succ_self m)).block _ el s3 w' hst2 hz hw
              clear hf hb hse htk hpl hst2 hz
              go_upto_region 10 with (go_at_call 21; (with_reducible refine (HEA.out _ HS7.out.pa).mono ?_); rintro y w8 ⟨rfl, h8, hb8⟩; have HS8 := Lib.hid (HS7.out.then h8 hb8 HSB.out.2.2.2 (Nat.ne_of_lt HSB.out.2.1)); clear h8 hb8)
              go_upto_region 11 with (go_at_call 22; (with_reducible refine (HB2.out _ HS8.out.pa).mono ?_); rintro y w9 ⟨L, cl, rfl, hL, h9, hb9⟩; have hS9 := HS8.out.then h9 hb9 HSB.out.2.2.2 (Nat.ne_of_lt HSB.out.2.1); obtain ⟨a0, a1, a2, a3, a4, a5, a6, a7⟩ := row8T hS9.row; have x7 := row_frozen hS9.row 7; have H9 := Lib.hid (And.intro hL (And.intro h9 hb9)); clear hL h9 hb9 hS9)
              go_upto_region 12 with fail
              obtain ⟨w10, hw10⟩ : ∃ w10, w9.setCell ⟨sb, 7, none⟩ (.slice L el.length cl) = w10 := ⟨_, rfl⟩
              have hS10 := HS8.out.setL (d := cl) H9.out.1 H9.out.2.1 H9.out.2.2 HSB.out.2.2.2 HSB.out.2.1 HSB.out.2.2.1 HSB.out.1
              rw [hw10] at hS10
              rw [hw10]
              have HS10 := Lib.hid hS10
              clear hw10 hS10 a0 a1 a2 a3 a4 a5 a6 a7 x7
              obtain ⟨a0, a1, a2, a3, a4, a5, a6, a7⟩ := row8T HS10.out.row
              have hr7 := HR.out w10 HS10.out.but
              obtain ⟨r0, r1, r2, r3, r4, r5, r6, r7⟩ := row8T hr7
              have y0 := row_frozen hr7 0
              have y1 := row_frozen hr7 1
              have y2 := row_frozen hr7 2
              have y3 := row_frozen hr7 3
              have y4 := row_frozen hr7 4
              have y5 := row_frozen hr7 5
              have y6 := row_frozen hr7 6
              have y7 := row_frozen hr7 7
              have HR7 := Lib.hid hr7
              clear hr7
              go_wp2_with fail
              obtain ⟨u0, u1, u2, u3, u4, u5, u6, u7⟩ := row8T (set8T (v0 := .string (mkB zIf)) (v1 := .string (mkB [])) (v2 := .string (mkB e.kind)) (v3 := .int .i64 e.num) (v4 := .string (mkB e.name)) (v5 := .slice B e.kids.length d) (v6 := .slice T th.length ct) (v7 := .slice L el.length cl) HR7.out)
              refine bodyPost_ret (v := stV ⟨zIf, [], e, th, el⟩ B d T ct L cl) (by simp [results, Tryz.results37, go_sem, u0, u1, u2, u3, u4, u5, u6, u7]; try rfl) rfl ?_
              rw [← HQ.out, HES.out.1, HES.out.2]
              exact RsAt.fin (x := ⟨zIf, [], e, th, el⟩) HS10.out HBA.out HWA.out.2 HPL.out.2.2 HR7.out HPL.out.2.1
          
        · go_enter Tryz.func37, Tryz.ntmps37
          go_upto_region 1 with fail
          rw [HWA.out.1, HWA.out.2]
          go_upto_region 5 with (go_at_call 35; (with_reducible refine HN0.out.mono ?_); rintro y w1 ⟨rfl, n1, rfl⟩)
          have d1 : (wA.drewN n1).cell? ⟨pb, 1, none⟩ = some (.int .i64 (s.pos : Nat)) := c1
          have dz : (wA.drewN n1).frozen? ⟨pb, 1, none⟩ = false := z1
          go_upto_region 6 with fail
          obtain ⟨w3, hw3⟩ : ∃ w3, (wA.drewN n1).setCell ⟨pb, 1, none⟩ (.int .i64 ((s.pos : Int) + 1)) = w3 := ⟨_, rfl⟩
          have h3 : RaAt l pb A c w0 s.step w3 := by rw [← hw3]; exact (HA.out.drewN n1).setPos (s.pos + 1)
          have hb3 : But pb wA w3 := by rw [← hw3]; exact ((But.refl pb wA).drewN n1).set 1 _
          rw [hw3]
          have H3 := Lib.hid (And.intro h3 hb3)
          clear hw3 h3 hb3 c1 z1 d1 dz
          go_upto_region 7 with (go_at_call 50; (with_reducible refine (HEX.out _ H3.out.1).mono ?_); rintro y w4 ⟨B, d, rfl, hB, hM, h4, hb4⟩; rw [show exV e B d = .agg #[.string (mkB e.kind), .int .i64 e.num, .string (mkB e.name), .slice B e.kids.length d] from rfl]; have H4 := Lib.hid (And.intro hB (And.intro hM (And.intro h4 (H3.out.2.trans hb4)))); clear hB hM h4 hb4)
          obtain ⟨sb, hsb⟩ : ∃ sb, w4.heap.size = sb := ⟨_, rfl⟩
          obtain ⟨w5, hw5⟩ : ∃ w5, w4.alloc (.cells #[.string xw, .string ⟨#[]⟩, .string (mkB e.kind), .int .i64 e.num, .string (mkB e.name), .slice B e.kids.length d, .slice none 0 0, .slice none 0 0] 90) = w5 := ⟨_, rfl⟩
          have hm5 : w5.heap[sb]? = some (.cells #[.string xw, .string ⟨#[]⟩, .string (mkB e.kind), .int .i64 e.num, .string (mkB e.name), .slice B e.kids.length d, .slice none 0 0, .slice none 0 0] 90 (0, 0)) := by rw [← hw5, ← hsb]; exact heap_alloc_new w4 _
          have hb5 : Below w4.heap.size w4 w5 := by rw [← hw5]; exact grow_alloc (grow_refl _) _
          have hAs : wA.heap.size ≤ sb := by have := H4.out.2.2.2.size; omega
          have hps : pb < sb := by have := HPL.out; omega
          have hlos : w0.heap.size ≤ sb := by have := HPL.out; omega
          have hpA : pb < wA.heap.size := by have := HPL.out; omega
          have h3A := H3.out.2.size
          rw [← HXW.out] at hm5
          have HS5 : Hid (RsAt l pb A c w0 wA sb s1 ⟨kind, [], e, [], []⟩ B d none 0 none 0 w5) := ⟨H4.out.2.2.1.keep hb5, H4.out.2.2.2.trans (But.of_below hb5), hm5, H4.out.2.1, H4.out.1.lt.keep ((Keeps.of_below hb5).in _) (fun k hk => ⟨by have hk' : w3.heap.size ≤ k := hk.1; omega, by have hk' : k < w4.heap.size := hk.2; omega⟩), RdS.nil _ _ _, RdS.nil _ _ _⟩
          have HSB := Lib.hid (And.intro hAs (And.intro hps (And.intro hlos hpA)))
          rw [hsb, hw5]
          clear hw5 hsb hm5 hb5 h3A hAs hps hlos hpA
          go_upto_region 8 with (go_at_call 22; (with_reducible refine (HBL.out _ HS5.out.pa).mono ?_); rintro y w6 ⟨T, ct, rfl, hT, h6, hb6⟩; have hS6 := HS5.out.then h6 hb6 HSB.out.2.2.2 (Nat.ne_of_lt HSB.out.2.1); obtain ⟨a0, a1, a2, a3, a4, a5, a6, a7⟩ := row8T hS6.row; have z6 := row_frozen hS6.row 6; have H6 := Lib.hid (And.intro hT (And.intro h6 hb6)); clear hT h6 hb6 hS6)
          go_upto_region 9 with fail
          obtain ⟨w7, hw7⟩ : ∃ w7, w6.setCell ⟨sb, 6, none⟩ (.slice T th.length ct) = w7 := ⟨_, rfl⟩
          have hS7 := HS5.out.setT (d := ct) H6.out.1 H6.out.2.1 H6.out.2.2 HSB.out.2.2.2 HSB.out.2.1 HSB.out.2.2.1 HSB.out.1
          rw [hw7] at hS7
          rw [hw7]
          have HS7 := Lib.hid hS7
          clear hw7 hS7 a0 a1 a2 a3 a4 a5 a6 a7 z6
          have hf := HF.out.1
          subst hkd
          rw [show (zWhile == zIf) = false from rfl, Bool.false_and, if_neg (by decide)] at hf
          have HES : Hid (x = ⟨zWhile, [], e, th, []⟩ ∧ s' = s2) := show _ ∧ _ by cases hf; exact ⟨rfl, rfl⟩
          clear hf
          go_upto_region 12 with fail
          obtain ⟨a0, a1, a2, a3, a4, a5, a6, a7⟩ := row8T HS7.out.row
          have hr7 := HR.out w7 HS7.out.but
          obtain ⟨r0, r1, r2, r3, r4, r5, r6, r7⟩ := row8T hr7
          have y0 := row_frozen hr7 0
          have y1 := row_frozen hr7 1
          have y2 := row_frozen hr7 2
          have y3 := row_frozen hr7 3
          have y4 := row_frozen hr7 4
          have y5 := row_frozen hr7 5
          have y6 := row_frozen hr7 6
          have y7 := row_frozen hr7 7
          have HR7 := Lib.hid hr7
          clear hr7
          go_wp2_with fail
          obtain ⟨u0, u1, u2, u3, u4, u5, u6, u7⟩ := row8T (set8T (v0 := .string (mkB zWhile)) (v1 := .string (mkB [])) (v2 := .string (mkB e.kind)) (v3 := .int .i64 e.num) (v4 := .string (mkB e.name)) (v5 := .slice B e.kids.length d) (v6 := .slice T th.length ct) (v7 := .slice none 0 0) HR7.out)
          refine bodyPost_ret (v := stV ⟨zWhile, [], e, th, []⟩ B d T ct none 0) (by simp [results, Tryz.results37, go_sem, u0, u1, u2, u3, u4, u5, u6, u7]; try rfl) rfl ?_
          rw [← HQ.out, HES.out.1, HES.out.2]
          exact RsAt.fin (x := ⟨zWhile, [], e, th, []⟩) HS7.out HBA.out HWA.out.2 HPL.out.2.2 HR7.out HPL.out.2.1
          
set_option maxHeartbeats 16000000 in
set_option maxRecDepth 100000 in
theorem stmt_tell (I : RaIn l A w0) (T : TkOk l) {n : Nat} {kind : List UInt8} {x : PStmt} (hs : PStOk l s) (hb : isP l s kind = true) (h1 : isP l s zIf = false) (h2 : isP l s zWhile = false) (hk : kind = zReturn ∨ (kind = zPrint ∧ isP l s zReturn = false)) (hf : tellR l n kind s = some (x, s')) (h : RaAt l pb A c w0 s w) :
    Calls Tryz.prog 37 #[.pointer (some ⟨pb, 0, none⟩)] w (RsPost l pb A c w0 x s' w) := by
  have hlen := I.len
  obtain ⟨rb, hrb⟩ : ∃ rb, w.heap.size = rb := ⟨_, rfl⟩
  obtain ⟨wA, hwA⟩ : ∃ wA, w.alloc (.cells #[.string ⟨#[]⟩, .string ⟨#[]⟩, .string ⟨#[]⟩, .int .i64 0, .string ⟨#[]⟩, .slice none 0 0, .slice none 0 0, .slice none 0 0] 90) = wA := ⟨_, rfl⟩
  have hbA : Below w.heap.size w wA := by rw [← hwA]; exact grow_alloc (grow_refl _) _
  have hmA : wA.heap[rb]? = some (.cells #[.string ⟨#[]⟩, .string ⟨#[]⟩, .string ⟨#[]⟩, .int .i64 0, .string ⟨#[]⟩, .slice none 0 0, .slice none 0 0, .slice none 0 0] 90 (0, 0)) := by rw [← hwA, ← hrb]; exact heap_alloc_new w _
  have hA := h.keep hbA
  have hpr : pb < rb := by have := h.lt; omega
  have hlo : w0.heap.size ≤ rb := by have := h.under; omega
  have hra : rb < wA.heap.size := (Array.getElem?_eq_some_iff.1 hmA).1
  have HBA : Hid (But pb w wA) := But.of_below hbA
  have HR : Hid (∀ w', But pb wA w' → w'.heap[rb]? = some (.cells #[.string ⟨#[]⟩, .string ⟨#[]⟩, .string ⟨#[]⟩, .int .i64 0, .string ⟨#[]⟩, .slice none 0 0, .slice none 0 0, .slice none 0 0] 90 (0, 0))) := fun w' hb => hb.row hmA (by omega)
  have HWA := Lib.hid (And.intro hwA hrb)
  have HPL := Lib.hid (And.intro hpr (And.intro hlo hra))
  have HA := Lib.hid hA
  have HI := Lib.hid I
  have HN0 := Lib.hid (nxt_lit I hA kWord)
  rw [show mkB kWord = ⟨#[119, 111, 114, 100]⟩ from rfl] at HN0
  obtain ⟨Q, hQ⟩ : ∃ Q, RsPost l pb A c w0 x s' w = Q := ⟨_, rfl⟩
  have HQ := Lib.hid hQ
  rw [hQ]
  obtain ⟨xw, hxw⟩ : ∃ xw, mkB (nxtP l s kWord) = xw := ⟨_, rfl⟩
  rw [hxw] at HN0
  obtain ⟨he, t0, -, -, hlt, -⟩ := isP_some hb
  have hkw : nxtP l s kWord = kind := by
    have h1 := word_is (s := s) T (x := kind) (by rcases hk with e | ⟨e, -⟩ <;> rw [e] <;> decide) (by rcases hk with e | ⟨e, -⟩ <;> rw [e] <;> decide)
    rw [hb, beq_iff_eq] at h1
    exact h1
  have HXW : Hid (mkB kind = xw) := show _ = _ by rw [← hkw]; exact hxw
  have hst : PStOk l s.step := hs.went (went_step hlt he)
  have hq1 : (xw.toList == [105, 102]) = false := wrd_eq (x := zIf) T (by decide) (by decide) h1 hxw
  have hq2 : (xw.toList == [119, 104, 105, 108, 101]) = false := wrd_eq (x := zWhile) T (by decide) (by decide) h2 hxw
  have hor : ((xw.toList == [114, 101, 116, 117, 114, 110]) = true) ∨ ((xw.toList == [114, 101, 116, 117, 114, 110]) = false ∧ (xw.toList == [112, 114, 105, 110, 116]) = true) := by
    rcases hk with e | ⟨e, e2⟩
    · exact .inl (by rw [← hxw, mkB_toList, hkw, e]; decide)
    · exact .inr ⟨wrd_eq (x := zReturn) T (by decide) (by decide) e2 hxw, by rw [← hxw, mkB_toList, hkw, e]; decide⟩
  have hpi : (s.pos : Int) ≤ 100000 := by omega
  have hwp : IntKind.i64.wrap ((s.pos : Int) + 1) = (s.pos : Int) + 1 := IntWalk.i64_in _ (by omega)
  obtain ⟨-, c1, -, -, -⟩ := hA.cells
  have z1 := hA.frozen 1
  unfold tellR at hf
  cases hx : exprR l n 0 s.step with
  | none => rw [hx] at hf; cases hf
  | some p =>
    obtain ⟨e, s1⟩ := p
    rw [hx] at hf
    dsimp only at hf
    have hs1 := hst.went ((went_exprR l n).expr 0 _ e s1 hst.hi hx)
    have HEX : Hid (∀ w', RaAt l pb A c w0 s.step w' → Calls Tryz.prog 50 #[.pointer (some ⟨pb, 0, none⟩), .int .i64 0] w' (RxPost l pb A c w0 e s1 w')) := fun w' hw => rexpr_any I T hst hx hw
    have HMU : Hid (∀ w', RaAt l pb A c w0 s1 w' → Calls Tryz.prog 19 #[.pointer (some ⟨pb, 0, none⟩), .string ⟨#[59]⟩] w' (RaRet l pb A c w0 (.tuple #[]) (takeP l [59] s1) w')) := fun w' hw => rmust_any HI.out hw hs1.hi (x := [59]) (by decide)
    have HES : Hid (x = ⟨kind, [], e, [], []⟩ ∧ s' = takeP l [59] s1) := show _ ∧ _ by cases hf; exact ⟨rfl, rfl⟩
    clear hf hx hst hs1 hlt he hb hk hkw h1 h2 h hA hbA hmA hwA hrb I hQ hpr hlo hra hlen hs hxw T
    rcases hor with ho | ⟨ho, ho2⟩
    all_goals
      go_enter Tryz.func37, Tryz.ntmps37
      go_upto_region 1 with fail
      rw [HWA.out.1, HWA.out.2]
      go_upto_region 15 with (go_at_call 35; (with_reducible refine HN0.out.mono ?_); rintro y w1 ⟨rfl, n1, rfl⟩)
      have d1 : (wA.drewN n1).cell? ⟨pb, 1, none⟩ = some (.int .i64 (s.pos : Nat)) := c1
      have dz : (wA.drewN n1).frozen? ⟨pb, 1, none⟩ = false := z1
      go_upto_region 16 with fail
      obtain ⟨w3, hw3⟩ : ∃ w3, (wA.drewN n1).setCell ⟨pb, 1, none⟩ (.int .i64 ((s.pos : Int) + 1)) = w3 := ⟨_, rfl⟩
      have h3 : RaAt l pb A c w0 s.step w3 := by rw [← hw3]; exact (HA.out.drewN n1).setPos (s.pos + 1)
      have hb3 : But pb wA w3 := by rw [← hw3]; exact ((But.refl pb wA).drewN n1).set 1 _
      rw [hw3]
      have H3 := Lib.hid (And.intro h3 hb3)
      clear hw3 h3 hb3 c1 z1 d1 dz
      go_upto_region 17 with (go_at_call 50; (with_reducible refine (HEX.out _ H3.out.1).mono ?_); rintro y w4 ⟨B, d, rfl, hB, hM, h4, hb4⟩; rw [show exV e B d = .agg #[.string (mkB e.kind), .int .i64 e.num, .string (mkB e.name), .slice B e.kids.length d] from rfl]; have H4 := Lib.hid (And.intro hB (And.intro hM (And.intro h4 (H3.out.2.trans hb4)))); clear hB hM h4 hb4)
      obtain ⟨sb, hsb⟩ : ∃ sb, w4.heap.size = sb := ⟨_, rfl⟩
      obtain ⟨w5, hw5⟩ : ∃ w5, w4.alloc (.cells #[.string xw, .string ⟨#[]⟩, .string (mkB e.kind), .int .i64 e.num, .string (mkB e.name), .slice B e.kids.length d, .slice none 0 0, .slice none 0 0] 90) = w5 := ⟨_, rfl⟩
      have hm5 : w5.heap[sb]? = some (.cells #[.string xw, .string ⟨#[]⟩, .string (mkB e.kind), .int .i64 e.num, .string (mkB e.name), .slice B e.kids.length d, .slice none 0 0, .slice none 0 0] 90 (0, 0)) := by rw [← hw5, ← hsb]; exact heap_alloc_new w4 _
      have hb5 : Below w4.heap.size w4 w5 := by rw [← hw5]; exact grow_alloc (grow_refl _) _
      have hAs : wA.heap.size ≤ sb := by have := H4.out.2.2.2.size; omega
      have hps : pb < sb := by have := HPL.out; omega
      have hlos : w0.heap.size ≤ sb := by have := HPL.out; omega
      have hpA : pb < wA.heap.size := by have := HPL.out; omega
      have h3A := H3.out.2.size
      rw [← HXW.out] at hm5
      have HS5 : Hid (RsAt l pb A c w0 wA sb s1 ⟨kind, [], e, [], []⟩ B d none 0 none 0 w5) := ⟨H4.out.2.2.1.keep hb5, H4.out.2.2.2.trans (But.of_below hb5), hm5, H4.out.2.1, H4.out.1.lt.keep ((Keeps.of_below hb5).in _) (fun k hk => ⟨by have hk' : w3.heap.size ≤ k := hk.1; omega, by have hk' : k < w4.heap.size := hk.2; omega⟩), RdS.nil _ _ _, RdS.nil _ _ _⟩
      have HSB := Lib.hid (And.intro hAs (And.intro hps (And.intro hlos hpA)))
      rw [hsb, hw5]
      clear hw5 hsb hm5 hb5 h3A hAs hps hlos hpA
      go_upto_region 18 with (go_at_call 19; (with_reducible refine (HMU.out _ HS5.out.pa).mono ?_); rintro y w8 ⟨rfl, h8, hb8⟩; have HS8 := Lib.hid (HS5.out.then h8 hb8 HSB.out.2.2.2 (Nat.ne_of_lt HSB.out.2.1)); clear h8 hb8)
      obtain ⟨a0, a1, a2, a3, a4, a5, a6, a7⟩ := row8T HS8.out.row
      have hr7 := HR.out w8 HS8.out.but
      obtain ⟨r0, r1, r2, r3, r4, r5, r6, r7⟩ := row8T hr7
      have y0 := row_frozen hr7 0
      have y1 := row_frozen hr7 1
      have y2 := row_frozen hr7 2
      have y3 := row_frozen hr7 3
      have y4 := row_frozen hr7 4
      have y5 := row_frozen hr7 5
      have y6 := row_frozen hr7 6
      have y7 := row_frozen hr7 7
      have HR7 := Lib.hid hr7
      clear hr7
      go_wp2_with fail
      obtain ⟨u0, u1, u2, u3, u4, u5, u6, u7⟩ := row8T (set8T (v0 := .string (mkB kind)) (v1 := .string (mkB [])) (v2 := .string (mkB e.kind)) (v3 := .int .i64 e.num) (v4 := .string (mkB e.name)) (v5 := .slice B e.kids.length d) (v6 := .slice none 0 0) (v7 := .slice none 0 0) HR7.out)
      refine bodyPost_ret (v := stV ⟨kind, [], e, [], []⟩ B d none 0 none 0) (by simp [results, Tryz.results37, go_sem, u0, u1, u2, u3, u4, u5, u6, u7]; try rfl) rfl ?_
      rw [← HQ.out, HES.out.1, HES.out.2]
      exact RsAt.fin (x := ⟨kind, [], e, [], []⟩) HS8.out HBA.out HWA.out.2 HPL.out.2.2 HR7.out HPL.out.2.1
set_option maxHeartbeats 16000000 in
set_option maxRecDepth 100000 in
theorem stmt_asg (I : RaIn l A w0) (T : TkOk l) {n : Nat} {kind : List UInt8} {x : PStmt} {sv : PSt} (hs : PStOk l s) (h1 : isP l s zIf = false) (h2 : isP l s zWhile = false) (h3 : isP l s zReturn = false) (h4 : isP l s zPrint = false) (hk : (kind = zVar ∧ isP l s zVar = true ∧ sv = s.step) ∨ (kind = ySet ∧ isP l s zVar = false ∧ sv = s)) (hf : assignR l n kind sv = some (x, s')) (h : RaAt l pb A c w0 s w) :
    Calls Tryz.prog 37 #[.pointer (some ⟨pb, 0, none⟩)] w (RsPost l pb A c w0 x s' w) := by
  have hlen := I.len
  obtain ⟨rb, hrb⟩ : ∃ rb, w.heap.size = rb := ⟨_, rfl⟩
  obtain ⟨wA, hwA⟩ : ∃ wA, w.alloc (.cells #[.string ⟨#[]⟩, .string ⟨#[]⟩, .string ⟨#[]⟩, .int .i64 0, .string ⟨#[]⟩, .slice none 0 0, .slice none 0 0, .slice none 0 0] 90) = wA := ⟨_, rfl⟩
  have hbA : Below w.heap.size w wA := by rw [← hwA]; exact grow_alloc (grow_refl _) _
  have hmA : wA.heap[rb]? = some (.cells #[.string ⟨#[]⟩, .string ⟨#[]⟩, .string ⟨#[]⟩, .int .i64 0, .string ⟨#[]⟩, .slice none 0 0, .slice none 0 0, .slice none 0 0] 90 (0, 0)) := by rw [← hwA, ← hrb]; exact heap_alloc_new w _
  have hA := h.keep hbA
  have hpr : pb < rb := by have := h.lt; omega
  have hlo : w0.heap.size ≤ rb := by have := h.under; omega
  have hra : rb < wA.heap.size := (Array.getElem?_eq_some_iff.1 hmA).1
  have HBA : Hid (But pb w wA) := But.of_below hbA
  have HR : Hid (∀ w', But pb wA w' → w'.heap[rb]? = some (.cells #[.string ⟨#[]⟩, .string ⟨#[]⟩, .string ⟨#[]⟩, .int .i64 0, .string ⟨#[]⟩, .slice none 0 0, .slice none 0 0, .slice none 0 0] 90 (0, 0))) := fun w' hb => hb.row hmA (by omega)
  have HWA := Lib.hid (And.intro hwA hrb)
  have HPL := Lib.hid (And.intro hpr (And.intro hlo hra))
  have HA := Lib.hid hA
  have HI := Lib.hid I
  have HN0 := Lib.hid (nxt_lit I hA kWord)
  rw [show mkB kWord = ⟨#[119, 111, 114, 100]⟩ from rfl] at HN0
  obtain ⟨Q, hQ⟩ : ∃ Q, RsPost l pb A c w0 x s' w = Q := ⟨_, rfl⟩
  have HQ := Lib.hid hQ
  rw [hQ]
  obtain ⟨xw, hxw⟩ : ∃ xw, mkB (nxtP l s kWord) = xw := ⟨_, rfl⟩
  rw [hxw] at HN0
  have hq1 : (xw.toList == [105, 102]) = false := wrd_eq (x := zIf) T (by decide) (by decide) h1 hxw
  have hq2 : (xw.toList == [119, 104, 105, 108, 101]) = false := wrd_eq (x := zWhile) T (by decide) (by decide) h2 hxw
  have hq3 : (xw.toList == [114, 101, 116, 117, 114, 110]) = false := wrd_eq (x := zReturn) T (by decide) (by decide) h3 hxw
  have hq4 : (xw.toList == [112, 114, 105, 110, 116]) = false := wrd_eq (x := zPrint) T (by decide) (by decide) h4 hxw
  have hsv : PStOk l sv := by
    rcases hk with ⟨-, hv, e⟩ | ⟨-, -, e⟩
    · obtain ⟨he, t0, -, -, hlt, -⟩ := isP_some hv
      rw [e]; exact hs.went (went_step hlt he)
    · rw [e]; exact hs
  have hor : (kind = zVar ∧ sv = s.step ∧ (xw.toList == [118, 97, 114]) = true ∧ s.pos < l.length) ∨ (kind = ySet ∧ sv = s ∧ (xw.toList == [118, 97, 114]) = false) := by
    rcases hk with ⟨e, hv, e2⟩ | ⟨e, hv, e2⟩
    · obtain ⟨he, t0, -, -, hlt, -⟩ := isP_some hv
      exact .inl ⟨e, e2, wrd_eq (x := zVar) T (by decide) (by decide) hv hxw, hlt⟩
    · exact .inr ⟨e, e2, wrd_eq (x := zVar) T (by decide) (by decide) hv hxw⟩
  have hpi : (s.pos : Int) ≤ 100000 := by have := hs.hi; omega
  have hwp : IntKind.i64.wrap ((s.pos : Int) + 1) = (s.pos : Int) + 1 := IntWalk.i64_in _ (by omega)
  obtain ⟨-, c1, -, -, -⟩ := hA.cells
  have z1 := hA.frozen 1
  obtain ⟨nm, s2, hof⟩ : ∃ nm s2, ofP l kName sv = (nm, s2) := ⟨_, _, rfl⟩
  have hs2 : PStOk l s2 := hsv.went (by have := ofP_went (x := kName) hsv.hi; rw [hof] at this; exact this)
  have HNM : Hid (∀ w', RaAt l pb A c w0 sv w' → But pb wA w' → Calls Tryz.prog 20 #[.pointer (some ⟨pb, 0, none⟩)] w' (RaRet l pb A c w0 (.string (mkB nm)) s2 wA)) := fun w' hw hb => by
    have := rname_any I T.nam hw hsv.hi
    rw [hof] at this
    exact this.mono fun y w2 ⟨h1, h2, h3⟩ => ⟨h1, h2, hb.trans h3⟩
  unfold assignR at hf
  rw [hof] at hf
  dsimp only at hf
  have hs3 := hs2.went (takeP_went (x := [61]) hs2.hi)
  have HM1 : Hid (∀ w', RaAt l pb A c w0 s2 w' → Calls Tryz.prog 19 #[.pointer (some ⟨pb, 0, none⟩), .string ⟨#[61]⟩] w' (RaRet l pb A c w0 (.tuple #[]) (takeP l [61] s2) w')) := fun w' hw => rmust_any HI.out hw hs2.hi (x := [61]) (by decide)
  cases hx : exprR l n 0 (takeP l [61] s2) with
  | none => rw [hx] at hf; cases hf
  | some p =>
    obtain ⟨e, s4⟩ := p
    rw [hx] at hf
    have hs4 := hs3.went ((went_exprR l n).expr 0 _ e s4 hs3.hi hx)
    have HEX : Hid (∀ w', RaAt l pb A c w0 (takeP l [61] s2) w' → Calls Tryz.prog 50 #[.pointer (some ⟨pb, 0, none⟩), .int .i64 0] w' (RxPost l pb A c w0 e s4 w')) := fun w' hw => rexpr_any I T hs3 hx hw
    have HM2 : Hid (∀ w', RaAt l pb A c w0 s4 w' → Calls Tryz.prog 19 #[.pointer (some ⟨pb, 0, none⟩), .string ⟨#[59]⟩] w' (RaRet l pb A c w0 (.tuple #[]) (takeP l [59] s4) w')) := fun w' hw => rmust_any HI.out hw hs4.hi (x := [59]) (by decide)
    have HES : Hid (x = ⟨kind, nm, e, [], []⟩ ∧ s' = takeP l [59] s4) := show _ ∧ _ by cases hf; exact ⟨rfl, rfl⟩
    obtain ⟨s3, hs3e⟩ : ∃ s3, takeP l [61] s2 = s3 := ⟨_, rfl⟩
    obtain ⟨s5, hs5e⟩ : ∃ s5, takeP l [59] s4 = s5 := ⟨_, rfl⟩
    rw [hs3e] at HM1 HEX
    rw [hs5e] at HM2 HES
    clear hf hx hsv hs2 hs3 hs4 hof hs3e hs5e hk h1 h2 h3 h4 h hA hbA hmA hwA hrb I hQ hpr hlo hra hlen hs hxw T
    rcases hor with ⟨hkd, hsv, ho, hlt⟩ | ⟨hkd, hsv, ho⟩
    · subst hkd
      subst hsv
      go_enter Tryz.func37, Tryz.ntmps37
      go_upto_region 1 with fail
      rw [HWA.out.1, HWA.out.2]
      go_upto_region 21 with (go_at_call 35; (with_reducible refine HN0.out.mono ?_); rintro y w1 ⟨rfl, n1, rfl⟩)
      have d1 : (wA.drewN n1).cell? ⟨pb, 1, none⟩ = some (.int .i64 (s.pos : Nat)) := c1
      have dz : (wA.drewN n1).frozen? ⟨pb, 1, none⟩ = false := z1
      go_upto_region 22 with fail
      obtain ⟨w3, hw3⟩ : ∃ w3, (wA.drewN n1).setCell ⟨pb, 1, none⟩ (.int .i64 ((s.pos : Int) + 1)) = w3 := ⟨_, rfl⟩
      have h3 : RaAt l pb A c w0 s.step w3 := by rw [← hw3]; exact (HA.out.drewN n1).setPos (s.pos + 1)
      have hb3 : But pb wA w3 := by rw [← hw3]; exact ((But.refl pb wA).drewN n1).set 1 _
      rw [hw3]
      have H3 := Lib.hid (And.intro h3 hb3)
      clear hw3 h3 hb3 c1 z1 d1 dz
      go_upto_region 24 with (go_at_call 20; (with_reducible refine (HNM.out _ H3.out.1 H3.out.2).mono ?_); rintro y w4 ⟨rfl, h4, hb4⟩; have H4 := Lib.hid (And.intro h4 hb4); clear h4 hb4)
      go_upto_region 26 with (first
        | (go_at_call 19; (with_reducible refine (HM1.out _ H4.out.1).mono ?_); rintro y w5 ⟨rfl, h5, hb5⟩; have H5 := Lib.hid (And.intro h5 (H4.out.2.trans hb5)); clear h5 hb5)
        | (go_at_call 50; (with_reducible refine (HEX.out _ H5.out.1).mono ?_); rintro y w6 ⟨B, d, rfl, hB, hM, h6, hb6⟩; rw [show exV e B d = .agg #[.string (mkB e.kind), .int .i64 e.num, .string (mkB e.name), .slice B e.kids.length d] from rfl]; have H6 := Lib.hid (And.intro hB (And.intro hM (And.intro h6 (H5.out.2.trans hb6)))); clear hB hM h6 hb6))
      obtain ⟨sb, hsb⟩ : ∃ sb, w6.heap.size = sb := ⟨_, rfl⟩
      obtain ⟨w7, hw7⟩ : ∃ w7, w6.alloc (.cells #[.string (mkB e.kind), .int .i64 e.num, .string (mkB e.name), .slice B e.kids.length d] 88) = w7 := ⟨_, rfl⟩
      have hb7 : Below w6.heap.size w6 w7 := by rw [← hw7]; exact grow_alloc (grow_refl _) _
      have hm7 : w7.heap[sb]? = some (.cells #[.string (mkB e.kind), .int .i64 e.num, .string (mkB e.name), .slice B e.kids.length d] 88 (0, 0)) := by rw [← hw7, ← hsb]; exact heap_alloc_new w6 _
      have hps : pb < sb := by have := H6.out.2.2.1.lt; omega
      have H7 : Hid (RaAt l pb A c w0 s4 w7 ∧ But pb wA w7) := And.intro (H6.out.2.2.1.keep hb7) (H6.out.2.2.2.trans (But.of_below hb7))
      have HM7 : Hid (∀ w', But pb w7 w' → w'.heap[sb]? = some (.cells #[.string (mkB e.kind), .int .i64 e.num, .string (mkB e.name), .slice B e.kids.length d] 88 (0, 0))) := fun w' hb => hb.row hm7 (by omega)
      have HB7 := Lib.hid hb7
      rw [hsb, hw7]
      clear hw7 hsb hm7 hb7 hps
      go_upto_region 27 with (go_at_call 19; (with_reducible refine (HM2.out _ H7.out.1).mono ?_); rintro y w8 ⟨rfl, h8, hb8⟩; have H8 := Lib.hid (And.intro h8 (And.intro (H7.out.2.trans hb8) hb8)); clear h8 hb8)
      have hm8 := HM7.out w8 H8.out.2.2
      obtain ⟨a0, a1, a2, a3⟩ := row4T hm8
      have hr7 := HR.out w8 H8.out.2.1
      obtain ⟨r0, r1, r2, r3, r4, r5, r6, r7⟩ := row8T hr7
      have y0 := row_frozen hr7 0
      have y1 := row_frozen hr7 1
      have y2 := row_frozen hr7 2
      have y3 := row_frozen hr7 3
      have y4 := row_frozen hr7 4
      have y5 := row_frozen hr7 5
      have y6 := row_frozen hr7 6
      have y7 := row_frozen hr7 7
      have HR7 := Lib.hid hr7
      clear hr7 hm8
      go_wp2_with fail
      obtain ⟨u0, u1, u2, u3, u4, u5, u6, u7⟩ := row8T (set8T (v0 := .string ⟨#[118, 97, 114]⟩) (v1 := .string (mkB nm)) (v2 := .string (mkB e.kind)) (v3 := .int .i64 e.num) (v4 := .string (mkB e.name)) (v5 := .slice B e.kids.length d) (v6 := .slice none 0 0) (v7 := .slice none 0 0) HR7.out)
      refine bodyPost_ret (v := .agg #[.string ⟨#[118, 97, 114]⟩, .string (mkB nm), .string (mkB e.kind), .int .i64 e.num, .string (mkB e.name), .slice B e.kids.length d, .slice none 0 0, .slice none 0 0]) (by simp [results, Tryz.results37, go_sem, u0, u1, u2, u3, u4, u5, u6, u7]; try rfl) rfl ?_
      rw [← HQ.out, HES.out.1, HES.out.2]
      refine rs_end (x := ⟨zVar, nm, e, [], []⟩) (S := fun n => rb < n) HBA.out HWA.out.2 H8.out.2.1 HR7.out HPL.out.2.1 ⟨H6.out.2.1, (H6.out.1.keep (((But.of_below HB7.out).trans H8.out.2.2).keepsIn fun k hk => ?_) fun k hk => ?_), RdS.nil _ _ _, RdS.nil _ _ _⟩ (fun _ h => h) H8.out.1
      · have h1 : w5.heap.size ≤ k := hk
        have := H5.out.1.lt
        omega
      · have h1 : w5.heap.size ≤ k := hk
        have := H5.out.2.size
        have := HPL.out.2.2
        omega
      
    · subst hkd
      subst hsv
      go_enter Tryz.func37, Tryz.ntmps37
      go_upto_region 1 with fail
      rw [HWA.out.1, HWA.out.2]
      go_upto_region 23 with (go_at_call 35; (with_reducible refine HN0.out.mono ?_); rintro y w1 ⟨rfl, n1, rfl⟩)
      go_upto_region 24 with (go_at_call 20; (with_reducible refine (HNM.out _ (HA.out.drewN n1) ((But.refl pb wA).drewN n1)).mono ?_); rintro y w4 ⟨rfl, h4, hb4⟩; have H4 := Lib.hid (And.intro h4 hb4); clear h4 hb4)
      go_upto_region 26 with (first
        | (go_at_call 19; (with_reducible refine (HM1.out _ H4.out.1).mono ?_); rintro y w5 ⟨rfl, h5, hb5⟩; have H5 := Lib.hid (And.intro h5 (H4.out.2.trans hb5)); clear h5 hb5)
        | (go_at_call 50; (with_reducible refine (HEX.out _ H5.out.1).mono ?_); rintro y w6 ⟨B, d, rfl, hB, hM, h6, hb6⟩; rw [show exV e B d = .agg #[.string (mkB e.kind), .int .i64 e.num, .string (mkB e.name), .slice B e.kids.length d] from rfl]; have H6 := Lib.hid (And.intro hB (And.intro hM (And.intro h6 (H5.out.2.trans hb6)))); clear hB hM h6 hb6))
      obtain ⟨sb, hsb⟩ : ∃ sb, w6.heap.size = sb := ⟨_, rfl⟩
      obtain ⟨w7, hw7⟩ : ∃ w7, w6.alloc (.cells #[.string (mkB e.kind), .int .i64 e.num, .string (mkB e.name), .slice B e.kids.length d] 88) = w7 := ⟨_, rfl⟩
      have hb7 : Below w6.heap.size w6 w7 := by rw [← hw7]; exact grow_alloc (grow_refl _) _
      have hm7 : w7.heap[sb]? = some (.cells #[.string (mkB e.kind), .int .i64 e.num, .string (mkB e.name), .slice B e.kids.length d] 88 (0, 0)) := by rw [← hw7, ← hsb]; exact heap_alloc_new w6 _
      have hps : pb < sb := by have := H6.out.2.2.1.lt; omega
      have H7 : Hid (RaAt l pb A c w0 s4 w7 ∧ But pb wA w7) := And.intro (H6.out.2.2.1.keep hb7) (H6.out.2.2.2.trans (But.of_below hb7))
      have HM7 : Hid (∀ w', But pb w7 w' → w'.heap[sb]? = some (.cells #[.string (mkB e.kind), .int .i64 e.num, .string (mkB e.name), .slice B e.kids.length d] 88 (0, 0))) := fun w' hb => hb.row hm7 (by omega)
      have HB7 := Lib.hid hb7
      rw [hsb, hw7]
      clear hw7 hsb hm7 hb7 hps
      go_upto_region 27 with (go_at_call 19; (with_reducible refine (HM2.out _ H7.out.1).mono ?_); rintro y w8 ⟨rfl, h8, hb8⟩; have H8 := Lib.hid (And.intro h8 (And.intro (H7.out.2.trans hb8) hb8)); clear h8 hb8)
      have hm8 := HM7.out w8 H8.out.2.2
      obtain ⟨a0, a1, a2, a3⟩ := row4T hm8
      have hr7 := HR.out w8 H8.out.2.1
      obtain ⟨r0, r1, r2, r3, r4, r5, r6, r7⟩ := row8T hr7
      have y0 := row_frozen hr7 0
      have y1 := row_frozen hr7 1
      have y2 := row_frozen hr7 2
      have y3 := row_frozen hr7 3
      have y4 := row_frozen hr7 4
      have y5 := row_frozen hr7 5
      have y6 := row_frozen hr7 6
      have y7 := row_frozen hr7 7
      have HR7 := Lib.hid hr7
      clear hr7 hm8
      go_wp2_with fail
      obtain ⟨u0, u1, u2, u3, u4, u5, u6, u7⟩ := row8T (set8T (v0 := .string ⟨#[115, 101, 116]⟩) (v1 := .string (mkB nm)) (v2 := .string (mkB e.kind)) (v3 := .int .i64 e.num) (v4 := .string (mkB e.name)) (v5 := .slice B e.kids.length d) (v6 := .slice none 0 0) (v7 := .slice none 0 0) HR7.out)
      refine bodyPost_ret (v := .agg #[.string ⟨#[115, 101, 116]⟩, .string (mkB nm), .string (mkB e.kind), .int .i64 e.num, .string (mkB e.name), .slice B e.kids.length d, .slice none 0 0, .slice none 0 0]) (by simp [results, Tryz.results37, go_sem, u0, u1, u2, u3, u4, u5, u6, u7]; try rfl) rfl ?_
      rw [← HQ.out, HES.out.1, HES.out.2]
      refine rs_end (x := ⟨ySet, nm, e, [], []⟩) (S := fun n => rb < n) HBA.out HWA.out.2 H8.out.2.1 HR7.out HPL.out.2.1 ⟨H6.out.2.1, (H6.out.1.keep (((But.of_below HB7.out).trans H8.out.2.2).keepsIn fun k hk => ?_) fun k hk => ?_), RdS.nil _ _ _, RdS.nil _ _ _⟩ (fun _ h => h) H8.out.1
      · have h1 : w5.heap.size ≤ k := hk
        have := H5.out.1.lt
        omega
      · have h1 : w5.heap.size ≤ k := hk
        have := H5.out.2.size
        have := HPL.out.2.2
        omega
      
theorem rstmt_step (I : RaIn l A w0) (T : TkOk l) {n : Nat} (IH : ∀ m, m < n → RsI l pb A c w0 m) {x : PStmt} (hs : PStOk l s) (hf : stmtR l (n + 1) s = some (x, s')) (h : RaAt l pb A c w0 s w) :
    Calls Tryz.prog 37 #[.pointer (some ⟨pb, 0, none⟩)] w (RsPost l pb A c w0 x s' w) := by
  rw [stmtR] at hf
  cases h1 : isP l s zIf
  · rw [h1, if_neg (by decide)] at hf
    cases h2 : isP l s zWhile
    · rw [h2, if_neg (by decide)] at hf
      cases h3 : isP l s zReturn
      · rw [h3, if_neg (by decide)] at hf
        cases h4 : isP l s zPrint
        · rw [h4, if_neg (by decide)] at hf
          cases h5 : isP l s zVar
          · rw [h5, if_neg (by decide)] at hf
            exact stmt_asg I T hs h1 h2 h3 h4 (.inr ⟨rfl, h5, rfl⟩) hf h
          · rw [h5, if_pos rfl] at hf
            exact stmt_asg I T hs h1 h2 h3 h4 (.inl ⟨rfl, h5, rfl⟩) hf h
        · rw [h4, if_pos rfl] at hf
          exact stmt_tell I T hs h4 h1 h2 (.inr ⟨rfl, h3⟩) hf h
      · rw [h3, if_pos rfl] at hf
        exact stmt_tell I T hs h3 h1 h2 (.inl rfl) hf h
    · rw [h2, if_pos rfl] at hf
      exact stmt_br I T IH hs h2 (.inr ⟨rfl, h1⟩) hf h
  · rw [h1, if_pos rfl] at hf
    exact stmt_br I T IH hs h1 (.inl rfl) hf h
theorem RsI_all (I : RaIn l A w0) (T : TkOk l) : ∀ n, ∀ m, m ≤ n → RsI l pb A c w0 m := by
  intro n
  induction n with
  | zero =>
    intro m hm
    obtain rfl : m = 0 := by omega
    refine ⟨?_, ?_⟩
    · intro s ss s' w _ hf; rw [blockR] at hf; cases hf
    · intro s x s' w _ _ hf; rw [stmtR] at hf; cases hf
  | succ n ih =>
    intro m hm
    by_cases hle : m ≤ n
    · exact ih m hle
    · obtain rfl : m = n + 1 := by omega
      exact ⟨fun s ss s' w hs hf h => rblock_step I T ih hs hf h, fun s x s' w hs _ hf h => rstmt_step I T (fun m hm => ih m (by omega)) hs hf h⟩
theorem rblock_any (I : RaIn l A w0) (T : TkOk l) {n : Nat} {ss : List PStmt} (hs : PStOk l s) (hf : blockR l n s = some (ss, s')) (h : RaAt l pb A c w0 s w) :
    Calls Tryz.prog 22 #[.pointer (some ⟨pb, 0, none⟩)] w (RbPost l pb A c w0 ss s' w) :=
  (RsI_all I T n n (Nat.le_refl _)).block s ss s' w hs hf h
end
end Go.Proofs.YtpfgimohginbdaaGreatDoor
