import Derived.Test.YtpfgimohginbdaaDoorBn20
import Derived.Test.YtpfgimohginbdaaDoorBn21
import Derived.Test.YtpfgimohginbdaaDoorBn13
set_option linter.unusedVariables false
set_option linter.unusedSimpArgs false
namespace Go.Proofs.YtpfgimohginbdaaDoor
open Go.RowKit

set_option maxHeartbeats 4000000 in
set_option maxRecDepth 100000 in
theorem sblock_list (base p d : Nat) (ss : List PStmt) (hd : d ≤ 100) (hlen : ss.length ≤ 3000) (hq : ∀ s ∈ ss, SStmtC base p (d + 1) s) : SBlockC base p d ss := by
  intro bs w A c hw ht hr hl
  have hB : base ≤ w.heap.size := by have := hw.1; have := hw.lt; omega
  have hdeep := hw.deep
  have hfz := hw.frozen
  have hcast : ((d + 1 : Nat) : Int) = (d : Int) + 1 := by omega
  have hset := hw.set (d + 1)
  rw [hcast] at hset
  have HP0 : Hid (WrPost base p bs (d + 1) w (w.setCell ⟨p, 2, none⟩ (.int .i64 ((d : Int) + 1)))) := show WrPost _ _ _ _ _ _ from hset
  have HQ := Lib.hid hq
  have HR := Lib.hid hr
  have HT := Lib.hid ht
  have HLS : Hid (∀ k (h : k < ss.length), (bs ++ textB (ss.take k) (d + 1)).length + (textS ss[k] (d + 1)).length ≤ 2000000) := fun k h => by
    have := textB_take_len ss (k + 1) (d + 1)
    rw [textB_step h] at this
    simp only [List.length_append] at this ⊢
    omega
  clear hset hq hr ht hw hl
  go_enter Tryd.func17, Tryd.ntmps17
  go_wp2_with fail
  go_loopw [5, 15] (fun _ i wr => ∃ k : Nat, k ≤ ss.length ∧ i = .int .i64 k ∧ WrPost base p (bs ++ textB (ss.take k) (d + 1)) (d + 1) w wr) (fun _ i _ => ss.length - (intOf i).toNat)
  case atStart => exact ⟨0, Nat.zero_le _, rfl, by rw [List.take_zero, textB_nil, List.append_nil]; exact HP0.out⟩
  case round =>
    obtain ⟨k, hk, rfl, hp⟩ := hrel
    by_cases hlt : k < ss.length
    · obtain ⟨b, off, X, x, T, t, L, l, rfl, -, hcells, hnum, hX, hT, hL⟩ := (HR.out.keep (keepsLow hp.bel) (fun _ h => h)).at hlt
      obtain ⟨c0, c1, c2, c3, c4, c5, c6, c7⟩ := cells_stmt hcells
      have hlt' : (k : Int) < (ss.length : Int) := by omega
      have hst := textB_step hlt (d + 1)
      have hls := HLS.out k hlt
      have hqs := HQ.out ss[k] (List.getElem_mem hlt)
      obtain ⟨s, hs⟩ : ∃ s, ss[k] = s := ⟨_, rfl⟩
      rw [hs] at hcells hnum hX hT hL c0 c1 c2 c3 c4 c5 c6 c7 hst hls hqs
      have hBr : base ≤ wr.heap.size := by have := hp.wr.1; have := hp.wr.lt; omega
      have hal : Below base wr (wr.alloc (.cells #[.string (mkB s.kind), .string (mkB s.name), .string (mkB s.e.kind), .int .i64 s.e.num, .string (mkB s.e.name), .slice X s.e.kids.length x, .slice T s.th.length t, .slice L s.el.length l] 44)) := (grow_alloc (grow_refl wr) _).mono hBr
      have hp1 : WrPost base p (bs ++ textB (ss.take k) (d + 1)) (d + 1) wr (wr.alloc (.cells #[.string (mkB s.kind), .string (mkB s.name), .string (mkB s.e.kind), .int .i64 s.e.num, .string (mkB s.e.name), .slice X s.e.kids.length x, .slice T s.th.length t, .slice L s.el.length l] 44)) := WrPost.below hp.wr (grow_alloc (grow_refl wr) _)
      have hcall := hqs _ _ X x T t L l hp1.wr (HT.out.keep (hp.bel.trans hal)) (hX.keep (keepsLow hal) (fun _ h => h)) (hT.keep (keepsLow hal) (fun _ h => h)) (hL.keep (keepsLow hal) (fun _ h => h)) hls
      rw [List.append_assoc, ← hst] at hcall
      unfold stmtV at hcall
      have HC := Lib.hid hcall
      have HP := Lib.hid (hp.trans hp1)
      clear hcells hnum hX hT hL hst hls hqs hs hal hp1 hcall hp
      go_wp2_with (go_at_call 37; (with_reducible refine HC.out.mono ?_); rintro y w1 ⟨rfl, hp1⟩)
      go_roundw
      case rel => exact ⟨k + 1, by omega, by go_num, HP.out.trans hp1⟩
      case measure => simp [intOf]; omega
    · have hk' : k = ss.length := by omega
      subst hk'
      rw [List.take_length] at hp
      have h2 := hp.wr.deep
      have f2 := hp.wr.frozen
      rw [hcast] at h2
      have e1 : IntKind.i64.wrap ((d : Int) + 1 - 1) = d := by rw [show (d : Int) + 1 - 1 = d by omega]; exact IntWalk.i64_in _ (by omega)
      have e2 : IntKind.i64.wrap (d : Int) = d := IntWalk.i64_in _ (by omega)
      have HP : Hid (WrPost base p (bs ++ textB ss (d + 1)) d w (wr.setCell ⟨p, 2, none⟩ (.int .i64 (d : Int)))) := show WrPost _ _ _ _ _ _ from hp.trans (hp.wr.set d)
      clear hp
      go_wp2_with fail
      go_end0
      exact ⟨rfl, HP.out⟩
theorem sstmt_any (base p d : Nat) (s : PStmt) (htx : TxS d s) (hqT : SBlockC base p d s.th) (hqL : SBlockC base p d s.el) : SStmtC base p d s := by
  by_cases h0 : s.kind = sVar
  · exact sstmt_var base p d s htx h0
  by_cases h1 : s.kind = sSet
  · exact sstmt_set base p d s htx h1
  by_cases h2 : s.kind = sReturn
  · exact sstmt_return base p d s htx h2
  by_cases h3 : s.kind = sPrint
  · exact sstmt_print base p d s htx h3
  by_cases h4 : s.kind = sIf
  · by_cases hz : s.el.length = 0
    · exact sstmt_if0 base p d s htx h4 hz hqT hqL
    · exact sstmt_if1 base p d s htx h4 hz hqT hqL
  by_cases h5 : s.kind = sWhile
  · by_cases hz : s.el.length = 0
    · exact sstmt_while0 base p d s htx h5 hz hqT hqL
    · exact sstmt_while1 base p d s htx h5 hz hqT hqL
  exact sstmt_none base p d s h0 h1 h2 h3 h4 h5
theorem sstmt_each (base p : Nat) : ∀ (s : PStmt) (d : Nat), TxS d s → SStmtC base p d s := by
  intro s
  induction s using PStmt.ind with
  | h s iht ihl =>
    intro d h
    obtain ⟨hd100, hkl, hnl, hok, hel, htl, hll, hts, hls⟩ := h.all
    exact sstmt_any base p d s h (sblock_list base p d s.th hd100 htl fun k hk => iht k hk _ (hts k hk)) (sblock_list base p d s.el hd100 hll fun k hk => ihl k hk _ (hls k hk))
theorem sblock_any (base p d : Nat) (ss : List PStmt) (hd : d ≤ 100) (hlen : ss.length ≤ 3000) (htx : ∀ s ∈ ss, TxS (d + 1) s) : SBlockC base p d ss := sblock_list base p d ss hd hlen fun s hs => sstmt_each base p s _ (htx s hs)
/-- A function whose text is to be had. -/
structure TxF (f : PFun) : Prop where
  name : f.name.length ≤ 20
  params : f.params.length ≤ 3000
  texts : (joinC f.params).length ≤ 100000
  body : f.body.length ≤ 3000
  stmts : ∀ s ∈ f.body, TxS 1 s
theorem textG_app : ∀ (a b : List PFun), textG (a ++ b) = textG a ++ textG b := by
  intro a
  induction a with
  | nil => intro b; rfl
  | cons f a ih => intro b; rw [List.cons_append, textG, textG, ih, List.append_assoc]
theorem textG_step {fs : List PFun} {k : Nat} (h : k < fs.length) : textG (fs.take (k + 1)) = textG (fs.take k) ++ textF fs[k] := by
  rw [List.take_succ_eq_append_getElem h, textG_app]; simp [textG]
theorem textG_take_len (fs : List PFun) (k : Nat) : (textG (fs.take k)).length ≤ (textG fs).length := by
  have := congrArg List.length (textG_app (fs.take k) (fs.drop k))
  rw [List.take_append_drop, List.length_append] at this
  omega
theorem rdT_cells {w : World} {S : Nat → Prop} {xs : List (List UInt8)} {A : Option Addr} (h : RdT w S xs A) : ∀ (j : Nat) (x : List UInt8), xs[j]? = some x → ∃ b off, A = some ⟨b, off, none⟩ ∧ w.cell? ⟨b, off + j, none⟩ = some (.string (mkB x)) := by
  intro j x hx
  obtain ⟨hj, e⟩ := List.getElem?_eq_some_iff.1 hx
  obtain ⟨b, off, e1, _, hc⟩ := h j hj
  exact ⟨b, off, e1, by rw [← e]; exact hc⟩
theorem row3 {w : World} {q : Nat} {v0 v1 v2 : Value} {T : TypeId} {fz : Nat × Nat} (hrow : w.heap[q]? = some (.cells #[v0, v1, v2] T fz)) :
    w.cell? ⟨q, 0, none⟩ = some v0 ∧ w.cell? ⟨q, 1, none⟩ = some v1 ∧ w.cell? ⟨q, 2, none⟩ = some v2 :=
  ⟨cell_of_row _ _ 0 _ _ _ hrow, cell_of_row _ _ 1 _ _ _ hrow, cell_of_row _ _ 2 _ _ _ hrow⟩
set_option maxHeartbeats 4000000 in
set_option maxRecDepth 100000 in
theorem ShowProgram_any (fs : List PFun) (A : Option Addr) (c : Nat) (w : World) (htx : ∀ f ∈ fs, TxF f) (hlen : fs.length ≤ 3000) (hl : (textG fs).length ≤ 1000000) (hr : RdG w (fun n => n < w.heap.size) fs A) (ht : TabIn w.heap.size w) :
    Calls Tryd.prog 9 #[.slice A fs.length c] w (Ret (strV (textG fs)) w) := by
  have HR := Lib.hid hr
  have HT := Lib.hid ht
  have HX := Lib.hid htx
  have HLS : Hid (∀ k (h : k < fs.length), (textG (fs.take k)).length + (textF fs[k]).length ≤ 1000000) := fun k h => by
    have := textG_take_len fs (k + 1)
    rw [textG_step h] at this
    simp only [List.length_append] at this
    omega
  have HW0 : Hid (WrPost w.heap.size w.heap.size [] 0 w (w.alloc (.cells #[.pointer none, .slice none 0 0, .int .i64 0] 63))) := show WrPost _ _ _ _ _ _ from
    ⟨⟨Nat.le_refl _, _, _, .inl rfl, heap_alloc_new w _, World.ownsRow_nil _ _ _ _, fun _ => rfl⟩, grow_alloc (grow_refl _) _, fun k cs T fz hk _ hc => (old_block w _ (Array.getElem?_eq_some_iff.1 hc).1).trans hc⟩
  clear hr ht htx hl
  unfold strV
  go_enter Tryd.func9, Tryd.ntmps9
  go_wp2_with fail
  go_loopw [5, 10] (fun _ i wr => ∃ k : Nat, k ≤ fs.length ∧ i = .int .i64 k ∧ WrPost w.heap.size w.heap.size (textG (fs.take k)) 0 w wr) (fun _ i _ => fs.length - (intOf i).toNat)
  case atStart => exact ⟨0, Nat.zero_le _, rfl, HW0.out⟩
  case round =>
    obtain ⟨k, hk, rfl, hp⟩ := hrel
    by_cases hlt : k < fs.length
    · obtain ⟨b, off, P, p, B, d, rfl, -, hcells, hprm, hok, hbody⟩ := (HR.out.keep (keepsLow hp.bel) (fun _ h => h)) k hlt
      obtain ⟨c0, c1, c2⟩ := cells_fun hcells
      have hlt' : (k : Int) < (fs.length : Int) := by omega
      have hst := textG_step hlt
      have hls := HLS.out k hlt
      have hxf := HX.out fs[k] (List.getElem_mem hlt)
      obtain ⟨f, hf⟩ : ∃ f, fs[k] = f := ⟨_, rfl⟩
      rw [hf] at hcells hprm hok hbody c0 c1 c2 hst hls hxf
      obtain ⟨G, hG⟩ : ∃ G, textG (fs.take k) = G := ⟨_, rfl⟩
      rw [hG] at hp hst hls
      have hBr := hp.wr.lt
      have hqr : w.heap.size ≠ wr.heap.size := by omega
      have hp0 : WrPost w.heap.size w.heap.size G 0 wr (wr.alloc (.cells #[.string (mkB f.name), .slice P f.params.length p, .slice B f.body.length d] 39)).drew := WrPost.below hp.wr ((grow_alloc (grow_refl wr) _).drew)
      have HBX0 : Hid ((wr.alloc (.cells #[.string (mkB f.name), .slice P f.params.length p, .slice B f.body.length d] 39)).drew.heap[wr.heap.size]? = some (.cells #[.string (mkB f.name), .slice P f.params.length p, .slice B f.body.length d] 39)) := show _ = _ from heap_alloc_new wr _
      have htf : textF f = lineT 0 ([102, 110, 32] ++ f.name ++ [40] ++ joinC f.params ++ [41, 32, 123]) ++ textB f.body 1 ++ lineT 0 [125] := rfl
      have hlenf : (G ++ lineT 0 ([102, 110, 32] ++ f.name ++ [40] ++ joinC f.params ++ [41, 32, 123]) ++ textB f.body 1 ++ lineT 0 [125]).length ≤ 1000000 := by
        rw [htf] at hls
        simp only [List.length_append] at hls ⊢
        omega
      have hcv : (⟨#[102, 110, 32]⟩ : ByteArray) ++ mkB f.name ++ ⟨#[40]⟩ ++ mkB (joinC f.params) ++ ⟨#[41, 32, 123]⟩ = mkB ([102, 110, 32] ++ f.name ++ [40] ++ joinC f.params ++ [41, 32, 123]) := by
        simp only [show ∀ a : List UInt8, (⟨a.toArray⟩ : ByteArray) = mkB a from fun _ => rfl, mkB_app]
      have HJ : Hid (∀ w', Below w.heap.size wr w' → Calls Tryd.prog 16 #[.slice P f.params.length p, .string ⟨#[44, 32]⟩] w' (Ret (.string (mkB (joinC f.params))) w')) := fun w' hb =>
        strs_join f.params P p w' (rdT_cells (hprm.keep (keepsLow hb) (fun _ h => h))) hok (by have := hxf.params; omega) (by have := hxf.texts; omega)
      have HL : Hid (∀ w', WrAt w.heap.size w.heap.size G 0 w' → Calls Tryd.prog 15 #[.pointer (some ⟨w.heap.size, 0, none⟩), .string ((⟨#[102, 110, 32]⟩ : ByteArray) ++ mkB f.name ++ ⟨#[40]⟩ ++ mkB (joinC f.params) ++ ⟨#[41, 32, 123]⟩)] w' fun e w'' => e = .returned (.tuple #[]) ∧ WrPost w.heap.size w.heap.size (G ++ lineT 0 ([102, 110, 32] ++ f.name ++ [40] ++ joinC f.params ++ [41, 32, 123])) 0 w' w'') := fun w' h' => by
        rw [hcv]
        exact line_any w.heap.size w.heap.size G 0 _ w' h' (by omega) (by have := hxf.name; have := hxf.texts; simp only [List.length_append, List.length_cons, List.length_nil]; omega) (by omega)
      have HBL : Hid (∀ bs' w', WrAt w.heap.size w.heap.size bs' 0 w' → Below w.heap.size wr w' → bs'.length + (textB f.body 1).length ≤ 2000000 → Calls Tryd.prog 17 #[.pointer (some ⟨w.heap.size, 0, none⟩), .slice B f.body.length d] w' fun e w'' => e = .returned (.tuple #[]) ∧ WrPost w.heap.size w.heap.size (bs' ++ textB f.body 1) 0 w' w'') := fun bs' w' h' hb hl' =>
        sblock_any w.heap.size w.heap.size 0 f.body (by omega) hxf.body hxf.stmts bs' w' B d h' (HT.out.keep (hp.bel.trans hb)) (hbody.keep (keepsLow hb) (fun _ h => h)) hl'
      have HE : Hid (∀ bs' w', WrAt w.heap.size w.heap.size bs' 0 w' → bs'.length ≤ 2000000 → Calls Tryd.prog 15 #[.pointer (some ⟨w.heap.size, 0, none⟩), .string ⟨#[125]⟩] w' fun e w'' => e = .returned (.tuple #[]) ∧ WrPost w.heap.size w.heap.size (bs' ++ lineT 0 [125]) 0 w' w'') := fun bs' w' h' hl' => line_any w.heap.size w.heap.size bs' 0 [125] w' h' (by omega) (by simp) (by omega)
      have hsz1 : (mkB f.name).size ≤ 20 := by rw [mkB_len]; exact hxf.name
      have hsz2 : (mkB (joinC f.params)).size ≤ 100000 := by rw [mkB_len]; exact hxf.texts
      have HLN := Lib.hid hlenf
      have HST : Hid (textG (fs.take (k + 1)) = G ++ lineT 0 ([102, 110, 32] ++ f.name ++ [40] ++ joinC f.params ++ [41, 32, 123]) ++ textB f.body 1 ++ lineT 0 [125]) := show _ = _ by rw [hst, htf]; simp only [List.append_assoc]
      have HP0 := Lib.hid hp0
      have HP := Lib.hid hp
      clear hcells hprm hok hbody hst hls hxf hf hG hp0 hp htf hlenf hcv
      have j1 : ¬ (9223372036854775807 < 3 + (mkB f.name).size) := by omega
      have j2 : ¬ (9223372036854775807 < 3 + (mkB f.name).size + 1) := by omega
      have j3 : ¬ (9223372036854775807 < 3 + (mkB f.name).size + 1 + (mkB (joinC f.params)).size) := by omega
      have j4 : ¬ (9223372036854775807 < 3 + (mkB f.name).size + 1 + (mkB (joinC f.params)).size + 3) := by omega
      go_upto_region 5 with fail
      go_region_held3 (fun w' => w'.cell? ⟨wr.heap.size, 0, none⟩ = some (.string (mkB f.name)) ∧ w'.cell? ⟨wr.heap.size, 1, none⟩ = some (.slice P f.params.length p) ∧ w'.cell? ⟨wr.heap.size, 2, none⟩ = some (.slice B f.body.length d))
        (with_reducible first
          | exact row3 HBX2.out
          | exact row3 HBX1.out
          | exact row3 HBX0.out)
        (first
          | (go_at_call 16; (with_reducible refine (HJ.out _ HP0.out.bel).mono ?_); rintro y w1 ⟨rfl, hb1⟩; have HP1 := Lib.hid (HP0.out.trans (WrPost.below HP0.out.wr hb1)); have HBX1 := Lib.hid (row_below HBX0.out hb1))
          | (go_at_call 15; (with_reducible refine (HL.out _ HP1.out.wr).mono ?_); rintro y w2 ⟨rfl, hp2⟩; have HP2 := Lib.hid (HP1.out.trans hp2); have HBX2 := Lib.hid (hp2.kp _ _ _ _ (fun e => hqr e.symm) fun_byte HBX1.out); clear hp2))
      all_goals obtain ⟨u0, u1, u2⟩ := row3 HBX2.out
      all_goals go_wp2_with (first
        | (go_at_call 17; (with_reducible refine (HBL.out _ _ HP2.out.wr HP2.out.bel (by have := HLN.out; simp only [List.length_append] at this ⊢; omega)).mono ?_); rintro y w3 ⟨rfl, hp3⟩; have HP3 := Lib.hid (HP2.out.trans hp3); clear hp3)
        | (go_at_call 15; (with_reducible refine (HE.out _ _ HP3.out.wr (by have := HLN.out; simp only [List.length_append] at this ⊢; omega)).mono ?_); rintro y w4 ⟨rfl, hp4⟩))
      all_goals
        go_roundw
        case rel => exact ⟨k + 1, by omega, by go_num, by rw [HST.out]; exact HP.out.trans (HP3.out.trans hp4)⟩
        case measure => simp [intOf]; omega
    · have hk' : k = fs.length := by omega
      subst hk'
      rw [List.take_length] at hp
      have HS := Lib.hid (wstring _ _ _ _ _ hp.wr)
      have HP := Lib.hid hp
      clear hp
      go_wp2_with (go_at_call 18; (with_reducible refine HS.out.mono ?_); rintro y w1 ⟨rfl, hb1⟩)
      go_ret
      exact ⟨rfl, HP.out.bel.trans hb1⟩
end Go.Proofs.YtpfgimohginbdaaDoor

namespace Go.Proofs.YtpfgimohginbdaaDoor
open Go.RowKit

/-! what was parsed may be shown -/
theorem ok_expr {d : Int} {e : PExpr} (h : OkX d e) : OkE e := by
  have z : okN 0 := by unfold okN; omega
  induction h with
  | num d v h0 h1 => exact ⟨_, by show okN v; unfold okN; omega, fun k hk => absurd hk List.not_mem_nil⟩
  | name d x h => exact ⟨_, z, fun k hk => absurd hk List.not_mem_nil⟩
  | call d x ks h hd hks ih => exact ⟨_, z, ih⟩
  | one d x k h hd hk ih => exact ⟨_, z, fun y hy => by rw [List.mem_singleton.1 hy]; exact ih⟩
  | two d x lv a b h ha hka hb hkb iha ihb =>
    refine ⟨_, z, fun y hy => ?_⟩
    simp only [List.mem_cons, List.not_mem_nil, or_false] at hy
    rcases hy with rfl | rfl
    · exact iha
    · exact ihb
theorem block_count {b : List PStmt} {d : Int} (h : ∀ x ∈ b, OkY d x) : b.length ≤ (ktB b).length := by
  induction b with
  | nil => exact Nat.zero_le _
  | cons x b ih =>
    obtain ⟨t, r, e, -⟩ := hdS (h x List.mem_cons_self)
    have := ih fun y hy => h y (List.mem_cons_of_mem _ hy)
    rw [ktB_cons, e]
    simp only [List.length_append, List.length_cons]
    omega
theorem block_each {b : List PStmt} {x : PStmt} (h : x ∈ b) : (ktS x).length ≤ (ktB b).length := by
  induction b with
  | nil => exact absurd h List.not_mem_nil
  | cons y b ih =>
    rw [ktB_cons, List.length_append]
    rcases List.mem_cons.1 h with rfl | h
    · omega
    · have := ih h; omega
theorem tx_stmt {d : Int} {x : PStmt} (h : OkY d x) : d ≤ 12 → ∀ t : Nat, (t : Int) ≤ d → (ktS x).length ≤ 1000 → TxS t x := by
  induction h with
  | var d x e h he =>
    intro hd t ht hl
    have h1 := len_expr he
    rw [ktS_var] at hl
    simp only [List.length_append, List.length_cons, List.length_nil] at hl
    have := h.len
    exact ⟨_, _, by omega, by show zVar.length ≤ 20; decide, by show x.length ≤ 20; omega, ok_expr he, by show (textE e).length ≤ _; omega, Nat.zero_le _, Nat.zero_le _, fun k hk => absurd hk List.not_mem_nil, fun k hk => absurd hk List.not_mem_nil⟩
  | set d x e h he =>
    intro hd t ht hl
    have h1 := len_expr he
    rw [ktS_set] at hl
    simp only [List.length_append, List.length_cons, List.length_nil] at hl
    have := h.len
    exact ⟨_, _, by omega, by show ySet.length ≤ 20; decide, by show x.length ≤ 20; omega, ok_expr he, by show (textE e).length ≤ _; omega, Nat.zero_le _, Nat.zero_le _, fun k hk => absurd hk List.not_mem_nil, fun k hk => absurd hk List.not_mem_nil⟩
  | tell d k e h he =>
    intro hd t ht hl
    have h1 := len_expr he
    rw [ktS_tell _ _ _ _ _ h] at hl
    simp only [List.length_append, List.length_cons, List.length_nil] at hl
    have hk : k.length ≤ 20 := by rcases h with rfl | rfl <;> decide
    exact ⟨_, _, by omega, hk, Nat.zero_le _, ok_expr he, by show (textE e).length ≤ _; omega, Nat.zero_le _, Nat.zero_le _, fun k hk => absurd hk List.not_mem_nil, fun k hk => absurd hk List.not_mem_nil⟩
  | branch d k e th el h hw hd he ht hl iht ihl =>
    intro _ t htd hlen
    have h1 := len_expr he
    have hk : k.length ≤ 20 := by rcases h with rfl | rfl <;> decide
    have hc1 := block_count ht
    have hc2 := block_count hl
    have hsz : (ktE e).length + (ktB th).length + (ktB el).length ≤ 1000 := by
      rw [ktS_branch _ _ _ _ _ h] at hlen
      split at hlen
      · rename_i hz
        have hn : el = [] := List.length_eq_zero_iff.1 hz
        subst hn
        rw [ktB_nil]
        simp only [List.length_append, List.length_cons, List.length_nil] at hlen ⊢
        omega
      · simp only [List.length_append, List.length_cons, List.length_nil] at hlen
        omega
    exact ⟨_, _, by omega, hk, Nat.zero_le _, ok_expr he, by show (textE e).length ≤ _; omega, by show th.length ≤ _; omega, by show el.length ≤ _; omega,
      fun x hx => iht x hx hd (t + 1) (by omega) (by have := block_each (b := th) hx; omega), fun x hx => ihl x hx hd (t + 1) (by omega) (by have := block_each (b := el) hx; omega)⟩
theorem tx_fun {f : PFun} (h : OkZ 0 f) (hl : (ktF f).length ≤ 1000) : TxF f := by
  unfold ktF at hl
  simp only [List.length_append, List.length_cons, List.length_nil] at hl
  have h2 : (joinC f.params).length ≤ 20 * (ktN f.params).length := by
    have := join_len20 (fun x => x) (fun x => [nmK x]) f.params fun k hk => by have := (h.params k hk).len; simp only [List.length_cons, List.length_nil]; omega
    rw [List.map_id'] at this
    exact this
  have h3 : f.params.length ≤ (ktN f.params).length + 1 := by
    cases hp : f.params with
    | nil => simp
    | cons x r => have := ktN_len r x; simp only [List.length_cons] at *; omega
  have h4 := block_count h.body
  exact ⟨by have := h.name.len; omega, by omega, by omega, by omega, fun x hx => tx_stmt (h.body x hx) (by omega) 1 (by omega) (by have := block_each hx; omega)⟩
theorem prog_each : ∀ {fs : List PFun} {f : PFun}, f ∈ fs → (ktF f).length ≤ (ktG fs).length := by
  intro fs
  induction fs with
  | nil => intro f h; exact absurd h List.not_mem_nil
  | cons y fs ih =>
    intro f h
    show _ ≤ (ktF y ++ ktG fs).length
    rw [List.length_append]
    rcases List.mem_cons.1 h with rfl | h
    · omega
    · have := ih h; omega
theorem prog_count : ∀ (fs : List PFun), fs.length ≤ (ktG fs).length := by
  intro fs
  induction fs with
  | nil => exact Nat.zero_le _
  | cons y fs ih =>
    show _ ≤ (ktF y ++ ktG fs).length
    unfold ktF
    simp only [List.length_append, List.length_cons, List.length_nil]
    omega
/-- What is needed of a program that was parsed. -/
structure Shown (ts : List Tok) (fs : List PFun) : Prop where
  tx : ∀ f ∈ fs, TxF f
  len : fs.length ≤ 3000
  text : (textG fs).length ≤ 1000000
  lex : (lexA (textG fs) 0).2 = none
  few : (lexA (textG fs) 0).1.length ≤ ts.length
  ok : (parseP (lexA (textG fs) 0).1).2.err = none
  same : (parseP (lexA (textG fs) 0).1).1 = fs
theorem shown_back {l : List UInt8} (hl : (lexA l 0).1.length ≤ 1000) (he : (parseP (lexA l 0).1).2.err = none) : Shown (lexA l 0).1 (parseP (lexA l 0).1).1 := by
  obtain ⟨h1, h2, h3, h4, h5, h6⟩ := show_back he
  obtain ⟨g1, g2⟩ := lex_prog h1
  have h9 : (lexA (textG (parseP (lexA l 0).1).1) 0).1.length = (ktG (parseP (lexA l 0).1).1).length := by rw [← g1, List.length_map]
  have hc := prog_count (parseP (lexA l 0).1).1
  exact ⟨fun f hf => tx_fun (h1 f hf) (by have := prog_each hf; omega), by omega, by omega, h3, h4, h5, h6⟩
end Go.Proofs.YtpfgimohginbdaaDoor
