import Derived.Test.YtidhplpidkgkdaaDoorShowWr
namespace Go.Proofs.YtidhplpidkgkdaaDoor
open Go.RowKit

/-- strconv's table is laid below base. -/
def TabIn (base : Nat) (w : World) : Prop := ∃ w0, Lib.TabBelow Tryd.prog w0.heap.size w0 "internal/strconv.uint64pow10" .u64 Lib.pow10Tab ∧ w0.heap.size ≤ base ∧ Below w0.heap.size w0 w
theorem TabIn.keep {base : Nat} {w w' : World} (h : TabIn base w) (hb : Below base w w') : TabIn base w' := by
  obtain ⟨w0, h0, h1, h2⟩ := h
  exact ⟨w0, h0, h1, h2.trans (hb.mono h1)⟩
theorem TabIn.at {base : Nat} {w : World} (h : TabIn base w) : TabAt w := by
  obtain ⟨w0, h0, h1, h2⟩ := h
  exact ⟨w0, h0, h2⟩
theorem keepsLow {base : Nat} {w w' : World} (hb : Below base w w') : KeepsIn (fun n => n < base) w w' := fun _ _ hs hc => (hb.cell hs).trans hc
theorem WrPost.trans {base p : Nat} {bs bs' : List UInt8} {d d' : Nat} {a b c : World} (h : WrPost base p bs d a b) (k : WrPost base p bs' d' b c) : WrPost base p bs' d' a c := ⟨k.1, h.2.1.trans k.2.1, h.2.2.trans k.2.2⟩
theorem WrPost.below {base p : Nat} {bs : List UInt8} {d : Nat} {a b : World} (h : WrAt base p bs d a) (hb : Below a.heap.size a b) : WrPost base p bs d a b := ⟨h.below hb, hb.mono (by have := h.1; have := h.lt; omega), WrKeep.below hb⟩
theorem WrPost.wr {base p : Nat} {bs : List UInt8} {d : Nat} {a b : World} (h : WrPost base p bs d a b) : WrAt base p bs d b := h.1
theorem WrPost.bel {base p : Nat} {bs : List UInt8} {d : Nat} {a b : World} (h : WrPost base p bs d a b) : Below base a b := h.2.1
theorem WrPost.kp {base p : Nat} {bs : List UInt8} {d : Nat} {a b : World} (h : WrPost base p bs d a b) : WrKeep p a b := h.2.2
theorem repeatL_tab : ∀ n, Lib.repeatL [9] n = tabsT n := by
  intro n
  induction n with
  | zero => rfl
  | succ n ih => simp [Lib.repeatL, tabsT, List.replicate_succ] at *; try exact ih
theorem repeat_any (n : Nat) (hn : n ≤ 1000) (w : World) : Calls Tryd.prog 46 #[.string ⟨#[9]⟩, .int .i64 (n : Int)] w (Ret (.string (mkB (tabsT n))) w) := by
  refine (Tryd.strings_Repeat ⟨#[9]⟩ n w (by omega) (by show 1 * n ≤ _; omega)).mono ?_
  rintro e w' ⟨rfl, hb⟩
  exact ⟨by rw [show (⟨#[9]⟩ : ByteArray).data.toList = [9] from rfl, repeatL_tab]; rfl, hb⟩
set_option maxHeartbeats 2000000 in
set_option maxRecDepth 100000 in
theorem line_any (base p : Nat) (bs : List UInt8) (n : Nat) (t : List UInt8) (w : World) (h : WrAt base p bs n w) (hn : n ≤ 1000) (ht : t.length ≤ 3000000) (hl : bs.length ≤ 50000000) :
    Calls Tryd.prog 19 #[.pointer (some ⟨p, 0, none⟩), .string (mkB t)] w fun e w' => e = .returned (.tuple #[]) ∧ WrPost base p (bs ++ lineT n t) n w w' := by
  have HRP := Lib.hid (fun w => repeat_any n hn w)
  have hv : mkB (tabsT n) ++ mkB t ++ ⟨#[10]⟩ = mkB (lineT n t) := by rw [mkB_app, mkB_one]; rfl
  have hll : (lineT n t).length = n + t.length + 1 := by simp [lineT]; omega
  have HWW : Hid (∀ w', WrAt base p bs n w' → Calls Tryd.prog 45 #[.pointer (some ⟨p, 0, none⟩), .string (mkB (tabsT n) ++ mkB t ++ ⟨#[10]⟩)] w' fun e w'' => e = .returned (.tuple #[.int .i64 ((lineT n t).length : Int), .nilIface]) ∧ WrPost base p (bs ++ lineT n t) n w' w'') :=
    fun w' h' => hv ▸ wwrite base p bs n w' (lineT n t) h' (by omega) (by simp [lineT])
  have hsz1 : (mkB (tabsT n)).size ≤ 1000 := by rw [mkB_len]; simp [tabsT]; omega
  have hsz2 : (mkB t).size ≤ 3000000 := by rw [mkB_len]; exact ht
  have HW0 : Hid (WrAt base p bs n w.drew) := show WrAt _ _ _ _ _ from h.below ((Below.refl _ _).drew)
  have HD0 : Hid (Below base w w.drew ∧ WrKeep p w w.drew) := show _ ∧ _ from ⟨(Below.refl _ _).drew, WrKeep.below ((Below.refl _ _).drew)⟩
  have hd := h.deep
  clear h hv hll hl ht
  go_enter Tryd.func19, Tryd.ntmps19
  go_wp2_with fail
  have j1 : ¬ (9223372036854775807 < (mkB (tabsT n)).size + (mkB t).size) := by omega
  have j2 : ¬ (9223372036854775807 < (mkB (tabsT n)).size + (mkB t).size + 1) := by omega
  go_region_held3 (fun w' => w'.cell? ⟨p, 2, none⟩ = some (.int .i64 (n : Int)))
    (with_reducible first
      | exact HW2.out.wr.deep
      | exact HW1.out.deep
      | exact HW0.out.deep)
    (first
      | (go_at_call 46; (with_reducible refine (HRP.out _).mono ?_); rintro y w1 ⟨rfl, hb1⟩; have HP1 := Lib.hid (WrPost.below HW0.out hb1); have HW1 := Lib.hid (HW0.out.below hb1))
      | (go_at_call 45; (with_reducible refine (HWW.out _ HW1.out).mono ?_); rintro y w2 ⟨rfl, hp2⟩; have HW2 := Lib.hid hp2; clear hp2))
  all_goals go_wp2_with fail
  all_goals go_end0
  all_goals exact ⟨rfl, WrPost.trans ⟨HW0.out, HD0.out.1, HD0.out.2⟩ (HP1.out.trans HW2.out)⟩
def stmtV (s : PStmt) (X : Option Addr) (x : Nat) (T : Option Addr) (t : Nat) (L : Option Addr) (l : Nat) : Value :=
  .agg #[.string (mkB s.kind), .string (mkB s.name), .string (mkB s.e.kind), .int .i64 s.e.num, .string (mkB s.e.name), .slice X s.e.kids.length x, .slice T s.th.length t, .slice L s.el.length l]
def SStmtC (base p d : Nat) (s : PStmt) : Prop := ∀ (bs : List UInt8) (w : World) (X : Option Addr) (x : Nat) (T : Option Addr) (t : Nat) (L : Option Addr) (l : Nat), WrAt base p bs d w → TabIn base w →
    RdE w (fun n => n < base) s.e.kids X → RdS w (fun n => n < base) s.th T → RdS w (fun n => n < base) s.el L → bs.length + (textS s d).length ≤ 2000000 →
    Calls Tryd.prog 48 #[.pointer (some ⟨p, 0, none⟩), stmtV s X x T t L l] w fun e w' => e = .returned (.tuple #[]) ∧ WrPost base p (bs ++ textS s d) d w w'
def SBlockC (base p d : Nat) (ss : List PStmt) : Prop := ∀ (bs : List UInt8) (w : World) (A : Option Addr) (c : Nat), WrAt base p bs d w → TabIn base w → RdS w (fun n => n < base) ss A → bs.length + (textB ss (d + 1)).length ≤ 2000000 →
    Calls Tryd.prog 21 #[.pointer (some ⟨p, 0, none⟩), .slice A ss.length c] w fun e w' => e = .returned (.tuple #[]) ∧ WrPost base p (bs ++ textB ss (d + 1)) d w w'
theorem row8 {w : World} {q : Nat} {v0 v1 v2 v3 v4 v5 v6 v7 : Value} {T : TypeId} {fz : Nat × Nat} (hrow : w.heap[q]? = some (.cells #[v0, v1, v2, v3, v4, v5, v6, v7] T fz)) :
    w.cell? ⟨q, 0, none⟩ = some v0 ∧ w.cell? ⟨q, 1, none⟩ = some v1 ∧ w.cell? ⟨q, 2, none⟩ = some v2 ∧ w.cell? ⟨q, 3, none⟩ = some v3 ∧ w.cell? ⟨q, 4, none⟩ = some v4 ∧ w.cell? ⟨q, 5, none⟩ = some v5 ∧ w.cell? ⟨q, 6, none⟩ = some v6 ∧ w.cell? ⟨q, 7, none⟩ = some v7 :=
  ⟨cell_of_row _ _ 0 _ _ _ hrow, cell_of_row _ _ 1 _ _ _ hrow, cell_of_row _ _ 2 _ _ _ hrow, cell_of_row _ _ 3 _ _ _ hrow, cell_of_row _ _ 4 _ _ _ hrow, cell_of_row _ _ 5 _ _ _ hrow, cell_of_row _ _ 6 _ _ _ hrow, cell_of_row _ _ 7 _ _ _ hrow⟩
theorem row_below {w w' : World} {q : Nat} {o : Obj} (h : w.heap[q]? = some o) (hb : Below w.heap.size w w') : w'.heap[q]? = some o := (hb.block _ (Array.getElem?_eq_some_iff.1 h).1).trans h
theorem stmt_byte : (63 : TypeId) ≠ 5 := by decide
theorem fun_byte : (40 : TypeId) ≠ 5 := by decide
set_option maxHeartbeats 4000000 in
set_option maxRecDepth 100000 in
theorem sstmt_var (base p d : Nat) (s : PStmt) (htx : TxS d s) (hk : s.kind = sVar) : SStmtC base p d s := by
  intro bs w X x T t L l hw ht hX hT hL hlen
  have g0 : ((mkB s.kind).toList == [118, 97, 114]) = true := by rw [mkB_toList, hk]; rfl
  have hts := textS_eq s d
  have hv := hts.trans (if_pos hk)
  obtain ⟨hd100, hkl, hnl, hok, hel, htl, hll, -, -⟩ := htx.all
  have hB : base ≤ w.heap.size := by have := hw.1; have := hw.lt; omega
  have hpw := hw.lt
  have hsz3 : (mkB (textE s.e)).size ≤ 1000000 := by rw [mkB_len]; exact hel
  have hsz4 : (mkB s.name).size ≤ 20 := by rw [mkB_len]; exact hnl
  have hsz5 : (mkB s.kind).size ≤ 20 := by rw [mkB_len]; exact hkl
  have HE : Hid (∀ w', Below base w w' → Calls Tryd.prog 17 #[exprV s.e X x] w' (Ret (strV (textE s.e)) w')) := fun w' hb => ShowExpr_any s.e hok hel (fun n => n < base) X x w' (ht.keep hb).at (hX.keep (keepsLow hb) (fun _ h => h))
  have hcv : (⟨#[118, 97, 114, 32]⟩ : ByteArray) ++ mkB s.name ++ ⟨#[32, 61, 32]⟩ ++ mkB (textE s.e) ++ ⟨#[59]⟩ = mkB ([118, 97, 114, 32] ++ s.name ++ [32, 61, 32] ++ textE s.e ++ [59]) := by simp only [show ∀ a : List UInt8, (⟨a.toArray⟩ : ByteArray) = mkB a from fun _ => rfl, mkB_app]
  have HL : Hid (∀ w', WrAt base p bs d w' → Calls Tryd.prog 19 #[.pointer (some ⟨p, 0, none⟩), .string ((⟨#[118, 97, 114, 32]⟩ : ByteArray) ++ mkB s.name ++ ⟨#[32, 61, 32]⟩ ++ mkB (textE s.e) ++ ⟨#[59]⟩)] w' fun e w'' => e = .returned (.tuple #[]) ∧ WrPost base p (bs ++ lineT d ([118, 97, 114, 32] ++ s.name ++ [32, 61, 32] ++ textE s.e ++ [59])) d w' w'') := fun w' h' => by
    rw [hcv]
    exact line_any base p bs d _ w' h' (by omega) (by simp only [List.length_append, List.length_cons, List.length_nil]; omega) (by omega)
  have HW0 : Hid (WrAt base p bs d (w.alloc (.cells #[.string (mkB s.kind), .string (mkB s.name), .string (mkB s.e.kind), .int .i64 s.e.num, .string (mkB s.e.name), .slice X s.e.kids.length x, .slice T s.th.length t, .slice L s.el.length l] 63)).drew) := show WrAt _ _ _ _ _ from hw.below ((grow_alloc (grow_refl w) _).drew)
  have HP0 : Hid (WrPost base p bs d w (w.alloc (.cells #[.string (mkB s.kind), .string (mkB s.name), .string (mkB s.e.kind), .int .i64 s.e.num, .string (mkB s.e.name), .slice X s.e.kids.length x, .slice T s.th.length t, .slice L s.el.length l] 63)).drew) := show WrPost _ _ _ _ _ _ from WrPost.below hw ((grow_alloc (grow_refl w) _).drew)
  have HBX0 : Hid ((w.alloc (.cells #[.string (mkB s.kind), .string (mkB s.name), .string (mkB s.e.kind), .int .i64 s.e.num, .string (mkB s.e.name), .slice X s.e.kids.length x, .slice T s.th.length t, .slice L s.el.length l] 63)).drew.heap[w.heap.size]? = some (.cells #[.string (mkB s.kind), .string (mkB s.name), .string (mkB s.e.kind), .int .i64 s.e.num, .string (mkB s.e.name), .slice X s.e.kids.length x, .slice T s.th.length t, .slice L s.el.length l] 63)) := show _ = _ from heap_alloc_new w _
  unfold exprV strV at HE
  unfold stmtV
  rw [hv]
  clear hts hv hk hw ht hX hT hL hlen hok hel htx hcv
  go_enter Tryd.func48, Tryd.ntmps48
  have j1 : ¬ (9223372036854775807 < 4 + (mkB s.name).size) := by omega
  have j2 : ¬ (9223372036854775807 < 4 + (mkB s.name).size + 3) := by omega
  have j3 : ¬ (9223372036854775807 < 4 + (mkB s.name).size + 3 + (mkB (textE s.e)).size) := by omega
  have j4 : ¬ (9223372036854775807 < 4 + (mkB s.name).size + 3 + (mkB (textE s.e)).size + 1) := by omega
  go_upto_region 3 with fail
  go_region_held3 (fun w' => w'.cell? ⟨w.heap.size, 0, none⟩ = some (.string (mkB s.kind)) ∧ w'.cell? ⟨w.heap.size, 1, none⟩ = some (.string (mkB s.name)) ∧ w'.cell? ⟨w.heap.size, 2, none⟩ = some (.string (mkB s.e.kind)) ∧ w'.cell? ⟨w.heap.size, 3, none⟩ = some (.int .i64 s.e.num) ∧ w'.cell? ⟨w.heap.size, 4, none⟩ = some (.string (mkB s.e.name)) ∧ w'.cell? ⟨w.heap.size, 5, none⟩ = some (.slice X s.e.kids.length x) ∧ w'.cell? ⟨w.heap.size, 6, none⟩ = some (.slice T s.th.length t) ∧ w'.cell? ⟨w.heap.size, 7, none⟩ = some (.slice L s.el.length l))
    (with_reducible first
      | exact row8 HBX2.out
      | exact row8 HBX1.out
      | exact row8 HBX0.out)
    (first
      | (go_at_call 17; (with_reducible refine (HE.out _ HP0.out.bel).mono ?_); rintro y w1 ⟨rfl, hb1⟩; have HP1 := Lib.hid (WrPost.below HW0.out hb1); have HBX1 := Lib.hid (row_below HBX0.out hb1))
      | (go_at_call 19; (with_reducible refine (HL.out _ HP1.out.wr).mono ?_); rintro y w2 ⟨rfl, hp2⟩; have HP2 := Lib.hid hp2; have HBX2 := Lib.hid (hp2.kp _ _ _ _ (by omega) stmt_byte HBX1.out); clear hp2))
  all_goals go_wp2_with fail
  all_goals go_end0
  all_goals exact ⟨rfl, HP0.out.trans (HP1.out.trans HP2.out)⟩
set_option maxHeartbeats 4000000 in
set_option maxRecDepth 100000 in
theorem sstmt_set (base p d : Nat) (s : PStmt) (htx : TxS d s) (hk : s.kind = sSet) : SStmtC base p d s := by
  intro bs w X x T t L l hw ht hX hT hL hlen
  have g0 : ((mkB s.kind).toList == [118, 97, 114]) = false := by rw [mkB_toList, hk]; rfl
  have g1 : ((mkB s.kind).toList == [115, 101, 116]) = true := by rw [mkB_toList, hk]; rfl
  have hts := textS_eq s d
  have hv := hts.trans ((if_neg (by rw [hk]; decide)).trans (if_pos hk))
  obtain ⟨hd100, hkl, hnl, hok, hel, htl, hll, -, -⟩ := htx.all
  have hB : base ≤ w.heap.size := by have := hw.1; have := hw.lt; omega
  have hpw := hw.lt
  have hsz3 : (mkB (textE s.e)).size ≤ 1000000 := by rw [mkB_len]; exact hel
  have hsz4 : (mkB s.name).size ≤ 20 := by rw [mkB_len]; exact hnl
  have hsz5 : (mkB s.kind).size ≤ 20 := by rw [mkB_len]; exact hkl
  have HE : Hid (∀ w', Below base w w' → Calls Tryd.prog 17 #[exprV s.e X x] w' (Ret (strV (textE s.e)) w')) := fun w' hb => ShowExpr_any s.e hok hel (fun n => n < base) X x w' (ht.keep hb).at (hX.keep (keepsLow hb) (fun _ h => h))
  have hcv : mkB s.name ++ ⟨#[32, 61, 32]⟩ ++ mkB (textE s.e) ++ ⟨#[59]⟩ = mkB (s.name ++ [32, 61, 32] ++ textE s.e ++ [59]) := by simp only [show ∀ a : List UInt8, (⟨a.toArray⟩ : ByteArray) = mkB a from fun _ => rfl, mkB_app]
  have HL : Hid (∀ w', WrAt base p bs d w' → Calls Tryd.prog 19 #[.pointer (some ⟨p, 0, none⟩), .string (mkB s.name ++ ⟨#[32, 61, 32]⟩ ++ mkB (textE s.e) ++ ⟨#[59]⟩)] w' fun e w'' => e = .returned (.tuple #[]) ∧ WrPost base p (bs ++ lineT d (s.name ++ [32, 61, 32] ++ textE s.e ++ [59])) d w' w'') := fun w' h' => by
    rw [hcv]
    exact line_any base p bs d _ w' h' (by omega) (by simp only [List.length_append, List.length_cons, List.length_nil]; omega) (by omega)
  have HW0 : Hid (WrAt base p bs d (w.alloc (.cells #[.string (mkB s.kind), .string (mkB s.name), .string (mkB s.e.kind), .int .i64 s.e.num, .string (mkB s.e.name), .slice X s.e.kids.length x, .slice T s.th.length t, .slice L s.el.length l] 63)).drew) := show WrAt _ _ _ _ _ from hw.below ((grow_alloc (grow_refl w) _).drew)
  have HP0 : Hid (WrPost base p bs d w (w.alloc (.cells #[.string (mkB s.kind), .string (mkB s.name), .string (mkB s.e.kind), .int .i64 s.e.num, .string (mkB s.e.name), .slice X s.e.kids.length x, .slice T s.th.length t, .slice L s.el.length l] 63)).drew) := show WrPost _ _ _ _ _ _ from WrPost.below hw ((grow_alloc (grow_refl w) _).drew)
  have HBX0 : Hid ((w.alloc (.cells #[.string (mkB s.kind), .string (mkB s.name), .string (mkB s.e.kind), .int .i64 s.e.num, .string (mkB s.e.name), .slice X s.e.kids.length x, .slice T s.th.length t, .slice L s.el.length l] 63)).drew.heap[w.heap.size]? = some (.cells #[.string (mkB s.kind), .string (mkB s.name), .string (mkB s.e.kind), .int .i64 s.e.num, .string (mkB s.e.name), .slice X s.e.kids.length x, .slice T s.th.length t, .slice L s.el.length l] 63)) := show _ = _ from heap_alloc_new w _
  unfold exprV strV at HE
  unfold stmtV
  rw [hv]
  clear hts hv hk hw ht hX hT hL hlen hok hel htx hcv
  go_enter Tryd.func48, Tryd.ntmps48
  have j1 : ¬ (9223372036854775807 < (mkB s.name).size + 3) := by omega
  have j2 : ¬ (9223372036854775807 < (mkB s.name).size + 3 + (mkB (textE s.e)).size) := by omega
  have j3 : ¬ (9223372036854775807 < (mkB s.name).size + 3 + (mkB (textE s.e)).size + 1) := by omega
  go_upto_region 5 with fail
  go_region_held3 (fun w' => w'.cell? ⟨w.heap.size, 0, none⟩ = some (.string (mkB s.kind)) ∧ w'.cell? ⟨w.heap.size, 1, none⟩ = some (.string (mkB s.name)) ∧ w'.cell? ⟨w.heap.size, 2, none⟩ = some (.string (mkB s.e.kind)) ∧ w'.cell? ⟨w.heap.size, 3, none⟩ = some (.int .i64 s.e.num) ∧ w'.cell? ⟨w.heap.size, 4, none⟩ = some (.string (mkB s.e.name)) ∧ w'.cell? ⟨w.heap.size, 5, none⟩ = some (.slice X s.e.kids.length x) ∧ w'.cell? ⟨w.heap.size, 6, none⟩ = some (.slice T s.th.length t) ∧ w'.cell? ⟨w.heap.size, 7, none⟩ = some (.slice L s.el.length l))
    (with_reducible first
      | exact row8 HBX2.out
      | exact row8 HBX1.out
      | exact row8 HBX0.out)
    (first
      | (go_at_call 17; (with_reducible refine (HE.out _ HP0.out.bel).mono ?_); rintro y w1 ⟨rfl, hb1⟩; have HP1 := Lib.hid (WrPost.below HW0.out hb1); have HBX1 := Lib.hid (row_below HBX0.out hb1))
      | (go_at_call 19; (with_reducible refine (HL.out _ HP1.out.wr).mono ?_); rintro y w2 ⟨rfl, hp2⟩; have HP2 := Lib.hid hp2; have HBX2 := Lib.hid (hp2.kp _ _ _ _ (by omega) stmt_byte HBX1.out); clear hp2))
  all_goals go_wp2_with fail
  all_goals go_end0
  all_goals exact ⟨rfl, HP0.out.trans (HP1.out.trans HP2.out)⟩
set_option maxHeartbeats 4000000 in
set_option maxRecDepth 100000 in
theorem sstmt_return (base p d : Nat) (s : PStmt) (htx : TxS d s) (hk : s.kind = sReturn) : SStmtC base p d s := by
  intro bs w X x T t L l hw ht hX hT hL hlen
  have g0 : ((mkB s.kind).toList == [118, 97, 114]) = false := by rw [mkB_toList, hk]; rfl
  have g1 : ((mkB s.kind).toList == [115, 101, 116]) = false := by rw [mkB_toList, hk]; rfl
  have g2 : ((mkB s.kind).toList == [114, 101, 116, 117, 114, 110]) = true := by rw [mkB_toList, hk]; rfl
  have hts := textS_eq s d
  have hv := hts.trans ((if_neg (by rw [hk]; decide)).trans ((if_neg (by rw [hk]; decide)).trans (if_pos (.inl hk))))
  obtain ⟨hd100, hkl, hnl, hok, hel, htl, hll, -, -⟩ := htx.all
  have hB : base ≤ w.heap.size := by have := hw.1; have := hw.lt; omega
  have hpw := hw.lt
  have hsz3 : (mkB (textE s.e)).size ≤ 1000000 := by rw [mkB_len]; exact hel
  have hsz4 : (mkB s.name).size ≤ 20 := by rw [mkB_len]; exact hnl
  have hsz5 : (mkB s.kind).size ≤ 20 := by rw [mkB_len]; exact hkl
  have HE : Hid (∀ w', Below base w w' → Calls Tryd.prog 17 #[exprV s.e X x] w' (Ret (strV (textE s.e)) w')) := fun w' hb => ShowExpr_any s.e hok hel (fun n => n < base) X x w' (ht.keep hb).at (hX.keep (keepsLow hb) (fun _ h => h))
  have hcv : mkB s.kind ++ ⟨#[32]⟩ ++ mkB (textE s.e) ++ ⟨#[59]⟩ = mkB (s.kind ++ [32] ++ textE s.e ++ [59]) := by simp only [show ∀ a : List UInt8, (⟨a.toArray⟩ : ByteArray) = mkB a from fun _ => rfl, mkB_app]
  have HL : Hid (∀ w', WrAt base p bs d w' → Calls Tryd.prog 19 #[.pointer (some ⟨p, 0, none⟩), .string (mkB s.kind ++ ⟨#[32]⟩ ++ mkB (textE s.e) ++ ⟨#[59]⟩)] w' fun e w'' => e = .returned (.tuple #[]) ∧ WrPost base p (bs ++ lineT d (s.kind ++ [32] ++ textE s.e ++ [59])) d w' w'') := fun w' h' => by
    rw [hcv]
    exact line_any base p bs d _ w' h' (by omega) (by simp only [List.length_append, List.length_cons, List.length_nil]; omega) (by omega)
  have HW0 : Hid (WrAt base p bs d (w.alloc (.cells #[.string (mkB s.kind), .string (mkB s.name), .string (mkB s.e.kind), .int .i64 s.e.num, .string (mkB s.e.name), .slice X s.e.kids.length x, .slice T s.th.length t, .slice L s.el.length l] 63)).drew) := show WrAt _ _ _ _ _ from hw.below ((grow_alloc (grow_refl w) _).drew)
  have HP0 : Hid (WrPost base p bs d w (w.alloc (.cells #[.string (mkB s.kind), .string (mkB s.name), .string (mkB s.e.kind), .int .i64 s.e.num, .string (mkB s.e.name), .slice X s.e.kids.length x, .slice T s.th.length t, .slice L s.el.length l] 63)).drew) := show WrPost _ _ _ _ _ _ from WrPost.below hw ((grow_alloc (grow_refl w) _).drew)
  have HBX0 : Hid ((w.alloc (.cells #[.string (mkB s.kind), .string (mkB s.name), .string (mkB s.e.kind), .int .i64 s.e.num, .string (mkB s.e.name), .slice X s.e.kids.length x, .slice T s.th.length t, .slice L s.el.length l] 63)).drew.heap[w.heap.size]? = some (.cells #[.string (mkB s.kind), .string (mkB s.name), .string (mkB s.e.kind), .int .i64 s.e.num, .string (mkB s.e.name), .slice X s.e.kids.length x, .slice T s.th.length t, .slice L s.el.length l] 63)) := show _ = _ from heap_alloc_new w _
  unfold exprV strV at HE
  unfold stmtV
  rw [hv]
  clear hts hv hk hw ht hX hT hL hlen hok hel htx hcv
  go_enter Tryd.func48, Tryd.ntmps48
  have j1 : ¬ (9223372036854775807 < (mkB s.kind).size + 1) := by omega
  have j2 : ¬ (9223372036854775807 < (mkB s.kind).size + 1 + (mkB (textE s.e)).size) := by omega
  have j3 : ¬ (9223372036854775807 < (mkB s.kind).size + 1 + (mkB (textE s.e)).size + 1) := by omega
  go_upto_region 8 with fail
  go_region_held3 (fun w' => w'.cell? ⟨w.heap.size, 0, none⟩ = some (.string (mkB s.kind)) ∧ w'.cell? ⟨w.heap.size, 1, none⟩ = some (.string (mkB s.name)) ∧ w'.cell? ⟨w.heap.size, 2, none⟩ = some (.string (mkB s.e.kind)) ∧ w'.cell? ⟨w.heap.size, 3, none⟩ = some (.int .i64 s.e.num) ∧ w'.cell? ⟨w.heap.size, 4, none⟩ = some (.string (mkB s.e.name)) ∧ w'.cell? ⟨w.heap.size, 5, none⟩ = some (.slice X s.e.kids.length x) ∧ w'.cell? ⟨w.heap.size, 6, none⟩ = some (.slice T s.th.length t) ∧ w'.cell? ⟨w.heap.size, 7, none⟩ = some (.slice L s.el.length l))
    (with_reducible first
      | exact row8 HBX2.out
      | exact row8 HBX1.out
      | exact row8 HBX0.out)
    (first
      | (go_at_call 17; (with_reducible refine (HE.out _ HP0.out.bel).mono ?_); rintro y w1 ⟨rfl, hb1⟩; have HP1 := Lib.hid (WrPost.below HW0.out hb1); have HBX1 := Lib.hid (row_below HBX0.out hb1))
      | (go_at_call 19; (with_reducible refine (HL.out _ HP1.out.wr).mono ?_); rintro y w2 ⟨rfl, hp2⟩; have HP2 := Lib.hid hp2; have HBX2 := Lib.hid (hp2.kp _ _ _ _ (by omega) stmt_byte HBX1.out); clear hp2))
  all_goals go_wp2_with fail
  all_goals go_end0
  all_goals exact ⟨rfl, HP0.out.trans (HP1.out.trans HP2.out)⟩
set_option maxHeartbeats 4000000 in
set_option maxRecDepth 100000 in
theorem sstmt_print (base p d : Nat) (s : PStmt) (htx : TxS d s) (hk : s.kind = sPrint) : SStmtC base p d s := by
  intro bs w X x T t L l hw ht hX hT hL hlen
  have g0 : ((mkB s.kind).toList == [118, 97, 114]) = false := by rw [mkB_toList, hk]; rfl
  have g1 : ((mkB s.kind).toList == [115, 101, 116]) = false := by rw [mkB_toList, hk]; rfl
  have g2 : ((mkB s.kind).toList == [114, 101, 116, 117, 114, 110]) = false := by rw [mkB_toList, hk]; rfl
  have g3 : ((mkB s.kind).toList == [112, 114, 105, 110, 116]) = true := by rw [mkB_toList, hk]; rfl
  have hts := textS_eq s d
  have hv := hts.trans ((if_neg (by rw [hk]; decide)).trans ((if_neg (by rw [hk]; decide)).trans (if_pos (.inr hk))))
  obtain ⟨hd100, hkl, hnl, hok, hel, htl, hll, -, -⟩ := htx.all
  have hB : base ≤ w.heap.size := by have := hw.1; have := hw.lt; omega
  have hpw := hw.lt
  have hsz3 : (mkB (textE s.e)).size ≤ 1000000 := by rw [mkB_len]; exact hel
  have hsz4 : (mkB s.name).size ≤ 20 := by rw [mkB_len]; exact hnl
  have hsz5 : (mkB s.kind).size ≤ 20 := by rw [mkB_len]; exact hkl
  have HE : Hid (∀ w', Below base w w' → Calls Tryd.prog 17 #[exprV s.e X x] w' (Ret (strV (textE s.e)) w')) := fun w' hb => ShowExpr_any s.e hok hel (fun n => n < base) X x w' (ht.keep hb).at (hX.keep (keepsLow hb) (fun _ h => h))
  have hcv : mkB s.kind ++ ⟨#[32]⟩ ++ mkB (textE s.e) ++ ⟨#[59]⟩ = mkB (s.kind ++ [32] ++ textE s.e ++ [59]) := by simp only [show ∀ a : List UInt8, (⟨a.toArray⟩ : ByteArray) = mkB a from fun _ => rfl, mkB_app]
  have HL : Hid (∀ w', WrAt base p bs d w' → Calls Tryd.prog 19 #[.pointer (some ⟨p, 0, none⟩), .string (mkB s.kind ++ ⟨#[32]⟩ ++ mkB (textE s.e) ++ ⟨#[59]⟩)] w' fun e w'' => e = .returned (.tuple #[]) ∧ WrPost base p (bs ++ lineT d (s.kind ++ [32] ++ textE s.e ++ [59])) d w' w'') := fun w' h' => by
    rw [hcv]
    exact line_any base p bs d _ w' h' (by omega) (by simp only [List.length_append, List.length_cons, List.length_nil]; omega) (by omega)
  have HW0 : Hid (WrAt base p bs d (w.alloc (.cells #[.string (mkB s.kind), .string (mkB s.name), .string (mkB s.e.kind), .int .i64 s.e.num, .string (mkB s.e.name), .slice X s.e.kids.length x, .slice T s.th.length t, .slice L s.el.length l] 63)).drew) := show WrAt _ _ _ _ _ from hw.below ((grow_alloc (grow_refl w) _).drew)
  have HP0 : Hid (WrPost base p bs d w (w.alloc (.cells #[.string (mkB s.kind), .string (mkB s.name), .string (mkB s.e.kind), .int .i64 s.e.num, .string (mkB s.e.name), .slice X s.e.kids.length x, .slice T s.th.length t, .slice L s.el.length l] 63)).drew) := show WrPost _ _ _ _ _ _ from WrPost.below hw ((grow_alloc (grow_refl w) _).drew)
  have HBX0 : Hid ((w.alloc (.cells #[.string (mkB s.kind), .string (mkB s.name), .string (mkB s.e.kind), .int .i64 s.e.num, .string (mkB s.e.name), .slice X s.e.kids.length x, .slice T s.th.length t, .slice L s.el.length l] 63)).drew.heap[w.heap.size]? = some (.cells #[.string (mkB s.kind), .string (mkB s.name), .string (mkB s.e.kind), .int .i64 s.e.num, .string (mkB s.e.name), .slice X s.e.kids.length x, .slice T s.th.length t, .slice L s.el.length l] 63)) := show _ = _ from heap_alloc_new w _
  unfold exprV strV at HE
  unfold stmtV
  rw [hv]
  clear hts hv hk hw ht hX hT hL hlen hok hel htx hcv
  go_enter Tryd.func48, Tryd.ntmps48
  have j1 : ¬ (9223372036854775807 < (mkB s.kind).size + 1) := by omega
  have j2 : ¬ (9223372036854775807 < (mkB s.kind).size + 1 + (mkB (textE s.e)).size) := by omega
  have j3 : ¬ (9223372036854775807 < (mkB s.kind).size + 1 + (mkB (textE s.e)).size + 1) := by omega
  go_upto_region 8 with fail
  go_region_held3 (fun w' => w'.cell? ⟨w.heap.size, 0, none⟩ = some (.string (mkB s.kind)) ∧ w'.cell? ⟨w.heap.size, 1, none⟩ = some (.string (mkB s.name)) ∧ w'.cell? ⟨w.heap.size, 2, none⟩ = some (.string (mkB s.e.kind)) ∧ w'.cell? ⟨w.heap.size, 3, none⟩ = some (.int .i64 s.e.num) ∧ w'.cell? ⟨w.heap.size, 4, none⟩ = some (.string (mkB s.e.name)) ∧ w'.cell? ⟨w.heap.size, 5, none⟩ = some (.slice X s.e.kids.length x) ∧ w'.cell? ⟨w.heap.size, 6, none⟩ = some (.slice T s.th.length t) ∧ w'.cell? ⟨w.heap.size, 7, none⟩ = some (.slice L s.el.length l))
    (with_reducible first
      | exact row8 HBX2.out
      | exact row8 HBX1.out
      | exact row8 HBX0.out)
    (first
      | (go_at_call 17; (with_reducible refine (HE.out _ HP0.out.bel).mono ?_); rintro y w1 ⟨rfl, hb1⟩; have HP1 := Lib.hid (WrPost.below HW0.out hb1); have HBX1 := Lib.hid (row_below HBX0.out hb1))
      | (go_at_call 19; (with_reducible refine (HL.out _ HP1.out.wr).mono ?_); rintro y w2 ⟨rfl, hp2⟩; have HP2 := Lib.hid hp2; have HBX2 := Lib.hid (hp2.kp _ _ _ _ (by omega) stmt_byte HBX1.out); clear hp2))
  all_goals go_wp2_with fail
  all_goals go_end0
  all_goals exact ⟨rfl, HP0.out.trans (HP1.out.trans HP2.out)⟩
end Go.Proofs.YtidhplpidkgkdaaDoor
