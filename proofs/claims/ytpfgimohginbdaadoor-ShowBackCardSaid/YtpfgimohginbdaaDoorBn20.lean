import Derived.Test.YtpfgimohginbdaaDoorBn19
set_option linter.unusedVariables false
set_option linter.unusedSimpArgs false
namespace Go.Proofs.YtpfgimohginbdaaDoor
open Go.RowKit

set_option maxHeartbeats 4000000 in
set_option maxRecDepth 100000 in
theorem sstmt_if0 (base p d : Nat) (s : PStmt) (htx : TxS d s) (hk : s.kind = sIf) (hz : s.el.length = 0) (hqT : SBlockC base p d s.th) (hqL : SBlockC base p d s.el) : SStmtC base p d s := by
  intro bs w X x T t L l hw ht hX hT hL hlen
  have g0 : ((mkB s.kind).toList == [118, 97, 114]) = false := by rw [mkB_toList, hk]; rfl
  have g1 : ((mkB s.kind).toList == [115, 101, 116]) = false := by rw [mkB_toList, hk]; rfl
  have g2 : ((mkB s.kind).toList == [114, 101, 116, 117, 114, 110]) = false := by rw [mkB_toList, hk]; rfl
  have g3 : ((mkB s.kind).toList == [112, 114, 105, 110, 116]) = false := by rw [mkB_toList, hk]; rfl
  have g4 : ((mkB s.kind).toList == [105, 102]) = true := by rw [mkB_toList, hk]; rfl
  have hts := textS_eq s d
  have hv := hts.trans ((if_neg (by rw [hk]; decide)).trans ((if_neg (by rw [hk]; decide)).trans ((if_neg (by rw [hk]; decide)).trans (if_pos (.inl hk)))))
  obtain ⟨hd100, hkl, hnl, hok, hel, htl, hll, -, -⟩ := htx.all
  have hB : base ≤ w.heap.size := by have := hw.1; have := hw.lt; omega
  have hpw := hw.lt
  have hsz3 : (mkB (textE s.e)).size ≤ 1000000 := by rw [mkB_len]; exact hel
  have hsz4 : (mkB s.name).size ≤ 20 := by rw [mkB_len]; exact hnl
  have hsz5 : (mkB s.kind).size ≤ 20 := by rw [mkB_len]; exact hkl
  have HE : Hid (∀ w', Below base w w' → Calls Tryd.prog 14 #[exprV s.e X x] w' (Ret (strV (textE s.e)) w')) := fun w' hb => ShowExpr_any s.e hok hel (fun n => n < base) X x w' (ht.keep hb).at (hX.keep (keepsLow hb) (fun _ h => h))
  have hcv : mkB s.kind ++ ⟨#[32]⟩ ++ mkB (textE s.e) ++ ⟨#[32, 123]⟩ = mkB (s.kind ++ [32] ++ textE s.e ++ [32, 123]) := by simp only [show ∀ a : List UInt8, (⟨a.toArray⟩ : ByteArray) = mkB a from fun _ => rfl, mkB_app]
  have HL : Hid (∀ w', WrAt base p bs d w' → Calls Tryd.prog 15 #[.pointer (some ⟨p, 0, none⟩), .string (mkB s.kind ++ ⟨#[32]⟩ ++ mkB (textE s.e) ++ ⟨#[32, 123]⟩)] w' fun e w'' => e = .returned (.tuple #[]) ∧ WrPost base p (bs ++ lineT d (s.kind ++ [32] ++ textE s.e ++ [32, 123])) d w' w'') := fun w' h' => by
    rw [hcv]
    exact line_any base p bs d _ w' h' (by omega) (by simp only [List.length_append, List.length_cons, List.length_nil]; omega) (by omega)
  have HW0 : Hid (WrAt base p bs d (w.alloc (.cells #[.string (mkB s.kind), .string (mkB s.name), .string (mkB s.e.kind), .int .i64 s.e.num, .string (mkB s.e.name), .slice X s.e.kids.length x, .slice T s.th.length t, .slice L s.el.length l] 44)).drew) := show WrAt _ _ _ _ _ from hw.below ((grow_alloc (grow_refl w) _).drew)
  have HP0 : Hid (WrPost base p bs d w (w.alloc (.cells #[.string (mkB s.kind), .string (mkB s.name), .string (mkB s.e.kind), .int .i64 s.e.num, .string (mkB s.e.name), .slice X s.e.kids.length x, .slice T s.th.length t, .slice L s.el.length l] 44)).drew) := show WrPost _ _ _ _ _ _ from WrPost.below hw ((grow_alloc (grow_refl w) _).drew)
  have HBX0 : Hid ((w.alloc (.cells #[.string (mkB s.kind), .string (mkB s.name), .string (mkB s.e.kind), .int .i64 s.e.num, .string (mkB s.e.name), .slice X s.e.kids.length x, .slice T s.th.length t, .slice L s.el.length l] 44)).drew.heap[w.heap.size]? = some (.cells #[.string (mkB s.kind), .string (mkB s.name), .string (mkB s.e.kind), .int .i64 s.e.num, .string (mkB s.e.name), .slice X s.e.kids.length x, .slice T s.th.length t, .slice L s.el.length l] 44)) := show _ = _ from heap_alloc_new w _
  have hlen2 : (bs ++ lineT d (s.kind ++ [32] ++ textE s.e ++ [32, 123]) ++ textB s.th (d + 1) ++ lineT d [125]).length ≤ 2000000 := by
    have e := congrArg List.length hv
    rw [if_pos hz] at e
    simp only [List.length_append, List.length_nil] at e ⊢
    omega
  have hfull : bs ++ textS s d = (bs ++ lineT d (s.kind ++ [32] ++ textE s.e ++ [32, 123]) ++ textB s.th (d + 1) ++ lineT d [125]) := by rw [hv, if_pos hz]; simp only [List.append_assoc, List.nil_append, List.append_nil]
  have HTT : Hid (∀ bs' w', WrAt base p bs' d w' → Below base w w' → bs'.length + (textB s.th (d + 1)).length ≤ 2000000 → Calls Tryd.prog 17 #[.pointer (some ⟨p, 0, none⟩), .slice T s.th.length t] w' fun e w'' => e = .returned (.tuple #[]) ∧ WrPost base p (bs' ++ textB s.th (d + 1)) d w' w'') := fun bs' w' h' hb hl' => hqT bs' w' T t h' (ht.keep hb) (hT.keep (keepsLow hb) (fun _ h => h)) hl'
  have HLL : Hid (∀ bs' w', WrAt base p bs' d w' → Below base w w' → bs'.length + (textB s.el (d + 1)).length ≤ 2000000 → Calls Tryd.prog 17 #[.pointer (some ⟨p, 0, none⟩), .slice L s.el.length l] w' fun e w'' => e = .returned (.tuple #[]) ∧ WrPost base p (bs' ++ textB s.el (d + 1)) d w' w'') := fun bs' w' h' hb hl' => hqL bs' w' L l h' (ht.keep hb) (hL.keep (keepsLow hb) (fun _ h => h)) hl'
  have HE2 : Hid (∀ bs' w', WrAt base p bs' d w' → bs'.length ≤ 2000000 → Calls Tryd.prog 15 #[.pointer (some ⟨p, 0, none⟩), .string ⟨#[125]⟩] w' fun e w'' => e = .returned (.tuple #[]) ∧ WrPost base p (bs' ++ lineT d [125]) d w' w'') := fun bs' w' h' hl' => line_any base p bs' d [125] w' h' (by omega) (by simp) (by omega)
  have HE3 : Hid (∀ bs' w', WrAt base p bs' d w' → bs'.length ≤ 2000000 → Calls Tryd.prog 15 #[.pointer (some ⟨p, 0, none⟩), .string ⟨#[125, 32, 101, 108, 115, 101, 32, 123]⟩] w' fun e w'' => e = .returned (.tuple #[]) ∧ WrPost base p (bs' ++ lineT d [125, 32, 101, 108, 115, 101, 32, 123]) d w' w'') := fun bs' w' h' hl' => line_any base p bs' d [125, 32, 101, 108, 115, 101, 32, 123] w' h' (by omega) (by simp) (by omega)
  have HLN := Lib.hid hlen2
  have HFU := Lib.hid hfull
  unfold exprV strV at HE
  unfold stmtV
  rw [hfull]
  have q1 : ¬ (0 : Int) < (s.el.length : Int) := by omega
  clear hts hv hk hw ht hX hT hL hlen hok hel htx hcv hqT hqL hlen2 hfull hz
  go_enter Tryd.func37, Tryd.ntmps37
  have j1 : ¬ (9223372036854775807 < (mkB s.kind).size + 1) := by omega
  have j2 : ¬ (9223372036854775807 < (mkB s.kind).size + 1 + (mkB (textE s.e)).size) := by omega
  have j3 : ¬ (9223372036854775807 < (mkB s.kind).size + 1 + (mkB (textE s.e)).size + 2) := by omega
  go_upto_region 11 with fail
  go_region_held3 (fun w' => w'.cell? ⟨w.heap.size, 0, none⟩ = some (.string (mkB s.kind)) ∧ w'.cell? ⟨w.heap.size, 1, none⟩ = some (.string (mkB s.name)) ∧ w'.cell? ⟨w.heap.size, 2, none⟩ = some (.string (mkB s.e.kind)) ∧ w'.cell? ⟨w.heap.size, 3, none⟩ = some (.int .i64 s.e.num) ∧ w'.cell? ⟨w.heap.size, 4, none⟩ = some (.string (mkB s.e.name)) ∧ w'.cell? ⟨w.heap.size, 5, none⟩ = some (.slice X s.e.kids.length x) ∧ w'.cell? ⟨w.heap.size, 6, none⟩ = some (.slice T s.th.length t) ∧ w'.cell? ⟨w.heap.size, 7, none⟩ = some (.slice L s.el.length l))
    (with_reducible first
      | exact row8 HBX2.out
      | exact row8 HBX1.out
      | exact row8 HBX0.out)
    (first
      | (go_at_call 14; (with_reducible refine (HE.out _ HP0.out.bel).mono ?_); rintro y w1 ⟨rfl, hb1⟩; have HP1 := Lib.hid (WrPost.below HW0.out hb1); have HBX1 := Lib.hid (row_below HBX0.out hb1))
      | (go_at_call 15; (with_reducible refine (HL.out _ HP1.out.wr).mono ?_); rintro y w2 ⟨rfl, hp2⟩; have HP2 := Lib.hid hp2; have HBX2 := Lib.hid (hp2.kp _ _ _ _ (by omega) stmt_byte HBX1.out); clear hp2))
  all_goals obtain ⟨u0, u1, u2, u3, u4, u5, u6, u7⟩ := row8 HBX2.out
  all_goals have HQ2 := Lib.hid (HP0.out.trans (HP1.out.trans HP2.out))
  all_goals go_wp2_with (first
    | (go_at_call 17; (with_reducible refine (HTT.out _ _ HQ2.out.wr HQ2.out.bel (by have := HLN.out; simp only [List.length_append] at this ⊢; omega)).mono ?_); rintro y w3 ⟨rfl, hp3⟩; have HBX3 := Lib.hid (hp3.kp _ _ _ _ (by omega) stmt_byte HBX2.out); have HQ3 := Lib.hid (HQ2.out.trans hp3); clear hp3; obtain ⟨v0, v1, v2, v3, v4, v5, v6, v7⟩ := row8 HBX3.out)
    | (go_at_call 15; (with_reducible refine (HE2.out _ _ HQ3.out.wr (by have := HLN.out; simp only [List.length_append] at this ⊢; omega)).mono ?_); rintro y w4 ⟨rfl, hp4⟩))
  all_goals go_end0
  all_goals exact ⟨rfl, HQ3.out.trans hp4⟩
set_option maxHeartbeats 4000000 in
set_option maxRecDepth 100000 in
theorem sstmt_if1 (base p d : Nat) (s : PStmt) (htx : TxS d s) (hk : s.kind = sIf) (hz : s.el.length ≠ 0) (hqT : SBlockC base p d s.th) (hqL : SBlockC base p d s.el) : SStmtC base p d s := by
  intro bs w X x T t L l hw ht hX hT hL hlen
  have g0 : ((mkB s.kind).toList == [118, 97, 114]) = false := by rw [mkB_toList, hk]; rfl
  have g1 : ((mkB s.kind).toList == [115, 101, 116]) = false := by rw [mkB_toList, hk]; rfl
  have g2 : ((mkB s.kind).toList == [114, 101, 116, 117, 114, 110]) = false := by rw [mkB_toList, hk]; rfl
  have g3 : ((mkB s.kind).toList == [112, 114, 105, 110, 116]) = false := by rw [mkB_toList, hk]; rfl
  have g4 : ((mkB s.kind).toList == [105, 102]) = true := by rw [mkB_toList, hk]; rfl
  have hts := textS_eq s d
  have hv := hts.trans ((if_neg (by rw [hk]; decide)).trans ((if_neg (by rw [hk]; decide)).trans ((if_neg (by rw [hk]; decide)).trans (if_pos (.inl hk)))))
  obtain ⟨hd100, hkl, hnl, hok, hel, htl, hll, -, -⟩ := htx.all
  have hB : base ≤ w.heap.size := by have := hw.1; have := hw.lt; omega
  have hpw := hw.lt
  have hsz3 : (mkB (textE s.e)).size ≤ 1000000 := by rw [mkB_len]; exact hel
  have hsz4 : (mkB s.name).size ≤ 20 := by rw [mkB_len]; exact hnl
  have hsz5 : (mkB s.kind).size ≤ 20 := by rw [mkB_len]; exact hkl
  have HE : Hid (∀ w', Below base w w' → Calls Tryd.prog 14 #[exprV s.e X x] w' (Ret (strV (textE s.e)) w')) := fun w' hb => ShowExpr_any s.e hok hel (fun n => n < base) X x w' (ht.keep hb).at (hX.keep (keepsLow hb) (fun _ h => h))
  have hcv : mkB s.kind ++ ⟨#[32]⟩ ++ mkB (textE s.e) ++ ⟨#[32, 123]⟩ = mkB (s.kind ++ [32] ++ textE s.e ++ [32, 123]) := by simp only [show ∀ a : List UInt8, (⟨a.toArray⟩ : ByteArray) = mkB a from fun _ => rfl, mkB_app]
  have HL : Hid (∀ w', WrAt base p bs d w' → Calls Tryd.prog 15 #[.pointer (some ⟨p, 0, none⟩), .string (mkB s.kind ++ ⟨#[32]⟩ ++ mkB (textE s.e) ++ ⟨#[32, 123]⟩)] w' fun e w'' => e = .returned (.tuple #[]) ∧ WrPost base p (bs ++ lineT d (s.kind ++ [32] ++ textE s.e ++ [32, 123])) d w' w'') := fun w' h' => by
    rw [hcv]
    exact line_any base p bs d _ w' h' (by omega) (by simp only [List.length_append, List.length_cons, List.length_nil]; omega) (by omega)
  have HW0 : Hid (WrAt base p bs d (w.alloc (.cells #[.string (mkB s.kind), .string (mkB s.name), .string (mkB s.e.kind), .int .i64 s.e.num, .string (mkB s.e.name), .slice X s.e.kids.length x, .slice T s.th.length t, .slice L s.el.length l] 44)).drew) := show WrAt _ _ _ _ _ from hw.below ((grow_alloc (grow_refl w) _).drew)
  have HP0 : Hid (WrPost base p bs d w (w.alloc (.cells #[.string (mkB s.kind), .string (mkB s.name), .string (mkB s.e.kind), .int .i64 s.e.num, .string (mkB s.e.name), .slice X s.e.kids.length x, .slice T s.th.length t, .slice L s.el.length l] 44)).drew) := show WrPost _ _ _ _ _ _ from WrPost.below hw ((grow_alloc (grow_refl w) _).drew)
  have HBX0 : Hid ((w.alloc (.cells #[.string (mkB s.kind), .string (mkB s.name), .string (mkB s.e.kind), .int .i64 s.e.num, .string (mkB s.e.name), .slice X s.e.kids.length x, .slice T s.th.length t, .slice L s.el.length l] 44)).drew.heap[w.heap.size]? = some (.cells #[.string (mkB s.kind), .string (mkB s.name), .string (mkB s.e.kind), .int .i64 s.e.num, .string (mkB s.e.name), .slice X s.e.kids.length x, .slice T s.th.length t, .slice L s.el.length l] 44)) := show _ = _ from heap_alloc_new w _
  have hlen2 : (bs ++ lineT d (s.kind ++ [32] ++ textE s.e ++ [32, 123]) ++ textB s.th (d + 1) ++ lineT d [125, 32, 101, 108, 115, 101, 32, 123] ++ textB s.el (d + 1) ++ lineT d [125]).length ≤ 2000000 := by
    have e := congrArg List.length hv
    rw [if_neg hz] at e
    simp only [List.length_append, List.length_nil] at e ⊢
    omega
  have hfull : bs ++ textS s d = (bs ++ lineT d (s.kind ++ [32] ++ textE s.e ++ [32, 123]) ++ textB s.th (d + 1) ++ lineT d [125, 32, 101, 108, 115, 101, 32, 123] ++ textB s.el (d + 1) ++ lineT d [125]) := by rw [hv, if_neg hz]; simp only [List.append_assoc, List.nil_append, List.append_nil]
  have HTT : Hid (∀ bs' w', WrAt base p bs' d w' → Below base w w' → bs'.length + (textB s.th (d + 1)).length ≤ 2000000 → Calls Tryd.prog 17 #[.pointer (some ⟨p, 0, none⟩), .slice T s.th.length t] w' fun e w'' => e = .returned (.tuple #[]) ∧ WrPost base p (bs' ++ textB s.th (d + 1)) d w' w'') := fun bs' w' h' hb hl' => hqT bs' w' T t h' (ht.keep hb) (hT.keep (keepsLow hb) (fun _ h => h)) hl'
  have HLL : Hid (∀ bs' w', WrAt base p bs' d w' → Below base w w' → bs'.length + (textB s.el (d + 1)).length ≤ 2000000 → Calls Tryd.prog 17 #[.pointer (some ⟨p, 0, none⟩), .slice L s.el.length l] w' fun e w'' => e = .returned (.tuple #[]) ∧ WrPost base p (bs' ++ textB s.el (d + 1)) d w' w'') := fun bs' w' h' hb hl' => hqL bs' w' L l h' (ht.keep hb) (hL.keep (keepsLow hb) (fun _ h => h)) hl'
  have HE2 : Hid (∀ bs' w', WrAt base p bs' d w' → bs'.length ≤ 2000000 → Calls Tryd.prog 15 #[.pointer (some ⟨p, 0, none⟩), .string ⟨#[125]⟩] w' fun e w'' => e = .returned (.tuple #[]) ∧ WrPost base p (bs' ++ lineT d [125]) d w' w'') := fun bs' w' h' hl' => line_any base p bs' d [125] w' h' (by omega) (by simp) (by omega)
  have HE3 : Hid (∀ bs' w', WrAt base p bs' d w' → bs'.length ≤ 2000000 → Calls Tryd.prog 15 #[.pointer (some ⟨p, 0, none⟩), .string ⟨#[125, 32, 101, 108, 115, 101, 32, 123]⟩] w' fun e w'' => e = .returned (.tuple #[]) ∧ WrPost base p (bs' ++ lineT d [125, 32, 101, 108, 115, 101, 32, 123]) d w' w'') := fun bs' w' h' hl' => line_any base p bs' d [125, 32, 101, 108, 115, 101, 32, 123] w' h' (by omega) (by simp) (by omega)
  have HLN := Lib.hid hlen2
  have HFU := Lib.hid hfull
  unfold exprV strV at HE
  unfold stmtV
  rw [hfull]
  have q1 : 0 < s.el.length := by omega
  clear hts hv hk hw ht hX hT hL hlen hok hel htx hcv hqT hqL hlen2 hfull hz
  go_enter Tryd.func37, Tryd.ntmps37
  have j1 : ¬ (9223372036854775807 < (mkB s.kind).size + 1) := by omega
  have j2 : ¬ (9223372036854775807 < (mkB s.kind).size + 1 + (mkB (textE s.e)).size) := by omega
  have j3 : ¬ (9223372036854775807 < (mkB s.kind).size + 1 + (mkB (textE s.e)).size + 2) := by omega
  go_upto_region 11 with fail
  go_region_held3 (fun w' => w'.cell? ⟨w.heap.size, 0, none⟩ = some (.string (mkB s.kind)) ∧ w'.cell? ⟨w.heap.size, 1, none⟩ = some (.string (mkB s.name)) ∧ w'.cell? ⟨w.heap.size, 2, none⟩ = some (.string (mkB s.e.kind)) ∧ w'.cell? ⟨w.heap.size, 3, none⟩ = some (.int .i64 s.e.num) ∧ w'.cell? ⟨w.heap.size, 4, none⟩ = some (.string (mkB s.e.name)) ∧ w'.cell? ⟨w.heap.size, 5, none⟩ = some (.slice X s.e.kids.length x) ∧ w'.cell? ⟨w.heap.size, 6, none⟩ = some (.slice T s.th.length t) ∧ w'.cell? ⟨w.heap.size, 7, none⟩ = some (.slice L s.el.length l))
    (with_reducible first
      | exact row8 HBX2.out
      | exact row8 HBX1.out
      | exact row8 HBX0.out)
    (first
      | (go_at_call 14; (with_reducible refine (HE.out _ HP0.out.bel).mono ?_); rintro y w1 ⟨rfl, hb1⟩; have HP1 := Lib.hid (WrPost.below HW0.out hb1); have HBX1 := Lib.hid (row_below HBX0.out hb1))
      | (go_at_call 15; (with_reducible refine (HL.out _ HP1.out.wr).mono ?_); rintro y w2 ⟨rfl, hp2⟩; have HP2 := Lib.hid hp2; have HBX2 := Lib.hid (hp2.kp _ _ _ _ (by omega) stmt_byte HBX1.out); clear hp2))
  all_goals obtain ⟨u0, u1, u2, u3, u4, u5, u6, u7⟩ := row8 HBX2.out
  all_goals have HQ2 := Lib.hid (HP0.out.trans (HP1.out.trans HP2.out))
  all_goals go_wp2_with (first
    | (go_at_call 17; (with_reducible refine (HTT.out _ _ HQ2.out.wr HQ2.out.bel (by have := HLN.out; simp only [List.length_append] at this ⊢; omega)).mono ?_); rintro y w3 ⟨rfl, hp3⟩; have HBX3 := Lib.hid (hp3.kp _ _ _ _ (by omega) stmt_byte HBX2.out); have HQ3 := Lib.hid (HQ2.out.trans hp3); clear hp3; obtain ⟨v0, v1, v2, v3, v4, v5, v6, v7⟩ := row8 HBX3.out)
    | (go_at_call 15; (with_reducible refine (HE3.out _ _ HQ3.out.wr (by have := HLN.out; simp only [List.length_append] at this ⊢; omega)).mono ?_); rintro y w4 ⟨rfl, hp4⟩; have HBX4 := Lib.hid (hp4.kp _ _ _ _ (by omega) stmt_byte HBX3.out); have HQ4 := Lib.hid (HQ3.out.trans hp4); clear hp4; obtain ⟨m0, m1, m2, m3, m4, m5, m6, m7⟩ := row8 HBX4.out)
    | (go_at_call 17; (with_reducible refine (HLL.out _ _ HQ4.out.wr HQ4.out.bel (by have := HLN.out; simp only [List.length_append] at this ⊢; omega)).mono ?_); rintro y w5 ⟨rfl, hp5⟩; have HQ5 := Lib.hid (HQ4.out.trans hp5); clear hp5)
    | (go_at_call 15; (with_reducible refine (HE2.out _ _ HQ5.out.wr (by have := HLN.out; simp only [List.length_append] at this ⊢; omega)).mono ?_); rintro y w6 ⟨rfl, hp6⟩))
  all_goals go_end0
  all_goals exact ⟨rfl, HQ5.out.trans hp6⟩
set_option maxHeartbeats 4000000 in
set_option maxRecDepth 100000 in
theorem sstmt_while0 (base p d : Nat) (s : PStmt) (htx : TxS d s) (hk : s.kind = sWhile) (hz : s.el.length = 0) (hqT : SBlockC base p d s.th) (hqL : SBlockC base p d s.el) : SStmtC base p d s := by
  intro bs w X x T t L l hw ht hX hT hL hlen
  have g0 : ((mkB s.kind).toList == [118, 97, 114]) = false := by rw [mkB_toList, hk]; rfl
  have g1 : ((mkB s.kind).toList == [115, 101, 116]) = false := by rw [mkB_toList, hk]; rfl
  have g2 : ((mkB s.kind).toList == [114, 101, 116, 117, 114, 110]) = false := by rw [mkB_toList, hk]; rfl
  have g3 : ((mkB s.kind).toList == [112, 114, 105, 110, 116]) = false := by rw [mkB_toList, hk]; rfl
  have g4 : ((mkB s.kind).toList == [105, 102]) = false := by rw [mkB_toList, hk]; rfl
  have g5 : ((mkB s.kind).toList == [119, 104, 105, 108, 101]) = true := by rw [mkB_toList, hk]; rfl
  have hts := textS_eq s d
  have hv := hts.trans ((if_neg (by rw [hk]; decide)).trans ((if_neg (by rw [hk]; decide)).trans ((if_neg (by rw [hk]; decide)).trans (if_pos (.inr hk)))))
  obtain ⟨hd100, hkl, hnl, hok, hel, htl, hll, -, -⟩ := htx.all
  have hB : base ≤ w.heap.size := by have := hw.1; have := hw.lt; omega
  have hpw := hw.lt
  have hsz3 : (mkB (textE s.e)).size ≤ 1000000 := by rw [mkB_len]; exact hel
  have hsz4 : (mkB s.name).size ≤ 20 := by rw [mkB_len]; exact hnl
  have hsz5 : (mkB s.kind).size ≤ 20 := by rw [mkB_len]; exact hkl
  have HE : Hid (∀ w', Below base w w' → Calls Tryd.prog 14 #[exprV s.e X x] w' (Ret (strV (textE s.e)) w')) := fun w' hb => ShowExpr_any s.e hok hel (fun n => n < base) X x w' (ht.keep hb).at (hX.keep (keepsLow hb) (fun _ h => h))
  have hcv : mkB s.kind ++ ⟨#[32]⟩ ++ mkB (textE s.e) ++ ⟨#[32, 123]⟩ = mkB (s.kind ++ [32] ++ textE s.e ++ [32, 123]) := by simp only [show ∀ a : List UInt8, (⟨a.toArray⟩ : ByteArray) = mkB a from fun _ => rfl, mkB_app]
  have HL : Hid (∀ w', WrAt base p bs d w' → Calls Tryd.prog 15 #[.pointer (some ⟨p, 0, none⟩), .string (mkB s.kind ++ ⟨#[32]⟩ ++ mkB (textE s.e) ++ ⟨#[32, 123]⟩)] w' fun e w'' => e = .returned (.tuple #[]) ∧ WrPost base p (bs ++ lineT d (s.kind ++ [32] ++ textE s.e ++ [32, 123])) d w' w'') := fun w' h' => by
    rw [hcv]
    exact line_any base p bs d _ w' h' (by omega) (by simp only [List.length_append, List.length_cons, List.length_nil]; omega) (by omega)
  have HW0 : Hid (WrAt base p bs d (w.alloc (.cells #[.string (mkB s.kind), .string (mkB s.name), .string (mkB s.e.kind), .int .i64 s.e.num, .string (mkB s.e.name), .slice X s.e.kids.length x, .slice T s.th.length t, .slice L s.el.length l] 44)).drew) := show WrAt _ _ _ _ _ from hw.below ((grow_alloc (grow_refl w) _).drew)
  have HP0 : Hid (WrPost base p bs d w (w.alloc (.cells #[.string (mkB s.kind), .string (mkB s.name), .string (mkB s.e.kind), .int .i64 s.e.num, .string (mkB s.e.name), .slice X s.e.kids.length x, .slice T s.th.length t, .slice L s.el.length l] 44)).drew) := show WrPost _ _ _ _ _ _ from WrPost.below hw ((grow_alloc (grow_refl w) _).drew)
  have HBX0 : Hid ((w.alloc (.cells #[.string (mkB s.kind), .string (mkB s.name), .string (mkB s.e.kind), .int .i64 s.e.num, .string (mkB s.e.name), .slice X s.e.kids.length x, .slice T s.th.length t, .slice L s.el.length l] 44)).drew.heap[w.heap.size]? = some (.cells #[.string (mkB s.kind), .string (mkB s.name), .string (mkB s.e.kind), .int .i64 s.e.num, .string (mkB s.e.name), .slice X s.e.kids.length x, .slice T s.th.length t, .slice L s.el.length l] 44)) := show _ = _ from heap_alloc_new w _
  have hlen2 : (bs ++ lineT d (s.kind ++ [32] ++ textE s.e ++ [32, 123]) ++ textB s.th (d + 1) ++ lineT d [125]).length ≤ 2000000 := by
    have e := congrArg List.length hv
    rw [if_pos hz] at e
    simp only [List.length_append, List.length_nil] at e ⊢
    omega
  have hfull : bs ++ textS s d = (bs ++ lineT d (s.kind ++ [32] ++ textE s.e ++ [32, 123]) ++ textB s.th (d + 1) ++ lineT d [125]) := by rw [hv, if_pos hz]; simp only [List.append_assoc, List.nil_append, List.append_nil]
  have HTT : Hid (∀ bs' w', WrAt base p bs' d w' → Below base w w' → bs'.length + (textB s.th (d + 1)).length ≤ 2000000 → Calls Tryd.prog 17 #[.pointer (some ⟨p, 0, none⟩), .slice T s.th.length t] w' fun e w'' => e = .returned (.tuple #[]) ∧ WrPost base p (bs' ++ textB s.th (d + 1)) d w' w'') := fun bs' w' h' hb hl' => hqT bs' w' T t h' (ht.keep hb) (hT.keep (keepsLow hb) (fun _ h => h)) hl'
  have HLL : Hid (∀ bs' w', WrAt base p bs' d w' → Below base w w' → bs'.length + (textB s.el (d + 1)).length ≤ 2000000 → Calls Tryd.prog 17 #[.pointer (some ⟨p, 0, none⟩), .slice L s.el.length l] w' fun e w'' => e = .returned (.tuple #[]) ∧ WrPost base p (bs' ++ textB s.el (d + 1)) d w' w'') := fun bs' w' h' hb hl' => hqL bs' w' L l h' (ht.keep hb) (hL.keep (keepsLow hb) (fun _ h => h)) hl'
  have HE2 : Hid (∀ bs' w', WrAt base p bs' d w' → bs'.length ≤ 2000000 → Calls Tryd.prog 15 #[.pointer (some ⟨p, 0, none⟩), .string ⟨#[125]⟩] w' fun e w'' => e = .returned (.tuple #[]) ∧ WrPost base p (bs' ++ lineT d [125]) d w' w'') := fun bs' w' h' hl' => line_any base p bs' d [125] w' h' (by omega) (by simp) (by omega)
  have HE3 : Hid (∀ bs' w', WrAt base p bs' d w' → bs'.length ≤ 2000000 → Calls Tryd.prog 15 #[.pointer (some ⟨p, 0, none⟩), .string ⟨#[125, 32, 101, 108, 115, 101, 32, 123]⟩] w' fun e w'' => e = .returned (.tuple #[]) ∧ WrPost base p (bs' ++ lineT d [125, 32, 101, 108, 115, 101, 32, 123]) d w' w'') := fun bs' w' h' hl' => line_any base p bs' d [125, 32, 101, 108, 115, 101, 32, 123] w' h' (by omega) (by simp) (by omega)
  have HLN := Lib.hid hlen2
  have HFU := Lib.hid hfull
  unfold exprV strV at HE
  unfold stmtV
  rw [hfull]
  have q1 : ¬ (0 : Int) < (s.el.length : Int) := by omega
  clear hts hv hk hw ht hX hT hL hlen hok hel htx hcv hqT hqL hlen2 hfull hz
  go_enter Tryd.func37, Tryd.ntmps37
  have j1 : ¬ (9223372036854775807 < (mkB s.kind).size + 1) := by omega
  have j2 : ¬ (9223372036854775807 < (mkB s.kind).size + 1 + (mkB (textE s.e)).size) := by omega
  have j3 : ¬ (9223372036854775807 < (mkB s.kind).size + 1 + (mkB (textE s.e)).size + 2) := by omega
  go_upto_region 11 with fail
  go_region_held3 (fun w' => w'.cell? ⟨w.heap.size, 0, none⟩ = some (.string (mkB s.kind)) ∧ w'.cell? ⟨w.heap.size, 1, none⟩ = some (.string (mkB s.name)) ∧ w'.cell? ⟨w.heap.size, 2, none⟩ = some (.string (mkB s.e.kind)) ∧ w'.cell? ⟨w.heap.size, 3, none⟩ = some (.int .i64 s.e.num) ∧ w'.cell? ⟨w.heap.size, 4, none⟩ = some (.string (mkB s.e.name)) ∧ w'.cell? ⟨w.heap.size, 5, none⟩ = some (.slice X s.e.kids.length x) ∧ w'.cell? ⟨w.heap.size, 6, none⟩ = some (.slice T s.th.length t) ∧ w'.cell? ⟨w.heap.size, 7, none⟩ = some (.slice L s.el.length l))
    (with_reducible first
      | exact row8 HBX2.out
      | exact row8 HBX1.out
      | exact row8 HBX0.out)
    (first
      | (go_at_call 14; (with_reducible refine (HE.out _ HP0.out.bel).mono ?_); rintro y w1 ⟨rfl, hb1⟩; have HP1 := Lib.hid (WrPost.below HW0.out hb1); have HBX1 := Lib.hid (row_below HBX0.out hb1))
      | (go_at_call 15; (with_reducible refine (HL.out _ HP1.out.wr).mono ?_); rintro y w2 ⟨rfl, hp2⟩; have HP2 := Lib.hid hp2; have HBX2 := Lib.hid (hp2.kp _ _ _ _ (by omega) stmt_byte HBX1.out); clear hp2))
  all_goals obtain ⟨u0, u1, u2, u3, u4, u5, u6, u7⟩ := row8 HBX2.out
  all_goals have HQ2 := Lib.hid (HP0.out.trans (HP1.out.trans HP2.out))
  all_goals go_wp2_with (first
    | (go_at_call 17; (with_reducible refine (HTT.out _ _ HQ2.out.wr HQ2.out.bel (by have := HLN.out; simp only [List.length_append] at this ⊢; omega)).mono ?_); rintro y w3 ⟨rfl, hp3⟩; have HBX3 := Lib.hid (hp3.kp _ _ _ _ (by omega) stmt_byte HBX2.out); have HQ3 := Lib.hid (HQ2.out.trans hp3); clear hp3; obtain ⟨v0, v1, v2, v3, v4, v5, v6, v7⟩ := row8 HBX3.out)
    | (go_at_call 15; (with_reducible refine (HE2.out _ _ HQ3.out.wr (by have := HLN.out; simp only [List.length_append] at this ⊢; omega)).mono ?_); rintro y w4 ⟨rfl, hp4⟩))
  all_goals go_end0
  all_goals exact ⟨rfl, HQ3.out.trans hp4⟩
set_option maxHeartbeats 4000000 in
set_option maxRecDepth 100000 in
theorem sstmt_while1 (base p d : Nat) (s : PStmt) (htx : TxS d s) (hk : s.kind = sWhile) (hz : s.el.length ≠ 0) (hqT : SBlockC base p d s.th) (hqL : SBlockC base p d s.el) : SStmtC base p d s := by
  intro bs w X x T t L l hw ht hX hT hL hlen
  have g0 : ((mkB s.kind).toList == [118, 97, 114]) = false := by rw [mkB_toList, hk]; rfl
  have g1 : ((mkB s.kind).toList == [115, 101, 116]) = false := by rw [mkB_toList, hk]; rfl
  have g2 : ((mkB s.kind).toList == [114, 101, 116, 117, 114, 110]) = false := by rw [mkB_toList, hk]; rfl
  have g3 : ((mkB s.kind).toList == [112, 114, 105, 110, 116]) = false := by rw [mkB_toList, hk]; rfl
  have g4 : ((mkB s.kind).toList == [105, 102]) = false := by rw [mkB_toList, hk]; rfl
  have g5 : ((mkB s.kind).toList == [119, 104, 105, 108, 101]) = true := by rw [mkB_toList, hk]; rfl
  have hts := textS_eq s d
  have hv := hts.trans ((if_neg (by rw [hk]; decide)).trans ((if_neg (by rw [hk]; decide)).trans ((if_neg (by rw [hk]; decide)).trans (if_pos (.inr hk)))))
  obtain ⟨hd100, hkl, hnl, hok, hel, htl, hll, -, -⟩ := htx.all
  have hB : base ≤ w.heap.size := by have := hw.1; have := hw.lt; omega
  have hpw := hw.lt
  have hsz3 : (mkB (textE s.e)).size ≤ 1000000 := by rw [mkB_len]; exact hel
  have hsz4 : (mkB s.name).size ≤ 20 := by rw [mkB_len]; exact hnl
  have hsz5 : (mkB s.kind).size ≤ 20 := by rw [mkB_len]; exact hkl
  have HE : Hid (∀ w', Below base w w' → Calls Tryd.prog 14 #[exprV s.e X x] w' (Ret (strV (textE s.e)) w')) := fun w' hb => ShowExpr_any s.e hok hel (fun n => n < base) X x w' (ht.keep hb).at (hX.keep (keepsLow hb) (fun _ h => h))
  have hcv : mkB s.kind ++ ⟨#[32]⟩ ++ mkB (textE s.e) ++ ⟨#[32, 123]⟩ = mkB (s.kind ++ [32] ++ textE s.e ++ [32, 123]) := by simp only [show ∀ a : List UInt8, (⟨a.toArray⟩ : ByteArray) = mkB a from fun _ => rfl, mkB_app]
  have HL : Hid (∀ w', WrAt base p bs d w' → Calls Tryd.prog 15 #[.pointer (some ⟨p, 0, none⟩), .string (mkB s.kind ++ ⟨#[32]⟩ ++ mkB (textE s.e) ++ ⟨#[32, 123]⟩)] w' fun e w'' => e = .returned (.tuple #[]) ∧ WrPost base p (bs ++ lineT d (s.kind ++ [32] ++ textE s.e ++ [32, 123])) d w' w'') := fun w' h' => by
    rw [hcv]
    exact line_any base p bs d _ w' h' (by omega) (by simp only [List.length_append, List.length_cons, List.length_nil]; omega) (by omega)
  have HW0 : Hid (WrAt base p bs d (w.alloc (.cells #[.string (mkB s.kind), .string (mkB s.name), .string (mkB s.e.kind), .int .i64 s.e.num, .string (mkB s.e.name), .slice X s.e.kids.length x, .slice T s.th.length t, .slice L s.el.length l] 44)).drew) := show WrAt _ _ _ _ _ from hw.below ((grow_alloc (grow_refl w) _).drew)
  have HP0 : Hid (WrPost base p bs d w (w.alloc (.cells #[.string (mkB s.kind), .string (mkB s.name), .string (mkB s.e.kind), .int .i64 s.e.num, .string (mkB s.e.name), .slice X s.e.kids.length x, .slice T s.th.length t, .slice L s.el.length l] 44)).drew) := show WrPost _ _ _ _ _ _ from WrPost.below hw ((grow_alloc (grow_refl w) _).drew)
  have HBX0 : Hid ((w.alloc (.cells #[.string (mkB s.kind), .string (mkB s.name), .string (mkB s.e.kind), .int .i64 s.e.num, .string (mkB s.e.name), .slice X s.e.kids.length x, .slice T s.th.length t, .slice L s.el.length l] 44)).drew.heap[w.heap.size]? = some (.cells #[.string (mkB s.kind), .string (mkB s.name), .string (mkB s.e.kind), .int .i64 s.e.num, .string (mkB s.e.name), .slice X s.e.kids.length x, .slice T s.th.length t, .slice L s.el.length l] 44)) := show _ = _ from heap_alloc_new w _
  have hlen2 : (bs ++ lineT d (s.kind ++ [32] ++ textE s.e ++ [32, 123]) ++ textB s.th (d + 1) ++ lineT d [125, 32, 101, 108, 115, 101, 32, 123] ++ textB s.el (d + 1) ++ lineT d [125]).length ≤ 2000000 := by
    have e := congrArg List.length hv
    rw [if_neg hz] at e
    simp only [List.length_append, List.length_nil] at e ⊢
    omega
  have hfull : bs ++ textS s d = (bs ++ lineT d (s.kind ++ [32] ++ textE s.e ++ [32, 123]) ++ textB s.th (d + 1) ++ lineT d [125, 32, 101, 108, 115, 101, 32, 123] ++ textB s.el (d + 1) ++ lineT d [125]) := by rw [hv, if_neg hz]; simp only [List.append_assoc, List.nil_append, List.append_nil]
  have HTT : Hid (∀ bs' w', WrAt base p bs' d w' → Below base w w' → bs'.length + (textB s.th (d + 1)).length ≤ 2000000 → Calls Tryd.prog 17 #[.pointer (some ⟨p, 0, none⟩), .slice T s.th.length t] w' fun e w'' => e = .returned (.tuple #[]) ∧ WrPost base p (bs' ++ textB s.th (d + 1)) d w' w'') := fun bs' w' h' hb hl' => hqT bs' w' T t h' (ht.keep hb) (hT.keep (keepsLow hb) (fun _ h => h)) hl'
  have HLL : Hid (∀ bs' w', WrAt base p bs' d w' → Below base w w' → bs'.length + (textB s.el (d + 1)).length ≤ 2000000 → Calls Tryd.prog 17 #[.pointer (some ⟨p, 0, none⟩), .slice L s.el.length l] w' fun e w'' => e = .returned (.tuple #[]) ∧ WrPost base p (bs' ++ textB s.el (d + 1)) d w' w'') := fun bs' w' h' hb hl' => hqL bs' w' L l h' (ht.keep hb) (hL.keep (keepsLow hb) (fun _ h => h)) hl'
  have HE2 : Hid (∀ bs' w', WrAt base p bs' d w' → bs'.length ≤ 2000000 → Calls Tryd.prog 15 #[.pointer (some ⟨p, 0, none⟩), .string ⟨#[125]⟩] w' fun e w'' => e = .returned (.tuple #[]) ∧ WrPost base p (bs' ++ lineT d [125]) d w' w'') := fun bs' w' h' hl' => line_any base p bs' d [125] w' h' (by omega) (by simp) (by omega)
  have HE3 : Hid (∀ bs' w', WrAt base p bs' d w' → bs'.length ≤ 2000000 → Calls Tryd.prog 15 #[.pointer (some ⟨p, 0, none⟩), .string ⟨#[125, 32, 101, 108, 115, 101, 32, 123]⟩] w' fun e w'' => e = .returned (.tuple #[]) ∧ WrPost base p (bs' ++ lineT d [125, 32, 101, 108, 115, 101, 32, 123]) d w' w'') := fun bs' w' h' hl' => line_any base p bs' d [125, 32, 101, 108, 115, 101, 32, 123] w' h' (by omega) (by simp) (by omega)
  have HLN := Lib.hid hlen2
  have HFU := Lib.hid hfull
  unfold exprV strV at HE
  unfold stmtV
  rw [hfull]
  have q1 : 0 < s.el.length := by omega
  clear hts hv hk hw ht hX hT hL hlen hok hel htx hcv hqT hqL hlen2 hfull hz
  go_enter Tryd.func37, Tryd.ntmps37
  have j1 : ¬ (9223372036854775807 < (mkB s.kind).size + 1) := by omega
  have j2 : ¬ (9223372036854775807 < (mkB s.kind).size + 1 + (mkB (textE s.e)).size) := by omega
  have j3 : ¬ (9223372036854775807 < (mkB s.kind).size + 1 + (mkB (textE s.e)).size + 2) := by omega
  go_upto_region 11 with fail
  go_region_held3 (fun w' => w'.cell? ⟨w.heap.size, 0, none⟩ = some (.string (mkB s.kind)) ∧ w'.cell? ⟨w.heap.size, 1, none⟩ = some (.string (mkB s.name)) ∧ w'.cell? ⟨w.heap.size, 2, none⟩ = some (.string (mkB s.e.kind)) ∧ w'.cell? ⟨w.heap.size, 3, none⟩ = some (.int .i64 s.e.num) ∧ w'.cell? ⟨w.heap.size, 4, none⟩ = some (.string (mkB s.e.name)) ∧ w'.cell? ⟨w.heap.size, 5, none⟩ = some (.slice X s.e.kids.length x) ∧ w'.cell? ⟨w.heap.size, 6, none⟩ = some (.slice T s.th.length t) ∧ w'.cell? ⟨w.heap.size, 7, none⟩ = some (.slice L s.el.length l))
    (with_reducible first
      | exact row8 HBX2.out
      | exact row8 HBX1.out
      | exact row8 HBX0.out)
    (first
      | (go_at_call 14; (with_reducible refine (HE.out _ HP0.out.bel).mono ?_); rintro y w1 ⟨rfl, hb1⟩; have HP1 := Lib.hid (WrPost.below HW0.out hb1); have HBX1 := Lib.hid (row_below HBX0.out hb1))
      | (go_at_call 15; (with_reducible refine (HL.out _ HP1.out.wr).mono ?_); rintro y w2 ⟨rfl, hp2⟩; have HP2 := Lib.hid hp2; have HBX2 := Lib.hid (hp2.kp _ _ _ _ (by omega) stmt_byte HBX1.out); clear hp2))
  all_goals obtain ⟨u0, u1, u2, u3, u4, u5, u6, u7⟩ := row8 HBX2.out
  all_goals have HQ2 := Lib.hid (HP0.out.trans (HP1.out.trans HP2.out))
  all_goals go_wp2_with (first
    | (go_at_call 17; (with_reducible refine (HTT.out _ _ HQ2.out.wr HQ2.out.bel (by have := HLN.out; simp only [List.length_append] at this ⊢; omega)).mono ?_); rintro y w3 ⟨rfl, hp3⟩; have HBX3 := Lib.hid (hp3.kp _ _ _ _ (by omega) stmt_byte HBX2.out); have HQ3 := Lib.hid (HQ2.out.trans hp3); clear hp3; obtain ⟨v0, v1, v2, v3, v4, v5, v6, v7⟩ := row8 HBX3.out)
    | (go_at_call 15; (with_reducible refine (HE3.out _ _ HQ3.out.wr (by have := HLN.out; simp only [List.length_append] at this ⊢; omega)).mono ?_); rintro y w4 ⟨rfl, hp4⟩; have HBX4 := Lib.hid (hp4.kp _ _ _ _ (by omega) stmt_byte HBX3.out); have HQ4 := Lib.hid (HQ3.out.trans hp4); clear hp4; obtain ⟨m0, m1, m2, m3, m4, m5, m6, m7⟩ := row8 HBX4.out)
    | (go_at_call 17; (with_reducible refine (HLL.out _ _ HQ4.out.wr HQ4.out.bel (by have := HLN.out; simp only [List.length_append] at this ⊢; omega)).mono ?_); rintro y w5 ⟨rfl, hp5⟩; have HQ5 := Lib.hid (HQ4.out.trans hp5); clear hp5)
    | (go_at_call 15; (with_reducible refine (HE2.out _ _ HQ5.out.wr (by have := HLN.out; simp only [List.length_append] at this ⊢; omega)).mono ?_); rintro y w6 ⟨rfl, hp6⟩))
  all_goals go_end0
  all_goals exact ⟨rfl, HQ5.out.trans hp6⟩
set_option maxHeartbeats 4000000 in
set_option maxRecDepth 100000 in
theorem sstmt_none (base p d : Nat) (s : PStmt) (h0 : s.kind ≠ sVar) (h1 : s.kind ≠ sSet) (h2 : s.kind ≠ sReturn) (h3 : s.kind ≠ sPrint) (h4 : s.kind ≠ sIf) (h5 : s.kind ≠ sWhile) : SStmtC base p d s := by
  intro bs w X x T t L l hw ht hX hT hL hlen
  have g0 : ((mkB s.kind).toList == [118, 97, 114]) = false := by rw [mkB_toList]; exact beq_eq_false_iff_ne.2 h0
  have g1 : ((mkB s.kind).toList == [115, 101, 116]) = false := by rw [mkB_toList]; exact beq_eq_false_iff_ne.2 h1
  have g2 : ((mkB s.kind).toList == [114, 101, 116, 117, 114, 110]) = false := by rw [mkB_toList]; exact beq_eq_false_iff_ne.2 h2
  have g3 : ((mkB s.kind).toList == [112, 114, 105, 110, 116]) = false := by rw [mkB_toList]; exact beq_eq_false_iff_ne.2 h3
  have g4 : ((mkB s.kind).toList == [105, 102]) = false := by rw [mkB_toList]; exact beq_eq_false_iff_ne.2 h4
  have g5 : ((mkB s.kind).toList == [119, 104, 105, 108, 101]) = false := by rw [mkB_toList]; exact beq_eq_false_iff_ne.2 h5
  have hv := (textS_eq s d).trans ((if_neg h0).trans ((if_neg h1).trans ((if_neg (by rintro (h | h); exact h2 h; exact h3 h)).trans (if_neg (by rintro (h | h); exact h4 h; exact h5 h)))))
  rw [hv, List.append_nil]
  have HP : Hid (WrPost base p bs d w (w.alloc (.cells #[.string (mkB s.kind), .string (mkB s.name), .string (mkB s.e.kind), .int .i64 s.e.num, .string (mkB s.e.name), .slice X s.e.kids.length x, .slice T s.th.length t, .slice L s.el.length l] 44))) := show WrPost _ _ _ _ _ _ from WrPost.below hw (grow_alloc (grow_refl w) _)
  unfold stmtV
  clear h0 h1 h2 h3 h4 h5 hv hlen hX hT hL ht hw
  go_enter Tryd.func37, Tryd.ntmps37
  go_wp2_with fail
  go_end0
  exact ⟨rfl, HP.out⟩
end Go.Proofs.YtpfgimohginbdaaDoor
