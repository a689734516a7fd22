import Derived.Test.YtnpdjncgilekhaaGreatDoorBn7
namespace Go.Proofs.YtnpdjncgilekhaaGreatDoor
open Go.RowKit

theorem exprInfo : (Tryz.prog.info? 56).map (fun i => (i.zero, i.size, i.bytes)) = some (some (.agg #[.string ⟨#[]⟩, .int .i64 0, .string ⟨#[]⟩, .slice none 0 0]), 4, 64) := by kernel_rfl
def newAt (w : World) (n : Nat) : Prop := w.heap.size ≤ n
def exprV (e : PExpr) (A : Option Addr) (c : Nat) : Value := .agg #[.string (mkB e.kind), .int .i64 e.num, .string (mkB e.name), .slice A e.kids.length c]
set_option maxHeartbeats 1000000 in
set_option maxRecDepth 100000 in
theorem AsExpr_any : ∀ e : PExpr, SmE e → ∀ (S : Nat → Prop) (A : Option Addr) (c : Nat) (w : World), RdE w S e.kids A →
    Calls Tryz.prog 63 #[exprV e A c] w fun x w' => ∃ B d, x = .returned (exprV e B d) ∧ RdE w' (newAt w) e.kids B ∧ Below w.heap.size w w' := by
  intro e
  induction e using PExpr.ind with
  | h e ih =>
  intro hs S A c w hr
  have HS := Lib.hid hs
  have h8 := hs.len
  have HR := Lib.hid hr
  have IH : Hid (∀ (i : Nat) (hi : i < e.kids.length) (S : Nat → Prop) (A : Option Addr) (c : Nat) (w : World), RdE w S e.kids[i].kids A →
    Calls Tryz.prog 63 #[exprV e.kids[i] A c] w fun x w' => ∃ B d, x = .returned (exprV e.kids[i] B d) ∧ RdE w' (newAt w) e.kids[i].kids B ∧ Below w.heap.size w w') :=
    fun i hi => ih _ (List.getElem_mem hi) (hs.kid _ (List.getElem_mem hi))
  clear ih hs hr
  obtain ⟨ti, hi, hz0, hz1, hz2⟩ := info_parts exprInfo
  unfold exprV
  go_enter Tryz.func63, Tryz.ntmps63
  go_wp2_with fail
  go_loopw [4, 5] (fun i _ wr => ∃ (k : Nat) (v : Value) (ts : List EC), k ≤ e.kids.length ∧ i = .int .i64 k ∧ ts.map (·.e) = e.kids.take k ∧ wr.heap[w.heap.size + 1 + 1]? = some (.cells #[.string (mkB e.kind), .int .i64 e.num, .string (mkB e.name), v] 56 (0, 0)) ∧
    wr.ownsRow (w.heap.size + 3) 56 4 v k (ts.flatMap EC.cells) ∧ (∀ t ∈ ts, t.Ok wr (Apart (w.heap.size + 3) v)) ∧ Below w.heap.size w wr ∧ w.heap.size + 3 ≤ wr.heap.size ∧ wr.cell? ⟨w.heap.size, 3, none⟩ = some (.slice A e.kids.length c) ∧ wr.heap[w.heap.size + 1]? = some (.cells #[.string ⟨#[]⟩, .int .i64 0, .string ⟨#[]⟩, .slice none 0 0] 56 (0, 0))) (fun i _ _ => e.kids.length - (intOf i).toNat)
  case atStart => exact ⟨0, .slice none 0 0, [], Nat.zero_le _, rfl, rfl, new_block _ _ (by simp), World.ownsRow_nil _ _ _ _, (fun t h => by cases h), grow_alloc (grow_alloc (grow_alloc (grow_refl w) _) _) _, by simp, Keeps.alloc _ _ _ _ (Keeps.alloc _ _ _ _ (cell_of_row _ _ 3 _ _ _ (new_block _ _ rfl))), (old_block _ _ (by simp)).trans (new_block _ _ (by simp))⟩
  case round =>
    obtain ⟨k, v, ts, hk, rfl, hts, hout, hown, hok, hbel, hsz, hbox, hres⟩ := hrel
    have hout3 : wr.cell? ⟨w.heap.size + 1 + 1, 3, none⟩ = some v := cell_of_row _ _ 3 _ _ _ hout
    by_cases hlt : k < e.kids.length
    · obtain ⟨b, off, B, d, rfl, -, hcells, hnum, hkid⟩ := (HR.out.keep ((Keeps.of_below hbel).in S) (fun _ h => h)).at hlt
      obtain ⟨c0, c1, c2, c3⟩ := cells_expr hcells
      have hlt' : (k : Int) < (e.kids.length : Int) := by omega
      have HK := Lib.hid (IH.out k hlt S B d wr hkid)
      unfold exprV at HK
      have HO := Lib.hid hown
      have HOK := Lib.hid hok
      have HOUT := Lib.hid hout
      have HNUM := Lib.hid hnum
      have HRES := Lib.hid hres
      clear hown hok hcells hkid hout hnum hres
      go_wp2_with (first
        | (go_at_call 63; (with_reducible refine HK.out.mono ?_); rintro x w1 ⟨B1, d1, rfl, hr1, hb1⟩; have ho1 := Keeps.of_below hb1 _ _ hout3; have ho2 : (w1.alloc (.cells #[.string (mkB e.kids[k].kind), .int .i64 e.kids[k].num, .string (mkB e.kids[k].name), .slice B1 e.kids[k].kids.length d1] 56)).cell? ⟨w.heap.size + 1 + 1, 3, none⟩ = some v := Keeps.alloc _ _ _ _ ho1)
        | (at_builtin; refine wpList_append_own_at _ rfl _ _ 54 rfl (w.heap.size + 3) 56 ti _ 4 64 Tryz.underlying54 hi hz0 hz1 hz2 rfl (by decide) _ _ _ rfl (((ownsRow_below HO.out hb1).alloc _).alloc _) ⟨w1.heap.size + 1, 0, none⟩ 1 1 (exprL e.kids[k] B1 d1) rfl rfl ?c1 ?c2 ?c3 ?c4 ?c5 ?_))
      case c1 =>
        intro i u hu
        match i, hu with
        | 0, hu => simp [exprL] at hu; subst hu; simp [Addr.add]
        | 1, hu => simp [exprL] at hu; subst hu; simp [Addr.add]
        | 2, hu => simp [exprL] at hu; subst hu; simp [Addr.add]
        | 3, hu => simp [exprL] at hu; subst hu; simp [Addr.add]
      case c2 => intro u hu; simp [exprL] at hu; rcases hu with rfl | rfl | rfl | rfl <;> rfl
      case c3 => unfold maxLen; omega
      case c4 => omega
      case c5 => have := hb1.size; simp; omega
      · intro v' w2 hown' hgrow _ hat
        obtain ⟨A', c', rfl⟩ := owns_slice hown'
        have hsz1 := hb1.size
        have hout2 : w2.heap[w.heap.size + 1 + 1]? = some (.cells #[.string (mkB e.kind), .int .i64 e.num, .string (mkB e.name), v] 56 (0, 0)) := by
          have h1 := (hb1.block (w.heap.size + 1 + 1) (by omega)).trans HOUT.out
          have h2 := hgrow.block (w.heap.size + 1 + 1) (by simp; omega) (fun q => by have := (HO.out.lt _ q.symm).1; omega)
          rw [h2, old_block _ _ (by simp; omega), old_block _ _ (by omega)]
          exact h1
        have HRES2 : Hid (w2.heap[w.heap.size + 1]? = some (.cells #[.string ⟨#[]⟩, .int .i64 0, .string ⟨#[]⟩, .slice none 0 0] 56 (0, 0))) := by
          show w2.heap[w.heap.size + 1]? = _
          have h1 := (hb1.block (w.heap.size + 1) (by omega)).trans HRES.out
          have h2 := hgrow.block (w.heap.size + 1) (by simp; omega) (fun q => by have := (HO.out.lt _ q.symm).1; omega)
          rw [h2, old_block _ _ (by simp; omega), old_block _ _ (by omega)]
          exact h1
        have hb2 : Below w.heap.size w w2 := Below.grown ((((hbel.trans (hb1.mono hbel.size)).alloc (Nat.le_trans hbel.size hb1.size) _).alloc (by simp; have := hbel.size; omega) _)) hgrow (by simp; have := hbel.size; omega) (fun k hk => by have := (HO.out.lt k hk).1; omega)
        have hbox2 : w2.cell? ⟨w.heap.size, 3, none⟩ = some (.slice (some ⟨b, off, none⟩) e.kids.length c) := by
          have h1 := Keeps.of_below hb1 _ _ hbox
          exact hgrow.cell (Keeps.alloc _ _ _ _ (Keeps.alloc _ _ _ _ h1)) (fun q => by have := (HO.out.lt _ q.symm).1; simp at this; omega)
        have HOK2 : Hid (∀ t ∈ ts ++ [(⟨e.kids[k], B1, d1⟩ : EC)], t.Ok w2 (Apart (w.heap.size + 3) (.slice A' (k + 1) c'))) := by
          intro t ht
          rcases List.mem_append.1 ht with h | h
          · exact (((HOK.out t h).keep ((Keeps.of_below hb1).in _) (fun _ h => h)).lt).keep (apart_app hgrow) (apart_own (w1 := w1) hat (by omega))
          · simp only [List.mem_singleton] at h
            subst h
            refine EC.Ok.keep (apart_app hgrow) (apart_own (w1 := w1) hat (by omega)) (EC.Ok.lt (t := ⟨e.kids[k], B1, d1⟩) (S := Apart (w.heap.size + 3) v) ⟨HNUM.out, hr1.keep (Keeps.in (Keeps.refl _) _) (fun n hn => ⟨Nat.le_trans hsz hn, fun q => ?_⟩)⟩)
            have := (HO.out.lt _ q.symm).2
            have hn' : wr.heap.size ≤ n := hn
            omega
        have HOWN2 : Hid (w2.ownsRow (w.heap.size + 3) 56 4 (.slice A' (k + 1) c') (k + 1) ((ts ++ [(⟨e.kids[k], B1, d1⟩ : EC)]).flatMap EC.cells)) := by
          show w2.ownsRow _ _ _ _ _ _
          rw [List.flatMap_append, List.flatMap_singleton]
          exact hown'
        have hsz2 : w.heap.size + 3 ≤ w2.heap.size := by have := hgrow.size; simp at this; omega
        have f1 : w2.cell? ⟨w.heap.size + 1 + 1, 3, none⟩ = some v := cell_of_row _ _ 3 _ _ _ hout2
        have f2 : w2.frozen? ⟨w.heap.size + 1 + 1, 3, none⟩ = false := row_frozen hout2 3
        have HOUT2 := Lib.hid hout2
        clear hown' hgrow hat hr1 ho1 ho2 hb1 c0 c1 c2 c3 hout3 hout2
        go_wp2_with fail
        go_roundw
        case rel =>
          refine ⟨k + 1, .slice A' (k + 1) c', ts ++ [(⟨e.kids[k], B1, d1⟩ : EC)], by omega, by go_num, map_snoc hts hlt _ rfl, row_set _ HOUT2.out (by simp), ownsRow_store HOWN2.out (by omega) _, ?_, hb2.setCell (by simp; omega) _, by simpa using hsz2, ?_, ?_⟩
          · intro t ht
            exact (HOK2.out t ht).keep (keeps_store _ (fun n hn e => by have := hn.1; omega)) (fun _ h => h)
          · exact (World.cell?_of_block (Below.heap_setCell _ _ _ _ (by simp; omega))).trans hbox2
          · exact (Below.heap_setCell _ _ _ _ (by simp)).trans HRES2.out
        case measure => simp [intOf]; omega
    · have hk' : k = e.kids.length := by omega
      subst hk'
      have hl := map_len hts (Nat.le_refl _)
      rw [List.take_length] at hts
      have hown1 : wr.ownsRow (w.heap.size + 3) 56 4 v ts.length (ts.flatMap EC.cells) := by rw [hl]; exact hown
      obtain ⟨B, d, hv, hrd⟩ := EC.row hown1 hok
      rw [hl] at hv
      subst hv
      rw [hts] at hrd
      have r0 := cell_of_row _ _ 0 _ _ _ hres
      have r1 := cell_of_row _ _ 1 _ _ _ hres
      have r2 := cell_of_row _ _ 2 _ _ _ hres
      have r3 := cell_of_row _ _ 3 _ _ _ hres
      have o0 := cell_of_row _ _ 0 _ _ _ hout
      have o1 := cell_of_row _ _ 1 _ _ _ hout
      have o2 := cell_of_row _ _ 2 _ _ _ hout
      have z0 := row_frozen hres 0
      have z1 := row_frozen hres 1
      have z2 := row_frozen hres 2
      have z3 := row_frozen hres 3
      have HOUT := Lib.hid hout
      have HRES := Lib.hid hres
      have HRD := Lib.hid hrd
      clear hout hres hrd hown hown1 hok hts hl IH HR
      go_wp2_with fail
      have hrow := row_set (j := 3) (cs' := #[.string (mkB e.kind), .int .i64 e.num, .string (mkB e.name), .slice B e.kids.length d]) (.slice B e.kids.length d) (row_set (j := 2) (cs' := #[.string (mkB e.kind), .int .i64 e.num, .string (mkB e.name), .slice none 0 0]) (.string (mkB e.name)) (row_set (j := 1) (cs' := #[.string (mkB e.kind), .int .i64 e.num, .string ⟨#[]⟩, .slice none 0 0]) (.int .i64 e.num) (row_set (j := 0) (cs' := #[.string (mkB e.kind), .int .i64 0, .string ⟨#[]⟩, .slice none 0 0]) (.string (mkB e.kind)) HRES.out (by simp)) (by simp)) (by simp)) (by simp)
      have q0 := cell_of_row _ _ 0 _ _ _ hrow
      have q1 := cell_of_row _ _ 1 _ _ _ hrow
      have q2 := cell_of_row _ _ 2 _ _ _ hrow
      have q3 := cell_of_row _ _ 3 _ _ _ hrow
      refine bodyPost_ret (by simp [results, Tryz.results63, go_sem, q0, q1, q2, q3]; try rfl) rfl ?_
      have hS : ∀ n, w.heap.size + 3 ≤ n → n ≠ w.heap.size + 1 := fun n hn e => by omega
      exact ⟨B, d, rfl, (((HRD.out.keep (keeps_store _ hS) (fun _ h => h)).keep (keeps_store _ hS) (fun _ h => h)).keep (keeps_store _ hS) (fun _ h => h)).keep (keeps_store _ hS) (fun n h => by unfold newAt; omega),
        (((hbel.setCell (by simp) _).setCell (by simp) _).setCell (by simp) _).setCell (by simp) _⟩
end Go.Proofs.YtnpdjncgilekhaaGreatDoor
