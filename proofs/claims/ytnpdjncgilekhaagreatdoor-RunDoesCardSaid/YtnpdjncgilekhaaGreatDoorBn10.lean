import Derived.Deep.RegionHeld3
import Derived.Deep.DeepCutAuto
import Derived.Test.YtnpdjncgilekhaaGreatDoorBn9
namespace Go.Proofs.YtnpdjncgilekhaaGreatDoor
open Go.RowKit

theorem stmtInfo : (Tryz.prog.info? 58).map (fun i => (i.zero, i.size, i.bytes)) = some (some (.agg #[.string ⟨#[]⟩, .string ⟨#[]⟩, .string ⟨#[]⟩, .int .i64 0, .string ⟨#[]⟩, .slice none 0 0, .slice none 0 0, .slice none 0 0]), 8, 144) := by kernel_rfl
def AsStmtsC (ss : List PStmt) : Prop := ∀ (S : Nat → Prop) (A : Option Addr) (c : Nat) (w : World), RdS w S ss A →
    Calls Tryz.prog 46 #[.slice A ss.length c] w fun x w' => ∃ B d, x = .returned (.slice B ss.length d) ∧ RdS w' (newAt w) ss B ∧ Below w.heap.size w w'
theorem bel_alloc {a w : World} (h : Below a.heap.size a w) (o : Obj) : Below a.heap.size a (w.alloc o) := grow_alloc h o
theorem bel_drew {a w : World} (h : Below a.heap.size a w) : Below a.heap.size a w.drew := h.drew
theorem hsz_alloc (w : World) (o : Obj) : (w.alloc o).heap.size = w.heap.size + 1 := by simp
theorem hsz_drew (w : World) : w.drew.heap.size = w.heap.size := rfl
theorem bel_refl (a : World) : Below a.heap.size a a := Below.refl _ _
theorem bel_set {a w : World} {b j : Nat} (h : Below a.heap.size a w) (hp : a.heap.size ≤ b) (u : Value) : Below a.heap.size a (w.setCell ⟨b, j, none⟩ u) := h.setCell hp u
def StmtAt (wr w' : World) (p : Nat) (s : PStmt) (X : Option Addr) (x : Nat) (T : Option Addr) (t : Nat) (L : Option Addr) (l : Nat) : Prop :=
  w'.heap[p]? = some (.cells #[.string (mkB s.kind), .string (mkB s.name), .string (mkB s.e.kind), .int .i64 s.e.num, .string (mkB s.e.name), .slice X s.e.kids.length x, .slice T s.th.length t, .slice L s.el.length l] 58 (0, 0)) ∧
    RdE w' (newAt wr) s.e.kids X ∧ RdS w' (newAt wr) s.th T ∧ RdS w' (newAt wr) s.el L ∧ Below wr.heap.size wr w'
theorem stmt_set {w : World} {p : Nat} (v0 v1 v2 v3 v4 v5 v6 v7 : Value) {T : TypeId} {z0 z1 z2 z3 z4 z5 z6 z7 : Value} (h : w.heap[p]? = some (.cells #[z0, z1, z2, z3, z4, z5, z6, z7] T (0, 0))) :
    ((((((((w.setCell ⟨p, 0, none⟩ v0).setCell ⟨p, 1, none⟩ v1).setCell ⟨p, 2, none⟩ v2).setCell ⟨p, 3, none⟩ v3).setCell ⟨p, 4, none⟩ v4).setCell ⟨p, 5, none⟩ v5).setCell ⟨p, 6, none⟩ v6).setCell ⟨p, 7, none⟩ v7).heap[p]? = some (.cells #[v0, v1, v2, v3, v4, v5, v6, v7] T (0, 0)) :=
  row_set (j := 7) (cs := #[v0, v1, v2, v3, v4, v5, v6, z7]) _ (row_set (j := 6) (cs := #[v0, v1, v2, v3, v4, v5, z6, z7]) _ (row_set (j := 5) (cs := #[v0, v1, v2, v3, v4, z5, z6, z7]) _ (row_set (j := 4) (cs := #[v0, v1, v2, v3, z4, z5, z6, z7]) _
    (row_set (j := 3) (cs := #[v0, v1, v2, z3, z4, z5, z6, z7]) _ (row_set (j := 2) (cs := #[v0, v1, z2, z3, z4, z5, z6, z7]) _ (row_set (j := 1) (cs := #[v0, z1, z2, z3, z4, z5, z6, z7]) _ (row_set (j := 0) _ h (by simp)) (by simp)) (by simp)) (by simp)) (by simp)) (by simp)) (by simp)) (by simp)
theorem keeps_set8 {w : World} {p : Nat} (v0 v1 v2 v3 v4 v5 v6 v7 : Value) {S : Nat → Prop} (hS : ∀ n, S n → n ≠ p) :
    KeepsIn S w ((((((((w.setCell ⟨p, 0, none⟩ v0).setCell ⟨p, 1, none⟩ v1).setCell ⟨p, 2, none⟩ v2).setCell ⟨p, 3, none⟩ v3).setCell ⟨p, 4, none⟩ v4).setCell ⟨p, 5, none⟩ v5).setCell ⟨p, 6, none⟩ v6).setCell ⟨p, 7, none⟩ v7) := fun a v hs hc =>
  keeps_store _ hS _ _ hs (keeps_store _ hS _ _ hs (keeps_store _ hS _ _ hs (keeps_store _ hS _ _ hs (keeps_store _ hS _ _ hs (keeps_store _ hS _ _ hs (keeps_store _ hS _ _ hs (keeps_store _ hS _ _ hs hc)))))))
theorem stmt_done {wr w : World} {p : Nat} {s : PStmt} {X : Option Addr} {x : Nat} {T : Option Addr} {t : Nat} {L : Option Addr} {l : Nat} {S1 S2 S3 : Nat → Prop} {z0 z1 z2 z3 z4 z5 z6 z7 : Value} (h : w.heap[p]? = some (.cells #[z0, z1, z2, z3, z4, z5, z6, z7] 58 (0, 0)))
    (h1 : RdE w S1 s.e.kids X) (h2 : RdS w S2 s.th T) (h3 : RdS w S3 s.el L) (hb : Below wr.heap.size wr w) (hp : wr.heap.size ≤ p) (n1 : ∀ n, S1 n → n ≠ p ∧ wr.heap.size ≤ n) (n2 : ∀ n, S2 n → n ≠ p ∧ wr.heap.size ≤ n) (n3 : ∀ n, S3 n → n ≠ p ∧ wr.heap.size ≤ n) :
    StmtAt wr ((((((((w.setCell ⟨p, 0, none⟩ (.string (mkB s.kind))).setCell ⟨p, 1, none⟩ (.string (mkB s.name))).setCell ⟨p, 2, none⟩ (.string (mkB s.e.kind))).setCell ⟨p, 3, none⟩ (.int .i64 s.e.num)).setCell ⟨p, 4, none⟩ (.string (mkB s.e.name))).setCell ⟨p, 5, none⟩ (.slice X s.e.kids.length x)).setCell ⟨p, 6, none⟩ (.slice T s.th.length t)).setCell ⟨p, 7, none⟩ (.slice L s.el.length l)) p s X x T t L l :=
  ⟨stmt_set _ _ _ _ _ _ _ _ h, h1.keep (keeps_set8 _ _ _ _ _ _ _ _ fun n hn => (n1 n hn).1) (fun n hn => (n1 n hn).2), h2.keep (keeps_set8 _ _ _ _ _ _ _ _ fun n hn => (n2 n hn).1) (fun n hn => (n2 n hn).2), h3.keep (keeps_set8 _ _ _ _ _ _ _ _ fun n hn => (n3 n hn).1) (fun n hn => (n3 n hn).2),
    bel_set (bel_set (bel_set (bel_set (bel_set (bel_set (bel_set (bel_set hb hp _) hp _) hp _) hp _) hp _) hp _) hp _) hp _⟩
theorem stmt_made {wr w : World} {s : PStmt} {X : Option Addr} {x : Nat} {T : Option Addr} {t : Nat} {L : Option Addr} {l : Nat} {S1 S2 S3 : Nat → Prop}
    (h1 : RdE w S1 s.e.kids X) (h2 : RdS w S2 s.th T) (h3 : RdS w S3 s.el L) (hb : Below wr.heap.size wr w) (n1 : ∀ n, S1 n → wr.heap.size ≤ n) (n2 : ∀ n, S2 n → wr.heap.size ≤ n) (n3 : ∀ n, S3 n → wr.heap.size ≤ n) :
    StmtAt wr (w.alloc (.cells #[.string (mkB s.kind), .string (mkB s.name), .string (mkB s.e.kind), .int .i64 s.e.num, .string (mkB s.e.name), .slice X s.e.kids.length x, .slice T s.th.length t, .slice L s.el.length l] 58 (0, 0))) w.heap.size s X x T t L l :=
  ⟨heap_alloc_new _ _, h1.keep ((Keeps.alloc _ _).in _) n1, h2.keep ((Keeps.alloc _ _).in _) n2, h3.keep ((Keeps.alloc _ _).in _) n3, grow_alloc hb _⟩
theorem row_stmt {w : World} {p : Nat} {s : PStmt} {X : Option Addr} {x : Nat} {T : Option Addr} {t : Nat} {L : Option Addr} {l : Nat}
    (h : w.heap[p]? = some (.cells #[.string (mkB s.kind), .string (mkB s.name), .string (mkB s.e.kind), .int .i64 s.e.num, .string (mkB s.e.name), .slice X s.e.kids.length x, .slice T s.th.length t, .slice L s.el.length l] 58 (0, 0))) :
    w.cell? ⟨p, 0, none⟩ = some (.string (mkB s.kind)) ∧ w.cell? ⟨p, 1, none⟩ = some (.string (mkB s.name)) ∧ w.cell? ⟨p, 2, none⟩ = some (.string (mkB s.e.kind)) ∧ w.cell? ⟨p, 3, none⟩ = some (.int .i64 s.e.num) ∧
      w.cell? ⟨p, 4, none⟩ = some (.string (mkB s.e.name)) ∧ w.cell? ⟨p, 5, none⟩ = some (.slice X s.e.kids.length x) ∧ w.cell? ⟨p, 6, none⟩ = some (.slice T s.th.length t) ∧ w.cell? ⟨p, 7, none⟩ = some (.slice L s.el.length l) :=
  ⟨cell_of_row _ _ 0 _ _ _ h, cell_of_row _ _ 1 _ _ _ h, cell_of_row _ _ 2 _ _ _ h, cell_of_row _ _ 3 _ _ _ h, cell_of_row _ _ 4 _ _ _ h, cell_of_row _ _ 5 _ _ _ h, cell_of_row _ _ 6 _ _ _ h, cell_of_row _ _ 7 _ _ _ h⟩
theorem stmt_seen {wr w' : World} {b o : Nat} {s : PStmt} {X : Option Addr} {x : Nat} {T : Option Addr} {t : Nat} {L : Option Addr} {l : Nat} (hb : Below wr.heap.size wr w') (h : CellsAt wr b o (stmtL s X x T t L l)) :
    Below wr.heap.size wr w' ∧ w'.cell? ⟨b, o, none⟩ = some (.string (mkB s.kind)) ∧ w'.cell? ⟨b, o + 1, none⟩ = some (.string (mkB s.name)) ∧ w'.cell? ⟨b, o + 2, none⟩ = some (.string (mkB s.e.kind)) ∧ w'.cell? ⟨b, o + 3, none⟩ = some (.int .i64 s.e.num) ∧
      w'.cell? ⟨b, o + 4, none⟩ = some (.string (mkB s.e.name)) ∧ w'.cell? ⟨b, o + 5, none⟩ = some (.slice X s.e.kids.length x) ∧ w'.cell? ⟨b, o + 6, none⟩ = some (.slice T s.th.length t) ∧ w'.cell? ⟨b, o + 7, none⟩ = some (.slice L s.el.length l) :=
  ⟨hb, cells_stmt (h.keep fun a v _ hv => Keeps.of_below hb a v hv)⟩
set_option maxHeartbeats 4000000 in
set_option maxRecDepth 100000 in
theorem AsStmts_list (ss : List PStmt) (hlen : ss.length ≤ 30) (hsm : ∀ s ∈ ss, SmS s) (hq : ∀ s ∈ ss, AsStmtsC s.th ∧ AsStmtsC s.el) : AsStmtsC ss := by
  intro S A c w hr
  have HR := Lib.hid hr
  have HQ := Lib.hid hq
  have HSM := Lib.hid hsm
  clear hq hsm hr
  obtain ⟨ti, hi, hz0, hz1, hz2⟩ := info_parts stmtInfo
  go_enter Tryz.func46, Tryz.ntmps46
  go_wp2_with fail
  go_loopw [3, 4, 5] (fun v i _ wr => ∃ (k : Nat) (ts : List SC), k ≤ ss.length ∧ i = .int .i64 k ∧ ts.map (·.s) = ss.take k ∧
    wr.ownsRow w.heap.size 58 8 v k (ts.flatMap SC.cells) ∧ (∀ t ∈ ts, t.Ok wr (Apart w.heap.size v)) ∧ Below w.heap.size w wr) (fun _ i _ _ => ss.length - (intOf i).toNat)
  case atStart => exact ⟨0, [], Nat.zero_le _, rfl, rfl, World.ownsRow_nil _ _ _ _, (fun t h => by cases h), grow_refl w⟩
  case round =>
    obtain ⟨k, ts, hk, rfl, hts, hown, hok, hbel⟩ := hrel
    by_cases hlt : k < ss.length
    · obtain ⟨b, off, X, x, T, t, L, l, rfl, -, hcells, hnum, hX, hT, hL⟩ := (HR.out.keep ((Keeps.of_below hbel).in S) (fun _ h => h)).at hlt
      obtain ⟨c0, c1, c2, c3, c4, c5, c6, c7⟩ := cells_stmt hcells
      have hlt' : (k : Int) < (ss.length : Int) := by omega
      obtain ⟨s, hs⟩ : ∃ s, ss[k] = s := ⟨_, rfl⟩
      have hsm : s ∈ ss := hs ▸ List.getElem_mem hlt
      rw [hs] at hcells hnum hX hT hL c0 c1 c2 c3 c4 c5 c6 c7
      have HK := Lib.hid hs
      have HX : Hid (∀ w', Below wr.heap.size wr w' → Calls Tryz.prog 63 #[exprV s.e X x] w' fun y w'' => ∃ B d, y = .returned (exprV s.e B d) ∧ RdE w'' (newAt w') s.e.kids B ∧ Below w'.heap.size w' w'') :=
        fun w' hb => AsExpr_any s.e (HSM.out s hsm).expr S X x w' (hX.keep ((Keeps.of_below hb).in S) (fun _ h => h))
      have HT : Hid (∀ w', Below wr.heap.size wr w' → Calls Tryz.prog 46 #[.slice T s.th.length t] w' fun y w'' => ∃ B d, y = .returned (.slice B s.th.length d) ∧ RdS w'' (newAt w') s.th B ∧ Below w'.heap.size w' w'') :=
        fun w' hb => (HQ.out s hsm).1 S T t w' (hT.keep ((Keeps.of_below hb).in S) (fun _ h => h))
      have HL : Hid (∀ w', Below wr.heap.size wr w' → Calls Tryz.prog 46 #[.slice L s.el.length l] w' fun y w'' => ∃ B d, y = .returned (.slice B s.el.length d) ∧ RdS w'' (newAt w') s.el B ∧ Below w'.heap.size w' w'') :=
        fun w' hb => (HQ.out s hsm).2 S L l w' (hL.keep ((Keeps.of_below hb).in S) (fun _ h => h))
      unfold exprV at HX
      have HO := Lib.hid hown
      have HOK := Lib.hid hok
      have HNUM := Lib.hid hnum
      have HC := Lib.hid hcells
      have HR1 := HR
      have HBEL := Lib.hid hbel
      clear hown hok hcells hX hT hL hnum hbel HR HQ
      go_upto_region 5 with fail
      go_cut [5] (fun v wx => ∃ p X1 x1 T1 t1 L1 l1, v = .pointer (some ⟨p, 0, none⟩) ∧ StmtAt wr wx p s X1 x1 T1 t1 L1 l1)
      case first =>
       have HBS : Below wr.heap.size wr wr.drew := (Below.refl _ _).drew
       have HB0 : Below wr.heap.size wr wr := Below.refl _ _
       have nB0 : wr.heap.size ≤ wr.drew.heap.size := Nat.le_refl _
       go_region_held3 (fun w' => Below wr.heap.size wr w' ∧ w'.cell? ⟨b, off + k * 8, none⟩ = some (.string (mkB s.kind)) ∧ w'.cell? ⟨b, off + k * 8 + 1, none⟩ = some (.string (mkB s.name)) ∧ w'.cell? ⟨b, off + k * 8 + 2, none⟩ = some (.string (mkB s.e.kind)) ∧ w'.cell? ⟨b, off + k * 8 + 3, none⟩ = some (.int .i64 s.e.num) ∧
           w'.cell? ⟨b, off + k * 8 + 4, none⟩ = some (.string (mkB s.e.name)) ∧ w'.cell? ⟨b, off + k * 8 + 5, none⟩ = some (.slice X s.e.kids.length x) ∧ w'.cell? ⟨b, off + k * 8 + 6, none⟩ = some (.slice T s.th.length t) ∧ w'.cell? ⟨b, off + k * 8 + 7, none⟩ = some (.slice L s.el.length l))
         (((with_reducible refine stmt_seen ?_ HC.out);
           first
            | (simp (maxDischargeDepth := 20) only [bel_set, bel_alloc, bel_drew, HB0, hB3, nB3, nB2, nB1, nB0, Nat.le_refl]; done)
            | (simp (maxDischargeDepth := 20) only [bel_set, bel_alloc, bel_drew, HB0, hB2, nB2, nB1, nB0, Nat.le_refl]; done)
            | (simp (maxDischargeDepth := 20) only [bel_set, bel_alloc, bel_drew, HB0, hB1, nB1, nB0, Nat.le_refl]; done)
            | (simp (maxDischargeDepth := 20) only [bel_set, bel_alloc, bel_drew, HB0, HBS, nB0, Nat.le_refl]; done)))
         (first
           | (go_at_call 63; (with_reducible refine (HX.out _ (by simp only [bel_alloc, bel_drew, HB0])).mono ?_); rintro y w12 ⟨B1, d1, rfl, hr1, hbT⟩; have h1a := Lib.hid hr1.lt; have hB1 : Below wr.heap.size wr w12 := grow_trans (by simp only [bel_alloc, bel_drew, HB0]) hbT; have nB1 := hB1.size; have sz1 := Lib.hid hbT.size; first | (have hrow := (hbT.block _ (by simp)).trans (heap_alloc_new _ _); have z0 := row_frozen hrow 0; have y0 := cell_of_row _ _ 0 _ _ _ hrow; have z1 := row_frozen hrow 1; have y1 := cell_of_row _ _ 1 _ _ _ hrow; have z2 := row_frozen hrow 2; have y2 := cell_of_row _ _ 2 _ _ _ hrow; have z3 := row_frozen hrow 3; have y3 := cell_of_row _ _ 3 _ _ _ hrow; have z4 := row_frozen hrow 4; have y4 := cell_of_row _ _ 4 _ _ _ hrow; have z5 := row_frozen hrow 5; have y5 := cell_of_row _ _ 5 _ _ _ hrow; have z6 := row_frozen hrow 6; have y6 := cell_of_row _ _ 6 _ _ _ hrow; have z7 := row_frozen hrow 7; have y7 := cell_of_row _ _ 7 _ _ _ hrow) | (have hrow := (hbT.block _ (Array.getElem?_eq_some_iff.1 hrow).1).trans hrow; have z0 := row_frozen hrow 0; have y0 := cell_of_row _ _ 0 _ _ _ hrow; have z1 := row_frozen hrow 1; have y1 := cell_of_row _ _ 1 _ _ _ hrow; have z2 := row_frozen hrow 2; have y2 := cell_of_row _ _ 2 _ _ _ hrow; have z3 := row_frozen hrow 3; have y3 := cell_of_row _ _ 3 _ _ _ hrow; have z4 := row_frozen hrow 4; have y4 := cell_of_row _ _ 4 _ _ _ hrow; have z5 := row_frozen hrow 5; have y5 := cell_of_row _ _ 5 _ _ _ hrow; have z6 := row_frozen hrow 6; have y6 := cell_of_row _ _ 6 _ _ _ hrow; have z7 := row_frozen hrow 7; have y7 := cell_of_row _ _ 7 _ _ _ hrow) | skip)
           | (go_at_call 46; (with_reducible refine (HT.out _ (by simp only [bel_alloc, bel_drew, hB1])).mono ?_); rintro y w12 ⟨B2, d2, rfl, hr2, hbT⟩; have h2a := Lib.hid hr2.lt; have h1b := Lib.hid (h1a.out.keep ((Keeps.of_below (grow_trans (by simp only [bel_alloc, bel_drew, bel_refl]) hbT)).in _) (fun _ h => h));  have hB2 : Below wr.heap.size wr w12 := grow_trans (by simp only [bel_alloc, bel_drew, hB1]) hbT; have nB2 := hB2.size; have sz2 := Lib.hid hbT.size; first | (have hrow := (hbT.block _ (by simp)).trans (heap_alloc_new _ _); have z0 := row_frozen hrow 0; have y0 := cell_of_row _ _ 0 _ _ _ hrow; have z1 := row_frozen hrow 1; have y1 := cell_of_row _ _ 1 _ _ _ hrow; have z2 := row_frozen hrow 2; have y2 := cell_of_row _ _ 2 _ _ _ hrow; have z3 := row_frozen hrow 3; have y3 := cell_of_row _ _ 3 _ _ _ hrow; have z4 := row_frozen hrow 4; have y4 := cell_of_row _ _ 4 _ _ _ hrow; have z5 := row_frozen hrow 5; have y5 := cell_of_row _ _ 5 _ _ _ hrow; have z6 := row_frozen hrow 6; have y6 := cell_of_row _ _ 6 _ _ _ hrow; have z7 := row_frozen hrow 7; have y7 := cell_of_row _ _ 7 _ _ _ hrow) | (have hrow := (hbT.block _ (Array.getElem?_eq_some_iff.1 hrow).1).trans hrow; have z0 := row_frozen hrow 0; have y0 := cell_of_row _ _ 0 _ _ _ hrow; have z1 := row_frozen hrow 1; have y1 := cell_of_row _ _ 1 _ _ _ hrow; have z2 := row_frozen hrow 2; have y2 := cell_of_row _ _ 2 _ _ _ hrow; have z3 := row_frozen hrow 3; have y3 := cell_of_row _ _ 3 _ _ _ hrow; have z4 := row_frozen hrow 4; have y4 := cell_of_row _ _ 4 _ _ _ hrow; have z5 := row_frozen hrow 5; have y5 := cell_of_row _ _ 5 _ _ _ hrow; have z6 := row_frozen hrow 6; have y6 := cell_of_row _ _ 6 _ _ _ hrow; have z7 := row_frozen hrow 7; have y7 := cell_of_row _ _ 7 _ _ _ hrow) | skip)
           | (go_at_call 46; (with_reducible refine (HL.out _ (by simp only [bel_alloc, bel_drew, hB2])).mono ?_); rintro y w12 ⟨B3, d3, rfl, hr3, hbT⟩; have h3a := Lib.hid hr3.lt; have h1c := Lib.hid (h1b.out.keep ((Keeps.of_below (grow_trans (by simp only [bel_alloc, bel_drew, bel_refl]) hbT)).in _) (fun _ h => h)); have h2b := Lib.hid (h2a.out.keep ((Keeps.of_below (grow_trans (by simp only [bel_alloc, bel_drew, bel_refl]) hbT)).in _) (fun _ h => h)); have hB3 : Below wr.heap.size wr w12 := grow_trans (by simp only [bel_alloc, bel_drew, hB2]) hbT; have nB3 := hB3.size; have sz3 := Lib.hid hbT.size; first | (have hrow := (hbT.block _ (by simp)).trans (heap_alloc_new _ _); have z0 := row_frozen hrow 0; have y0 := cell_of_row _ _ 0 _ _ _ hrow; have z1 := row_frozen hrow 1; have y1 := cell_of_row _ _ 1 _ _ _ hrow; have z2 := row_frozen hrow 2; have y2 := cell_of_row _ _ 2 _ _ _ hrow; have z3 := row_frozen hrow 3; have y3 := cell_of_row _ _ 3 _ _ _ hrow; have z4 := row_frozen hrow 4; have y4 := cell_of_row _ _ 4 _ _ _ hrow; have z5 := row_frozen hrow 5; have y5 := cell_of_row _ _ 5 _ _ _ hrow; have z6 := row_frozen hrow 6; have y6 := cell_of_row _ _ 6 _ _ _ hrow; have z7 := row_frozen hrow 7; have y7 := cell_of_row _ _ 7 _ _ _ hrow) | (have hrow := (hbT.block _ (Array.getElem?_eq_some_iff.1 hrow).1).trans hrow; have z0 := row_frozen hrow 0; have y0 := cell_of_row _ _ 0 _ _ _ hrow; have z1 := row_frozen hrow 1; have y1 := cell_of_row _ _ 1 _ _ _ hrow; have z2 := row_frozen hrow 2; have y2 := cell_of_row _ _ 2 _ _ _ hrow; have z3 := row_frozen hrow 3; have y3 := cell_of_row _ _ 3 _ _ _ hrow; have z4 := row_frozen hrow 4; have y4 := cell_of_row _ _ 4 _ _ _ hrow; have z5 := row_frozen hrow 5; have y5 := cell_of_row _ _ 5 _ _ _ hrow; have z6 := row_frozen hrow 6; have y6 := cell_of_row _ _ 6 _ _ _ hrow; have z7 := row_frozen hrow 7; have y7 := cell_of_row _ _ 7 _ _ _ hrow) | skip))
       all_goals go_wp2_with fail
       all_goals go_meet
       all_goals refine ⟨_, B1, d1, B2, d2, B3, d3, rfl, ?_⟩
       · exact stmt_made h1c.out h2b.out h3a.out hB3 (fun n hn => hn.1) (fun n hn => Nat.le_trans nB1 hn.1) (fun n hn => Nat.le_trans nB2 hn.1)
       all_goals
         have p1 := sz1.out
         have p2 := sz2.out
         have p3 := sz3.out
         simp only [hsz_alloc, hsz_drew] at p1 p2 p3 nB0
         refine stmt_done hrow h1c.out h2b.out h3a.out hB3 (by omega) (fun n hn => ?_) (fun n hn => ?_) (fun n hn => ?_)
         all_goals
           obtain ⟨q1, q2⟩ := hn
           simp only [newAt, hsz_alloc, hsz_drew] at q1 q2
           omega
      case rest =>
       obtain ⟨p, X1, x1, T1, t1, L1, l1, rfl, hat⟩ := hcut
       obtain ⟨hrow, h1, h2, h3, hb1⟩ := hat
       obtain ⟨r0, r1, r2, r3, r4, r5, r6, r7⟩ := row_stmt hrow
       have hO1 := ownsRow_below HO.out hb1
       go_wp2_with (at_builtin; refine wpList_append_own_at _ rfl _ _ 37 rfl w.heap.size 58 ti _ 8 144 Tryz.underlying37 hi hz0 hz1 hz2 rfl (by decide) _ _ _ rfl (hO1.alloc _) ⟨wc.heap.size, 0, none⟩ 1 1 (stmtL s X1 x1 T1 t1 L1 l1) rfl rfl ?c1 ?c2 ?c3 ?c4 ?c5 ?_)
       case c1 =>
         intro i u hu
         match i, hu with
         | 0, hu => simp [stmtL] at hu; subst hu; simp [Addr.add]
         | 1, hu => simp [stmtL] at hu; subst hu; simp [Addr.add]
         | 2, hu => simp [stmtL] at hu; subst hu; simp [Addr.add]
         | 3, hu => simp [stmtL] at hu; subst hu; simp [Addr.add]
         | 4, hu => simp [stmtL] at hu; subst hu; simp [Addr.add]
         | 5, hu => simp [stmtL] at hu; subst hu; simp [Addr.add]
         | 6, hu => simp [stmtL] at hu; subst hu; simp [Addr.add]
         | 7, hu => simp [stmtL] at hu; subst hu; simp [Addr.add]
       case c2 => intro u hu; simp [stmtL] at hu; rcases hu with rfl | rfl | rfl | rfl | rfl | rfl | rfl | rfl <;> rfl
       case c3 => unfold maxLen; omega
       case c4 => omega
       case c5 => have := hb1.size; have := HBEL.out.size; simp; omega
       · intro v' w2 hown' hgrow _ hat
         obtain ⟨A', c', rfl⟩ := owns_slice hown'
         have hsz1 := hb1.size
         have hb2 : Below w.heap.size w w2 := Below.grown ((grow_trans HBEL.out hb1).alloc (by have := HBEL.out.size; omega) _) hgrow (by simp; have := HBEL.out.size; omega) (fun k hk => (HO.out.lt k hk).1)
         have HOK2 : ∀ t ∈ ts ++ [(⟨s, X1, x1, T1, t1, L1, l1⟩ : SC)], t.Ok w2 (Apart w.heap.size (.slice A' (k + 1) c')) := by
           have hkeep : KeepsIn (fun n => Apart w.heap.size _ n ∧ n < wc.heap.size) wc w2 := fun a u hs hc => hgrow.cell (Keeps.alloc _ _ _ _ hc) hs.1.2
           intro t ht
           rcases List.mem_append.1 ht with h | h
           · exact (((HOK.out t h).keep ((Keeps.of_below hb1).in _) (fun _ h => h)).lt).keep hkeep (apart_own (w1 := wc) hat (by omega))
           · simp only [List.mem_singleton] at h
             subst h
             have hap : ∀ n, newAt wr n → Apart w.heap.size _ n := fun n hn => ⟨Nat.le_trans HBEL.out.size hn, fun q => by have := (HO.out.lt _ q.symm).2; have hn' : wr.heap.size ≤ n := hn; omega⟩
             exact SC.Ok.keep hkeep (apart_own (w1 := wc) hat (by omega)) (SC.Ok.lt (S := Apart w.heap.size _) ⟨HNUM.out, h1.keep (Keeps.in (Keeps.refl _) _) hap, h2.keep (Keeps.in (Keeps.refl _) _) hap, h3.keep (Keeps.in (Keeps.refl _) _) hap⟩)
         have HOWN2 : w2.ownsRow w.heap.size 58 8 (.slice A' (k + 1) c') (k + 1) ((ts ++ [(⟨s, X1, x1, T1, t1, L1, l1⟩ : SC)]).flatMap SC.cells) := by
           rw [List.flatMap_append, List.flatMap_singleton]
           exact hown'
         have H1 := Lib.hid HOK2
         have H2 := Lib.hid HOWN2
         clear hown' hgrow hat HOK2 HOWN2 h1 h2 h3 hrow r0 r1 r2 r3 r4 r5 r6 r7 hO1
         go_wp2_with fail
         go_roundw
         case rel => exact ⟨k + 1, ts ++ [(⟨s, X1, x1, T1, t1, L1, l1⟩ : SC)], by omega, by go_num, map_snoc hts hlt _ HK.out.symm, H2.out, H1.out, hb2⟩
         case measure => simp [intOf]; omega
    · have hk' : k = ss.length := by omega
      subst hk'
      have hl := map_len hts (Nat.le_refl _)
      rw [List.take_length] at hts
      have hown1 := hown
      rw [← hl] at hown1
      obtain ⟨B, d, hv, hrd⟩ := SC.row hown1 hok
      rw [hl] at hv
      subst hv
      rw [hts] at hrd
      have HRD := Lib.hid hrd
      clear hrd hown hown1 hok hts hl HR HQ
      go_wp2_with fail
      go_ret
      exact ⟨B, d, rfl, HRD.out, hbel⟩
theorem AsStmts_each : ∀ s : PStmt, SmS s → AsStmtsC s.th ∧ AsStmtsC s.el := by
  intro s
  induction s using PStmt.ind with
  | h s iht ihl =>
    intro hs
    exact ⟨AsStmts_list _ hs.lenT hs.kidT fun k hk => iht k hk (hs.kidT k hk), AsStmts_list _ hs.lenL hs.kidL fun k hk => ihl k hk (hs.kidL k hk)⟩
theorem AsStmts_any (ss : List PStmt) (hlen : ss.length ≤ 30) (hsm : ∀ s ∈ ss, SmS s) : AsStmtsC ss := AsStmts_list ss hlen hsm fun s hs => AsStmts_each s (hsm s hs)
end Go.Proofs.YtnpdjncgilekhaaGreatDoor
