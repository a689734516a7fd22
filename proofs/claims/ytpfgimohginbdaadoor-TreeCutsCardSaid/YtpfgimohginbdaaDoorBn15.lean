import Derived.Lib.ItoaNum
import Derived.Test.YtpfgimohginbdaaDoorBn14
import Derived.Test.YtpfgimohginbdaaDoorBn3
import Derived.Test.YtpfgimohginbdaaDoorBn5
set_option linter.unusedVariables false
set_option linter.unusedSimpArgs false
namespace Go.Proofs.YtpfgimohginbdaaDoor
open Go.RowKit

/-! the text of trees -/
def xNum : List UInt8 := [110, 117, 109]
def xName : List UInt8 := [110, 97, 109, 101]
def xCall : List UInt8 := [99, 97, 108, 108]
def xOne : List UInt8 := [111, 110, 101]
def xTwo : List UInt8 := [116, 119, 111]
def opsRows : List (List (List UInt8)) := [[[61, 61], [33, 61]], [[60], [60, 61]], [[124]], [[94]], [[38]], [[60, 60], [62, 62]], [[43], [45]], [[42], [47], [37]]]
def levFrom (s : List UInt8) : List (List (List UInt8)) → Nat → Int
  | [], _ => -1
  | r :: rs, k => if r.contains s then (k : Int) else levFrom s rs (k + 1)
def levelP (s : List UInt8) : Int := levFrom s opsRows 0
theorem levFrom_drop {s : List UInt8} {rs : List (List (List UInt8))} {k : Nat} (h : k < rs.length) : levFrom s (rs.drop k) k = if rs[k].contains s then (k : Int) else levFrom s (rs.drop (k + 1)) (k + 1) := by
  rw [List.drop_eq_getElem_cons h]; rfl
theorem levFrom_range (s : List UInt8) : ∀ (rs : List (List (List UInt8))) (k : Nat), -1 ≤ levFrom s rs k ∧ levFrom s rs k ≤ k + rs.length := by
  intro rs
  induction rs with
  | nil => intro k; simp [levFrom]
  | cons r rs ih =>
    intro k
    unfold levFrom
    have := ih (k + 1)
    simp only [List.length_cons]
    split <;> omega
theorem levelP_range (s : List UInt8) : -1 ≤ levelP s ∧ levelP s ≤ 8 := by
  have := levFrom_range s opsRows 0
  simp [opsRows] at this
  exact this
def bigT : List UInt8 := [40, 48, 32, 45, 32, 57, 50, 50, 51, 51, 55, 50, 48, 51, 54, 56, 53, 52, 55, 55, 53, 56, 48, 55, 32, 45, 32, 49, 41]
def numT (n : Int) : List UInt8 := if n = -9223372036854775808 then bigT else if n < 0 then [40, 48, 32, 45, 32] ++ Lib.itoa (-n) ++ [41] else Lib.itoa n
def joinC : List (List UInt8) → List UInt8
  | [] => []
  | [x] => x
  | x :: xs => x ++ [44, 32] ++ joinC xs
def wrapT (k : PExpr) (least : Int) (t : List UInt8) : List UInt8 := if k.kind = xTwo ∧ levelP k.name < least then [40] ++ t ++ [41] else t
def oneT (name : List UInt8) : List PExpr → List (List UInt8) → List UInt8
  | [k], [t] => name ++ wrapT k 8 t
  | _, _ => []
def twoT (name : List UInt8) : List PExpr → List (List UInt8) → List UInt8
  | [a, b], [s, t] => wrapT a (levelP name) s ++ [32] ++ name ++ [32] ++ wrapT b (levelP name + 1) t
  | _, _ => []
mutual
def textE : PExpr → List UInt8
  | ⟨kind, num, name, kids⟩ =>
    if kind = xNum then numT num
    else if kind = xName then name
    else if kind = xCall then name ++ [40] ++ joinC (textKs kids) ++ [41]
    else if kind = xOne then oneT name kids (textKs kids)
    else if kind = xTwo then twoT name kids (textKs kids)
    else []
def textKs : List PExpr → List (List UInt8)
  | [] => []
  | k :: ks => textE k :: textKs ks
end
theorem textKs_map : ∀ ks, textKs ks = ks.map textE := by
  intro ks
  induction ks with
  | nil => rw [textKs]; rfl
  | cons k ks ih => rw [textKs, ih]; rfl
theorem textE_eq (e : PExpr) : textE e =
    if e.kind = xNum then numT e.num
    else if e.kind = xName then e.name
    else if e.kind = xCall then e.name ++ [40] ++ joinC (e.kids.map textE) ++ [41]
    else if e.kind = xOne then oneT e.name e.kids (e.kids.map textE)
    else if e.kind = xTwo then twoT e.name e.kids (e.kids.map textE)
    else [] := by
  cases e
  rw [textE]
  simp only [textKs_map]
theorem textE_num {e : PExpr} (h : e.kind = xNum) : textE e = numT e.num := by rw [textE_eq, if_pos h]
theorem textE_name {e : PExpr} (h : e.kind = xName) : textE e = e.name := by
  rw [textE_eq, if_neg (by rw [h]; decide), if_pos h]
theorem textE_call {e : PExpr} (h : e.kind = xCall) : textE e = e.name ++ [40] ++ joinC (e.kids.map textE) ++ [41] := by
  rw [textE_eq, if_neg (by rw [h]; decide), if_neg (by rw [h]; decide), if_pos h]
theorem textE_one {e k : PExpr} (h : e.kind = xOne) (hk : e.kids = [k]) : textE e = e.name ++ wrapT k 8 (textE k) := by
  rw [textE_eq, if_neg (by rw [h]; decide), if_neg (by rw [h]; decide), if_neg (by rw [h]; decide), if_pos h, hk]; rfl
theorem textE_one_no {e : PExpr} (h : e.kind = xOne) (hk : e.kids.length ≠ 1) : textE e = [] := by
  rw [textE_eq, if_neg (by rw [h]; decide), if_neg (by rw [h]; decide), if_neg (by rw [h]; decide), if_pos h]
  match h' : e.kids with
  | [] => rfl
  | [k] => rw [h'] at hk; simp at hk
  | a :: b :: r => simp [oneT]
theorem textE_two {e a b : PExpr} (h : e.kind = xTwo) (hk : e.kids = [a, b]) : textE e = wrapT a (levelP e.name) (textE a) ++ [32] ++ e.name ++ [32] ++ wrapT b (levelP e.name + 1) (textE b) := by
  rw [textE_eq, if_neg (by rw [h]; decide), if_neg (by rw [h]; decide), if_neg (by rw [h]; decide), if_neg (by rw [h]; decide), if_pos h, hk]; rfl
theorem textE_two_no {e : PExpr} (h : e.kind = xTwo) (hk : e.kids.length ≠ 2) : textE e = [] := by
  rw [textE_eq, if_neg (by rw [h]; decide), if_neg (by rw [h]; decide), if_neg (by rw [h]; decide), if_neg (by rw [h]; decide), if_pos h]
  match h' : e.kids with
  | [] => rfl
  | [k] => simp [twoT]
  | [a, b] => rw [h'] at hk; simp at hk
  | a :: b :: c :: r => simp [twoT]
theorem textE_none {e : PExpr} (h0 : e.kind ≠ xNum) (h1 : e.kind ≠ xName) (h2 : e.kind ≠ xCall) (h3 : e.kind ≠ xOne) (h4 : e.kind ≠ xTwo) : textE e = [] := by
  rw [textE_eq, if_neg h0, if_neg h1, if_neg h2, if_neg h3, if_neg h4]

/-! statements -/
def sVar : List UInt8 := [118, 97, 114]
def sSet : List UInt8 := [115, 101, 116]
def sReturn : List UInt8 := [114, 101, 116, 117, 114, 110]
def sPrint : List UInt8 := [112, 114, 105, 110, 116]
def sIf : List UInt8 := [105, 102]
def sWhile : List UInt8 := [119, 104, 105, 108, 101]
def lineT (d : Nat) (t : List UInt8) : List UInt8 := List.replicate d 9 ++ t ++ [10]
mutual
def textS : PStmt → Nat → List UInt8
  | ⟨kind, name, e, th, el⟩, d =>
    if kind = sVar then lineT d ([118, 97, 114, 32] ++ name ++ [32, 61, 32] ++ textE e ++ [59])
    else if kind = sSet then lineT d (name ++ [32, 61, 32] ++ textE e ++ [59])
    else if kind = sReturn ∨ kind = sPrint then lineT d (kind ++ [32] ++ textE e ++ [59])
    else if kind = sIf ∨ kind = sWhile then
      lineT d (kind ++ [32] ++ textE e ++ [32, 123]) ++ textB th (d + 1) ++ (if el.length = 0 then [] else lineT d [125, 32, 101, 108, 115, 101, 32, 123] ++ textB el (d + 1)) ++ lineT d [125]
    else []
def textB : List PStmt → Nat → List UInt8
  | [], _ => []
  | s :: ss, d => textS s d ++ textB ss d
end
theorem textB_nil (d : Nat) : textB [] d = [] := by rw [textB]
theorem textB_cons (s : PStmt) (ss : List PStmt) (d : Nat) : textB (s :: ss) d = textS s d ++ textB ss d := by rw [textB]
theorem textS_eq (s : PStmt) (d : Nat) : textS s d =
    if s.kind = sVar then lineT d ([118, 97, 114, 32] ++ s.name ++ [32, 61, 32] ++ textE s.e ++ [59])
    else if s.kind = sSet then lineT d (s.name ++ [32, 61, 32] ++ textE s.e ++ [59])
    else if s.kind = sReturn ∨ s.kind = sPrint then lineT d (s.kind ++ [32] ++ textE s.e ++ [59])
    else if s.kind = sIf ∨ s.kind = sWhile then
      lineT d (s.kind ++ [32] ++ textE s.e ++ [32, 123]) ++ textB s.th (d + 1) ++ (if s.el.length = 0 then [] else lineT d [125, 32, 101, 108, 115, 101, 32, 123] ++ textB s.el (d + 1)) ++ lineT d [125]
    else [] := by
  cases s; rw [textS]
def textF (f : PFun) : List UInt8 := lineT 0 ([102, 110, 32] ++ f.name ++ [40] ++ joinC f.params ++ [41, 32, 123]) ++ textB f.body 1 ++ lineT 0 [125]
def textG : List PFun → List UInt8
  | [] => []
  | f :: fs => textF f ++ textG fs
end Go.Proofs.YtpfgimohginbdaaDoor

namespace Go.Proofs.YtpfgimohginbdaaDoor
open Go.RowKit

def strV (l : List UInt8) : Value := .string (mkB l)
theorem isIn_strV (s : List UInt8) (r : List (List UInt8)) : isIn (mkB s) (r.map mkB) = r.contains s := by
  rw [isIn_mkB, mkB_toList, List.contains_eq_any_beq]
  congr 1
  funext x
  exact Bool.beq_comm ..
end Go.Proofs.YtpfgimohginbdaaDoor

namespace Go.Proofs.YtpfgimohginbdaaDoor
open Go.RowKit

/-- The rows of ops in memory. -/
def LevRows (w : World) (A : Option Addr) : Prop := ∀ k, k < 8 → ∃ b off B c, A = some ⟨b, off, none⟩ ∧ w.cell? ⟨b, off + k, none⟩ = some (.slice B (opsRows.getD k []).length c) ∧ Row w B ((opsRows.getD k []).map strV)
theorem LevRows.keep {w w' : World} {A : Option Addr} (h : LevRows w A) (k : Keeps w w') : LevRows w' A := fun i hi => by
  obtain ⟨b, off, B, c, e, h1, h2⟩ := h i hi
  exact ⟨b, off, B, c, e, k _ _ h1, h2.keep k⟩
theorem new_blockS (W : World) (o : Obj) {n : Nat} (h : W.heap.size = n) : (W.alloc o).heap[n]? = some o := h ▸ heap_alloc_new W o
theorem old_blockS (W : World) (o x : Obj) {n : Nat} (h : n < W.heap.size) (hx : W.heap[n]? = some x) : (W.alloc o).heap[n]? = some x := (((Below.refl W.heap.size W).alloc (Nat.le_refl _) o).block n h).trans hx
set_option maxHeartbeats 4000000 in
set_option maxRecDepth 100000 in
theorem Levels_any (w : World) : Calls Tryd.prog 32 #[] w fun e w' => ∃ A, e = .returned (.slice A 8 8) ∧ LevRows w' A ∧ Below w.heap.size w w' := by
  go_enter Tryd.func32, Tryd.ntmps32
  go_wp2_with fail
  go_ret
  refine ⟨_, rfl, ?_, ?_⟩
  · intro k hk
    have e : ∀ (W : World) (o : Obj), (W.alloc o).heap.size = W.heap.size + 1 := fun W o => by simp
    rcases (by omega : k = 0 ∨ k = 1 ∨ k = 2 ∨ k = 3 ∨ k = 4 ∨ k = 5 ∨ k = 6 ∨ k = 7) with rfl | rfl | rfl | rfl | rfl | rfl | rfl | rfl
    · refine ⟨_, 0, some ⟨w.heap.size, 0, none⟩, 2, rfl, cell_of_row _ _ 0 _ _ _ (new_blockS _ _ (by simp)), Row.of_eq (Row.block (t := 9) (fz := (0, 0)) ?_) rfl⟩
      repeat (first | exact new_blockS _ _ (by simp) | refine old_blockS _ _ _ (by simp only [e]; omega) ?_)
    · refine ⟨_, 0, some ⟨w.heap.size + 1, 0, none⟩, 2, rfl, cell_of_row _ _ 1 _ _ _ (new_blockS _ _ (by simp)), Row.of_eq (Row.block (t := 9) (fz := (0, 0)) ?_) rfl⟩
      repeat (first | exact new_blockS _ _ (by simp) | refine old_blockS _ _ _ (by simp only [e]; omega) ?_)
    · refine ⟨_, 0, some ⟨w.heap.size + 1 + 1, 0, none⟩, 1, rfl, cell_of_row _ _ 2 _ _ _ (new_blockS _ _ (by simp)), Row.of_eq (Row.block (t := 9) (fz := (0, 0)) ?_) rfl⟩
      repeat (first | exact new_blockS _ _ (by simp) | refine old_blockS _ _ _ (by simp only [e]; omega) ?_)
    · refine ⟨_, 0, some ⟨w.heap.size + 1 + 1 + 1, 0, none⟩, 1, rfl, cell_of_row _ _ 3 _ _ _ (new_blockS _ _ (by simp)), Row.of_eq (Row.block (t := 9) (fz := (0, 0)) ?_) rfl⟩
      repeat (first | exact new_blockS _ _ (by simp) | refine old_blockS _ _ _ (by simp only [e]; omega) ?_)
    · refine ⟨_, 0, some ⟨w.heap.size + 1 + 1 + 1 + 1, 0, none⟩, 1, rfl, cell_of_row _ _ 4 _ _ _ (new_blockS _ _ (by simp)), Row.of_eq (Row.block (t := 9) (fz := (0, 0)) ?_) rfl⟩
      repeat (first | exact new_blockS _ _ (by simp) | refine old_blockS _ _ _ (by simp only [e]; omega) ?_)
    · refine ⟨_, 0, some ⟨w.heap.size + 1 + 1 + 1 + 1 + 1, 0, none⟩, 2, rfl, cell_of_row _ _ 5 _ _ _ (new_blockS _ _ (by simp)), Row.of_eq (Row.block (t := 9) (fz := (0, 0)) ?_) rfl⟩
      repeat (first | exact new_blockS _ _ (by simp) | refine old_blockS _ _ _ (by simp only [e]; omega) ?_)
    · refine ⟨_, 0, some ⟨w.heap.size + 1 + 1 + 1 + 1 + 1 + 1, 0, none⟩, 2, rfl, cell_of_row _ _ 6 _ _ _ (new_blockS _ _ (by simp)), Row.of_eq (Row.block (t := 9) (fz := (0, 0)) ?_) rfl⟩
      repeat (first | exact new_blockS _ _ (by simp) | refine old_blockS _ _ _ (by simp only [e]; omega) ?_)
    · refine ⟨_, 0, some ⟨w.heap.size + 1 + 1 + 1 + 1 + 1 + 1 + 1, 0, none⟩, 3, rfl, cell_of_row _ _ 7 _ _ _ (new_blockS _ _ (by simp)), Row.of_eq (Row.block (t := 9) (fz := (0, 0)) ?_) rfl⟩
      repeat (first | exact new_blockS _ _ (by simp) | refine old_blockS _ _ _ (by simp only [e]; omega) ?_)
  · exact grow_alloc (grow_alloc (grow_alloc (grow_alloc (grow_alloc (grow_alloc (grow_alloc (grow_alloc (grow_alloc (grow_refl w) _) _) _) _) _) _) _) _) _
theorem level1_any (s : List UInt8) (p : Nat) (B : Option Addr) (r : List (List UInt8)) (c : Nat) (w : World) (hr : Row w B (r.map strV)) (hl : r.length ≤ 1000000) (h : w.cell? ⟨p, 0, none⟩ = some (.string (mkB s))) :
    Calls Tryd.prog 48 #[.slice B r.length c, .pointer (some ⟨p, 0, none⟩)] w (Ret (.bool (r.contains s)) w) := by
  have hI := Lib.hid (isIn_strV s r)
  have hc := Contains_any (mkB s) B (r.map mkB) c w (by rw [List.map_map]; exact hr) (by simpa using hl)
  rw [List.length_map] at hc
  have HC := Lib.hid hc
  clear hc
  go_enter Tryd.func48, Tryd.ntmps48
  go_wp2_with (go_at_call 49; (with_reducible refine HC.out.mono ?_); rintro x w1 ⟨rfl, rfl⟩)
  go_ret
  exact ⟨by rw [← hI.out]; rfl, grow_refl _⟩
theorem lev_step (s : List UInt8) {k : Nat} (h : k < 8) : levFrom s (opsRows.drop k) k = if (opsRows.getD k []).contains s then (k : Int) else levFrom s (opsRows.drop (k + 1)) (k + 1) := by
  have hk : k < opsRows.length := h
  rw [levFrom_drop hk, List.getD_eq_getElem?_getD, List.getElem?_eq_getElem hk]
  rfl
theorem row_small : ∀ k, k < 8 → (opsRows.getD k []).length ≤ 1000000 := by
  intro k hk
  rcases (by omega : k = 0 ∨ k = 1 ∨ k = 2 ∨ k = 3 ∨ k = 4 ∨ k = 5 ∨ k = 6 ∨ k = 7) with rfl | rfl | rfl | rfl | rfl | rfl | rfl | rfl <;> simp [opsRows]
set_option maxRecDepth 100000 in
theorem indexLev_any (s : List UInt8) (A : Option Addr) (c p : Nat) (w : World) (hr : LevRows w A) (h : w.cell? ⟨p, 0, none⟩ = some (.string (mkB s))) :
    Calls Tryd.prog 47 #[.slice A 8 c, .func (.func 48) #[] #[.pointer (some ⟨p, 0, none⟩)]] w (Ret (.int .i64 (levelP s)) w) := by
  have HR := Lib.hid hr
  have HC := Lib.hid h
  have HL : Hid (levelP s = levFrom s (opsRows.drop 0) 0) := show levelP s = _ from rfl
  clear hr h
  go_enter Tryd.func47, Tryd.ntmps47
  go_wp2_with fail
  go_loopw [5, 8] (fun _ i wr => ∃ k : Nat, k ≤ 8 ∧ i = .int .i64 k ∧ levelP s = levFrom s (opsRows.drop k) k ∧ Below w.heap.size w wr) (fun _ i _ => 8 - (intOf i).toNat)
  case atStart => exact ⟨0, by omega, rfl, HL.out, Below.refl _ _⟩
  case round =>
    obtain ⟨k, hk, rfl, hf, hW⟩ := hrel
    have HF := Lib.hid hf
    clear hf
    have HW := Lib.hid hW
    by_cases hlt : k < 8
    · obtain ⟨b, off, B, c1, rfl, a0, a1⟩ := HR.out.keep (.of_below hW) k hlt
      have hp := Keeps.of_below hW _ _ HC.out
      clear hW
      have hlt' : (k : Int) < 8 := by omega
      have HK := Lib.hid (level1_any s p B (opsRows.getD k []) c1 wr a1 (row_small k hlt) hp)
      have hst := lev_step s hlt
      clear a1 hp
      obtain ⟨r, hr⟩ : ∃ r, opsRows.getD k [] = r := ⟨_, rfl⟩
      rw [hr] at HK hst a0
      cases ht : r.contains s
      · rw [ht] at HK hst
        have HN := Lib.hid hst
        clear hst ht hr
        go_wp2_with (go_at_call 48; (with_reducible refine HK.out.mono ?_); rintro x w1 ⟨rfl, hb1⟩)
        go_roundw
        case rel => exact ⟨k + 1, by omega, by go_num, by rw [HF.out, HN.out]; rfl, grow_trans HW.out hb1⟩
        case measure => simp [intOf]; omega
      · rw [ht] at HK hst
        have HN := Lib.hid hst
        clear hst ht hr
        go_wp2_with (go_at_call 48; (with_reducible refine HK.out.mono ?_); rintro x w1 ⟨rfl, hb1⟩)
        go_ret
        exact ⟨by rw [HF.out, HN.out]; rfl, grow_trans HW.out hb1⟩
    · have hk' : k = 8 := by omega
      subst hk'
      clear hW
      go_wp2_with fail
      go_ret
      exact ⟨by rw [HF.out]; rfl, HW.out⟩
theorem level_any (s : List UInt8) (w : World) : Calls Tryd.prog 33 #[.string (mkB s)] w (Ret (.int .i64 (levelP s)) w) := by
  go_enter Tryd.func33, Tryd.ntmps33
  go_wp2_with (first
    | (go_at_call 32; (with_reducible refine (Levels_any _).mono ?_); rintro x w1 ⟨A, rfl, hr, hb1⟩; have hc := Keeps.of_below hb1 _ _ (cell_of_row _ _ 0 _ _ _ (heap_alloc_new w (.cells #[.string (mkB s)] 9))))
    | (go_at_call 47; (with_reducible refine (indexLev_any s _ _ _ _ hr hc).mono ?_); rintro x w2 ⟨rfl, hb2⟩))
  go_ret
  exact ⟨rfl, grow_trans (grow_trans (grow_alloc (grow_refl _) _) hb1) hb2⟩
end Go.Proofs.YtpfgimohginbdaaDoor
