import Derived.Test.YtdilakpipbkokaaDoorBn9
import Derived.Test.YtdilakpipbkokaaDoorBn10
import Derived.Test.YtdilakpipbkokaaDoorBn11
set_option linter.unusedVariables false
set_option linter.unusedSimpArgs false
namespace Go.Proofs.YtdilakpipbkokaaDoor
open Go.RowKit

/-! the walker: values -/
def pwM (c : PCo) (A : Option Addr) (ca : Nat) (X : Option Addr) (nx xc : Nat) (Y : Option Addr) (ny yc : Nat) (T : Int) (gb hb n : Nat) (h : List UInt8) (v tk : Int) (vO vC : Value) : List Value :=
  [.string (mkB c.name), .int .i64 c.params, .int .i64 c.values, .slice A c.blocks.length ca, .slice X nx xc, .slice Y ny yc, .int .i64 T, .string (mkB h), .int .i64 v, .int .i64 tk, vO, vC, .slice (some ⟨gb, 0, none⟩) n n, .slice (some ⟨hb, 0, none⟩) n n]
abbrev PwAt (c : PCo) (A : Option Addr) (ca : Nat) (X : Option Addr) (args : List Int) (xc : Nat) (Y : Option Addr) (ans : List Int) (yc : Nat) (T : Int) (w0 : World) (mb gb hb n : Nat) (F : Nat → Array Value → Prop) (s : WSt) (h : List UInt8) (v : Int) (vO vC : Value) (ts : List CC) (w : World) : Prop :=
  WG (pwM c A ca X args.length xc Y ans.length yc T gb hb n) 84 81 56 w0 mb gb hb F s h v vO vC ts w
theorem tyW_pw : TyW 84 81 56 := ⟨⟨by decide, by decide, by decide⟩, ⟨by decide, by decide⟩, ⟨by decide, by decide, by decide, by decide⟩, by decide⟩
def ValsP (s : WSt) (l : List Int) (w : World) : Ending → World → Prop := fun e w' => Below w.heap.size w w' ∧
  ((pickW s l = none ∧ e = .returned (.tuple #[.slice none 0 0, .bool false])) ∨
   ∃ r A c, pickW s l = some r ∧ e = .returned (.tuple #[.slice A r.length c, .bool true]) ∧ w'.ownsRow w.heap.size 3 1 (.slice A r.length c) r.length (intVs r))
theorem pick_go {s : WSt} {l : List Int} {k : Nat} {r : List Int} (hk : k < l.length) (hI : pickW s l = (pickW s (l.drop k)).map (r ++ ·)) (hh : hasW s l[k] = true) : pickW s l = (pickW s (l.drop (k + 1))).map ((r ++ [gotW s l[k]]) ++ ·) := by
  rw [hI, pickW_step hk, if_pos hh]
  cases pickW s (l.drop (k + 1)) with
  | none => rfl
  | some q => simp
theorem pick_no {s : WSt} {l : List Int} {k : Nat} {r : List Int} (hk : k < l.length) (hI : pickW s l = (pickW s (l.drop k)).map (r ++ ·)) (hh : hasW s l[k] = false) : pickW s l = none := by
  rw [hI, pickW_step hk, if_neg (by rw [hh]; decide)]; rfl
section
variable {c : PCo} {A : Option Addr} {ca : Nat} {X : Option Addr} {args : List Int} {xc : Nat} {Y : Option Addr} {ans : List Int} {yc : Nat} {T : Int} {w0 : World} {mb gb hb n : Nat} {F : Nat → Array Value → Prop} {s : WSt} {h : List UInt8} {v : Int} {vO vC : Value} {ts : List CC} {w w' : World}
set_option maxRecDepth 100000 in
set_option maxHeartbeats 4000000 in
theorem values_any (H : PwAt c A ca X args xc Y ans yc T w0 mb gb hb n F s h v vO vC ts w) (hg : s.got.length = n) (hh : s.has.length = n) (l : List Int) (hl : l.length ≤ 1000) (hin : ∀ v ∈ l, 0 ≤ v ∧ v < (n : Int)) (L : Option Addr) (lc : Nat) (hrow : Row w L (intVs l)) :
    Calls Tryd.prog 62 #[.pointer (some ⟨mb, 0, none⟩), .slice L l.length lc] w (ValsP s l w) := by
  have HH := Lib.hid H
  have HR := Lib.hid hrow
  have HIN := Lib.hid hin
  have HG := Lib.hid hg
  have HHS := Lib.hid hh
  obtain ⟨Q, hQ⟩ : ∃ Q, ValsP s l w = Q := ⟨_, rfl⟩
  have HQ := Lib.hid hQ
  rw [hQ]
  clear H hrow hin hg hh hQ
  go_enter Tryd.func62, Tryd.ntmps62
  go_wp2_with fail
  go_loopw [6, 8, 11] (fun out _ k wr => ∃ (j : Nat) (r : List Int) (A' : Option Addr) (c' : Nat), j ≤ l.length ∧ k = .int .i64 j ∧ out = .slice A' r.length c' ∧ wr.ownsRow w.heap.size 3 1 (.slice A' r.length c') r.length (intVs r) ∧ r.length = j ∧ pickW s l = (pickW s (l.drop j)).map (r ++ ·) ∧ Below w.heap.size w wr) (fun _ _ k _ => l.length - (intOf k).toNat)
  case atStart =>
    exact ⟨0, [], none, 0, Nat.zero_le _, rfl, rfl, World.ownsRow_nil _ _ _ _, rfl, by rw [List.drop_zero]; cases pickW s l <;> simp, grow_refl _⟩
  case round =>
    obtain ⟨j, r, A', c', hj, rfl, rfl, hown, hrl, hI, hbel⟩ := hrel
    have HO := Lib.hid hown
    have HI := Lib.hid hI
    have HRL := Lib.hid hrl
    have hrl2 : r.length < 100000 := by omega
    clear hown hI hrl
    by_cases hlt : j < l.length
    · have hlt' : (j : Int) < (l.length : Int) := by omega
      obtain ⟨b9, o9, rfl, hc⟩ := (HR.out.keep (Keeps.of_below hbel)) j _ (intVs_get hlt)
      have hv9 := HIN.out _ (List.getElem_mem hlt)
      have HGO := Lib.hid (fun hb => pick_go (s := s) hlt HI.out hb)
      have HNO := Lib.hid (fun hb => pick_no (s := s) hlt HI.out hb)
      obtain ⟨k, hk⟩ : ∃ k : Nat, l[j] = (k : Int) := ⟨l[j].toNat, (Int.toNat_of_nonneg hv9.1).symm⟩
      rw [hk] at hc hv9 HGO HNO
      have hkn : k < n := by omega
      have hk0 : (0 : Int) ≤ (k : Int) := by omega
      have hk1 : (k : Int) < (n : Int) := by omega
      have H2 := HH.out.below hbel
      have c12 : wr.cell? ⟨mb, 12, none⟩ = some (.slice (some ⟨gb, 0, none⟩) n n) := H2.cellM rfl
      have c13 : wr.cell? ⟨mb, 13, none⟩ = some (.slice (some ⟨hb, 0, none⟩) n n) := H2.cellM rfl
      have cg := H2.cellG (j := k) (by rw [HG.out]; exact hkn)
      have ch := H2.cellH (j := k) (by rw [HHS.out]; exact hkn)
      obtain ⟨gv, hgv⟩ : ∃ z, s.got.getD k 0 = z := ⟨_, rfl⟩
      obtain ⟨hv, hhv⟩ : ∃ z, s.has.getD k false = z := ⟨_, rfl⟩
      rw [hgv] at cg
      rw [hhv] at ch
      rw [show hasW s (k : Int) = hv from hhv] at HGO HNO
      rw [show gotW s (k : Int) = gv from hgv] at HGO
      have HZ : Hid (w.heap.size ≤ wr.heap.size) := hbel.size
      clear hv9 hk H2 hgv hhv
      cases hv
      · have HF := Lib.hid (HNO.out rfl)
        go_wp2_with fail
        rw [← HQ.out]
        exact ⟨hbel, .inl ⟨HF.out, rfl⟩⟩
      · have HF := Lib.hid (HGO.out rfl)
        go_wp2_with (at_builtin; (refine wpList_push_int rfl _ _ rfl w.heap.size _ r rfl HO.out gv rfl hrl2 HZ.out ?_; intro A2 c2 w9 hown9 hbel9; have H9 := Lib.hid hown9; have HB9 := Lib.hid (hbel9 _ _ (Nat.le_refl _) hbel); clear hown9 hbel9))
        go_roundw
        case rel => exact ⟨j + 1, r ++ [gv], A2, c2, by omega, by go_num, by simp, by simpa using H9.out, by have := HRL.out; simp; omega, HF.out, HB9.out⟩
        case measure => simp [intOf]; omega
    · have hj' : j = l.length := by omega
      have HF : Hid (pickW s l = some r) := show _ = _ by rw [HI.out, hj', List.drop_length]; simp [pickW]
      subst hj'
      go_wp2_with fail
      rw [← HQ.out]
      exact ⟨hbel, .inr ⟨r, A', c', HF.out, rfl, HO.out⟩⟩
end
end Go.Proofs.YtdilakpipbkokaaDoor
