import Derived.Test.YtddilnibglcabaaDoorLexJoins
import Derived.Test.YtddilnibglcabaaDoorShelf
namespace Go.Proofs.YtddilnibglcabaaDoor
open Go.RowKit

theorem strInfo : (Tryd.prog.info? 9).map (fun i => (i.zero, i.size, i.bytes)) = some (some (.string ⟨#[]⟩), 1, 16) := by kernel_rfl
theorem join_intercalate : ∀ (xs : List (List UInt8)), ([32] : List UInt8).intercalate xs = joinB xs := by
  intro xs
  induction xs with
  | nil => rfl
  | cons x xs ih =>
    cases xs with
    | nil => simp [joinB, List.intercalate]
    | cons y r =>
      rw [joinB, ← ih]
      simp [List.intercalate, List.intersperse]
/-- What a slice that the call owns reads as. -/
theorem owns_addr {w : World} {base : Nat} {e : TypeId} {size : Nat} {v : Value} {n : Nat} {xs : List Value} (h : w.ownsRow base e size v n xs) (hn : 0 < n) : ∃ g cap, v = .slice (some ⟨g, 0, none⟩) n cap ∧ g < w.heap.size ∧ n ≤ cap := by
  have hlt := h.lt
  obtain ⟨g, cap, rfl, hx⟩ := h.form hn
  rcases h.2 with ⟨hh, _⟩ | ⟨g', cap', cur, hh, h1, h2, h3, h4, h5, h6⟩
  · cases hh
  · cases hh
    exact ⟨g, cap, rfl, (hlt g rfl).2, by omega⟩
theorem Join_any (xs : List ByteArray) (v : Value) (base : Nat) (w : World) (ho : w.ownsRow base 9 1 v xs.length (xs.map Value.string)) (hN : xs.length ≤ 100000) (hlen : (joinB (xs.map bytesL)).length ≤ 100000) :
    Calls Tryd.prog 50 #[v, .string ⟨#[32]⟩] w (Ret (.string (mkB (joinB (xs.map bytesL)))) w) := by
  have hj : Lib.join (xs.map (·.data.toList)) (⟨#[32]⟩ : ByteArray).data.toList = joinB (xs.map bytesL) := join_intercalate _
  by_cases h0 : xs.length = 0
  · obtain ⟨A, c, rfl⟩ := owns_slice ho
    have hx : xs = [] := List.length_eq_zero_iff.1 h0
    subst hx
    refine (Tryd.strings_Join_none A c ⟨#[32]⟩ w).mono ?_
    rintro e w' ⟨rfl, rfl⟩
    exact ⟨rfl, Below.refl _ _⟩
  · obtain ⟨g, cap, rfl, hg, hcap⟩ := owns_addr ho (by omega)
    refine (Tryd.strings_Join g 0 cap xs ⟨#[32]⟩ w ?_ hg (by omega) hcap (by rw [hj]; omega)).mono ?_
    · intro j x hx
      have := ho.cells (g := g) rfl j (.string x) (by rw [List.getElem?_map, hx]; rfl)
      rcases Nat.eq_zero_or_pos j with h | h
      · subst h; simpa [Addr.add] using this
      · simpa [Addr.add, Nat.ne_of_gt h] using this
    · rintro e w' ⟨rfl, hb⟩
      exact ⟨by rw [hj]; rfl, hb⟩
theorem Text_any (ts : List Tok) (A : Option Addr) (c : Nat) (w : World) (hr : Row w A (ts.flatMap tokCells)) (hn : ts.length ≤ 1000) (hlen : (joinB (ts.map (·.text))).length ≤ 100000) :
    Calls Tryd.prog 21 #[.slice A ts.length c] w (Ret (.string (mkB (joinB (ts.map (·.text))))) w) := by
  obtain ⟨ti, hi, hz0, hz1, hz2⟩ := info_parts strInfo
  have HR := Lib.hid hr
  have HLEN := Lib.hid hlen
  clear hr hlen
  go_enter Tryd.func21, Tryd.ntmps21
  go_wp2_with fail
  go_loopw [3, 5, 8] (fun v _ i wr => ∃ k : Nat, k ≤ ts.length ∧ i = .int .i64 k ∧ wr.ownsRow w.heap.size 9 1 v k (((ts.take k).map (fun t => mkB t.text)).map Value.string) ∧ Below w.heap.size w wr) (fun _ _ i _ => ts.length - (intOf i).toNat)
  case atStart => exact ⟨0, by omega, rfl, World.ownsRow_nil _ _ _ _, Below.refl _ _⟩
  case round =>
    obtain ⟨k, hk, rfl, hO, hW⟩ := hrel
    by_cases hlt : k < ts.length
    · obtain ⟨b, off, rfl, a0, a1, a2⟩ := tok_cells (HR.out.keep (.of_below hW)) hlt
      have hlt' : (k : Int) < (ts.length : Int) := by omega
      have HW := Lib.hid hW
      have HO := Lib.hid hO
      clear hW hO
      go_wp2_with (at_builtin; refine wpList_append_own _ rfl _ _ 23 rfl w.heap.size 9 ti _ 1 16 Tryd.underlying23 hi hz0 hz1 hz2 rfl (by decide) _ _ _ rfl ((HO.out.alloc _).alloc _) ⟨wr.heap.size + 1, 0, none⟩ 1 1 [.string (mkB ts[k].text)] rfl rfl ?c1 ?c2 ?c3 ?c4 ?c5 ?_)
      case c1 =>
        intro i u hu
        match i, hu with
        | 0, hu => simp at hu; subst hu; simp [Addr.add]
      case c2 => intro u hu; simp at hu; subst hu; rfl
      case c3 => unfold maxLen; omega
      case c4 => omega
      case c5 => have := HW.out.size; simp; omega
      · intro v' w1 hown' hgrow _
        have hbl := HO.out.lt
        have HW1 := Lib.hid (Below.grown ((HW.out.alloc HW.out.size _).alloc (by simp; have := HW.out.size; omega) _) hgrow (by simp; have := HW.out.size; omega) (fun k hk => (hbl k hk).1))
        have HO1 : Hid (w1.ownsRow w.heap.size 9 1 v' (k + 1) (((ts.take (k + 1)).map (fun t => mkB t.text)).map Value.string)) := by
          show w1.ownsRow _ _ _ _ _ _
          rw [List.take_succ_eq_append_getElem hlt, List.map_append, List.map_append]
          simpa [List.map_map, List.map_take] using hown'
        clear hown' hgrow hbl
        go_wp2_with fail
        go_roundw
        case rel => exact ⟨k + 1, by omega, by go_num, HO1.out, HW1.out⟩
        case measure => simp [intOf]; omega
    · have hk' : k = ts.length := by omega
      subst hk'
      rw [List.take_length] at hO
      have HJ := Lib.hid (Join_any (ts.map (fun t => mkB t.text)) _ _ _ (by rw [List.length_map]; exact hO) (by rw [List.length_map]; omega) (by rw [List.map_map, show (bytesL ∘ fun t : Tok => mkB t.text) = fun t => t.text from rfl]; exact HLEN.out))
      have hO2 := hO
      clear hO
      have HW := Lib.hid hW
      clear hW hO2
      go_wp2_with (go_at_call 50; (with_reducible refine HJ.out.mono ?_); rintro x w' ⟨rfl, hb⟩)
      go_ret
      exact ⟨rfl, grow_trans HW.out hb⟩
end Go.Proofs.YtddilnibglcabaaDoor
