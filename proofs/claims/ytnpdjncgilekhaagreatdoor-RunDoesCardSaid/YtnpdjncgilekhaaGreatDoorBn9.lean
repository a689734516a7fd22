import Derived.Test.YtnpdjncgilekhaaGreatDoorShelf
import Derived.Shelf.Strings.SlTrimAscii
import Derived.Maps.OwnOps
import Derived.Maps.OwnSet
import Derived.StringKeys
import Derived.Test.YtnpdjncgilekhaaGreatDoorBn8
namespace Go.Proofs.YtnpdjncgilekhaaGreatDoor
open Go.RowKit

/-! lex.Name -/
theorem llet_any (c : UInt8) (w : World) : Calls Tryz.prog 70 #[.int .u8 (c.toNat : Int)] w fun e w' => e = .returned (.bool (isLetter c)) ∧ w' = w := by
  by_cases h1 : (97 : Int) ≤ c.toNat <;> by_cases h2 : (c.toNat : Int) ≤ 122
  all_goals
    have H := Lib.hid (And.intro h1 h2)
    go_enter Tryz.func70, Tryz.ntmps70
    go_wp2_with fail
    go_ret
    exact ⟨by obtain ⟨h1, h2⟩ := H.out; unfold isLetter; simp [h1, h2], rfl⟩
theorem lwrd_any (n : Nm) (w : World) : Calls Tryz.prog 72 #[strV n] w (Ret (.bool (wordsB.contains n)) w) := by
  have H := Lib.hid (isIn_words2 n)
  unfold strV
  go_enter Tryz.func72, Tryz.ntmps72
  go_wp2_with (go_at_call 36; refine (Contains_any _ _ wordsL2 _ _ (Row.new w _ _) (by decide)).mono ?_; rintro e w' ⟨rfl, rfl⟩)
  go_ret
  exact ⟨by rw [← H.out]; rfl, grow_alloc (grow_refl _) _⟩
def lettersB : List UInt8 := [97, 98, 99, 100, 101, 102, 103, 104, 105, 106, 107, 108, 109, 110, 111, 112, 113, 114, 115, 116, 117, 118, 119, 120, 121, 122, 48, 49, 50, 51, 52, 53, 54, 55, 56, 57]
theorem letters_alnum (c : UInt8) : lettersB.contains c = alnum c := by
  have h : ∀ k : Fin 256, lettersB.contains (UInt8.ofNat k.val) = alnum (UInt8.ofNat k.val) := by decide +kernel
  have := h ⟨c.toNat, c.toNat_lt⟩
  simpa using this
theorem dropWhile_nil {p : UInt8 → Bool} : ∀ (l : List UInt8), (l.dropWhile p = []) ↔ l.all p = true := by
  intro l
  induction l with
  | nil => simp
  | cons c l ih =>
    rw [List.dropWhile_cons, List.all_cons]
    cases h : p c <;> simp [ih]
theorem trim_nil (n : Nm) : (Lib.trimS n lettersB = []) ↔ n.all alnum = true := by
  have hf : (fun c => lettersB.contains c) = alnum := funext letters_alnum
  unfold Lib.trimS Lib.trimLeftS Lib.trimRightS
  rw [hf, dropWhile_nil]
  constructor
  · intro h
    have h2 : n.reverse.dropWhile alnum = [] := by
      cases hd : n.reverse.dropWhile alnum with
      | nil => rfl
      | cons c r =>
        rw [hd] at h
        have hc : alnum c = false := by
          have := List.head?_dropWhile_not (p := alnum) n.reverse
          rw [hd] at this
          simpa using this
        simp [hc] at h
    rw [dropWhile_nil] at h2
    simpa using h2
  · intro h
    have h2 : n.reverse.dropWhile alnum = [] := (dropWhile_nil _).2 (by simpa using h)
    rw [h2]; rfl
theorem ltrim_any (s : ByteArray) (n : Nm) (hn : s.data.toList = n) (hl : n.length ≤ 8) (w : World) (cs : ByteArray) (hc : cs.data.toList = lettersB) :
    Calls Tryz.prog 71 #[.string s, .string cs] w (Ret (strV (Lib.trimS n lettersB)) w) := by
  have hsz : s.size ≤ 9223372036854775807 := by
    have : s.size = n.length := by rw [← hn]; rfl
    omega
  have hcs : cs.size < 4294967281 := by
    have : cs.size = lettersB.length := by rw [← hc]; rfl
    rw [this]; decide
  have h := Any.strings_Trim_laid Tryz.lays160 (by kernel_rfl) s cs w hsz hcs (by rw [hc]; exact ascii_of_all (by decide))
  rw [hn, hc] at h
  exact h
set_option maxHeartbeats 1000000 in
theorem lexName_s (s : ByteArray) (w : World) (n : Nm) (hn : s.data.toList = n) : Calls Tryz.prog 49 #[.string s] w (Ret (.bool (nmOk n)) w) := by
  have hsz : s.size = n.length := by rw [← hn]; rfl
  have HS := Lib.hid hsz
  have HB := Lib.hid hn
  have hsn : s = mkB n := by rw [← hn]; rfl
  have htl : s.toList = n := by rw [hsn, mkB_toList]
  have hT : n.length ≤ 8 → ∀ w' cs, cs.data.toList = lettersB → Calls Tryz.prog 71 #[.string s, .string cs] w' (Ret (strV (Lib.trimS n lettersB)) w') := fun hl w' cs hc => ltrim_any s n hn hl w' cs hc
  have hW := lwrd_any n
  unfold strV at hT
  unfold strV at hW
  rw [← hsn] at hW
  have HW := Lib.hid hW
  clear hn hsn hW hsz
  by_cases h0 : n = []
  · subst h0
    have q0 : s.toList.isEmpty = true := by rw [htl]; rfl
    have HE : Hid (nmOk [] = false) := show _ = _ by rfl
    clear htl hT
    go_enter Tryz.func49, Tryz.ntmps49
    go_wp2_with fail
    go_ret
    exact ⟨by rw [HE.out]; rfl, grow_refl _⟩
  · have q0 : s.toList.isEmpty = false := by rw [htl]; cases n with
      | nil => exact absurd rfl h0
      | cons c l => rfl
    have hn1 : 1 ≤ n.length := by cases n with
      | nil => exact absurd rfl h0
      | cons c l => simp
    have hs1 : 0 < s.size := by rw [HS.out]; omega
    by_cases h8 : 8 < n.length
    · have q1 : ¬ ((s.size : Int) ≤ 8) := by rw [HS.out]; omega
      have HE : Hid (nmOk n = false) := show _ = _ by unfold nmOk; rw [decide_eq_false (p := n.length ≤ 8) (by omega)]; simp
      clear htl hT h0 h8
      go_enter Tryz.func49, Tryz.ntmps49
      go_wp2_with fail
      go_ret
      exact ⟨by rw [HE.out]; rfl, grow_refl _⟩
    · have q1 : (s.size : Int) ≤ 8 := by rw [HS.out]; omega
      have hhd : s[0] = n.headD 0 := by
        have := HB.out
        subst this
        cases hd : s.data.toList with
        | nil => exact absurd hd h0
        | cons c l =>
          have e : s[0] = s.data.toList[0]'(by rw [hd]; simp) := rfl
          rw [e]; simp [hd]
      have HE : Hid (nmOk n = (isLetter s[0] && n.all alnum && !wordsB.contains n)) := show _ = _ by
        unfold nmOk; rw [decide_eq_true (p := n.length ≤ 8) (by omega), decide_eq_true (p := 1 ≤ n.length) hn1, hhd]; simp
      have HT := Lib.hid (hT (by omega))
      clear htl hT h0 h8 hhd
      cases hlt : isLetter s[0]
      · have HF : Hid (nmOk n = false) := show _ = _ by rw [HE.out, hlt]; rfl
        go_enter Tryz.func49, Tryz.ntmps49
        go_wp2_with (go_at_call 70; (with_reducible refine (llet_any _ _).mono ?_); rintro e w' ⟨rfl, rfl⟩)
        go_ret
        exact ⟨by rw [HF.out]; rfl, grow_refl _⟩
      · cases hal : n.all alnum
        · have hne : Lib.trimS n lettersB ≠ [] := fun e => by rw [trim_nil] at e; rw [e] at hal; cases hal
          have HF : Hid (nmOk n = false) := show _ = _ by rw [HE.out, hal]; simp
          obtain ⟨t, ht⟩ : ∃ t, Lib.trimS n lettersB = t := ⟨_, rfl⟩
          rw [ht] at HT hne
          have q3 : (mkB t).toList.isEmpty = false := by rw [mkB_toList]; cases t with
            | nil => exact absurd rfl hne
            | cons c l => rfl
          have q4 : ((mkB t).toList == []) = false := by rw [mkB_toList]; cases t with
            | nil => exact absurd rfl hne
            | cons c l => rfl
          clear hne ht hal
          go_enter Tryz.func49, Tryz.ntmps49
          go_wp2_with (first
            | (go_at_call 70; (with_reducible refine (llet_any _ _).mono ?_); rintro e w' ⟨rfl, rfl⟩)
            | (go_at_call 71; (with_reducible refine (HT.out _ _ (by decide)).mono ?_); rintro e w1 ⟨rfl, hb1⟩))
          go_ret
          exact ⟨by rw [HF.out]; rfl, hb1⟩
        · rw [(trim_nil n).2 hal, show mkB [] = ⟨#[]⟩ from rfl] at HT
          have HF : Hid (nmOk n = !wordsB.contains n) := show _ = _ by rw [HE.out, hal, hlt]; simp
          clear hal
          cases hw : wordsB.contains n
          all_goals
            rw [hw] at HW HF
            go_enter Tryz.func49, Tryz.ntmps49
            go_wp2_with (first
              | (go_at_call 70; (with_reducible refine (llet_any _ _).mono ?_); rintro e w' ⟨rfl, rfl⟩)
              | (go_at_call 71; (with_reducible refine (HT.out _ _ (by decide)).mono ?_); rintro e w1 ⟨rfl, hb1⟩)
              | (go_at_call 72; (with_reducible refine (HW.out _).mono ?_); rintro e w2 ⟨rfl, hb2⟩))
            go_ret
            exact ⟨by rw [HF.out]; rfl, grow_trans hb1 hb2⟩
theorem lexName_any (n : Nm) (w : World) : Calls Tryz.prog 49 #[strV n] w (Ret (.bool (nmOk n)) w) := lexName_s (mkB n) w n rfl
end Go.Proofs.YtnpdjncgilekhaaGreatDoor

namespace Go.Proofs.YtnpdjncgilekhaaGreatDoor
open Go.RowKit

/-! maps from texts -/
def hR (v : Value) : Option (DataW Value × List MemPlace) := some (.held v, [])
theorem strKeyed : Maps.Keyed Tryz.prog 9 := Maps.string_keyed Tryz.underlying9
theorem strKey (k : List UInt8) (h : k.length ≤ 1000000) : keyOf Tryz.prog 9 (.string ⟨k.toArray⟩) = some (.string k) := by
  simpa using Go.WideMaps.keyOf_string_mk (P := Tryz.prog) Tryz.underlying9 (s := ⟨k.toArray⟩) (by simp [ByteArray.size, maxLen]; omega)
/-- Block b is a map of at most n texts; f tells what each has. -/
def MapAt (w : World) (b n : Nat) (f : List UInt8 → Option Value) : Prop :=
  ∃ D : DataW Value, w.ownsMap Tryz.prog 9 hR b n D ∧ Maps.IsMap D ∧ ∀ k : List UInt8, Maps.has D (.string k) = (f k).isSome ∧ ∀ v, f k = some v → ∀ z, D.atKey (.string k) z = .held v
theorem MapAt.lt {w : World} {b n : Nat} {f : List UInt8 → Option Value} (h : MapAt w b n f) : b < w.heap.size := by
  obtain ⟨D, ho, _⟩ := h; exact ho.lt
theorem MapAt.made (w : World) : MapAt (w.alloc (.map #[] 0)) w.heap.size 0 fun _ => none :=
  ⟨.map [], World.ownsMap_made _ _ _ _, Maps.isMap_empty, fun k => ⟨rfl, fun v h => by cases h⟩⟩
theorem MapAt.keep {w w' : World} {b n : Nat} {f : List UInt8 → Option Value} (h : MapAt w b n f) (hb : w'.heap[b]? = w.heap[b]?) : MapAt w' b n f := by
  obtain ⟨D, ⟨es, clock, h1, h2, h3, h4⟩, hm, hf⟩ := h
  exact ⟨D, ⟨es, clock, hb.trans h1, h2, h3, h4⟩, hm, hf⟩
theorem MapAt.below {w w' : World} {b n : Nat} {f : List UInt8 → Option Value} (h : MapAt w b n f) (hb : Below w.heap.size w w') : MapAt w' b n f := h.keep (hb.block b h.lt)
theorem MapAt.mono {w : World} {b n n' : Nat} {f : List UInt8 → Option Value} (h : MapAt w b n f) (hn : n ≤ n') : MapAt w b n' f := by
  obtain ⟨D, ho, hm, hf⟩ := h; exact ⟨D, ho.mono hn, hm, hf⟩
theorem MapAt.look {w : World} {b n : Nat} {f : List UInt8 → Option Value} (h : MapAt w b n f) {t e : TypeId} (ht : Tryz.prog.underlying t = some (.map 9 e)) {z : Value} (hz : (zeroValue e).run Tryz.prog w = .ok z w) (k : List UInt8) (hk : k.length ≤ 1000000) :
    (Instr.lookup t (.map (some b)) (.string (⟨k.toArray⟩ : ByteArray)) true).run Tryz.prog w = .ok (.tuple #[(f k).getD z, .bool (f k).isSome]) w := by
  obtain ⟨D, ho, _, hf⟩ := h
  obtain ⟨h1, h2⟩ := hf k
  obtain ⟨v, ps, hr, hv⟩ := ho.look_ok strKeyed ht hz (zd := .held z) (zp := []) rfl (key := .string ⟨k.toArray⟩) (kl := .string k) (strKey k hk)
  rw [hr, h1]
  have hv' : DataW.held v = D.atKey (.string k) (.held z) := congrArg Prod.fst (Option.some.inj hv)
  clear hr ho hz ht hv
  cases hfk : f k with
  | none =>
    rw [Maps.atKey_of_not_has (by rw [h1, hfk]; rfl)] at hv'
    injection hv' with e
    subst e; rfl
  | some u =>
    rw [h2 u hfk] at hv'
    injection hv' with e
    subst e; rfl
theorem MapAt.get {w : World} {b n : Nat} {f : List UInt8 → Option Value} (h : MapAt w b n f) {t e : TypeId} (ht : Tryz.prog.underlying t = some (.map 9 e)) {z : Value} (hz : (zeroValue e).run Tryz.prog w = .ok z w) (k : List UInt8) (hk : k.length ≤ 1000000) :
    (Instr.lookup t (.map (some b)) (.string (⟨k.toArray⟩ : ByteArray)) false).run Tryz.prog w = .ok ((f k).getD z) w := by
  obtain ⟨D, ho, _, hf⟩ := h
  obtain ⟨h1, h2⟩ := hf k
  obtain ⟨v, ps, hr, hv⟩ := ho.lookup strKeyed ht hz (zd := .held z) (zp := []) rfl (key := .string ⟨k.toArray⟩) (kl := .string k) (strKey k hk)
  rw [hr]
  have hv' : DataW.held v = D.atKey (.string k) (.held z) := congrArg Prod.fst (Option.some.inj hv)
  clear hr ho hz ht hv
  cases hfk : f k with
  | none =>
    rw [Maps.atKey_of_not_has (by rw [h1, hfk]; rfl)] at hv'
    injection hv' with e
    subst e; rfl
  | some u =>
    rw [h2 u hfk] at hv'
    injection hv' with e
    subst e; rfl
/-- What a map has behind a store. -/
def putF (f : List UInt8 → Option Value) (k : List UInt8) (v : Value) : List UInt8 → Option Value := fun x => if x = k then some v else f x
theorem MapAt.of_put {w' : World} {b n : Nat} {f : List UInt8 → Option Value} {D : DataW Value} (hm : Maps.IsMap D) (hf : ∀ k : List UInt8, Maps.has D (.string k) = (f k).isSome ∧ ∀ v, f k = some v → ∀ z, D.atKey (.string k) z = .held v) {k : List UInt8} {v : Value}
    (ho : w'.ownsMap Tryz.prog 9 hR b n (D.put (.string k) (.held v))) : MapAt w' b n (putF f k v) := by
  refine ⟨_, ho, hm.put _ _, fun x => ?_⟩
  by_cases hx : x = k
  · subst hx
    refine ⟨by rw [Maps.has_put_same hm (by trivial)]; simp [putF], fun u hu z => ?_⟩
    rw [Maps.atKey_put_same hm (by trivial)]
    simp only [putF, if_true, Option.some.injEq] at hu
    rw [hu]
  · have hne : Lit.string x ≠ Lit.string k := fun e => hx (by injection e)
    refine ⟨by rw [Maps.has_put_other hne, (hf x).1]; simp [putF, hx], fun u hu z => ?_⟩
    rw [Maps.atKey_put_other hne]
    simp only [putF, if_neg hx] at hu
    exact (hf x).2 u hu z
end Go.Proofs.YtnpdjncgilekhaaGreatDoor

namespace Go.Proofs.YtnpdjncgilekhaaGreatDoor
open Go.RowKit

/-- The error of a number (0: none). -/
def eV (E : Nat → Addr) (n : Nat) : Value := if n = 0 then .nilIface else esV (E (n - 1))
theorem eV_zero (E : Nat → Addr) : eV E 0 = .nilIface := rfl
theorem eV_succ (E : Nat → Addr) (n : Nat) : eV E (n + 1) = esV (E n) := rfl
theorem eV_pos (E : Nat → Addr) {n : Nat} (h : n ≠ 0) : eV E n = esV (E (n - 1)) := by unfold eV; rw [if_neg h]
theorem errOf_eV (E : Nat → Addr) (o : Option Int) : errOf o (esV (E 3)) = eV E (if o.isSome then 0 else 4) := by cases o <;> rfl
theorem bareB_num {e : PExpr} (h : e.kind = xNum) : bareB e = (decide (0 ≤ e.num) && e.name.isEmpty && e.kids.isEmpty) := by unfold bareB; rw [if_pos h]
theorem bareB_name {e : PExpr} (h : e.kind = xName) : bareB e = ((e.num == 0) && nmOk e.name && e.kids.isEmpty) := by
  unfold bareB; rw [if_neg (by rw [h]; decide), if_pos h]
theorem bareB_call {e : PExpr} (h : e.kind = xCall) : bareB e = ((e.num == 0) && nmOk e.name) := by
  unfold bareB; rw [if_neg (by rw [h]; decide), if_neg (by rw [h]; decide), if_pos h]
theorem bareB_one {e : PExpr} (h : e.kind = xOne) : bareB e = ((e.num == 0) && isOneB e.name && decide (e.kids.length = 1)) := by
  unfold bareB; rw [if_neg (by rw [h]; decide), if_neg (by rw [h]; decide), if_neg (by rw [h]; decide), if_pos h]
theorem bareB_two {e : PExpr} (h : e.kind = xTwo) : bareB e = ((e.num == 0) && isTwoB e.name && decide (e.kids.length = 2)) := by
  unfold bareB; rw [if_neg (by rw [h]; decide), if_neg (by rw [h]; decide), if_neg (by rw [h]; decide), if_neg (by rw [h]; decide), if_pos h]
theorem bareB_none {e : PExpr} (h0 : e.kind ≠ xNum) (h1 : e.kind ≠ xName) (h2 : e.kind ≠ xCall) (h3 : e.kind ≠ xOne) (h4 : e.kind ≠ xTwo) : bareB e = false := by
  unfold bareB; rw [if_neg h0, if_neg h1, if_neg h2, if_neg h3, if_neg h4]
theorem isEmpty_len {α : Type} (l : List α) : l.isEmpty = decide (l.length = 0) := by cases l <;> simp
theorem oneV_some (l : Nm) (a b : Int) : (oneV l a).isSome = (oneV l b).isSome := by unfold oneV; repeat (first | rfl | split)
theorem empty_mkB (n : Nm) : n.isEmpty = (mkB n).toList.isEmpty := by rw [mkB_toList]
set_option maxHeartbeats 1000000 in
set_option maxRecDepth 100000 in
theorem bare_num (e : PExpr) (hk : e.kind = xNum) (A : Option Addr) (c : Nat) (w : World) : Calls Tryz.prog 104 #[exprV e A c] w (Ret (.bool (bareB e)) w) := by
  have g0 : ((mkB e.kind).toList == [110, 117, 109]) = true := by rw [mkB_toList, hk]; rfl
  have hb := bareB_num hk
  rw [empty_mkB, isEmpty_len e.kids] at hb
  have HB := Lib.hid hb
  unfold exprV
  clear hk hb
  by_cases h1 : 0 ≤ e.num
  · cases h2 : (mkB e.name).toList.isEmpty
    · have HF : Hid (bareB e = false) := show _ = _ by rw [HB.out, h2]; simp
      go_enter Tryz.func104, Tryz.ntmps104
      go_wp2_with fail
      go_ret
      exact ⟨by rw [HF.out]; rfl, grow_alloc (grow_refl _) _⟩
    · by_cases h3 : e.kids.length = 0
      · have q3 : ((e.kids.length : Int) == 0) = true := by rw [h3]; rfl
        have HF : Hid (bareB e = true) := show _ = _ by rw [HB.out, h2, h3]; simp [h1]
        clear h3
        go_enter Tryz.func104, Tryz.ntmps104
        go_wp2_with fail
        go_ret
        exact ⟨by rw [HF.out]; rfl, grow_alloc (grow_refl _) _⟩
      · have q3 : ((e.kids.length : Int) == 0) = false := beq_eq_false_iff_ne.2 (by omega)
        have HF : Hid (bareB e = false) := show _ = _ by rw [HB.out, decide_eq_false h3]; simp
        clear h3
        go_enter Tryz.func104, Tryz.ntmps104
        go_wp2_with fail
        go_ret
        exact ⟨by rw [HF.out]; rfl, grow_alloc (grow_refl _) _⟩
  · have HF : Hid (bareB e = false) := show _ = _ by rw [HB.out, decide_eq_false h1]; simp
    go_enter Tryz.func104, Tryz.ntmps104
    go_wp2_with fail
    go_ret
    exact ⟨by rw [HF.out]; rfl, grow_alloc (grow_refl _) _⟩
set_option maxHeartbeats 1000000 in
set_option maxRecDepth 100000 in
theorem bare_name (e : PExpr) (hk : e.kind = xName) (A : Option Addr) (c : Nat) (w : World) : Calls Tryz.prog 104 #[exprV e A c] w (Ret (.bool (bareB e)) w) := by
  have g0 : ((mkB e.kind).toList == [110, 117, 109]) = false := by rw [mkB_toList, hk]; rfl
  have g1 : ((mkB e.kind).toList == [110, 97, 109, 101]) = true := by rw [mkB_toList, hk]; rfl
  have hb := bareB_name hk
  rw [isEmpty_len e.kids] at hb
  have HB := Lib.hid hb
  have HN := Lib.hid (fun w => lexName_any e.name w)
  unfold exprV
  unfold strV at HN
  clear hk hb
  cases h1 : (e.num == 0)
  · have HF : Hid (bareB e = false) := show _ = _ by rw [HB.out, h1]; simp
    go_enter Tryz.func104, Tryz.ntmps104
    go_wp2_with fail
    go_ret
    exact ⟨by rw [HF.out]; rfl, grow_alloc (grow_refl _) _⟩
  · cases h2 : nmOk e.name
    · have HF : Hid (bareB e = false) := show _ = _ by rw [HB.out, h2]; simp
      rw [h2] at HN
      clear h2
      go_enter Tryz.func104, Tryz.ntmps104
      go_wp2_with (go_at_call 49; (with_reducible refine (HN.out _).mono ?_); rintro x w1 ⟨rfl, hb1⟩)
      go_ret
      exact ⟨by rw [HF.out]; rfl, grow_trans (grow_alloc (grow_refl _) _) hb1⟩
    · rw [h2] at HN
      by_cases h3 : e.kids.length = 0
      · have q3 : ((e.kids.length : Int) == 0) = true := by rw [h3]; rfl
        have HF : Hid (bareB e = true) := show _ = _ by rw [HB.out, h1, h2, h3]; simp
        clear h3 h2
        go_enter Tryz.func104, Tryz.ntmps104
        go_wp2_with (go_at_call 49; (with_reducible refine (HN.out _).mono ?_); rintro x w1 ⟨rfl, hb1⟩; have b3 := Keeps.of_below hb1 _ _ (cell_of_row _ _ 3 _ _ _ (heap_alloc_new w (.cells #[.string (mkB e.kind), .int .i64 e.num, .string (mkB e.name), .slice A e.kids.length c] 56))))
        go_ret
        exact ⟨by rw [HF.out]; rfl, grow_trans (grow_alloc (grow_refl _) _) hb1⟩
      · have q3 : ((e.kids.length : Int) == 0) = false := beq_eq_false_iff_ne.2 (by omega)
        have HF : Hid (bareB e = false) := show _ = _ by rw [HB.out, decide_eq_false h3]; simp
        clear h3 h2
        go_enter Tryz.func104, Tryz.ntmps104
        go_wp2_with (go_at_call 49; (with_reducible refine (HN.out _).mono ?_); rintro x w1 ⟨rfl, hb1⟩; have b3 := Keeps.of_below hb1 _ _ (cell_of_row _ _ 3 _ _ _ (heap_alloc_new w (.cells #[.string (mkB e.kind), .int .i64 e.num, .string (mkB e.name), .slice A e.kids.length c] 56))))
        go_ret
        exact ⟨by rw [HF.out]; rfl, grow_trans (grow_alloc (grow_refl _) _) hb1⟩
set_option maxHeartbeats 1000000 in
set_option maxRecDepth 100000 in
theorem bare_call (e : PExpr) (hk : e.kind = xCall) (A : Option Addr) (c : Nat) (w : World) : Calls Tryz.prog 104 #[exprV e A c] w (Ret (.bool (bareB e)) w) := by
  have g0 : ((mkB e.kind).toList == [110, 117, 109]) = false := by rw [mkB_toList, hk]; rfl
  have g1 : ((mkB e.kind).toList == [110, 97, 109, 101]) = false := by rw [mkB_toList, hk]; rfl
  have g2 : ((mkB e.kind).toList == [99, 97, 108, 108]) = true := by rw [mkB_toList, hk]; rfl
  have HB := Lib.hid (bareB_call hk)
  have HN := Lib.hid (fun w => lexName_any e.name w)
  unfold exprV
  unfold strV at HN
  clear hk
  cases h1 : (e.num == 0)
  · have HF : Hid (bareB e = false) := show _ = _ by rw [HB.out, h1]; simp
    go_enter Tryz.func104, Tryz.ntmps104
    go_wp2_with fail
    go_ret
    exact ⟨by rw [HF.out]; rfl, grow_alloc (grow_refl _) _⟩
  · cases h2 : nmOk e.name
    all_goals
      have HF := HB
      rw [h1, h2] at HF
      rw [h2] at HN
      clear h2
      go_enter Tryz.func104, Tryz.ntmps104
      go_wp2_with (go_at_call 49; (with_reducible refine (HN.out _).mono ?_); rintro x w1 ⟨rfl, hb1⟩)
      go_ret
      exact ⟨by rw [HF.out]; rfl, grow_trans (grow_alloc (grow_refl _) _) hb1⟩
set_option maxHeartbeats 2000000 in
set_option maxRecDepth 100000 in
theorem bare_one (e : PExpr) (hk : e.kind = xOne) (E : Nat → Addr) (A : Option Addr) (c : Nat) (w : World) (hE : Laid E w) : Calls Tryz.prog 104 #[exprV e A c] w (Ret (.bool (bareB e)) w) := by
  have g0 : ((mkB e.kind).toList == [110, 117, 109]) = false := by rw [mkB_toList, hk]; rfl
  have g1 : ((mkB e.kind).toList == [110, 97, 109, 101]) = false := by rw [mkB_toList, hk]; rfl
  have g2 : ((mkB e.kind).toList == [99, 97, 108, 108]) = false := by rw [mkB_toList, hk]; rfl
  have g3 : ((mkB e.kind).toList == [111, 110, 101]) = true := by rw [mkB_toList, hk]; rfl
  have HB := Lib.hid (bareB_one hk)
  have HO : Hid (∀ w', Below w.heap.size w w' → Calls Tryz.prog 108 #[.string (mkB e.name), .int .i64 0] w' (Quiet (.tuple #[.int .i64 (valOf (oneV e.name 0)), eV E (if (oneV e.name 0).isSome then 0 else 4)]) w')) := fun w' hb => by
    have := One_any (mkB e.name) 0 (esV (E 3)) w' (hE.keep hb).c3
    rw [mkB_toList, errOf_eV] at this
    exact this
  unfold exprV
  obtain ⟨V, hV⟩ : ∃ V, valOf (oneV e.name 0) = V := ⟨_, rfl⟩
  rw [hV] at HO
  have hI : isOneB e.name = (oneV e.name 0).isSome := rfl
  rw [hI] at HB
  clear hk hE hV hI
  cases h1 : (e.num == 0)
  · have HF : Hid (bareB e = false) := show _ = _ by rw [HB.out, h1]; simp
    cases h2 : (oneV e.name 0).isSome
    all_goals
      rw [h2] at HO
      clear h2 HB
      go_enter Tryz.func104, Tryz.ntmps104
      go_wp2_with (go_at_call 108; (with_reducible refine (HO.out _ (grow_alloc (grow_refl _) _)).mono ?_); rintro x w1 ⟨rfl, n1, rfl⟩)
      go_ret
      exact ⟨by rw [HF.out]; rfl, grow_drew (grow_alloc (grow_refl _) _) _⟩
  · cases h2 : (oneV e.name 0).isSome
    · have HF : Hid (bareB e = false) := show _ = _ by rw [HB.out, h2]; simp
      rw [h2] at HO
      rw [show (eV E (if false = true then 0 else 4)) = esV (E 3) from rfl] at HO
      clear h2 HB
      go_enter Tryz.func104, Tryz.ntmps104
      go_wp2_with (go_at_call 108; (with_reducible refine (HO.out _ (grow_alloc (grow_refl _) _)).mono ?_); rintro x w1 ⟨rfl, n1, rfl⟩)
      go_ret
      exact ⟨by rw [HF.out]; rfl, grow_drew (grow_alloc (grow_refl _) _) _⟩
    · rw [h2] at HO
      rw [show (eV E (if true = true then 0 else 4)) = .nilIface from rfl] at HO
      by_cases h3 : e.kids.length = 1
      · have q3 : ((e.kids.length : Int) == 1) = true := by rw [h3]; rfl
        have HF : Hid (bareB e = true) := show _ = _ by rw [HB.out, h1, h2, h3]; simp
        clear h2 HB h3
        go_enter Tryz.func104, Tryz.ntmps104
        go_wp2_with (go_at_call 108; (with_reducible refine (HO.out _ (grow_alloc (grow_refl _) _)).mono ?_); rintro x w1 ⟨rfl, n1, rfl⟩)
        go_ret
        exact ⟨by rw [HF.out]; rfl, grow_drew (grow_alloc (grow_refl _) _) _⟩
      · have q3 : ((e.kids.length : Int) == 1) = false := beq_eq_false_iff_ne.2 (by omega)
        have HF : Hid (bareB e = false) := show _ = _ by rw [HB.out, decide_eq_false h3]; simp
        clear h2 HB h3
        go_enter Tryz.func104, Tryz.ntmps104
        go_wp2_with (go_at_call 108; (with_reducible refine (HO.out _ (grow_alloc (grow_refl _) _)).mono ?_); rintro x w1 ⟨rfl, n1, rfl⟩)
        go_ret
        exact ⟨by rw [HF.out]; rfl, grow_drew (grow_alloc (grow_refl _) _) _⟩
set_option maxHeartbeats 2000000 in
set_option maxRecDepth 100000 in
theorem bare_two (e : PExpr) (hk : e.kind = xTwo) (E : Nat → Addr) (A : Option Addr) (c : Nat) (w : World) (hE : Laid E w) : Calls Tryz.prog 104 #[exprV e A c] w (Ret (.bool (bareB e)) w) := by
  have g0 : ((mkB e.kind).toList == [110, 117, 109]) = false := by rw [mkB_toList, hk]; rfl
  have g1 : ((mkB e.kind).toList == [110, 97, 109, 101]) = false := by rw [mkB_toList, hk]; rfl
  have g2 : ((mkB e.kind).toList == [99, 97, 108, 108]) = false := by rw [mkB_toList, hk]; rfl
  have g3 : ((mkB e.kind).toList == [111, 110, 101]) = false := by rw [mkB_toList, hk]; rfl
  have g4 : ((mkB e.kind).toList == [116, 119, 111]) = true := by rw [mkB_toList, hk]; rfl
  have HB := Lib.hid (bareB_two hk)
  have HO : Hid (∀ w', Below w.heap.size w w' → Calls Tryz.prog 109 #[.string (mkB e.name), .int .i64 0, .int .i64 0] w' (Quiet (.tuple #[.int .i64 (valOf (doV e.name 0 0)), eV E (if (doV e.name 0 0).isSome then 0 else 4)]) w')) := fun w' hb => by
    have := Do_any (mkB e.name) 0 0 (esV (E 3)) w' (hE.keep hb).c3
    rw [mkB_toList, errOf_eV] at this
    exact this
  unfold exprV
  obtain ⟨V, hV⟩ : ∃ V, valOf (doV e.name 0 0) = V := ⟨_, rfl⟩
  rw [hV] at HO
  have hI : isTwoB e.name = (doV e.name 0 0).isSome := rfl
  rw [hI] at HB
  clear hk hE hV hI
  cases h1 : (e.num == 0)
  · have HF : Hid (bareB e = false) := show _ = _ by rw [HB.out, h1]; simp
    cases h2 : (doV e.name 0 0).isSome
    all_goals
      rw [h2] at HO
      clear h2 HB
      go_enter Tryz.func104, Tryz.ntmps104
      go_wp2_with (go_at_call 109; (with_reducible refine (HO.out _ (grow_alloc (grow_refl _) _)).mono ?_); rintro x w1 ⟨rfl, n1, rfl⟩)
      go_ret
      exact ⟨by rw [HF.out]; rfl, grow_drew (grow_alloc (grow_refl _) _) _⟩
  · cases h2 : (doV e.name 0 0).isSome
    · have HF : Hid (bareB e = false) := show _ = _ by rw [HB.out, h2]; simp
      rw [h2] at HO
      rw [show (eV E (if false = true then 0 else 4)) = esV (E 3) from rfl] at HO
      clear h2 HB
      go_enter Tryz.func104, Tryz.ntmps104
      go_wp2_with (go_at_call 109; (with_reducible refine (HO.out _ (grow_alloc (grow_refl _) _)).mono ?_); rintro x w1 ⟨rfl, n1, rfl⟩)
      go_ret
      exact ⟨by rw [HF.out]; rfl, grow_drew (grow_alloc (grow_refl _) _) _⟩
    · rw [h2] at HO
      rw [show (eV E (if true = true then 0 else 4)) = .nilIface from rfl] at HO
      by_cases h3 : e.kids.length = 2
      · have q3 : ((e.kids.length : Int) == 2) = true := by rw [h3]; rfl
        have HF : Hid (bareB e = true) := show _ = _ by rw [HB.out, h1, h2, h3]; simp
        clear h2 HB h3
        go_enter Tryz.func104, Tryz.ntmps104
        go_wp2_with (go_at_call 109; (with_reducible refine (HO.out _ (grow_alloc (grow_refl _) _)).mono ?_); rintro x w1 ⟨rfl, n1, rfl⟩)
        go_ret
        exact ⟨by rw [HF.out]; rfl, grow_drew (grow_alloc (grow_refl _) _) _⟩
      · have q3 : ((e.kids.length : Int) == 2) = false := beq_eq_false_iff_ne.2 (by omega)
        have HF : Hid (bareB e = false) := show _ = _ by rw [HB.out, decide_eq_false h3]; simp
        clear h2 HB h3
        go_enter Tryz.func104, Tryz.ntmps104
        go_wp2_with (go_at_call 109; (with_reducible refine (HO.out _ (grow_alloc (grow_refl _) _)).mono ?_); rintro x w1 ⟨rfl, n1, rfl⟩)
        go_ret
        exact ⟨by rw [HF.out]; rfl, grow_drew (grow_alloc (grow_refl _) _) _⟩
set_option maxRecDepth 100000 in
theorem bare_none (e : PExpr) (h0 : e.kind ≠ xNum) (h1 : e.kind ≠ xName) (h2 : e.kind ≠ xCall) (h3 : e.kind ≠ xOne) (h4 : e.kind ≠ xTwo) (A : Option Addr) (c : Nat) (w : World) : Calls Tryz.prog 104 #[exprV e A c] w (Ret (.bool (bareB e)) w) := by
  have g0 : ((mkB e.kind).toList == [110, 117, 109]) = false := by rw [mkB_toList]; exact beq_eq_false_iff_ne.2 h0
  have g1 : ((mkB e.kind).toList == [110, 97, 109, 101]) = false := by rw [mkB_toList]; exact beq_eq_false_iff_ne.2 h1
  have g2 : ((mkB e.kind).toList == [99, 97, 108, 108]) = false := by rw [mkB_toList]; exact beq_eq_false_iff_ne.2 h2
  have g3 : ((mkB e.kind).toList == [111, 110, 101]) = false := by rw [mkB_toList]; exact beq_eq_false_iff_ne.2 h3
  have g4 : ((mkB e.kind).toList == [116, 119, 111]) = false := by rw [mkB_toList]; exact beq_eq_false_iff_ne.2 h4
  have HF : Hid (bareB e = false) := bareB_none h0 h1 h2 h3 h4
  unfold exprV
  clear h0 h1 h2 h3 h4
  go_enter Tryz.func104, Tryz.ntmps104
  go_wp2_with fail
  go_ret
  exact ⟨by rw [HF.out]; rfl, grow_alloc (grow_refl _) _⟩
theorem bare_any (e : PExpr) (E : Nat → Addr) (A : Option Addr) (c : Nat) (w : World) (hE : Laid E w) : Calls Tryz.prog 104 #[exprV e A c] w (Ret (.bool (bareB e)) w) := by
  by_cases h0 : e.kind = xNum
  · exact bare_num e h0 A c w
  by_cases h1 : e.kind = xName
  · exact bare_name e h1 A c w
  by_cases h2 : e.kind = xCall
  · exact bare_call e h2 A c w
  by_cases h3 : e.kind = xOne
  · exact bare_one e h3 E A c w hE
  by_cases h4 : e.kind = xTwo
  · exact bare_two e h4 E A c w hE
  exact bare_none e h0 h1 h2 h3 h4 A c w
end Go.Proofs.YtnpdjncgilekhaaGreatDoor

namespace Go.Proofs.YtnpdjncgilekhaaGreatDoor
open Go.RowKit

def stmtV (s : PStmt) (X : Option Addr) (x : Nat) (T : Option Addr) (t : Nat) (L : Option Addr) (l : Nat) : Value := .agg #[.string (mkB s.kind), .string (mkB s.name), .string (mkB s.e.kind), .int .i64 s.e.num, .string (mkB s.e.name), .slice X s.e.kids.length x, .slice T s.th.length t, .slice L s.el.length l]
def Shp (s : PStmt) : Bool := shapedB s.kind s.name s.th.length s.el.length
theorem shp_named {s : PStmt} (h : s.kind = sVar ∨ s.kind = sSet) : Shp s = (nmOk s.name && decide (s.th.length = 0) && decide (s.el.length = 0)) := by unfold Shp shapedB; rw [if_pos h]
theorem shp_if {s : PStmt} (h : s.kind = sIf) : Shp s = s.name.isEmpty := by unfold Shp shapedB; rw [if_neg (by rw [h]; decide), if_pos h]
theorem shp_while {s : PStmt} (h : s.kind = sWhile) : Shp s = (s.name.isEmpty && decide (s.el.length = 0)) := by unfold Shp shapedB; rw [if_neg (by rw [h]; decide), if_neg (by rw [h]; decide), if_pos h]
theorem shp_ret {s : PStmt} (h : s.kind = sReturn ∨ s.kind = sPrint) : Shp s = (s.name.isEmpty && decide (s.th.length = 0) && decide (s.el.length = 0)) := by
  unfold Shp shapedB
  rw [if_neg (by rcases h with h | h <;> rw [h] <;> decide), if_neg (by rcases h with h | h <;> rw [h] <;> decide), if_neg (by rcases h with h | h <;> rw [h] <;> decide), if_pos h]
theorem shp_none {s : PStmt} (h0 : s.kind ≠ sVar) (h1 : s.kind ≠ sSet) (h2 : s.kind ≠ sIf) (h3 : s.kind ≠ sWhile) (h4 : s.kind ≠ sReturn) (h5 : s.kind ≠ sPrint) : Shp s = false := by
  unfold Shp shapedB; rw [if_neg (by simp [h0, h1]), if_neg h2, if_neg h3, if_neg (by simp [h4, h5])]
def kB (s : PStmt) (k : Nm) : Prop := s.kind = k
theorem kind_yes {s : PStmt} {k : Nm} (h : s.kind = k) : ((mkB s.kind).toList == k) = true := by rw [mkB_toList, h]; simp
theorem kind_no {s : PStmt} {k : Nm} (h : s.kind ≠ k) : ((mkB s.kind).toList == k) = false := by rw [mkB_toList]; exact beq_eq_false_iff_ne.2 h
section
variable (s : PStmt) (X : Option Addr) (x : Nat) (T : Option Addr) (t : Nat) (L : Option Addr) (l : Nat) (w : World)
set_option maxHeartbeats 1000000 in
set_option maxRecDepth 100000 in
theorem shaped_named (ht : s.th.length ≤ 30) (hl : s.el.length ≤ 30) (h : s.kind = sVar ∨ s.kind = sSet) : Calls Tryz.prog 91 #[stmtV s X x T t L l] w (Ret (.bool (Shp s)) w) := by
  have HB := Lib.hid (shp_named h)
  have HN := Lib.hid (fun w => lexName_any s.name w)
  have g : ((mkB s.kind).toList == sVar) = true ∨ (((mkB s.kind).toList == sVar) = false ∧ ((mkB s.kind).toList == sSet) = true) := by
    rcases h with h | h
    · exact .inl (kind_yes h)
    · exact .inr ⟨kind_no (by rw [h]; decide), kind_yes h⟩
  unfold stmtV
  unfold strV at HN
  unfold sVar sSet at g
  clear h
  rcases g with g0 | ⟨g0, g1⟩
  all_goals
    cases h1 : nmOk s.name
    · have HF : Hid (Shp s = false) := show _ = _ by rw [HB.out, h1]; simp
      rw [h1] at HN
      clear h1 HB
      go_enter Tryz.func91, Tryz.ntmps91
      go_wp2_with (go_at_call 49; (with_reducible refine (HN.out _).mono ?_); rintro x w1 ⟨rfl, hb1⟩)
      go_ret
      exact ⟨by rw [HF.out]; rfl, grow_trans (grow_alloc (grow_refl _) _) hb1⟩
    · rw [h1] at HN
      by_cases h3 : s.th.length + s.el.length = 0
      · have q3 : ((s.th.length : Int) + s.el.length == 0) = true := beq_iff_eq.2 (by omega)
        have HF : Hid (Shp s = true) := show _ = _ by rw [HB.out, h1, decide_eq_true (p := s.th.length = 0) (by omega), decide_eq_true (p := s.el.length = 0) (by omega)]; rfl
        clear h3 h1 HB
        go_enter Tryz.func91, Tryz.ntmps91
        go_wp2_with (go_at_call 49; (with_reducible refine (HN.out _).mono ?_); rintro y w1 ⟨rfl, hb1⟩; have b6 := Keeps.of_below hb1 _ _ (cell_of_row _ _ 6 _ _ _ (heap_alloc_new w (.cells #[.string (mkB s.kind), .string (mkB s.name), .string (mkB s.e.kind), .int .i64 s.e.num, .string (mkB s.e.name), .slice X s.e.kids.length x, .slice T s.th.length t, .slice L s.el.length l] 58))); have b7 := Keeps.of_below hb1 _ _ (cell_of_row _ _ 7 _ _ _ (heap_alloc_new w (.cells #[.string (mkB s.kind), .string (mkB s.name), .string (mkB s.e.kind), .int .i64 s.e.num, .string (mkB s.e.name), .slice X s.e.kids.length x, .slice T s.th.length t, .slice L s.el.length l] 58))))
        go_ret
        exact ⟨by rw [HF.out]; rfl, grow_trans (grow_alloc (grow_refl _) _) hb1⟩
      · have q3 : ((s.th.length : Int) + s.el.length == 0) = false := beq_eq_false_iff_ne.2 (by omega)
        have HF : Hid (Shp s = false) := show _ = _ by
          rw [HB.out]
          by_cases q : s.th.length = 0
          · rw [decide_eq_false (p := s.el.length = 0) (by omega)]; simp
          · rw [decide_eq_false q]; simp
        clear h3 h1 HB
        go_enter Tryz.func91, Tryz.ntmps91
        go_wp2_with (go_at_call 49; (with_reducible refine (HN.out _).mono ?_); rintro y w1 ⟨rfl, hb1⟩; have b6 := Keeps.of_below hb1 _ _ (cell_of_row _ _ 6 _ _ _ (heap_alloc_new w (.cells #[.string (mkB s.kind), .string (mkB s.name), .string (mkB s.e.kind), .int .i64 s.e.num, .string (mkB s.e.name), .slice X s.e.kids.length x, .slice T s.th.length t, .slice L s.el.length l] 58))); have b7 := Keeps.of_below hb1 _ _ (cell_of_row _ _ 7 _ _ _ (heap_alloc_new w (.cells #[.string (mkB s.kind), .string (mkB s.name), .string (mkB s.e.kind), .int .i64 s.e.num, .string (mkB s.e.name), .slice X s.e.kids.length x, .slice T s.th.length t, .slice L s.el.length l] 58))))
        go_ret
        exact ⟨by rw [HF.out]; rfl, grow_trans (grow_alloc (grow_refl _) _) hb1⟩
set_option maxHeartbeats 1000000 in
set_option maxRecDepth 100000 in
theorem shaped_if (h : s.kind = sIf) : Calls Tryz.prog 91 #[stmtV s X x T t L l] w (Ret (.bool (Shp s)) w) := by
  have g0 := kind_no (s := s) (k := sVar) (by rw [h]; decide)
  have g1 := kind_no (s := s) (k := sSet) (by rw [h]; decide)
  have g2 := kind_yes h
  have hb := shp_if h
  rw [empty_mkB] at hb
  have HB := Lib.hid hb
  unfold stmtV
  unfold sVar at g0
  unfold sSet at g1
  unfold sIf at g2
  clear h hb
  cases h1 : (mkB s.name).toList.isEmpty
  all_goals
    rw [h1] at HB
    go_enter Tryz.func91, Tryz.ntmps91
    go_wp2_with fail
    go_ret
    exact ⟨by rw [HB.out]; rfl, grow_alloc (grow_refl _) _⟩
set_option maxHeartbeats 1000000 in
set_option maxRecDepth 100000 in
theorem shaped_while (h : s.kind = sWhile) : Calls Tryz.prog 91 #[stmtV s X x T t L l] w (Ret (.bool (Shp s)) w) := by
  have g0 := kind_no (s := s) (k := sVar) (by rw [h]; decide)
  have g1 := kind_no (s := s) (k := sSet) (by rw [h]; decide)
  have g2 := kind_no (s := s) (k := sIf) (by rw [h]; decide)
  have g3 := kind_yes h
  have hb := shp_while h
  rw [empty_mkB] at hb
  have HB := Lib.hid hb
  unfold stmtV
  unfold sVar at g0
  unfold sSet at g1
  unfold sIf at g2
  unfold sWhile at g3
  clear h hb
  cases h1 : (mkB s.name).toList.isEmpty
  · have HF : Hid (Shp s = false) := show _ = _ by rw [HB.out, h1]; rfl
    go_enter Tryz.func91, Tryz.ntmps91
    go_wp2_with fail
    go_ret
    exact ⟨by rw [HF.out]; rfl, grow_alloc (grow_refl _) _⟩
  · by_cases h3 : s.el.length = 0
    · have q3 : ((s.el.length : Int) == 0) = true := by rw [h3]; rfl
      have HF : Hid (Shp s = true) := show _ = _ by rw [HB.out, h1, h3]; rfl
      clear h3
      go_enter Tryz.func91, Tryz.ntmps91
      go_wp2_with fail
      go_ret
      exact ⟨by rw [HF.out]; rfl, grow_alloc (grow_refl _) _⟩
    · have q3 : ((s.el.length : Int) == 0) = false := beq_eq_false_iff_ne.2 (by omega)
      have HF : Hid (Shp s = false) := show _ = _ by rw [HB.out, decide_eq_false h3]; simp
      clear h3
      go_enter Tryz.func91, Tryz.ntmps91
      go_wp2_with fail
      go_ret
      exact ⟨by rw [HF.out]; rfl, grow_alloc (grow_refl _) _⟩
set_option maxHeartbeats 1000000 in
set_option maxRecDepth 100000 in
theorem shaped_ret (ht : s.th.length ≤ 30) (hl : s.el.length ≤ 30) (h : s.kind = sReturn ∨ s.kind = sPrint) : Calls Tryz.prog 91 #[stmtV s X x T t L l] w (Ret (.bool (Shp s)) w) := by
  have g0 := kind_no (s := s) (k := sVar) (by rcases h with h | h <;> rw [h] <;> decide)
  have g1 := kind_no (s := s) (k := sSet) (by rcases h with h | h <;> rw [h] <;> decide)
  have g2 := kind_no (s := s) (k := sIf) (by rcases h with h | h <;> rw [h] <;> decide)
  have g3 := kind_no (s := s) (k := sWhile) (by rcases h with h | h <;> rw [h] <;> decide)
  have hb := shp_ret h
  rw [empty_mkB] at hb
  have HB := Lib.hid hb
  have g : ((mkB s.kind).toList == sReturn) = true ∨ (((mkB s.kind).toList == sReturn) = false ∧ ((mkB s.kind).toList == sPrint) = true) := by
    rcases h with h | h
    · exact .inl (kind_yes h)
    · exact .inr ⟨kind_no (by rw [h]; decide), kind_yes h⟩
  unfold stmtV
  unfold sVar at g0
  unfold sSet at g1
  unfold sIf at g2
  unfold sWhile at g3
  unfold sReturn sPrint at g
  clear h hb
  rcases g with g4 | ⟨g4, g5⟩
  all_goals
    cases h1 : (mkB s.name).toList.isEmpty
    · have HF : Hid (Shp s = false) := show _ = _ by rw [HB.out, h1]; rfl
      go_enter Tryz.func91, Tryz.ntmps91
      go_wp2_with fail
      go_ret
      exact ⟨by rw [HF.out]; rfl, grow_alloc (grow_refl _) _⟩
    · by_cases h3 : s.th.length + s.el.length = 0
      · have q3 : ((s.th.length : Int) + s.el.length == 0) = true := beq_iff_eq.2 (by omega)
        have HF : Hid (Shp s = true) := show _ = _ by rw [HB.out, h1, decide_eq_true (p := s.th.length = 0) (by omega), decide_eq_true (p := s.el.length = 0) (by omega)]; rfl
        clear h3
        go_enter Tryz.func91, Tryz.ntmps91
        go_wp2_with fail
        go_ret
        exact ⟨by rw [HF.out]; rfl, grow_alloc (grow_refl _) _⟩
      · have q3 : ((s.th.length : Int) + s.el.length == 0) = false := beq_eq_false_iff_ne.2 (by omega)
        have HF : Hid (Shp s = false) := show _ = _ by
          rw [HB.out]
          by_cases q : s.th.length = 0
          · rw [decide_eq_false (p := s.el.length = 0) (by omega)]; simp
          · rw [decide_eq_false q]; simp
        clear h3
        go_enter Tryz.func91, Tryz.ntmps91
        go_wp2_with fail
        go_ret
        exact ⟨by rw [HF.out]; rfl, grow_alloc (grow_refl _) _⟩
set_option maxRecDepth 100000 in
theorem shaped_none (h0 : s.kind ≠ sVar) (h1 : s.kind ≠ sSet) (h2 : s.kind ≠ sIf) (h3 : s.kind ≠ sWhile) (h4 : s.kind ≠ sReturn) (h5 : s.kind ≠ sPrint) : Calls Tryz.prog 91 #[stmtV s X x T t L l] w (Ret (.bool (Shp s)) w) := by
  have g0 := kind_no h0
  have g1 := kind_no h1
  have g2 := kind_no h2
  have g3 := kind_no h3
  have g4 := kind_no h4
  have g5 := kind_no h5
  have HF : Hid (Shp s = false) := shp_none h0 h1 h2 h3 h4 h5
  unfold stmtV
  unfold sVar at g0
  unfold sSet at g1
  unfold sIf at g2
  unfold sWhile at g3
  unfold sReturn at g4
  unfold sPrint at g5
  clear h0 h1 h2 h3 h4 h5
  go_enter Tryz.func91, Tryz.ntmps91
  go_wp2_with fail
  go_ret
  exact ⟨by rw [HF.out]; rfl, grow_alloc (grow_refl _) _⟩
theorem shaped_any (ht : s.th.length ≤ 30) (hl : s.el.length ≤ 30) : Calls Tryz.prog 91 #[stmtV s X x T t L l] w (Ret (.bool (Shp s)) w) := by
  by_cases h0 : s.kind = sVar
  · exact shaped_named s X x T t L l w ht hl (.inl h0)
  by_cases h1 : s.kind = sSet
  · exact shaped_named s X x T t L l w ht hl (.inr h1)
  by_cases h2 : s.kind = sIf
  · exact shaped_if s X x T t L l w h2
  by_cases h3 : s.kind = sWhile
  · exact shaped_while s X x T t L l w h3
  by_cases h4 : s.kind = sReturn
  · exact shaped_ret s X x T t L l w ht hl (.inl h4)
  by_cases h5 : s.kind = sPrint
  · exact shaped_ret s X x T t L l w ht hl (.inr h5)
  exact shaped_none s X x T t L l w h0 h1 h2 h3 h4 h5
end
end Go.Proofs.YtnpdjncgilekhaaGreatDoor
