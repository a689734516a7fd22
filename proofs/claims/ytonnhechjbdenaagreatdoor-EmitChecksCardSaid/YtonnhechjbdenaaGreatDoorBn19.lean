import Derived.Deep.DeepCutAuto
import Derived.Test.YtonnhechjbdenaaGreatDoorBn14
import Derived.Test.YtonnhechjbdenaaGreatDoorBn15
import Derived.Test.YtonnhechjbdenaaGreatDoorBn16
import Derived.Test.YtonnhechjbdenaaGreatDoorBn17
import Derived.Test.YtonnhechjbdenaaGreatDoorBn18
set_option linter.unusedVariables false
set_option linter.unusedSimpArgs false
namespace Go.Proofs.YtonnhechjbdenaaGreatDoor
open Go.RowKit

/-! a block (printed by gen_alblk.py) -/
def aErr (E : Nat → Addr) (n : Nat) : Value := if n = 0 then .nilIface else esV (E (n - 1))
def farK (n : Nat) (k : Int) : Bool := decide (k < 0) || decide ((n : Int) ≤ k)
def firstFar (n : Nat) : List Int → Nat → Int
  | [], _ => -1
  | x :: l, k => if farK n x then (k : Int) else firstFar n l (k + 1)
theorem firstFar_any (n : Nat) : ∀ (l : List Int) (k : Nat), decide (0 ≤ firstFar n l k) = farTo n l := by
  intro l
  induction l with
  | nil => intro k; rfl
  | cons x l ih =>
    intro k
    have e : farTo n (x :: l) = (farK n x || farTo n l) := rfl
    unfold firstFar
    rw [e]
    cases h : farK n x
    · rw [if_neg (by simp), ih]; rfl
    · simp
theorem firstFar_drop {n : Nat} {l : List Int} {k : Nat} (h : k < l.length) : firstFar n (l.drop k) k = if farK n l[k] then (k : Int) else firstFar n (l.drop (k + 1)) (k + 1) := by
  rw [List.drop_eq_getElem_cons h]; rfl
set_option maxRecDepth 100000 in
theorem farK_any (n : Nat) (k : Int) (C : Option Addr) (cc q : Nat) (w : World) (hq : w.cell? ⟨q, 3, none⟩ = some (.slice C n cc)) :
    Calls Tryz.prog 90 #[.int .i64 k, .pointer (some ⟨q, 0, none⟩)] w fun e w' => e = .returned (.bool (farK n k)) ∧ w' = w := by
  have HR : Hid (farK n k = (decide (k < 0) || decide ((n : Int) ≤ k))) := show _ = _ from rfl
  rcases Classical.em (k < 0) with h | h
  · have H1 : Hid (farK n k = true) := show _ = _ by rw [HR.out]; simp [h]
    go_enter Tryz.func90, Tryz.ntmps90
    go_wp2_with fail
    go_ret
    exact ⟨by rw [H1.out]; rfl, rfl⟩
  · rcases Classical.em ((n : Int) ≤ k) with h' | h'
    · have H1 : Hid (farK n k = true) := show _ = _ by rw [HR.out]; simp [h']
      go_enter Tryz.func90, Tryz.ntmps90
      go_wp2_with fail
      go_ret
      exact ⟨by rw [H1.out]; rfl, rfl⟩
    · have H1 : Hid (farK n k = false) := show _ = _ by rw [HR.out]; simp [h, h']
      go_enter Tryz.func90, Tryz.ntmps90
      go_wp2_with fail
      go_ret
      exact ⟨by rw [H1.out]; rfl, rfl⟩
set_option maxRecDepth 100000 in
theorem idxFar (n : Nat) (l : List Int) (hl : l.length ≤ 1000) (C : Option Addr) (cc q : Nat) (A : Option Addr) (ca : Nat) (w : World) (hr : Row w A (intVs l)) (hq : w.cell? ⟨q, 3, none⟩ = some (.slice C n cc)) :
    Calls Tryz.prog 102 #[.slice A l.length ca, .func (.func 90) #[] #[.pointer (some ⟨q, 0, none⟩)]] w fun e w' => e = .returned (.int .i64 (firstFar n l 0)) ∧ w' = w := by
  have HR := Lib.hid hr
  have HQ := Lib.hid hq
  clear hr hq
  go_enter Tryz.func102, Tryz.ntmps102
  go_wp2_with fail
  go_loop [5, 8] (fun _ i => ∃ k : Nat, k ≤ l.length ∧ i = .int .i64 k ∧ firstFar n l 0 = firstFar n (l.drop k) k) (fun _ i => l.length - (intOf i).toNat)
  case atStart => exact ⟨0, Nat.zero_le _, rfl, rfl⟩
  case round =>
    obtain ⟨k, hk, rfl, hI⟩ := hrel
    have HI := Lib.hid hI
    clear hI
    by_cases hlt : k < l.length
    · obtain ⟨b, off, rfl, hc⟩ := HR.out k _ (intVs_get hlt)
      have hlt' : (k : Int) < (l.length : Int) := by omega
      have HS := Lib.hid (firstFar_drop (n := n) hlt)
      have HN := Lib.hid (farK_any n l[k] C cc q w HQ.out)
      cases hn : farK n l[k]
      · rw [hn] at HN HS
        have HF : Hid (firstFar n l 0 = firstFar n (l.drop (k + 1)) (k + 1)) := show _ = _ from HI.out.trans HS.out
        clear hn
        go_wp2_with (go_at_call 90; (with_reducible refine HN.out.mono ?_); rintro y w1 ⟨rfl, rfl⟩)
        go_round
        case rel => exact ⟨k + 1, by omega, by go_num, HF.out⟩
        case measure => simp [intOf]; omega
      · rw [hn] at HN HS
        have HF : Hid (firstFar n l 0 = (k : Int)) := show _ = _ from HI.out.trans HS.out
        clear hn
        go_wp2_with (go_at_call 90; (with_reducible refine HN.out.mono ?_); rintro y w1 ⟨rfl, rfl⟩)
        go_ret
        exact ⟨by rw [HF.out]; rfl, rfl⟩
    · have hk' : k = l.length := by omega
      have HF : Hid (firstFar n l 0 = -1) := show _ = _ by rw [HI.out, hk', List.drop_length]; rfl
      subst hk'
      go_wp2_with fail
      go_ret
      exact ⟨by rw [HF.out]; rfl, rfl⟩
set_option maxRecDepth 100000 in
theorem anyFar (n : Nat) (l : List Int) (hl : l.length ≤ 1000) (C : Option Addr) (cc q : Nat) (A : Option Addr) (ca : Nat) (w : World) (hr : Row w A (intVs l)) (hq : w.cell? ⟨q, 3, none⟩ = some (.slice C n cc)) :
    Calls Tryz.prog 89 #[.slice A l.length ca, .func (.func 90) #[] #[.pointer (some ⟨q, 0, none⟩)]] w fun e w' => e = .returned (.bool (farTo n l)) ∧ w' = w := by
  have HI := Lib.hid (idxFar n l hl C cc q A ca w hr hq)
  have HA := Lib.hid (firstFar_any n l 0)
  clear hr hq
  go_enter Tryz.func89, Tryz.ntmps89
  go_wp2_with (go_at_call 102; (with_reducible refine HI.out.mono ?_); rintro y w1 ⟨rfl, rfl⟩)
  go_ret
  exact ⟨by rw [← HA.out]; rfl, rfl⟩
def litE : List UInt8 → Option Value := putF (putF (putF (fun _ => none) [106, 117, 109, 112] (.int .i64 1)) [105, 102] (.int .i64 2)) [114, 101, 116, 117, 114, 110] (.int .i64 0)
theorem litE_eq (e : List UInt8) : litE e = if 0 ≤ endN e then some (.int .i64 (endN e)) else none := by
  by_cases h1 : e = eJump
  · subst h1; simp [litE, putF, endN, eJump]
  by_cases h2 : e = eIf
  · subst h2; simp [litE, putF, endN, eJump, eIf]
  by_cases h3 : e = eReturn
  · subst h3; simp [litE, putF, endN, eJump, eIf, eReturn]
  have e9 : endN e = -1 := by unfold endN; simp [h1, h2, h3]
  rw [e9]
  unfold eJump at h1; unfold eIf at h2; unfold eReturn at h3
  simp [litE, putF, h1, h2, h3]

def blkV (b : PBlk) (I : Option Addr) (ic : Nat) (N : Option Addr) (nc : Nat) : Value := .agg #[.slice I b.ins.length ic, .string (mkB b.fin), .int .i64 b.a, .slice N b.nx.length nc]
set_option maxHeartbeats 16000000 in
set_option maxRecDepth 100000 in
theorem block_any (E : Nat → Addr) (c : PCd) (A : Option Addr) (ca : Nat) (b : PBlk) (I : Option Addr) (ic : Nat) (N : Option Addr) (nc : Nat) (h1 : b.ins.length ≤ 1000) (h2 : b.nx.length ≤ 1000) (h3 : b.fin.length ≤ 1000) (w : World) (hE : Laid E w) (hI : Row w I (b.ins.flatMap lowL)) (hN : Row w N (intVs b.nx)) :
    Calls Tryz.prog 68 #[cdV c A ca, blkV b I ic N nc] w (Ret (aErr E (blkC c b)) w) := by
  obtain ⟨wC, hwC⟩ : ∃ wC, w.alloc (.cells #[.string (mkB c.name), .int .i64 c.params, .int .i64 c.slots, .slice A c.blocks.length ca] 32) = wC := ⟨_, rfl⟩
  obtain ⟨wS, hwS⟩ : ∃ wS, wC.alloc (.cells #[.slice I b.ins.length ic, .string (mkB b.fin), .int .i64 b.a, .slice N b.nx.length nc] 74) = wS := ⟨_, rfl⟩
  have hbC : Below w.heap.size w wC := by rw [← hwC]; exact grow_alloc (grow_refl w) _
  have hbL : Below wC.heap.size wC wS := by rw [← hwS]; exact grow_alloc (grow_refl wC) _
  have hmC : wC.heap[w.heap.size]? = some (.cells #[.string (mkB c.name), .int .i64 c.params, .int .i64 c.slots, .slice A c.blocks.length ca] 32 (0, 0)) := by rw [← hwC]; exact heap_alloc_new w _
  have hsz : wC.heap.size = w.heap.size + 1 := by rw [← hwC]; simp
  have hmL : wS.heap[w.heap.size + 1]? = some (.cells #[.slice I b.ins.length ic, .string (mkB b.fin), .int .i64 b.a, .slice N b.nx.length nc] 74 (0, 0)) := by rw [← hwS, ← hsz]; exact heap_alloc_new wC _
  have hmC2 := (hbL.block _ (Array.getElem?_eq_some_iff.1 hmC).1).trans hmC
  have HX : Hid (∀ w', Below wS.heap.size wS w' → (w'.cell? ⟨w.heap.size, 0, none⟩ = some (.string (mkB c.name)) ∧ w'.cell? ⟨w.heap.size, 1, none⟩ = some (.int .i64 c.params) ∧ w'.cell? ⟨w.heap.size, 2, none⟩ = some (.int .i64 c.slots) ∧ w'.cell? ⟨w.heap.size, 3, none⟩ = some (.slice A c.blocks.length ca)) ∧
      (w'.cell? ⟨w.heap.size + 1, 0, none⟩ = some (.slice I b.ins.length ic) ∧ w'.cell? ⟨w.heap.size + 1, 1, none⟩ = some (.string (mkB b.fin)) ∧ w'.cell? ⟨w.heap.size + 1, 2, none⟩ = some (.int .i64 b.a) ∧ w'.cell? ⟨w.heap.size + 1, 3, none⟩ = some (.slice N b.nx.length nc)) ∧
      (w'.cell? ⟨7, 0, none⟩ = some (esV (E 1)) ∧ w'.cell? ⟨8, 0, none⟩ = some (esV (E 2)) ∧ w'.cell? ⟨5, 0, none⟩ = some (esV (E 3))) ∧ Row w' I (b.ins.flatMap lowL) ∧ Row w' N (intVs b.nx) ∧ Below w.heap.size w w') := fun w' hb =>
    have hbw : Below w.heap.size w w' := grow_trans (grow_trans hbC hbL) hb
    have hL := hE.keep hbw
    ⟨row4A ((hb.block _ (Array.getElem?_eq_some_iff.1 hmC2).1).trans hmC2), row4A ((hb.block _ (Array.getElem?_eq_some_iff.1 hmL).1).trans hmL), ⟨hL.c1, hL.c2, hL.c3⟩, hI.keep (Keeps.of_below hbw), hN.keep (Keeps.of_below hbw), hbw⟩
  have HWC := Lib.hid hwC
  have HWS := Lib.hid hwS
  have HSZ := Lib.hid hsz
  have HKN : Hid (∀ w', Below wS.heap.size wS w' → Calls Tryz.prog 91 #[.slice I b.ins.length ic, .func (.func 92) #[] #[]] w' (Ret (.bool (b.ins.all lowKnown)) w')) := fun w' hb =>
    allKn b.ins h1 I ic w' (HX.out w' hb).2.2.2.1 (fun x _ w2 hb2 => known_any x E w2 (HX.out w2 (grow_trans hb hb2)).2.2.1.2.2)
  have HWI : Hid (∀ w', Below wS.heap.size wS w' → Calls Tryz.prog 91 #[.slice I b.ins.length ic, .func (.func 94) #[cdV c A ca] #[]] w' (Ret (.bool (b.ins.all (lowWithin c))) w')) := fun w' hb =>
    allWi c A ca b.ins h1 I ic w' (HX.out w' hb).2.2.2.1 (fun x _ w2 _ => within_any c A ca x w2)
  have HBA : Hid (∀ w', Below wS.heap.size wS w' → Calls Tryz.prog 91 #[.slice I b.ins.length ic, .func (.func 95) #[] #[]] w' (Ret (.bool (b.ins.all lowBare)) w')) := fun w' hb =>
    allBa b.ins h1 I ic w' (HX.out w' hb).2.2.2.1 (fun x _ w2 _ => bare_any x w2)
  have HFAR : Hid (∀ w', Below wS.heap.size wS w' → Calls Tryz.prog 89 #[.slice N b.nx.length nc, .func (.func 90) #[] #[.pointer (some ⟨w.heap.size, 0, none⟩)]] w' fun e w'' => e = .returned (.bool (farTo c.blocks.length b.nx)) ∧ w'' = w') := fun w' hb =>
    anyFar c.blocks.length b.nx h2 A ca w.heap.size N nc w' (HX.out w' hb).2.2.2.2.1 (HX.out w' hb).1.2.2.2
  obtain ⟨kn, hkn⟩ : ∃ z, b.ins.all lowKnown = z := ⟨_, rfl⟩
  obtain ⟨wi, hwi⟩ : ∃ z, b.ins.all (lowWithin c) = z := ⟨_, rfl⟩
  obtain ⟨ba, hba⟩ : ∃ z, b.ins.all lowBare = z := ⟨_, rfl⟩
  obtain ⟨fa, hfa⟩ : ∃ z, farTo c.blocks.length b.nx = z := ⟨_, rfl⟩
  obtain ⟨rg, hrg⟩ : ∃ z, regA b.a = z := ⟨_, rfl⟩
  obtain ⟨jp, hjp⟩ : ∃ z, (b.fin == eJump) = z := ⟨_, rfl⟩
  obtain ⟨en, hen⟩ : ∃ z, endN b.fin = z := ⟨_, rfl⟩
  obtain ⟨ln, hln⟩ : ∃ z, ((b.nx.length : Int) != en) = z := ⟨_, rfl⟩
  obtain ⟨az, haz⟩ : ∃ z, (b.a != 0) = z := ⟨_, rfl⟩
  have HEQ : Hid (blkC c b = if (decide (en < 0) || !kn) = true then 4 else if (fa || (!jp && !rg) || !wi) = true then 2 else if (ln || (jp && az) || !ba) = true then 3 else 0) := show _ = _ by
    unfold blkC blkKind blkBound blkShape bne
    rw [hkn, hwi, hba, hfa, hrg, hjp, hen]
    unfold bne at hln haz
    rw [hln, haz]
  have HR : Hid (∀ w', Calls Tryz.prog 93 #[.int .i64 b.a] w' fun e w'' => e = .returned (.bool rg) ∧ w'' = w') := fun w' => hrg ▸ aregister_any b.a w'
  rw [hkn] at HKN
  rw [hwi] at HWI
  rw [hba] at HBA
  rw [hfa] at HFAR
  have ej : ((mkB b.fin).toList == [106, 117, 109, 112]) = jp := by rw [mkB_toList]; exact hjp
  have ej2 : ((mkB b.fin).toList != [106, 117, 109, 112]) = !jp := by unfold bne; rw [ej]
  have hmap : MapAt (wS.alloc (.map #[] 0)) wS.heap.size 0 fun _ => none := MapAt.made wS
  obtain ⟨⟨i0, i1, i2, i3⟩, ⟨l0, l1, l2, l3⟩, ⟨x1, x2, x3⟩, -, -, -⟩ := HX.out _ (grow_alloc (grow_refl wS) (.map #[] 0))
  have hM := Lib.hid hmap
  have hW := Lib.hid (grow_alloc (grow_refl wS) (.map #[] 0))
  have hmm := @run_makeMap Tryz.prog
  have HEN := Lib.hid hen
  have HLN := Lib.hid hln
  have HAZ := Lib.hid haz
  unfold cdV blkV
  unfold cdV at HWI
  clear hwC hwS hbC hbL hmC hmL hmC2 hsz hE hI hN hmap hkn hwi hba hfa hrg hjp hen hln haz
  go_enter Tryz.func68, Tryz.ntmps68
  go_upto_region 1 with fail
  change Code.wp _ _ _ _ ((w.alloc (.cells #[.string (mkB c.name), .int .i64 c.params, .int .i64 c.slots, .slice A c.blocks.length ca] 32)).alloc (.cells #[.slice I b.ins.length ic, .string (mkB b.fin), .int .i64 b.a, .slice N b.nx.length nc] 74))
  rw [HWC.out]
  rw [HWS.out]
  try rw [HSZ.out]
  go_upto_region 2 with (first
    | (refine wpList_insert_map rfl (.tmp 9) _ _ _ rfl 3 Tryz.underlying145 _ _ _ hM.out (by decide) rfl [106, 117, 109, 112] (by decide) rfl (.int .i64 1) rfl ?_; intro w5 hm5 hg5; have hb5 := Below.grown hW.out hg5 hW.out.size (fun q hq => by simp at hq; omega); have hM := Lib.hid hm5; have hW := Lib.hid hb5; clear hm5 hg5 hb5)
    | (refine wpList_insert_map rfl (.tmp 9) _ _ _ rfl 3 Tryz.underlying145 _ _ _ hM.out (by decide) rfl [105, 102] (by decide) rfl (.int .i64 2) rfl ?_; intro w5 hm5 hg5; have hb5 := Below.grown hW.out hg5 hW.out.size (fun q hq => by simp at hq; omega); have hM := Lib.hid hm5; have hW := Lib.hid hb5; clear hm5 hg5 hb5)
    | (refine wpList_insert_map rfl (.tmp 9) _ _ _ rfl 3 Tryz.underlying145 _ _ _ hM.out (by decide) rfl [114, 101, 116, 117, 114, 110] (by decide) rfl (.int .i64 0) rfl ?_; intro w5 hm5 hg5; have hb5 := Below.grown hW.out hg5 hW.out.size (fun q hq => by simp at hq; omega); have hM := Lib.hid hm5; have hW := Lib.hid hb5; clear hm5 hg5 hb5))
  have hw12 := hW.out
  have look := hM.out.look Tryz.underlying145 (zeroIntM _) b.fin (by omega)
  have hlit : putF (putF (putF (fun _ => none) [106, 117, 109, 112] (.int .i64 1)) [105, 102] (.int .i64 2)) [114, 101, 116, 117, 114, 110] (.int .i64 0) b.fin = if 0 ≤ endN b.fin then some (.int .i64 (endN b.fin)) else none := litE_eq b.fin
  rw [hlit, show ({ data := b.fin.toArray } : ByteArray) = mkB b.fin from rfl, HEN.out] at look
  clear i0 i1 i2 i3 l0 l1 l2 l3 x1 x2 x3
  obtain ⟨⟨i0, i1, i2, i3⟩, ⟨l0, l1, l2, l3⟩, ⟨x1, x2, x3⟩, -, -, -⟩ := HX.out _ hw12
  clear hlit hM hW hmm
  by_cases hen0 : 0 ≤ en
  · rw [if_pos hen0] at look
    simp only [Option.getD_some, Option.isSome_some] at look
    have hd9 : decide (en < 0) = false := by simp; omega
    go_upto_region 4 with (go_at_call 89; (with_reducible refine (HFAR.out _ hw12).mono ?_); rintro y w6 ⟨rfl, rfl⟩)
    have hbw := hw12
    clear hw12 look
    cases kn
    · skip
      have HF : Hid (blkC c b = 4) := show _ = _ by rw [HEQ.out]; simp [hd9]
      go_wp2_with (first
        | (go_at_call 91; (with_reducible refine (HKN.out _ hbw).mono ?_); rintro y w1 ⟨rfl, hb1⟩; replace hbw := grow_trans hbw hb1; clear hb1; obtain ⟨⟨i0, i1, i2, i3⟩, ⟨l0, l1, l2, l3⟩, ⟨x1, x2, x3⟩, -, -, -⟩ := HX.out _ hbw)
        | (go_at_call 91; (with_reducible refine (HWI.out _ hbw).mono ?_); rintro y w1 ⟨rfl, hb1⟩; replace hbw := grow_trans hbw hb1; clear hb1; obtain ⟨⟨i0, i1, i2, i3⟩, ⟨l0, l1, l2, l3⟩, ⟨x1, x2, x3⟩, -, -, -⟩ := HX.out _ hbw)
        | (go_at_call 91; (with_reducible refine (HBA.out _ hbw).mono ?_); rintro y w1 ⟨rfl, hb1⟩; replace hbw := grow_trans hbw hb1; clear hb1; obtain ⟨⟨i0, i1, i2, i3⟩, ⟨l0, l1, l2, l3⟩, ⟨x1, x2, x3⟩, -, -, -⟩ := HX.out _ hbw)
        | (go_at_call 93; (with_reducible refine (HR.out _).mono ?_); rintro y w1 ⟨rfl, rfl⟩))
      go_ret
      exact ⟨by rw [HF.out]; rfl, (HX.out _ hbw).2.2.2.2.2⟩
    · skip
      cases fa
      · skip
        cases jp
        · skip
          cases rg
          · skip
            have HF : Hid (blkC c b = 2) := show _ = _ by rw [HEQ.out]; simp [hd9]
            go_wp2_with (first
              | (go_at_call 91; (with_reducible refine (HKN.out _ hbw).mono ?_); rintro y w1 ⟨rfl, hb1⟩; replace hbw := grow_trans hbw hb1; clear hb1; obtain ⟨⟨i0, i1, i2, i3⟩, ⟨l0, l1, l2, l3⟩, ⟨x1, x2, x3⟩, -, -, -⟩ := HX.out _ hbw)
              | (go_at_call 91; (with_reducible refine (HWI.out _ hbw).mono ?_); rintro y w1 ⟨rfl, hb1⟩; replace hbw := grow_trans hbw hb1; clear hb1; obtain ⟨⟨i0, i1, i2, i3⟩, ⟨l0, l1, l2, l3⟩, ⟨x1, x2, x3⟩, -, -, -⟩ := HX.out _ hbw)
              | (go_at_call 91; (with_reducible refine (HBA.out _ hbw).mono ?_); rintro y w1 ⟨rfl, hb1⟩; replace hbw := grow_trans hbw hb1; clear hb1; obtain ⟨⟨i0, i1, i2, i3⟩, ⟨l0, l1, l2, l3⟩, ⟨x1, x2, x3⟩, -, -, -⟩ := HX.out _ hbw)
              | (go_at_call 93; (with_reducible refine (HR.out _).mono ?_); rintro y w1 ⟨rfl, rfl⟩))
            go_ret
            exact ⟨by rw [HF.out]; rfl, (HX.out _ hbw).2.2.2.2.2⟩
          · skip
            cases wi
            · skip
              have HF : Hid (blkC c b = 2) := show _ = _ by rw [HEQ.out]; simp [hd9]
              go_wp2_with (first
                | (go_at_call 91; (with_reducible refine (HKN.out _ hbw).mono ?_); rintro y w1 ⟨rfl, hb1⟩; replace hbw := grow_trans hbw hb1; clear hb1; obtain ⟨⟨i0, i1, i2, i3⟩, ⟨l0, l1, l2, l3⟩, ⟨x1, x2, x3⟩, -, -, -⟩ := HX.out _ hbw)
                | (go_at_call 91; (with_reducible refine (HWI.out _ hbw).mono ?_); rintro y w1 ⟨rfl, hb1⟩; replace hbw := grow_trans hbw hb1; clear hb1; obtain ⟨⟨i0, i1, i2, i3⟩, ⟨l0, l1, l2, l3⟩, ⟨x1, x2, x3⟩, -, -, -⟩ := HX.out _ hbw)
                | (go_at_call 91; (with_reducible refine (HBA.out _ hbw).mono ?_); rintro y w1 ⟨rfl, hb1⟩; replace hbw := grow_trans hbw hb1; clear hb1; obtain ⟨⟨i0, i1, i2, i3⟩, ⟨l0, l1, l2, l3⟩, ⟨x1, x2, x3⟩, -, -, -⟩ := HX.out _ hbw)
                | (go_at_call 93; (with_reducible refine (HR.out _).mono ?_); rintro y w1 ⟨rfl, rfl⟩))
              go_ret
              exact ⟨by rw [HF.out]; rfl, (HX.out _ hbw).2.2.2.2.2⟩
            · skip
              have hlnb := HLN.out
              cases ln
              · skip
                cases ba
                · skip
                  have HF : Hid (blkC c b = 3) := show _ = _ by rw [HEQ.out]; simp [hd9]
                  go_wp2_with (first
                    | (go_at_call 91; (with_reducible refine (HKN.out _ hbw).mono ?_); rintro y w1 ⟨rfl, hb1⟩; replace hbw := grow_trans hbw hb1; clear hb1; obtain ⟨⟨i0, i1, i2, i3⟩, ⟨l0, l1, l2, l3⟩, ⟨x1, x2, x3⟩, -, -, -⟩ := HX.out _ hbw)
                    | (go_at_call 91; (with_reducible refine (HWI.out _ hbw).mono ?_); rintro y w1 ⟨rfl, hb1⟩; replace hbw := grow_trans hbw hb1; clear hb1; obtain ⟨⟨i0, i1, i2, i3⟩, ⟨l0, l1, l2, l3⟩, ⟨x1, x2, x3⟩, -, -, -⟩ := HX.out _ hbw)
                    | (go_at_call 91; (with_reducible refine (HBA.out _ hbw).mono ?_); rintro y w1 ⟨rfl, hb1⟩; replace hbw := grow_trans hbw hb1; clear hb1; obtain ⟨⟨i0, i1, i2, i3⟩, ⟨l0, l1, l2, l3⟩, ⟨x1, x2, x3⟩, -, -, -⟩ := HX.out _ hbw)
                    | (go_at_call 93; (with_reducible refine (HR.out _).mono ?_); rintro y w1 ⟨rfl, rfl⟩))
                  go_ret
                  exact ⟨by rw [HF.out]; rfl, (HX.out _ hbw).2.2.2.2.2⟩
                · skip
                  have HF : Hid (blkC c b = 0) := show _ = _ by rw [HEQ.out]; simp [hd9]
                  go_wp2_with (first
                    | (go_at_call 91; (with_reducible refine (HKN.out _ hbw).mono ?_); rintro y w1 ⟨rfl, hb1⟩; replace hbw := grow_trans hbw hb1; clear hb1; obtain ⟨⟨i0, i1, i2, i3⟩, ⟨l0, l1, l2, l3⟩, ⟨x1, x2, x3⟩, -, -, -⟩ := HX.out _ hbw)
                    | (go_at_call 91; (with_reducible refine (HWI.out _ hbw).mono ?_); rintro y w1 ⟨rfl, hb1⟩; replace hbw := grow_trans hbw hb1; clear hb1; obtain ⟨⟨i0, i1, i2, i3⟩, ⟨l0, l1, l2, l3⟩, ⟨x1, x2, x3⟩, -, -, -⟩ := HX.out _ hbw)
                    | (go_at_call 91; (with_reducible refine (HBA.out _ hbw).mono ?_); rintro y w1 ⟨rfl, hb1⟩; replace hbw := grow_trans hbw hb1; clear hb1; obtain ⟨⟨i0, i1, i2, i3⟩, ⟨l0, l1, l2, l3⟩, ⟨x1, x2, x3⟩, -, -, -⟩ := HX.out _ hbw)
                    | (go_at_call 93; (with_reducible refine (HR.out _).mono ?_); rintro y w1 ⟨rfl, rfl⟩))
                  go_ret
                  exact ⟨by rw [HF.out]; rfl, (HX.out _ hbw).2.2.2.2.2⟩
              · skip
                have HF : Hid (blkC c b = 3) := show _ = _ by rw [HEQ.out]; simp [hd9]
                go_wp2_with (first
                  | (go_at_call 91; (with_reducible refine (HKN.out _ hbw).mono ?_); rintro y w1 ⟨rfl, hb1⟩; replace hbw := grow_trans hbw hb1; clear hb1; obtain ⟨⟨i0, i1, i2, i3⟩, ⟨l0, l1, l2, l3⟩, ⟨x1, x2, x3⟩, -, -, -⟩ := HX.out _ hbw)
                  | (go_at_call 91; (with_reducible refine (HWI.out _ hbw).mono ?_); rintro y w1 ⟨rfl, hb1⟩; replace hbw := grow_trans hbw hb1; clear hb1; obtain ⟨⟨i0, i1, i2, i3⟩, ⟨l0, l1, l2, l3⟩, ⟨x1, x2, x3⟩, -, -, -⟩ := HX.out _ hbw)
                  | (go_at_call 91; (with_reducible refine (HBA.out _ hbw).mono ?_); rintro y w1 ⟨rfl, hb1⟩; replace hbw := grow_trans hbw hb1; clear hb1; obtain ⟨⟨i0, i1, i2, i3⟩, ⟨l0, l1, l2, l3⟩, ⟨x1, x2, x3⟩, -, -, -⟩ := HX.out _ hbw)
                  | (go_at_call 93; (with_reducible refine (HR.out _).mono ?_); rintro y w1 ⟨rfl, rfl⟩))
                go_ret
                exact ⟨by rw [HF.out]; rfl, (HX.out _ hbw).2.2.2.2.2⟩
        · skip
          cases wi
          · skip
            have HF : Hid (blkC c b = 2) := show _ = _ by rw [HEQ.out]; simp [hd9]
            go_wp2_with (first
              | (go_at_call 91; (with_reducible refine (HKN.out _ hbw).mono ?_); rintro y w1 ⟨rfl, hb1⟩; replace hbw := grow_trans hbw hb1; clear hb1; obtain ⟨⟨i0, i1, i2, i3⟩, ⟨l0, l1, l2, l3⟩, ⟨x1, x2, x3⟩, -, -, -⟩ := HX.out _ hbw)
              | (go_at_call 91; (with_reducible refine (HWI.out _ hbw).mono ?_); rintro y w1 ⟨rfl, hb1⟩; replace hbw := grow_trans hbw hb1; clear hb1; obtain ⟨⟨i0, i1, i2, i3⟩, ⟨l0, l1, l2, l3⟩, ⟨x1, x2, x3⟩, -, -, -⟩ := HX.out _ hbw)
              | (go_at_call 91; (with_reducible refine (HBA.out _ hbw).mono ?_); rintro y w1 ⟨rfl, hb1⟩; replace hbw := grow_trans hbw hb1; clear hb1; obtain ⟨⟨i0, i1, i2, i3⟩, ⟨l0, l1, l2, l3⟩, ⟨x1, x2, x3⟩, -, -, -⟩ := HX.out _ hbw)
              | (go_at_call 93; (with_reducible refine (HR.out _).mono ?_); rintro y w1 ⟨rfl, rfl⟩))
            go_ret
            exact ⟨by rw [HF.out]; rfl, (HX.out _ hbw).2.2.2.2.2⟩
          · skip
            have hlnb := HLN.out
            cases ln
            · skip
              have hazb := HAZ.out
              cases az
              · skip
                cases ba
                · skip
                  have HF : Hid (blkC c b = 3) := show _ = _ by rw [HEQ.out]; simp [hd9]
                  go_wp2_with (first
                    | (go_at_call 91; (with_reducible refine (HKN.out _ hbw).mono ?_); rintro y w1 ⟨rfl, hb1⟩; replace hbw := grow_trans hbw hb1; clear hb1; obtain ⟨⟨i0, i1, i2, i3⟩, ⟨l0, l1, l2, l3⟩, ⟨x1, x2, x3⟩, -, -, -⟩ := HX.out _ hbw)
                    | (go_at_call 91; (with_reducible refine (HWI.out _ hbw).mono ?_); rintro y w1 ⟨rfl, hb1⟩; replace hbw := grow_trans hbw hb1; clear hb1; obtain ⟨⟨i0, i1, i2, i3⟩, ⟨l0, l1, l2, l3⟩, ⟨x1, x2, x3⟩, -, -, -⟩ := HX.out _ hbw)
                    | (go_at_call 91; (with_reducible refine (HBA.out _ hbw).mono ?_); rintro y w1 ⟨rfl, hb1⟩; replace hbw := grow_trans hbw hb1; clear hb1; obtain ⟨⟨i0, i1, i2, i3⟩, ⟨l0, l1, l2, l3⟩, ⟨x1, x2, x3⟩, -, -, -⟩ := HX.out _ hbw)
                    | (go_at_call 93; (with_reducible refine (HR.out _).mono ?_); rintro y w1 ⟨rfl, rfl⟩))
                  go_ret
                  exact ⟨by rw [HF.out]; rfl, (HX.out _ hbw).2.2.2.2.2⟩
                · skip
                  have HF : Hid (blkC c b = 0) := show _ = _ by rw [HEQ.out]; simp [hd9]
                  go_wp2_with (first
                    | (go_at_call 91; (with_reducible refine (HKN.out _ hbw).mono ?_); rintro y w1 ⟨rfl, hb1⟩; replace hbw := grow_trans hbw hb1; clear hb1; obtain ⟨⟨i0, i1, i2, i3⟩, ⟨l0, l1, l2, l3⟩, ⟨x1, x2, x3⟩, -, -, -⟩ := HX.out _ hbw)
                    | (go_at_call 91; (with_reducible refine (HWI.out _ hbw).mono ?_); rintro y w1 ⟨rfl, hb1⟩; replace hbw := grow_trans hbw hb1; clear hb1; obtain ⟨⟨i0, i1, i2, i3⟩, ⟨l0, l1, l2, l3⟩, ⟨x1, x2, x3⟩, -, -, -⟩ := HX.out _ hbw)
                    | (go_at_call 91; (with_reducible refine (HBA.out _ hbw).mono ?_); rintro y w1 ⟨rfl, hb1⟩; replace hbw := grow_trans hbw hb1; clear hb1; obtain ⟨⟨i0, i1, i2, i3⟩, ⟨l0, l1, l2, l3⟩, ⟨x1, x2, x3⟩, -, -, -⟩ := HX.out _ hbw)
                    | (go_at_call 93; (with_reducible refine (HR.out _).mono ?_); rintro y w1 ⟨rfl, rfl⟩))
                  go_ret
                  exact ⟨by rw [HF.out]; rfl, (HX.out _ hbw).2.2.2.2.2⟩
              · skip
                have HF : Hid (blkC c b = 3) := show _ = _ by rw [HEQ.out]; simp [hd9]
                go_wp2_with (first
                  | (go_at_call 91; (with_reducible refine (HKN.out _ hbw).mono ?_); rintro y w1 ⟨rfl, hb1⟩; replace hbw := grow_trans hbw hb1; clear hb1; obtain ⟨⟨i0, i1, i2, i3⟩, ⟨l0, l1, l2, l3⟩, ⟨x1, x2, x3⟩, -, -, -⟩ := HX.out _ hbw)
                  | (go_at_call 91; (with_reducible refine (HWI.out _ hbw).mono ?_); rintro y w1 ⟨rfl, hb1⟩; replace hbw := grow_trans hbw hb1; clear hb1; obtain ⟨⟨i0, i1, i2, i3⟩, ⟨l0, l1, l2, l3⟩, ⟨x1, x2, x3⟩, -, -, -⟩ := HX.out _ hbw)
                  | (go_at_call 91; (with_reducible refine (HBA.out _ hbw).mono ?_); rintro y w1 ⟨rfl, hb1⟩; replace hbw := grow_trans hbw hb1; clear hb1; obtain ⟨⟨i0, i1, i2, i3⟩, ⟨l0, l1, l2, l3⟩, ⟨x1, x2, x3⟩, -, -, -⟩ := HX.out _ hbw)
                  | (go_at_call 93; (with_reducible refine (HR.out _).mono ?_); rintro y w1 ⟨rfl, rfl⟩))
                go_ret
                exact ⟨by rw [HF.out]; rfl, (HX.out _ hbw).2.2.2.2.2⟩
            · skip
              have HF : Hid (blkC c b = 3) := show _ = _ by rw [HEQ.out]; simp [hd9]
              go_wp2_with (first
                | (go_at_call 91; (with_reducible refine (HKN.out _ hbw).mono ?_); rintro y w1 ⟨rfl, hb1⟩; replace hbw := grow_trans hbw hb1; clear hb1; obtain ⟨⟨i0, i1, i2, i3⟩, ⟨l0, l1, l2, l3⟩, ⟨x1, x2, x3⟩, -, -, -⟩ := HX.out _ hbw)
                | (go_at_call 91; (with_reducible refine (HWI.out _ hbw).mono ?_); rintro y w1 ⟨rfl, hb1⟩; replace hbw := grow_trans hbw hb1; clear hb1; obtain ⟨⟨i0, i1, i2, i3⟩, ⟨l0, l1, l2, l3⟩, ⟨x1, x2, x3⟩, -, -, -⟩ := HX.out _ hbw)
                | (go_at_call 91; (with_reducible refine (HBA.out _ hbw).mono ?_); rintro y w1 ⟨rfl, hb1⟩; replace hbw := grow_trans hbw hb1; clear hb1; obtain ⟨⟨i0, i1, i2, i3⟩, ⟨l0, l1, l2, l3⟩, ⟨x1, x2, x3⟩, -, -, -⟩ := HX.out _ hbw)
                | (go_at_call 93; (with_reducible refine (HR.out _).mono ?_); rintro y w1 ⟨rfl, rfl⟩))
              go_ret
              exact ⟨by rw [HF.out]; rfl, (HX.out _ hbw).2.2.2.2.2⟩
      · skip
        have HF : Hid (blkC c b = 2) := show _ = _ by rw [HEQ.out]; simp [hd9]
        go_wp2_with (first
          | (go_at_call 91; (with_reducible refine (HKN.out _ hbw).mono ?_); rintro y w1 ⟨rfl, hb1⟩; replace hbw := grow_trans hbw hb1; clear hb1; obtain ⟨⟨i0, i1, i2, i3⟩, ⟨l0, l1, l2, l3⟩, ⟨x1, x2, x3⟩, -, -, -⟩ := HX.out _ hbw)
          | (go_at_call 91; (with_reducible refine (HWI.out _ hbw).mono ?_); rintro y w1 ⟨rfl, hb1⟩; replace hbw := grow_trans hbw hb1; clear hb1; obtain ⟨⟨i0, i1, i2, i3⟩, ⟨l0, l1, l2, l3⟩, ⟨x1, x2, x3⟩, -, -, -⟩ := HX.out _ hbw)
          | (go_at_call 91; (with_reducible refine (HBA.out _ hbw).mono ?_); rintro y w1 ⟨rfl, hb1⟩; replace hbw := grow_trans hbw hb1; clear hb1; obtain ⟨⟨i0, i1, i2, i3⟩, ⟨l0, l1, l2, l3⟩, ⟨x1, x2, x3⟩, -, -, -⟩ := HX.out _ hbw)
          | (go_at_call 93; (with_reducible refine (HR.out _).mono ?_); rintro y w1 ⟨rfl, rfl⟩))
        go_ret
        exact ⟨by rw [HF.out]; rfl, (HX.out _ hbw).2.2.2.2.2⟩
  · rw [if_neg hen0] at look
    simp only [Option.getD_none, Option.isSome_none] at look
    have hd9 : decide (en < 0) = true := by simp; omega
    have HF : Hid (blkC c b = 4) := show _ = _ by rw [HEQ.out]; simp [hd9]
    have hbw := hw12
    go_wp2_with (go_at_call 89; (with_reducible refine (HFAR.out _ hw12).mono ?_); rintro y w6 ⟨rfl, rfl⟩)
    go_ret
    exact ⟨by rw [HF.out]; rfl, (HX.out _ hbw).2.2.2.2.2⟩
end Go.Proofs.YtonnhechjbdenaaGreatDoor

namespace Go.Proofs.YtonnhechjbdenaaGreatDoor
open Go.RowKit

/-! alloc.Check (printed by hand) -/
theorem blksC_drop {c : PCd} {k : Nat} (h : k < c.blocks.length) : blksC c (c.blocks.drop k) k = if blkC c c.blocks[k] ≠ 0 then (blkC c c.blocks[k], (k : Int)) else blksC c (c.blocks.drop (k + 1)) (k + 1) := by
  rw [List.drop_eq_getElem_cons h]; rfl
theorem blkC_le (c : PCd) (b : PBlk) : blkC c b ≤ 10 := by unfold blkC; repeat (first | omega | split)
theorem aFault_is (E : Nat → Addr) (W : World) {z : Nat} (k : Int) (hz : z ≠ 0) (h10 : z ≤ 10) : ErrIs E (W.alloc (.cells #[.int .i64 k, esV (E (z - 1))] 83)) (ftV ⟨W.heap.size, 0, none⟩) z k :=
  .inr (.inr ⟨z - 1, W.heap.size, 0, by omega, rfl, cell_of_row _ _ 0 _ _ _ (heap_alloc_new W _), cell_of_row _ _ 1 _ _ _ (heap_alloc_new W _), by omega⟩)
/-- The blocks of a code are not too great for a statement. -/
structure BlkSm (b : PBlk) : Prop where
  ins : b.ins.length ≤ 25
  nx : b.nx.length ≤ 4
  fin : b.fin.length ≤ 20
  low : ∀ x ∈ b.ins, x.kind.length ≤ 20 ∧ x.name.length ≤ 20
def ChkPost (E : Nat → Addr) (c : PCd) (w : World) : Ending → World → Prop := fun e w' => ∃ v, e = .returned v ∧ ErrIs E w' v ((lowC c).1 : Nat) (lowC c).2 ∧ Below w.heap.size w w' ∧ (v = .nilIface ↔ (lowC c).1 = 0)
theorem chk_done {E : Nat → Addr} {c : PCd} {w w' : World} {z : Nat} {at' : Int} {v : Value} {e : Ending} (h : lowC c = (z, at')) (he : e = .returned v) (h1 : ErrIs E w' v z at') (hb : Below w.heap.size w w') (hv : v = .nilIface ↔ z = 0) : ChkPost E c w e w' := by
  unfold ChkPost; rw [h]; exact ⟨v, he, h1, hb, hv⟩
set_option maxHeartbeats 8000000 in
set_option maxRecDepth 100000 in
theorem acheck_any (E : Nat → Addr) (c : PCd) (A : Option Addr) (ca : Nat) (hn : c.blocks.length ≤ 100000) (hs : ∀ b ∈ c.blocks, BlkSm b) (w : World) (hE : Laid E w) (hr : RdC w A c.blocks) :
    Calls Tryz.prog 45 #[cdV c A ca] w (ChkPost E c w) := by
  obtain ⟨wA, hwA⟩ : ∃ wA, w.alloc (.cells #[.string (mkB c.name), .int .i64 c.params, .int .i64 c.slots, .slice A c.blocks.length ca] 32) = wA := ⟨_, rfl⟩
  have hbA : Below w.heap.size w wA := by rw [← hwA]; exact grow_alloc (grow_refl _) _
  have hmA : wA.heap[w.heap.size]? = some (.cells #[.string (mkB c.name), .int .i64 c.params, .int .i64 c.slots, .slice A c.blocks.length ca] 32 (0, 0)) := by rw [← hwA]; exact heap_alloc_new w _
  have hlA : w.heap.size < wA.heap.size := (Array.getElem?_eq_some_iff.1 hmA).1
  have HX : Hid (∀ w', Below wA.heap.size wA w' → (w'.cell? ⟨w.heap.size, 0, none⟩ = some (.string (mkB c.name)) ∧ w'.cell? ⟨w.heap.size, 1, none⟩ = some (.int .i64 c.params) ∧ w'.cell? ⟨w.heap.size, 2, none⟩ = some (.int .i64 c.slots) ∧ w'.cell? ⟨w.heap.size, 3, none⟩ = some (.slice A c.blocks.length ca)) ∧ Laid E w' ∧ RdC w' A c.blocks ∧ Below w.heap.size w w') := fun w' hb =>
    ⟨row4A ((hb.block _ hlA).trans hmA), hE.keep (grow_trans hbA hb), hr.keep (Keeps.of_below (grow_trans hbA hb)), grow_trans hbA hb⟩
  have HWA := Lib.hid hwA
  have HS := Lib.hid hs
  obtain ⟨⟨i0, i1, i2, i3⟩, hLA, -, -⟩ := HX.out wA (grow_refl _)
  have g1 := hLA.c1
  have g2 := hLA.c2
  have g7 := hLA.c7
  have g8 := hLA.c8
  obtain ⟨Q, hQ⟩ : ∃ Q, ChkPost E c w = Q := ⟨_, rfl⟩
  have HQ := Lib.hid hQ
  rw [hQ]
  have HP : Hid (lowC c = if 3000 < c.blocks.length then (8, -1) else if c.blocks.length = 0 then (3, -1) else if c.params < 0 ∨ 4 < c.params then (9, -1) else if c.slots < 0 ∨ 1000 < c.slots then (2, -1) else blksC c c.blocks 0) := show _ = _ from rfl
  unfold cdV
  clear hr hE hbA hmA hwA hLA hs hQ hlA
  by_cases h1 : 3000 < c.blocks.length
  · have HF : Hid (lowC c = (8, -1)) := show _ = _ by rw [HP.out, if_pos h1]
    have q1 : (3000 : Int) < (c.blocks.length : Int) := by omega
    clear h1
    go_enter Tryz.func45, Tryz.ntmps45
    go_upto_region 1 with fail
    change Code.wp _ _ _ _ (w.alloc (.cells #[.string (mkB c.name), .int .i64 c.params, .int .i64 c.slots, .slice A c.blocks.length ca] 32))
    rw [HWA.out]
    go_wp2_with fail
    rw [← HQ.out]
    exact chk_done HF.out rfl (.es (i := 7) (by omega)) (HX.out _ (grow_refl _)).2.2.2 (by simp)
  · have q1 : ¬ (3000 : Int) < (c.blocks.length : Int) := by omega
    by_cases h2 : c.blocks.length = 0
    · have HF : Hid (lowC c = (3, -1)) := show _ = _ by rw [HP.out, if_neg h1, if_pos h2]
      have q2 : ((c.blocks.length : Int) == 0) = true := by rw [h2]; rfl
      have q2' : (c.blocks.length : Int) = 0 := by omega
      clear h1 h2
      go_enter Tryz.func45, Tryz.ntmps45
      go_upto_region 1 with fail
      change Code.wp _ _ _ _ (w.alloc (.cells #[.string (mkB c.name), .int .i64 c.params, .int .i64 c.slots, .slice A c.blocks.length ca] 32))
      rw [HWA.out]
      go_wp2_with fail
      rw [← HQ.out]
      exact chk_done HF.out rfl (.es (i := 2) (by omega)) (HX.out _ (grow_refl _)).2.2.2 (by simp)
    · have q2 : ((c.blocks.length : Int) == 0) = false := beq_eq_false_iff_ne.2 (by omega)
      have q2' : ¬ (c.blocks.length : Int) = 0 := by omega
      rcases Classical.em (c.params < 0) with q3 | q3
      · have HF : Hid (lowC c = (9, -1)) := show _ = _ by rw [HP.out, if_neg h1, if_neg h2, if_pos (Or.inl q3)]
        clear h1 h2
        go_enter Tryz.func45, Tryz.ntmps45
        go_upto_region 1 with fail
        change Code.wp _ _ _ _ (w.alloc (.cells #[.string (mkB c.name), .int .i64 c.params, .int .i64 c.slots, .slice A c.blocks.length ca] 32))
        rw [HWA.out]
        go_wp2_with fail
        rw [← HQ.out]
        exact chk_done HF.out rfl (.es (i := 8) (by omega)) (HX.out _ (grow_refl _)).2.2.2 (by simp)
      · rcases Classical.em (4 < c.params) with q4 | q4
        · have HF : Hid (lowC c = (9, -1)) := show _ = _ by rw [HP.out, if_neg h1, if_neg h2, if_pos (Or.inr q4)]
          clear h1 h2
          go_enter Tryz.func45, Tryz.ntmps45
          go_upto_region 1 with fail
          change Code.wp _ _ _ _ (w.alloc (.cells #[.string (mkB c.name), .int .i64 c.params, .int .i64 c.slots, .slice A c.blocks.length ca] 32))
          rw [HWA.out]
          go_wp2_with fail
          rw [← HQ.out]
          exact chk_done HF.out rfl (.es (i := 8) (by omega)) (HX.out _ (grow_refl _)).2.2.2 (by simp)
        · rcases Classical.em (c.slots < 0) with q5 | q5
          · have HF : Hid (lowC c = (2, -1)) := show _ = _ by rw [HP.out, if_neg h1, if_neg h2, if_neg (by omega), if_pos (Or.inl q5)]
            clear h1 h2
            go_enter Tryz.func45, Tryz.ntmps45
            go_upto_region 1 with fail
            change Code.wp _ _ _ _ (w.alloc (.cells #[.string (mkB c.name), .int .i64 c.params, .int .i64 c.slots, .slice A c.blocks.length ca] 32))
            rw [HWA.out]
            go_wp2_with fail
            rw [← HQ.out]
            exact chk_done HF.out rfl (.es (i := 1) (by omega)) (HX.out _ (grow_refl _)).2.2.2 (by simp)
          · rcases Classical.em (1000 < c.slots) with q6 | q6
            · have HF : Hid (lowC c = (2, -1)) := show _ = _ by rw [HP.out, if_neg h1, if_neg h2, if_neg (by omega), if_pos (Or.inr q6)]
              clear h1 h2
              go_enter Tryz.func45, Tryz.ntmps45
              go_upto_region 1 with fail
              change Code.wp _ _ _ _ (w.alloc (.cells #[.string (mkB c.name), .int .i64 c.params, .int .i64 c.slots, .slice A c.blocks.length ca] 32))
              rw [HWA.out]
              go_wp2_with fail
              rw [← HQ.out]
              exact chk_done HF.out rfl (.es (i := 1) (by omega)) (HX.out _ (grow_refl _)).2.2.2 (by simp)
            · have HP2 : Hid (lowC c = blksC c c.blocks 0) := show _ = _ by rw [HP.out, if_neg h1, if_neg h2, if_neg (by omega), if_neg (by omega)]
              clear h1 h2
              go_enter Tryz.func45, Tryz.ntmps45
              go_upto_region 1 with fail
              change Code.wp _ _ _ _ (w.alloc (.cells #[.string (mkB c.name), .int .i64 c.params, .int .i64 c.slots, .slice A c.blocks.length ca] 32))
              rw [HWA.out]
              go_wp2_with fail
              go_loopw [3, 4, 5, 41] (fun _ _ _ i wr => ∃ k : Nat, k ≤ c.blocks.length ∧ i = .int .i64 k ∧ blksC c c.blocks 0 = blksC c (c.blocks.drop k) k ∧ Below wA.heap.size wA wr) (fun _ _ _ i _ => c.blocks.length - (intOf i).toNat)
              case atStart => exact ⟨0, Nat.zero_le _, rfl, rfl, grow_refl _⟩
              case round =>
                obtain ⟨k, hk, rfl, hI, hbel⟩ := hrel
                have HI := Lib.hid hI
                clear hI
                obtain ⟨⟨i0, i1, i2, i3⟩, hLr, hrr, hbw⟩ := HX.out wr hbel
                by_cases hlt : k < c.blocks.length
                · have hlt' : (k : Int) < (c.blocks.length : Int) := by omega
                  obtain ⟨b, off, I, ic, N, nc, rfl, hB⟩ := hrr k hlt
                  have HSS := Lib.hid (blksC_drop hlt)
                  have hsm := HS.out _ (List.getElem_mem hlt)
                  obtain ⟨x, hx⟩ : ∃ x, c.blocks[k] = x := ⟨_, rfl⟩
                  rw [hx] at HSS hB hsm
                  obtain ⟨b0, b1, b2, b3, hI5, hN5⟩ := hB
                  obtain ⟨q, hq⟩ : ∃ q, wr.heap.size = q := ⟨_, rfl⟩
                  obtain ⟨wB, hwB⟩ : ∃ wB, wr.alloc (.cells #[.slice I x.ins.length ic, .string (mkB x.fin), .int .i64 x.a, .slice N x.nx.length nc] 74) = wB := ⟨_, rfl⟩
                  have hbB : Below wr.heap.size wr wB := by rw [← hwB]; exact grow_alloc (grow_refl _) _
                  have hmB : wB.heap[q]? = some (.cells #[.slice I x.ins.length ic, .string (mkB x.fin), .int .i64 x.a, .slice N x.nx.length nc] 74 (0, 0)) := by rw [← hwB, ← hq]; exact heap_alloc_new wr _
                  have hbBB := grow_trans hbel hbB
                  have HN := Lib.hid (block_any E c (some ⟨b, off, none⟩) ca x I ic N nc (by have := hsm.ins; omega) (by have := hsm.nx; omega) (by have := hsm.fin; omega) wB (HX.out wB hbBB).2.1 (hI5.keep (Keeps.of_below hbB)) (hN5.keep (Keeps.of_below hbB)))
                  have hle := blkC_le c x
                  obtain ⟨z, hz⟩ : ∃ z, blkC c x = z := ⟨_, rfl⟩
                  rw [hz] at HN hle HSS
                  unfold cdV blkV at HN
                  have HBB := Lib.hid hbBB
                  have HMB := Lib.hid hmB
                  have HWB := Lib.hid hwB
                  have HQ2 := Lib.hid hq
                  clear hwB hmB hbB hrr hx hq hLr hz hsm hI5 hN5 hbBB
                  go_upto_region 12 with fail
                  try change Code.wp _ _ _ _ (wr.alloc (.cells #[.slice I x.ins.length ic, .string (mkB x.fin), .int .i64 x.a, .slice N x.nx.length nc] 74))
                  rw [HQ2.out]
                  rw [HWB.out]
                  clear b0 b1 b2 b3
                  obtain ⟨b0, b1, b2, b3⟩ := row4A HMB.out
                  obtain ⟨⟨i0, i1, i2, i3⟩, -, -, -⟩ := HX.out wB HBB.out
                  by_cases hz0 : z = 0
                  · subst hz0
                    have HF : Hid (blksC c c.blocks 0 = blksC c (c.blocks.drop (k + 1)) (k + 1)) := show _ = _ by rw [HI.out, HSS.out]; rfl
                    rw [show aErr E 0 = .nilIface from rfl] at HN
                    go_wp2_with (go_at_call 68; (with_reducible refine HN.out.mono ?_); rintro y w1 ⟨rfl, hb1⟩)
                    go_roundw
                    case rel => exact ⟨k + 1, by omega, by go_num, HF.out, grow_trans HBB.out hb1⟩
                    case measure => simp [intOf]; omega
                  · have HF : Hid (lowC c = (z, (k : Int))) := show _ = _ by
                      rw [HP2.out, HI.out, HSS.out, if_pos hz0]
                    rw [show aErr E z = esV (E (z - 1)) from if_neg hz0] at HN
                    have HZ0 := Lib.hid hz0
                    have HLE := Lib.hid hle
                    unfold esV at HN
                    clear hz0 hle
                    go_wp2_with (go_at_call 68; (with_reducible refine HN.out.mono ?_); rintro y w1 ⟨rfl, hb1⟩)
                    rw [← HQ.out]
                    exact chk_done HF.out rfl (aFault_is E w1 k HZ0.out HLE.out) (grow_alloc (grow_trans (HX.out wB HBB.out).2.2.2 hb1) _) ⟨fun h => (by cases h), fun h => absurd h HZ0.out⟩
                · have hk' : k = c.blocks.length := by omega
                  have HF : Hid (lowC c = (0, -1)) := show _ = _ by rw [HP2.out, HI.out, hk', List.drop_length]; rfl
                  subst hk'
                  go_wp2_with fail
                  rw [← HQ.out]
                  exact chk_done HF.out rfl ErrIs.nil_ (HX.out wr hbel).2.2.2 (by simp)
end Go.Proofs.YtonnhechjbdenaaGreatDoor
