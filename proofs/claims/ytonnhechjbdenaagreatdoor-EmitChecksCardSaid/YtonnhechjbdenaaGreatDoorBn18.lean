import Derived.Lib.AppendIntMem
import Derived.Test.YtonnhechjbdenaaGreatDoorBn17
import Derived.Test.YtonnhechjbdenaaGreatDoorBn6
import Derived.Test.YtonnhechjbdenaaGreatDoorBn2
set_option linter.unusedVariables false
set_option linter.unusedSimpArgs false
namespace Go.Proofs.YtonnhechjbdenaaGreatDoor
open Go.RowKit

theorem mkB_size (l : List UInt8) : (mkB l).size = l.length := rfl
def partT (i : PIns) (h : List UInt8) : Nat → List UInt8
  | 0 => i.op
  | 1 => i.op ++ chunkP (h.contains 100) (114 :: Lib.itoa i.d)
  | 2 => i.op ++ chunkP (h.contains 100) (114 :: Lib.itoa i.d) ++ chunkP (h.contains 97) (114 :: Lib.itoa i.a)
  | 3 => i.op ++ chunkP (h.contains 100) (114 :: Lib.itoa i.d) ++ chunkP (h.contains 97) (114 :: Lib.itoa i.a) ++ chunkP (h.contains 98) ((if i.op == callN then [] else [114]) ++ Lib.itoa i.b)
  | _ => textP h i
def textV (i : PIns) : Value := .string (mkB (textI i))
theorem text_none (i : PIns) (KB KS KK : Addr) (w : World) (hB : w.cell? ⟨7, 0, none⟩ = some (esV KB)) (hS : w.cell? ⟨8, 0, none⟩ = some (esV KS)) (hK : w.cell? ⟨5, 0, none⟩ = some (esV KK)) (h : errI i ≠ 0) :
    Calls Tryz.prog 39 #[insV i] w (Ret (textV i) w) := by
  have HT : Hid (textI i = []) := show textI i = [] by unfold textI; rw [if_neg h]
  have hbx : Below w.heap.size w (w.alloc (.cells #[.string (mkB i.op), .int .i64 i.d, .int .i64 i.a, .int .i64 i.b, .int .i64 i.imm] 90)) := grow_alloc (grow_refl _) _
  have he : ∃ K, encV KB KS KK i = .tuple #[.int .u64 0, .iface 220 (.pointer (some K))] := by
    unfold encV
    rw [if_neg h]
    unfold errV
    rw [if_neg h]
    split
    · exact ⟨_, rfl⟩
    · split <;> exact ⟨_, rfl⟩
  obtain ⟨K, he⟩ := he
  have hE := Encode_any i KB KS KK _ (Keeps.of_below hbx _ _ hB) (Keeps.of_below hbx _ _ hS) (Keeps.of_below hbx _ _ hK)
  rw [he] at hE
  obtain ⟨op, d, a, b, imm⟩ := i
  unfold insV at hE ⊢
  have HE := Lib.hid hE
  clear hE he h hB hS hK hbx
  go_enter Tryz.func39, Tryz.ntmps39
  go_wp2_with (go_at_call 26; (with_reducible refine HE.out.mono ?_); rintro x w1 ⟨rfl, hb1⟩)
  go_ret
  exact ⟨by unfold textV; rw [HT.out]; rfl, grow_trans (grow_alloc (grow_refl _) _) hb1⟩
theorem chunk_len (v : Bool) (t : List UInt8) : (chunkP v t).length ≤ t.length + 1 := by
  unfold chunkP; split <;> simp
theorem name_len : ∀ n, n < 29 → (nameOf n).length ≤ 6 := by decide
theorem part_len (i : PIns) (h : List UInt8) (j : Nat) (hd : (Lib.itoa i.d).length ≤ 21) (ha : (Lib.itoa i.a).length ≤ 21) (hb : (Lib.itoa i.b).length ≤ 21) (hi : (Lib.itoa i.imm).length ≤ 21) : (partT i h j).length ≤ i.op.length + 100 := by
  have c1 := chunk_len (h.contains 100) (114 :: Lib.itoa i.d)
  have c2 := chunk_len (h.contains 97) (114 :: Lib.itoa i.a)
  have c3 := chunk_len (h.contains 98) ((if i.op == callN then [] else [114]) ++ Lib.itoa i.b)
  have c4 := chunk_len (h.contains 105) (Lib.itoa i.imm)
  have c5 : (if i.op == callN then ([] : List UInt8) else [114]).length ≤ 1 := by split <;> simp
  simp only [List.length_append, List.length_cons] at c1 c2 c3 c4
  rcases j with _ | _ | _ | _ | j
  all_goals
    simp only [partT, textP, List.length_append]
    omega
theorem part_no (p t : List UInt8) (v : Bool) (h : v = false) : mkB p = mkB (p ++ chunkP v t) := by
  subst h; simp [chunkP]
theorem part_yes (p t u : List UInt8) (v : Bool) (h : v = true) (hu : u = 114 :: t) : mkB p ++ ⟨#[32]⟩ ++ ⟨#[114]⟩ ++ mkB t = mkB (p ++ chunkP v u) := by
  subst h; subst hu
  rw [mkB_one, mkB_one, mkB_app]; simp [chunkP]
theorem part_yes2 (p t u : List UInt8) (v : Bool) (h : v = true) (hu : u = t) : mkB p ++ ⟨#[32]⟩ ++ mkB t = mkB (p ++ chunkP v u) := by
  subst h; subst hu
  rw [mkB_one, mkB_app]; simp [chunkP]
set_option maxHeartbeats 8000000 in
set_option maxRecDepth 100000 in
theorem text_some (i : PIns) (KB KS KK : Addr) (w : World) (hB : w.cell? ⟨7, 0, none⟩ = some (esV KB)) (hS : w.cell? ⟨8, 0, none⟩ = some (esV KS)) (hK : w.cell? ⟨5, 0, none⟩ = some (esV KK)) (htab : Lib.TabIs Tryz.prog w "internal/strconv.uint64pow10" .u64 Lib.pow10Tab) (h : errI i = 0) :
    Calls Tryz.prog 39 #[insV i] w (Ret (textV i) w) := by
  have hf : findL i.op ≠ 0 := by intro e; unfold errI at h; rw [if_pos e] at h; cases h
  obtain ⟨k, hk⟩ : ∃ k, findL i.op = k + 1 := ⟨findL i.op - 1, by omega⟩
  have hk29 : k < 29 := by have := (findL_spec i.op hf).1; omega
  have hp : errP (hasOf k) i = 0 := by unfold errI at h; rw [if_neg hf, hk] at h; exact h
  have HT : Hid (textI i = textP (hasOf k) i) := show textI i = _ by unfold textI; rw [if_pos h, hk]; rfl
  have hbx : Below w.heap.size w (w.alloc (.cells #[.string (mkB i.op), .int .i64 i.d, .int .i64 i.a, .int .i64 i.b, .int .i64 i.imm] 90)) := grow_alloc (grow_refl _) _
  have he : encV KB KS KK i = .tuple #[.int .u64 (wordP i), .nilIface] := by unfold encV; rw [h]; rfl
  have hE := Encode_any i KB KS KK _ (Keeps.of_below hbx _ _ hB) (Keeps.of_below hbx _ _ hS) (Keeps.of_below hbx _ _ hK)
  rw [he] at hE
  have HF := Lib.hid (fun w => find_any (mkB i.op) w)
  have e : (findL (mkB i.op).toList : Int) = (k : Int) + 1 := by rw [mkB_toList, hk]; rfl
  rw [e] at HF
  have HTB := Lib.hid (Lib.tabBelow_of_tabIs htab)
  obtain ⟨⟨d0, d1⟩, ⟨a0, a1⟩, ⟨b0, b1⟩, ⟨m0, m1⟩, -⟩ := errP_zero hp
  have hw : (w.alloc (.cells #[.string (mkB i.op), .int .i64 i.d, .int .i64 i.a, .int .i64 i.b, .int .i64 i.imm] 90)).heap[w.heap.size]? = some (.cells #[.string (mkB i.op), .int .i64 i.d, .int .i64 i.a, .int .i64 i.b, .int .i64 i.imm] 90) := heap_alloc_new w _
  have HW := Lib.hid hw
  obtain ⟨op, d, a, b, imm⟩ := i
  simp only at d0 d1 a0 a1 b0 b1 m0 m1
  have l1 : (mkB (Lib.itoa d)).size ≤ 21 := itoa_len d (by omega) (by omega)
  have l2 : (mkB (Lib.itoa a)).size ≤ 21 := itoa_len a (by omega) (by omega)
  have l3 : (mkB (Lib.itoa b)).size ≤ 21 := itoa_len b (by omega) (by omega)
  have l4 : (mkB (Lib.itoa imm)).size ≤ 21 := itoa_len imm (by omega) (by omega)
  have HPL : Hid (∀ j, (mkB (partT ⟨op, d, a, b, imm⟩ (hasOf k) j)).size ≤ 200) := fun j => by
    have := part_len ⟨op, d, a, b, imm⟩ (hasOf k) j l1 l2 l3 l4
    have h6 : op.length ≤ 6 := by
      have e : nameOf (findL op - 1) = op := (findL_spec op hf).2
      rw [← e]; exact name_len _ (by have : findL op = k + 1 := hk; omega)
    rw [mkB_size]
    simp only at this
    omega
  have HI1 := Lib.hid (fun w' hb => itoa_any' d (by omega) (by omega) w w' HTB.out hb)
  have HI2 := Lib.hid (fun w' hb => itoa_any' a (by omega) (by omega) w w' HTB.out hb)
  have HI3 := Lib.hid (fun w' hb => itoa_any' b (by omega) (by omega) w w' HTB.out hb)
  have HI4 := Lib.hid (fun w' hb => itoa_any' imm (by omega) (by omega) w w' HTB.out hb)
  unfold insV at hE ⊢
  have HE := Lib.hid hE
  clear hE he h hB hS hK htab hf hk hp e hw d0 d1 a0 a1 b0 b1 m0 m1
  have s1 : IntKind.i64.wrap ((k : Int) + 1 - 1) = k := by rw [show (k : Int) + 1 - 1 = k by omega]; exact IntWalk.i64_in _ (by omega)
  have s1' : IntKind.i64.wrap (k : Int) = k := IntWalk.i64_in _ (by omega)
  have s2 : (0 : Int) ≤ k := by omega
  have s3 : (k : Int) < 29 := by omega
  have s5 : ((k : Int)).toNat = k := by omega
  go_enter Tryz.func39, Tryz.ntmps39
  go_upto_region 5 with (go_at_call 26; (with_reducible refine HE.out.mono ?_); rintro x w1 ⟨rfl, hb1⟩; have hw1 : w1.heap[w.heap.size]? = some (.cells #[.string (mkB op), .int .i64 d, .int .i64 a, .int .i64 b, .int .i64 imm] 90) := (hb1.block w.heap.size (by simp)).trans HW.out; have HB1 := Lib.hid (grow_trans hbx hb1); have HW1 := Lib.hid hw1; have r0 := cell_of_row w1 _ 0 _ _ _ hw1; clear hw1 hb1)
  have p0 := fun o => Keeps.alloc w1 o _ _ r0
  have HS1 := Lib.hid (has_cell w1 k hk29)
  have HS2 := Lib.hid (fun w2 => has_cell w2 k hk29)
  clear hbx
  go_cut [6] (fun v wx => v = .string (mkB (hasOf k)) ∧ Below w1.heap.size w1 wx)
  case first =>
    clear hk29
    go_region_with (first
      | (go_at_call 52; refine (table_any _).mono ?_; rintro x w' ⟨rfl, rfl⟩)
      | (go_at_call 50; (with_reducible refine (HF.out _).mono ?_); rintro x w2 ⟨rfl, hb2⟩; have u2 := (HS2.out w2).2; have HB2 := Lib.hid hb2; (try have u1 := Keeps.of_below hb2 _ _ HS1.out.2); clear hb2))
    all_goals go_wp2_with fail
    all_goals go_meet
    all_goals refine ⟨rfl, ?_⟩
    · first
        | exact grow_trans (grow_alloc (grow_refl _) _).drew HB2.out
        | exact grow_trans (grow_alloc (grow_refl _) _) HB2.out
        | exact (grow_alloc (grow_trans (grow_refl _).drew HB2.out) _)
        | exact (grow_alloc (grow_trans (grow_refl _).drew HB2.out) _).drew
        | exact (grow_alloc (grow_trans (grow_refl _) HB2.out) _)
    · first
        | exact grow_trans (grow_alloc (grow_refl _) _).drew HB2.out
        | exact grow_trans (grow_alloc (grow_refl _) _) HB2.out
        | exact (grow_alloc (grow_trans (grow_refl _).drew HB2.out) _)
        | exact (grow_alloc (grow_trans (grow_refl _).drew HB2.out) _).drew
        | exact (grow_alloc (grow_trans (grow_refl _) HB2.out) _)
  case rest =>
    obtain ⟨rfl, hbx⟩ := hcut
    clear r0 p0
    have hwx := (hbx.block w.heap.size (Array.getElem?_eq_some_iff.1 HW1.out).1).trans HW1.out
    have HWX := Lib.hid hwx
    have HBX := Lib.hid (grow_trans HB1.out hbx)
    have r1 := cell_of_row _ _ 1 _ _ _ hwx
    have r2 := cell_of_row _ _ 2 _ _ _ hwx
    have r3 := cell_of_row _ _ 3 _ _ _ hwx
    have r4 := cell_of_row _ _ 4 _ _ _ hwx
    clear hwx hbx
    go_wp2_with fail
    clear r1 r2 r3 r4
    have HCW := Lib.hid (heap_alloc_new wc (.cells #[.string ⟨#[100]⟩, .int .i64 d, .string ⟨#[97]⟩, .int .i64 a, .string ⟨#[98]⟩, .int .i64 b, .string ⟨#[105]⟩, .int .i64 imm] 147))
    have hcont : ∀ (c : UInt8) (v : Bool), (hasOf k).contains c = v → ∀ w, Calls Tryz.prog 65 #[.string (mkB (hasOf k)), .string ⟨#[c]⟩] w fun e w' => e = .returned (.bool v) ∧ w' = w := fun c v hv w => by
      have e := Tryz.strings_Contains_one (mkB (hasOf k)) c w
      rw [← Lib.contains_iff_indexByte, ← toList_data, mkB_toList, hv] at e
      exact e
    have HCONT := Lib.hid hcont
    clear hcont
    go_loopw [5, 8, 40] (fun out _ i wr => ∃ j : Nat, j ≤ 4 ∧ i = .int .i64 j ∧ out = .string (mkB (partT ⟨op, d, a, b, imm⟩ (hasOf k) j)) ∧ Below (wc.alloc (.cells #[.string ⟨#[100]⟩, .int .i64 d, .string ⟨#[97]⟩, .int .i64 a, .string ⟨#[98]⟩, .int .i64 b, .string ⟨#[105]⟩, .int .i64 imm] 147)).heap.size (wc.alloc (.cells #[.string ⟨#[100]⟩, .int .i64 d, .string ⟨#[97]⟩, .int .i64 a, .string ⟨#[98]⟩, .int .i64 b, .string ⟨#[105]⟩, .int .i64 imm] 147)) wr) (fun _ _ i _ => 4 - (intOf i).toNat)
    case atStart => exact ⟨0, by omega, rfl, rfl, Below.refl _ _⟩
    case round =>
      obtain ⟨j, hj, rfl, rfl, hX⟩ := hrel
      have HXR := Lib.hid hX
      have hcr := (hX.block wc.heap.size (by simp)).trans HCW.out
      have hwcr : Below wc.heap.size wc wr := grow_trans (grow_alloc (grow_refl _) _) hX
      have HWR := Lib.hid (grow_trans HBX.out hwcr)
      have hopr := (hwcr.block w.heap.size (Array.getElem?_eq_some_iff.1 HWX.out).1).trans HWX.out
      have r0 := cell_of_row wr _ 0 _ _ _ hopr
      have p0 := fun o => Keeps.alloc wr o _ _ r0
      have c0 := cell_of_row wr _ 0 _ _ _ hcr
      have c1 := cell_of_row wr _ 1 _ _ _ hcr
      have c2 := cell_of_row wr _ 2 _ _ _ hcr
      have c3 := cell_of_row wr _ 3 _ _ _ hcr
      have c4 := cell_of_row wr _ 4 _ _ _ hcr
      have c5 := cell_of_row wr _ 5 _ _ _ hcr
      have c6 := cell_of_row wr _ 6 _ _ _ hcr
      have c7 := cell_of_row wr _ 7 _ _ _ hcr
      clear hX hcr hwcr hopr
      rcases j with _ | _ | _ | _ | _ | j
      · have hz := HPL.out 0
        cases hq : (hasOf k).contains 100
        · have HP := Lib.hid (part_no (partT ⟨op, d, a, b, imm⟩ (hasOf k) 0) (114 :: Lib.itoa d) _ hq)
          have HC := Lib.hid (HCONT.out 100 _ hq)
          clear hq
          go_wp2_with (first
            | (go_at_call 65; (with_reducible refine (HC.out _).mono ?_); rintro x w' ⟨rfl, rfl⟩)
            | (go_at_call 66; (with_reducible refine (HI1.out _ (grow_alloc HWR.out _)).mono ?_); rintro x w4 ⟨rfl, hb4⟩))
          go_roundw
          case rel => exact ⟨1, by omega, by go_num, by rw [HP.out]; rfl, grow_alloc HXR.out _⟩
          case measure => simp [intOf]
        · have HP := Lib.hid (part_yes (partT ⟨op, d, a, b, imm⟩ (hasOf k) 0) (Lib.itoa d) (114 :: Lib.itoa d) _ hq rfl)
          have HC := Lib.hid (HCONT.out 100 _ hq)
          clear hq
          go_wp2_with (first
            | (go_at_call 65; (with_reducible refine (HC.out _).mono ?_); rintro x w' ⟨rfl, rfl⟩)
            | (go_at_call 66; (with_reducible refine (HI1.out _ (grow_alloc HWR.out _)).mono ?_); rintro x w4 ⟨rfl, hb4⟩))
          go_roundw
          case rel => exact ⟨1, by omega, by go_num, by rw [HP.out]; rfl, grow_trans (grow_alloc HXR.out _) hb4⟩
          case measure => simp [intOf]
      · have hz := HPL.out 1
        cases hq : (hasOf k).contains 97
        · have HP := Lib.hid (part_no (partT ⟨op, d, a, b, imm⟩ (hasOf k) 1) (114 :: Lib.itoa a) _ hq)
          have HC := Lib.hid (HCONT.out 97 _ hq)
          clear hq
          go_wp2_with (first
            | (go_at_call 65; (with_reducible refine (HC.out _).mono ?_); rintro x w' ⟨rfl, rfl⟩)
            | (go_at_call 66; (with_reducible refine (HI2.out _ (grow_alloc HWR.out _)).mono ?_); rintro x w4 ⟨rfl, hb4⟩))
          go_roundw
          case rel => exact ⟨2, by omega, by go_num, by rw [HP.out]; rfl, grow_alloc HXR.out _⟩
          case measure => simp [intOf]
        · have HP := Lib.hid (part_yes (partT ⟨op, d, a, b, imm⟩ (hasOf k) 1) (Lib.itoa a) (114 :: Lib.itoa a) _ hq rfl)
          have HC := Lib.hid (HCONT.out 97 _ hq)
          clear hq
          go_wp2_with (first
            | (go_at_call 65; (with_reducible refine (HC.out _).mono ?_); rintro x w' ⟨rfl, rfl⟩)
            | (go_at_call 66; (with_reducible refine (HI2.out _ (grow_alloc HWR.out _)).mono ?_); rintro x w4 ⟨rfl, hb4⟩))
          go_roundw
          case rel => exact ⟨2, by omega, by go_num, by rw [HP.out]; rfl, grow_trans (grow_alloc HXR.out _) hb4⟩
          case measure => simp [intOf]
      · have hz := HPL.out 2
        cases hq : (hasOf k).contains 98
        · have HP := Lib.hid (part_no (partT ⟨op, d, a, b, imm⟩ (hasOf k) 2) ((if op == callN then [] else [114]) ++ Lib.itoa b) _ hq)
          have HC := Lib.hid (HCONT.out 98 _ hq)
          clear hq
          go_wp2_with (first
            | (go_at_call 65; (with_reducible refine (HC.out _).mono ?_); rintro x w' ⟨rfl, rfl⟩)
            | (go_at_call 66; (with_reducible refine (HI3.out _ (grow_alloc HWR.out _)).mono ?_); rintro x w4 ⟨rfl, hb4⟩))
          go_roundw
          case rel => exact ⟨3, by omega, by go_num, by rw [HP.out]; rfl, grow_alloc HXR.out _⟩
          case measure => simp [intOf]
        · by_cases ho : op = callN
          · have HP := Lib.hid (part_yes2 (partT ⟨op, d, a, b, imm⟩ (hasOf k) 2) (Lib.itoa b) ((if op == callN then [] else [114]) ++ Lib.itoa b) _ hq (by rw [ho]; rfl))
            have ho' : ((mkB op).toList == [99, 97, 108, 108]) = true := by rw [mkB_toList, ho]; rfl
            have HC := Lib.hid (HCONT.out 98 _ hq)
            clear hq
            clear ho
            go_wp2_with (first
            | (go_at_call 65; (with_reducible refine (HC.out _).mono ?_); rintro x w' ⟨rfl, rfl⟩)
            | (go_at_call 66; (with_reducible refine (HI3.out _ (grow_alloc HWR.out _)).mono ?_); rintro x w4 ⟨rfl, hb4⟩))
            go_roundw
            case rel => exact ⟨3, by omega, by go_num, by rw [HP.out]; rfl, grow_trans (grow_alloc HXR.out _) hb4⟩
            case measure => simp [intOf]
          · have HP := Lib.hid (part_yes (partT ⟨op, d, a, b, imm⟩ (hasOf k) 2) (Lib.itoa b) ((if op == callN then [] else [114]) ++ Lib.itoa b) _ hq (by rw [if_neg (by simpa using ho)]; rfl))
            have ho' : ((mkB op).toList == [99, 97, 108, 108]) = false := by rw [mkB_toList]; exact beq_eq_false_iff_ne.2 ho
            have HC := Lib.hid (HCONT.out 98 _ hq)
            clear hq
            clear ho
            go_wp2_with (first
            | (go_at_call 65; (with_reducible refine (HC.out _).mono ?_); rintro x w' ⟨rfl, rfl⟩)
            | (go_at_call 66; (with_reducible refine (HI3.out _ (grow_alloc HWR.out _)).mono ?_); rintro x w4 ⟨rfl, hb4⟩))
            go_roundw
            case rel => exact ⟨3, by omega, by go_num, by rw [HP.out]; rfl, grow_trans (grow_alloc HXR.out _) hb4⟩
            case measure => simp [intOf]
      · have hz := HPL.out 3
        cases hq : (hasOf k).contains 105
        · have HP := Lib.hid (part_no (partT ⟨op, d, a, b, imm⟩ (hasOf k) 3) (Lib.itoa imm) _ hq)
          have HC := Lib.hid (HCONT.out 105 _ hq)
          clear hq
          go_wp2_with (first
            | (go_at_call 65; (with_reducible refine (HC.out _).mono ?_); rintro x w' ⟨rfl, rfl⟩)
            | (go_at_call 66; (with_reducible refine (HI4.out _ (grow_alloc HWR.out _)).mono ?_); rintro x w4 ⟨rfl, hb4⟩))
          go_roundw
          case rel => exact ⟨4, by omega, by go_num, by rw [HP.out]; rfl, grow_alloc HXR.out _⟩
          case measure => simp [intOf]
        · have HP := Lib.hid (part_yes2 (partT ⟨op, d, a, b, imm⟩ (hasOf k) 3) (Lib.itoa imm) (Lib.itoa imm) _ hq rfl)
          have HC := Lib.hid (HCONT.out 105 _ hq)
          clear hq
          go_wp2_with (first
            | (go_at_call 65; (with_reducible refine (HC.out _).mono ?_); rintro x w' ⟨rfl, rfl⟩)
            | (go_at_call 66; (with_reducible refine (HI4.out _ (grow_alloc HWR.out _)).mono ?_); rintro x w4 ⟨rfl, hb4⟩))
          go_roundw
          case rel => exact ⟨4, by omega, by go_num, by rw [HP.out]; rfl, grow_trans (grow_alloc HXR.out _) hb4⟩
          case measure => simp [intOf]
      · clear c0 c1 c2 c3 c4 c5 c6 c7 r0 p0
        go_wp2_with fail
        go_ret
        exact ⟨by unfold textV; rw [HT.out]; rfl, grow_trans HBX.out (grow_trans (grow_alloc (grow_refl _) _) HXR.out)⟩
      · omega
theorem Text_any (i : PIns) (KB KS KK : Addr) (w : World) (hB : w.cell? ⟨7, 0, none⟩ = some (esV KB)) (hS : w.cell? ⟨8, 0, none⟩ = some (esV KS)) (hK : w.cell? ⟨5, 0, none⟩ = some (esV KK)) (htab : Lib.TabIs Tryz.prog w "internal/strconv.uint64pow10" .u64 Lib.pow10Tab) :
    Calls Tryz.prog 39 #[insV i] w (Ret (textV i) w) := by
  by_cases h : errI i = 0
  · exact text_some i KB KS KK w hB hS hK htab h
  · exact text_none i KB KS KK w hB hS hK h
end Go.Proofs.YtonnhechjbdenaaGreatDoor

namespace Go.Proofs.YtonnhechjbdenaaGreatDoor
open Go.RowKit

/-- What a world holds that the package code reads. -/
structure CodeLaid (KB KS KK : Addr) (w : World) : Prop where
  b : w.cell? ⟨7, 0, none⟩ = some (esV KB)
  s : w.cell? ⟨8, 0, none⟩ = some (esV KS)
  k : w.cell? ⟨5, 0, none⟩ = some (esV KK)
  tab : Lib.TabBelow Tryz.prog w.heap.size w "internal/strconv.uint64pow10" .u64 Lib.pow10Tab
theorem CodeLaid.below {KB KS KK : Addr} {w w' : World} (h : CodeLaid KB KS KK w) (hb : Below w.heap.size w w') : CodeLaid KB KS KK w' :=
  ⟨Keeps.of_below hb _ _ h.b, Keeps.of_below hb _ _ h.s, Keeps.of_below hb _ _ h.k, Lib.tabBelow_of_tabIs (h.tab w' hb)⟩
theorem encode_ok {i : PIns} (h : errI i = 0) {KB KS KK : Addr} {w : World} (hL : CodeLaid KB KS KK w) : Calls Tryz.prog 26 #[insV i] w (Ret (.tuple #[.int .u64 (wordP i), .nilIface]) w) := by
  have := Encode_any i KB KS KK w hL.b hL.s hL.k
  unfold encV at this
  rw [h] at this
  exact this
theorem errV_bad (KB KS KK : Addr) (n : Nat) (h : n ≠ 0) : ∃ K, errV KB KS KK n = .iface 220 (.pointer (some K)) := by
  unfold errV
  rw [if_neg h]
  split
  · exact ⟨_, rfl⟩
  · split <;> exact ⟨_, rfl⟩
end Go.Proofs.YtonnhechjbdenaaGreatDoor

namespace Go.Proofs.YtonnhechjbdenaaGreatDoor
open Go.RowKit

theorem coded3_any (E : Nat → Addr) (w : World) (h : Laid E w) (v : Value) (c a code : Int) (hv : ErrIs E w v c a) :
    Calls Tryz.prog 22 #[v, .int .i64 code] w (Ret (.bool ((c == code) && (a == -1))) w) := by
  have HV := Lib.hid hv
  have HL := Lib.hid h
  clear hv h
  go_enter Tryz.func22, Tryz.ntmps22
  cases hc : (c == code) <;> cases ha : (a == -1)
  all_goals
    go_wp2_with (go_at_call 30; refine (Code_any E _ HL.out _ _ _ HV.out).mono ?_; rintro e w' ⟨rfl, hb⟩)
    go_ret
    exact ⟨rfl, by assumption⟩
theorem errW_cases (v : Int) : errW v = 0 ∨ errW v = 2 ∨ errW v = 3 ∨ errW v = 4 := by
  unfold errW
  split
  · omega
  · rcases errP_cases (hasOf ((v / 72057594037927936).toNat - 1)) (insP v) with h | h | h <;> omega
end Go.Proofs.YtonnhechjbdenaaGreatDoor

namespace Go.Proofs.YtonnhechjbdenaaGreatDoor
open Go.RowKit

theorem faulted3_any (E : Nat → Addr) (w : World) (h : Laid E w) (v : Value) (c a fc fa : Int) (hv : ErrIs E w v c a) :
    Calls Tryz.prog 10 #[v, .agg #[.int .i64 fc, .int .i64 fa]] w (Ret (.bool ((c == fc) && ((c == 0) || (a == fa)))) w) := by
  have hB : Below w.heap.size w (w.alloc (.cells #[.int .i64 fc, .int .i64 fa] 43)) := (Below.refl _ _).alloc (Nat.le_refl _) _
  have HV := Lib.hid (hv.keep (Keeps.of_below hB))
  have HL := Lib.hid (h.keep hB)
  have HB := Lib.hid hB
  clear hv h hB
  have hcl : (w.alloc (.cells #[.int .i64 fc, .int .i64 fa] 43)).cell? ⟨w.heap.size, 0, none⟩ = some (.int .i64 fc) := by simp
  have hcm : (w.alloc (.cells #[.int .i64 fc, .int .i64 fa] 43)).cell? ⟨w.heap.size, 1, none⟩ = some (.int .i64 fa) := by simp
  have H0 := Lib.hid hcl
  have H1 := Lib.hid hcm
  clear hcl hcm
  go_enter Tryz.func10, Tryz.ntmps10
  cases hc : (c == fc) <;> cases h0 : (c == 0) <;> cases ha : (a == fa)
  all_goals
    go_wp2_with (go_at_call 30; refine (Code_any E _ HL.out _ _ _ HV.out).mono ?_; rintro e w' ⟨rfl, hb⟩; have k0 := Keeps.of_below hb _ _ H0.out; have k1 := Keeps.of_below hb _ _ H1.out)
    go_ret
    refine ⟨rfl, HB.out.trans (hb.mono (by simp))⟩
def faultV3 (c a : Int) : Value := .agg #[.int .i64 c, .int .i64 a]
theorem faulted3_same (E : Nat → Addr) (w : World) (h : Laid E w) (v : Value) (c a : Int) (hv : ErrIs E w v c a) :
    Calls Tryz.prog 10 #[v, faultV3 c a] w (Ret (.bool true) w) := by
  have := faulted3_any E w h v c a c a hv
  simpa [faultV3] using this
theorem bare3 (c : Int) (w : World) : Calls Tryz.prog 27 #[.int .i64 c] w (Ret (faultV3 c (-1)) w) := by
  unfold faultV3
  go_enter Tryz.func27, Tryz.ntmps27
  go_wp2_with fail
  go_returns
  exact ⟨rfl, (Below.refl _ _).alloc (Nat.le_refl _) _⟩
theorem fine3 (w : World) : Calls Tryz.prog 29 #[] w (Ret (faultV3 0 (-1)) w) := by
  unfold faultV3
  go_enter Tryz.func29, Tryz.ntmps29
  go_wp2_with fail
  go_returns
  exact ⟨rfl, (Below.refl _ _).alloc (Nat.le_refl _) _⟩
end Go.Proofs.YtonnhechjbdenaaGreatDoor
