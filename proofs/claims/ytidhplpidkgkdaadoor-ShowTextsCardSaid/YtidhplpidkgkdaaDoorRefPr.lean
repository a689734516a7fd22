import Derived.Test.YtidhplpidkgkdaaDoorRefBlock
import Derived.Test.YtidhplpidkgkdaaDoorShowPr3
namespace Go.Proofs.YtidhplpidkgkdaaDoor
open Go.RowKit

def outT (G : List UInt8) (f : PFun) (i : Nat) : List UInt8 := G ++ [102, 110, 32] ++ f.name ++ [40] ++ joinC (f.params.take i)
set_option maxHeartbeats 4000000 in
set_option maxRecDepth 100000 in
theorem ProgramText_any (fs : List PFun) (S : Nat → Prop) (A : Option Addr) (c : Nat) (w : World) (htx : ∀ f ∈ fs, TxF f) (hlen : fs.length ≤ 10) (hl : (textG fs).length ≤ 1000000) (hr : RdF w S fs A) :
    Calls Tryd.prog 10 #[.slice A fs.length c] w (Ret (strV (textG fs)) w) := by
  have HR := Lib.hid hr
  have HX := Lib.hid htx
  have HLS : Hid (∀ k (h : k < fs.length), (textG (fs.take k)).length + (textF fs[k]).length ≤ 1000000) := fun k h => by
    have := textG_take_len fs (k + 1)
    rw [textG_step h] at this
    simp only [List.length_append] at this
    omega
  clear hr htx
  unfold strV
  go_enter Tryd.func10, Tryd.ntmps10
  go_wp2_with fail
  go_loopw [3, 4, 5] (fun v i _ wr => ∃ k : Nat, k ≤ fs.length ∧ i = .int .i64 k ∧ v = .string (mkB (textG (fs.take k))) ∧ Below w.heap.size w wr) (fun _ i _ _ => fs.length - (intOf i).toNat)
  case atStart => exact ⟨0, Nat.zero_le _, rfl, by rw [List.take_zero]; rfl, grow_refl _⟩
  case round =>
    obtain ⟨k, hk, rfl, rfl, hbel⟩ := hrel
    by_cases hlt : k < fs.length
    · obtain ⟨b, off, P, p, B, d, rfl, -, hcells, hprm, hbody⟩ := (HR.out.keep ((Keeps.of_below hbel).in S) (fun _ h => h)) k hlt
      obtain ⟨c0, c1, c2⟩ := cells_fun hcells
      have hlt' : (k : Int) < (fs.length : Int) := by omega
      have hst := textG_step hlt
      have hls := HLS.out k hlt
      have hxf := HX.out fs[k] (List.getElem_mem hlt)
      obtain ⟨f, hf⟩ : ∃ f, fs[k] = f := ⟨_, rfl⟩
      rw [hf] at hcells hprm hbody c0 c1 c2 hst hls hxf
      obtain ⟨G, hG⟩ : ∃ G, textG (fs.take k) = G := ⟨_, rfl⟩
      rw [hG] at hst hls
      rw [hG]
      have htf : textF f = lineT 0 ([102, 110, 32] ++ f.name ++ [40] ++ joinC f.params ++ [41, 32, 123]) ++ textB f.body 1 ++ lineT 0 [125] := rfl
      rw [htf] at hls
      simp only [List.length_append] at hls
      have hszG : (mkB G).size ≤ 1000000 := by rw [mkB_len]; omega
      have hsz1 : (mkB f.name).size ≤ 20 := by rw [mkB_len]; exact hxf.name
      have hpl := hxf.params
      have HPJ : Hid (∀ j, (joinC (f.params.take j)).length ≤ 1000) := fun j => Nat.le_trans (joinC_take_len f.params j) hxf.texts
      have HBT : Hid (∀ w', Below wr.heap.size wr w' → Calls Tryd.prog 24 #[.slice B f.body.length d, .int .i64 1] w' (Ret (.string (mkB (textB f.body 1))) w')) := fun w' hb =>
        blockText_any 1 f.body hxf.stmts hxf.body (by omega) (by omega) S B d w' (hbody.keep ((Keeps.of_below hb).in _) (fun _ h => h))
      have hsz3 : (mkB (textB f.body 1)).size ≤ 1000000 := by rw [mkB_len]; omega
      have HST : Hid (mkB (outT G f f.params.length) ++ ⟨#[41, 32, 123, 10]⟩ ++ mkB (textB f.body 1) ++ ⟨#[125, 10]⟩ = mkB (textG (fs.take (k + 1)))) := show _ = _ by
        rw [hst, htf]; simp only [show ∀ a : List UInt8, (⟨a.toArray⟩ : ByteArray) = mkB a from fun _ => rfl, mkB_app]; unfold outT; rw [List.take_length]; congr 1; simp [lineT, List.append_assoc]
      have HS0 : Hid (mkB G ++ ⟨#[102, 110, 32]⟩ ++ mkB f.name ++ ⟨#[40]⟩ = mkB (outT G f 0)) := show _ = _ by
        simp only [show ∀ a : List UInt8, (⟨a.toArray⟩ : ByteArray) = mkB a from fun _ => rfl, mkB_app]; unfold outT; congr 1; simp [joinC, List.append_assoc]
      have HOL : Hid (∀ j, (mkB (outT G f j)).size ≤ 2000000) := fun j => by
        have := HPJ.out j
        have := hxf.name
        rw [mkB_len]; unfold outT
        simp only [List.length_append, List.length_cons, List.length_nil]; omega
      have HPRM := Lib.hid hprm
      clear hcells hprm hbody hst hls hxf hf hG htf
      go_wp2_with fail
      go_loopw [3, 5] (fun v j wt => ∃ i : Nat, i ≤ f.params.length ∧ j = .int .i64 i ∧ v = .string (mkB (outT G f i)) ∧ wt = wr) (fun _ j _ => f.params.length - (intOf j).toNat)
      case atStart => exact ⟨0, Nat.zero_le _, rfl, congrArg Value.string HS0.out, rfl⟩
      case round =>
        obtain ⟨i, hi, rfl, rfl, rfl⟩ := hrel
        have hso := HOL.out i
        by_cases hlt2 : i < f.params.length
        · have hlt2' : (i : Int) < (f.params.length : Int) := by omega
          obtain ⟨b2, off2, rfl, -, hc2⟩ := HPRM.out i hlt2
          have hj := joinC_step hlt2
          have hx : (mkB f.params[i]).size ≤ 1000 := by
            rw [mkB_len]
            have := joinC_mem_len f.params f.params[i] (List.getElem_mem hlt2)
            have h2 := HPJ.out f.params.length
            rw [List.take_length] at h2
            omega
          by_cases hi0 : i = 0
          · subst hi0
            have HV : Hid (mkB (outT G f 0) ++ mkB f.params[0] = mkB (outT G f (0 + 1))) := show _ = _ by
              rw [mkB_app]; unfold outT; rw [hj, if_pos rfl]; congr 1; simp [joinC, List.append_assoc]
            simp only [Nat.add_zero] at hc2
            clear hj
            go_wp2_with fail
            go_roundw
            case rel => exact ⟨0 + 1, by omega, by go_num, congrArg Value.string HV.out, (by trivial)⟩
            case measure => simp [intOf]; omega
          · have hi1 : 0 < i := by omega
            have HV : Hid (mkB (outT G f i) ++ ⟨#[44, 32]⟩ ++ mkB f.params[i] = mkB (outT G f (i + 1))) := show _ = _ by
              simp only [show ∀ a : List UInt8, (⟨a.toArray⟩ : ByteArray) = mkB a from fun _ => rfl, mkB_app]; unfold outT; rw [hj, if_neg hi0]; congr 1; simp [List.append_assoc]
            clear hj hi0
            go_wp2_with fail
            go_roundw
            case rel => exact ⟨i + 1, by omega, by go_num, congrArg Value.string HV.out, (by trivial)⟩
            case measure => simp [intOf]; omega
        · have hi' : i = f.params.length := by omega
          subst hi'
          go_wp2_with (go_at_call 24; (with_reducible refine (HBT.out _ (Below.refl _ _)).mono ?_); rintro y w1 ⟨rfl, hb1⟩)
          go_roundw
          case rel => exact ⟨k + 1, by omega, by go_num, congrArg Value.string HST.out, grow_trans hbel hb1⟩
          case measure => simp [intOf]; omega
    · have hk' : k = fs.length := by omega
      subst hk'
      rw [List.take_length]
      go_wp2_with fail
      go_ret
      exact ⟨rfl, hbel⟩
end Go.Proofs.YtidhplpidkgkdaaDoor
