import Derived.Test.YtgoifbkogboppaaDoorBn18
import Derived.Test.YtgoifbkogboppaaDoorBn19
import Derived.Test.YtgoifbkogboppaaDoorBn9
import Derived.Test.YtgoifbkogboppaaDoorBn3
set_option linter.unusedVariables false
set_option linter.unusedSimpArgs false
namespace Go.Proofs.YtgoifbkogboppaaDoor
open Go.RowKit

/-! the machine: move of any right instruction -/
section
variable {m : PImg} {A : Option Addr} {cf : Nat} {B : Option Addr} {cw : Nat} {C : Value} {mb T : Nat} {s : PMs} {v u : Value} {ps : List (Nat × Nat)} {p : Nat × Nat} {cs : List PFr} {x y : PFr} {w w' : World} {i : PIns}
set_option maxRecDepth 100000 in
theorem move_any (h : MaAt m A cf B cw C mb T s v u (ps ++ [p]) w) (hs : s.calls = cs ++ [x]) (hx : FrOk m x) (hi : InsOk m i) (hf : flowB i.op = false) :
    Calls Tryd.prog 43 #[.pointer (some ⟨mb, 0, none⟩), .pointer (some ⟨p.1, 0, none⟩), insV i] w (FlowTo m A cf B cw C mb T (moveB i.op) (moveP i x s) w) := by
  obtain ⟨op, d, a, b, imm⟩ := i
  obtain ⟨k, hk, hop⟩ := hi.op
  have hslot := hi.slot
  have hparam := hi.param
  have hd := hi.d
  have ha := hi.a
  have hb := hi.b
  clear hi
  simp only at hop hslot hparam hd ha hb hf
  subst hop
  obtain ⟨d, rfl⟩ : ∃ n : Nat, d = n := ⟨d.toNat, by omega⟩
  obtain ⟨a, rfl⟩ : ∃ n : Nat, a = n := ⟨a.toNat, by omega⟩
  obtain ⟨b, rfl⟩ : ∃ n : Nat, b = n := ⟨b.toNat, by omega⟩
  match k, hk with
  | 0, _ =>
    have e1 : moveP ⟨nameOf 0, d, a, b, imm⟩ x s = topM (putM x d imm) s := by
      unfold moveP
      rw [if_neg (show ¬ farM ⟨nameOf 0, d, a, b, imm⟩ x = true from (by decide : ¬ (false = true))), if_pos (show nameOf 0 = constT from rfl)]
    rw [e1]
    exact (move_const h hs hx.len d (by omega) a b imm).mono fun e w' q => FlowTo.mv q
  | 1, _ =>
    have e1 : moveP ⟨nameOf 1, d, a, b, imm⟩ x s = topM (putM x d (highP (regM x d) imm)) s := by
      unfold moveP
      rw [if_neg (show ¬ farM ⟨nameOf 1, d, a, b, imm⟩ x = true from (by decide : ¬ (false = true))), if_neg (show ¬ nameOf 1 = constT by decide), if_pos (show nameOf 1 = highT from rfl)]
    rw [e1]
    exact (move_high h hs hx.len d (by omega) a b imm).mono fun e w' q => FlowTo.mv q
  | 2, _ =>
    have e1 : moveP ⟨nameOf 2, d, a, b, imm⟩ x s = topM (putM x d (regM x a)) s := by
      unfold moveP
      rw [if_neg (show ¬ farM ⟨nameOf 2, d, a, b, imm⟩ x = true from (by decide : ¬ (false = true))), if_neg (show ¬ nameOf 2 = constT by decide), if_neg (show ¬ nameOf 2 = highT by decide), if_pos (show nameOf 2 = moveT from rfl)]
    rw [e1]
    exact (move_move h hs hx.len d (by omega) a (by omega) b imm).mono fun e w' q => FlowTo.mv q
  | 3, _ =>
    have hj := hslot (.inl rfl)
    obtain ⟨n, rfl⟩ : ∃ n : Nat, imm = n := ⟨imm.toNat, by omega⟩
    have hfr := hx.f
    by_cases hfar : x.f.slots ≤ (n : Int)
    · have e1 : moveP ⟨nameOf 3, d, a, b, n⟩ x s = endM stuckT s := by
        unfold moveP
        rw [if_pos (show farM ⟨nameOf 3, d, a, b, n⟩ x = true by show (true && decide (x.f.slots ≤ (n : Int)) || false) = true; simp [hfar])]
      rw [e1]
      exact (move_load_far h hs hx.len d a b n hfar).mono fun e w' q => FlowTo.mv q
    · have e1 : moveP ⟨nameOf 3, d, a, b, n⟩ x s = topM (putM x d (x.slots.getD n 0)) s := by
        unfold moveP
        rw [if_neg (show ¬ farM ⟨nameOf 3, d, a, b, n⟩ x = true by show ¬ (true && decide (x.f.slots ≤ (n : Int)) || false) = true; simp [hfar]), if_neg (show ¬ nameOf 3 = constT by decide), if_neg (show ¬ nameOf 3 = highT by decide), if_neg (show ¬ nameOf 3 = moveT by decide), if_pos (show nameOf 3 = loadT from rfl)]
        rfl
      rw [e1]
      exact (move_load h hs hx.len d (by omega) a b n (by rw [hx.slots]; omega) (by omega)).mono fun e w' q => FlowTo.mv q
  | 4, _ =>
    have hj := hslot (.inr rfl)
    obtain ⟨n, rfl⟩ : ∃ n : Nat, imm = n := ⟨imm.toNat, by omega⟩
    have hfr := hx.f
    by_cases hfar : x.f.slots ≤ (n : Int)
    · have e1 : moveP ⟨nameOf 4, d, a, b, n⟩ x s = endM stuckT s := by
        unfold moveP
        rw [if_pos (show farM ⟨nameOf 4, d, a, b, n⟩ x = true by show (true && decide (x.f.slots ≤ (n : Int)) || false) = true; simp [hfar])]
      rw [e1]
      exact (move_store_far h hs hx.len d a b n hfar).mono fun e w' q => FlowTo.mv q
    · have e1 : moveP ⟨nameOf 4, d, a, b, n⟩ x s = topM { x with slots := x.slots.set n (regM x a) } s := by
        unfold moveP
        rw [if_neg (show ¬ farM ⟨nameOf 4, d, a, b, n⟩ x = true by show ¬ (true && decide (x.f.slots ≤ (n : Int)) || false) = true; simp [hfar]), if_neg (show ¬ nameOf 4 = constT by decide), if_neg (show ¬ nameOf 4 = highT by decide), if_neg (show ¬ nameOf 4 = moveT by decide), if_neg (show ¬ nameOf 4 = loadT by decide), if_pos (show nameOf 4 = storeT from rfl)]
        rfl
      rw [e1]
      exact (move_store h hs hx.len d a (by omega) b n (by rw [hx.slots]; omega) (by omega)).mono fun e w' q => FlowTo.mv q
  | 5, _ =>
    have hj := hparam (.inl rfl)
    obtain ⟨n, rfl⟩ : ∃ n : Nat, imm = n := ⟨imm.toNat, by omega⟩
    by_cases hfar : x.f.params ≤ (n : Int)
    · have e1 : moveP ⟨nameOf 5, d, a, b, n⟩ x s = endM stuckT s := by
        unfold moveP
        rw [if_pos (show farM ⟨nameOf 5, d, a, b, n⟩ x = true by show (false || (true && decide (x.f.params ≤ (n : Int)))) = true; simp [hfar])]
      rw [e1]
      exact (move_param_far h hs hx.len d a b n hfar).mono fun e w' q => FlowTo.mv q
    · have e1 : moveP ⟨nameOf 5, d, a, b, n⟩ x s = topM (putM x d (x.args.getD n 0)) s := by
        unfold moveP
        rw [if_neg (show ¬ farM ⟨nameOf 5, d, a, b, n⟩ x = true by show ¬ (false || (true && decide (x.f.params ≤ (n : Int)))) = true; simp [hfar]), if_neg (show ¬ nameOf 5 = constT by decide), if_neg (show ¬ nameOf 5 = highT by decide), if_neg (show ¬ nameOf 5 = moveT by decide), if_neg (show ¬ nameOf 5 = loadT by decide), if_neg (show ¬ nameOf 5 = storeT by decide), if_pos (show nameOf 5 = paramT from rfl)]
        rfl
      rw [e1]
      exact (move_param h hs hx.len d (by omega) a b n (by omega) (by omega)).mono fun e w' q => FlowTo.mv q
  | 6, _ =>
    have hj := hparam (.inr rfl)
    obtain ⟨n, rfl⟩ : ∃ n : Nat, imm = n := ⟨imm.toNat, by omega⟩
    have e1 : moveP ⟨nameOf 6, d, a, b, n⟩ x s = topM { x with next := x.next.set n (regM x a) } s := by
      unfold moveP
      rw [if_neg (show ¬ farM ⟨nameOf 6, d, a, b, n⟩ x = true from (by decide : ¬ (false = true))), if_neg (show ¬ nameOf 6 = constT by decide), if_neg (show ¬ nameOf 6 = highT by decide), if_neg (show ¬ nameOf 6 = moveT by decide), if_neg (show ¬ nameOf 6 = loadT by decide), if_neg (show ¬ nameOf 6 = storeT by decide), if_neg (show ¬ nameOf 6 = paramT by decide)]
      rfl
    rw [e1]
    exact (move_arg h hs hx.len d a (by omega) b n (by omega)).mono fun e w' q => FlowTo.mv q
  | 7, _ => exact absurd hf (by decide)
  | 8, _ => exact absurd hf (by decide)
  | 9, _ => exact absurd hf (by decide)
  | 10, _ => exact absurd hf (by decide)
  | 11, _ => exact absurd hf (by decide)
  | 12, _ => exact absurd hf (by decide)
  | 13, _ => exact (move_neg h hs hx.len d a b imm).mono fun e w' q => FlowTo.no q
  | 14, _ => exact (move_not h hs hx.len d a b imm).mono fun e w' q => FlowTo.no q
  | 15, _ => exact (move_add h hs hx.len d a b imm).mono fun e w' q => FlowTo.no q
  | 16, _ => exact (move_sub h hs hx.len d a b imm).mono fun e w' q => FlowTo.no q
  | 17, _ => exact (move_mul h hs hx.len d a b imm).mono fun e w' q => FlowTo.no q
  | 18, _ => exact (move_div h hs hx.len d a b imm).mono fun e w' q => FlowTo.no q
  | 19, _ => exact (move_rem h hs hx.len d a b imm).mono fun e w' q => FlowTo.no q
  | 20, _ => exact (move_and h hs hx.len d a b imm).mono fun e w' q => FlowTo.no q
  | 21, _ => exact (move_or h hs hx.len d a b imm).mono fun e w' q => FlowTo.no q
  | 22, _ => exact (move_xor h hs hx.len d a b imm).mono fun e w' q => FlowTo.no q
  | 23, _ => exact (move_shl h hs hx.len d a b imm).mono fun e w' q => FlowTo.no q
  | 24, _ => exact (move_shr h hs hx.len d a b imm).mono fun e w' q => FlowTo.no q
  | 25, _ => exact (move_less h hs hx.len d a b imm).mono fun e w' q => FlowTo.no q
  | 26, _ => exact (move_most h hs hx.len d a b imm).mono fun e w' q => FlowTo.no q
  | 27, _ => exact (move_same h hs hx.len d a b imm).mono fun e w' q => FlowTo.no q
  | 28, _ => exact (move_other h hs hx.len d a b imm).mono fun e w' q => FlowTo.no q
  | n + 29, hk => exact absurd hk (by omega)
end
end Go.Proofs.YtgoifbkogboppaaDoor

namespace Go.Proofs.YtgoifbkogboppaaDoor
open Go.RowKit

/-! code.Three at the ops that it knows -/
theorem ops_row {j : Nat} (hj : j < 14) : (opsL.map Value.string)[j]? = some (.string (mkB (opsB.getD j []))) := by
  match j, hj with
  | 0, _ => rfl
  | 1, _ => rfl
  | 2, _ => rfl
  | 3, _ => rfl
  | 4, _ => rfl
  | 5, _ => rfl
  | 6, _ => rfl
  | 7, _ => rfl
  | 8, _ => rfl
  | 9, _ => rfl
  | 10, _ => rfl
  | 11, _ => rfl
  | 12, _ => rfl
  | 13, _ => rfl
set_option maxHeartbeats 1000000 in
theorem Three_any (j : Nat) (hj : j < 14) (w : World) : Calls Tryd.prog 58 #[.string (mkB (nameOf (15 + j)))] w (Ret (.string (mkB (opsB.getD j []))) w) := by
  have HF1 : Hid (∀ w', Calls Tryd.prog 69 #[.string (mkB (nameOf (15 + j)))] w' (Ret (.int .i64 ((j : Int) + 16)) w')) := fun w' => by
    have := find_any (mkB (nameOf (15 + j))) w'
    rw [mkB_toList, findL_name _ (by omega)] at this
    have e : (((15 + j + 1 : Nat)) : Int) = (j : Int) + 16 := by omega
    rw [e] at this
    exact this
  have HF2 : Hid (∀ w', Calls Tryd.prog 69 #[.string ⟨#[97, 100, 100]⟩] w' (Ret (.int .i64 16) w')) := fun w' => by
    have := find_any (mkB (nameOf 15)) w'
    rw [mkB_toList, findL_name _ (by omega)] at this
    exact this
  obtain ⟨op, hop⟩ : ∃ op, mkB (nameOf (15 + j)) = op := ⟨_, rfl⟩
  rw [hop] at HF1
  rw [hop]
  obtain ⟨r, hr⟩ : ∃ r, mkB (opsB.getD j []) = r := ⟨_, rfl⟩
  have hrow := ops_row hj
  rw [hr] at hrow
  rw [hr]
  have HROW := Lib.hid hrow
  have hj0 : (0 : Int) ≤ j := by omega
  have hj14 : (j : Int) < 14 := by omega
  clear hop hr hrow
  go_enter Tryd.func58, Tryd.ntmps58
  go_upto_region 3 with (first
    | (go_at_call 69; (with_reducible refine (HF1.out _).mono ?_); rintro z w1 ⟨rfl, hb1⟩)
    | (go_at_call 69; (with_reducible refine (HF2.out _).mono ?_); rintro z w2 ⟨rfl, hb2⟩))
  change Code.wp _ _ _ _ (w2.alloc opsO)
  have hc : (w2.alloc opsO).cell? ⟨w2.heap.size, j, none⟩ = some (.string r) := by
    obtain ⟨b, off, e, hc⟩ := opsO_row w2 j _ HROW.out
    injection e with e; injection e with e1 e2 _
    subst e1; subst e2
    simpa using hc
  have hbw : Below w.heap.size w (w2.alloc opsO) := grow_alloc (grow_trans hb1 hb2) _
  obtain ⟨w3, hw3⟩ : ∃ w3, w2.alloc opsO = w3 := ⟨_, rfl⟩
  rw [hw3] at hc hbw
  rw [hw3]
  clear hw3 hb1 hb2
  go_wp2_with fail
  go_ret
  exact ⟨rfl, hbw⟩
/-! loads under a name, for mach.sum -/
def ldS44 : Op := Op.load 3 (Operand.tmp 44)
@[go_sem] theorem ldS44_eq : ldS44 = Op.load 3 (Operand.tmp 44) := rfl
def ldS63 : Op := Op.load 3 (Operand.tmp 63)
@[go_sem] theorem ldS63_eq : ldS63 = Op.load 3 (Operand.tmp 63) := rfl
def ldS18 : Op := Op.load 3 (Operand.tmp 18)
@[go_sem] theorem ldS18_eq : ldS18 = Op.load 3 (Operand.tmp 18) := rfl
def ldS25 : Op := Op.load 3 (Operand.tmp 25)
@[go_sem] theorem ldS25_eq : ldS25 = Op.load 3 (Operand.tmp 25) := rfl
end Go.Proofs.YtgoifbkogboppaaDoor
