import Derived.Deep.CutRange
import Derived.Deep.CutBlock
import Derived.Deep.AppendLies
import Derived.Deep.RegionHeld3
import Derived.Deep.RegionLaw
import Derived.BigRegion
import Derived.BigQuiet
import Derived.Deep.QuietTactic
import Derived.StillTailTactics
import Derived.Test.YtonnhechjbdenaaGreatDoorBn32
import Derived.Test.YtonnhechjbdenaaGreatDoorBn3
import Derived.Test.YtonnhechjbdenaaGreatDoorBn26
set_option linter.unusedVariables false
set_option linter.unusedSimpArgs false
namespace Go.Proofs.YtonnhechjbdenaaGreatDoor
open Go.RowKit

/-! the reference's machine: its switch (printed by gen_rfs.py) -/
def cR : Code → Code
  | .seq _ b => b
  | c => c
def cL : Code → Code
  | .seq a _ => a
  | c => c
def cI : Code → Code
  | .block _ c => c
  | .loop c => c
  | c => c
noncomputable def bodyZ : Code := (cI (cL (cR (cI (cI (cR (cL (cR (cR (cR (cR (cR (cR (cR (Tryz.f15.body.getD .skip)))))))))))))))
noncomputable def swC : Code := cR (cR (cR (cR (cR (cR (cR (cR bodyZ)))))))
/-- What stands at the switch. -/
structure SwAt (m : PImg) (A : Option Addr) (cf : Nat) (B : Option Addr) (cw mb T b0 rb : Nat) (s : PMs) (v u : Value) (ps : List (Nat × Nat)) (p : Nat × Nat) (cs : List PFr) (x : PFr) (nx : List Int) (wA w : World) : Prop where
  rf : RfAt mb s v u (ps ++ [p]) w
  cl : s.calls = cs ++ [x]
  fx : FrLen x
  nxb : w.heap[mb + 1]? = some (.cells (intVs nx).toArray 105 (0, 0))
  nx4 : nx.length = 4
  nx6 : ∀ n ∈ nx, I64 n
  rbk : w.heap[rb]? = some (.cells #[.string ⟨#[]⟩, .int .i64 0, .slice none 0 0, .int .i64 0] 54 (0, 0))
  img : w.cell? ⟨b0, 0, none⟩ = some (.slice A m.funs.length cf) ∧ w.cell? ⟨b0, 1, none⟩ = some (.slice B m.words.length cw)
  funs : Row w A (m.funs.flatMap fnL)
  bel : Below mb wA w
  ov : s.over = false
  low : b0 < mb ∧ rb < mb
section
variable {m : PImg} {A : Option Addr} {cf : Nat} {B : Option Addr} {cw mb T b0 rb left : Nat} {P : Option PMs} {s s2 : PMs} {v u v2 u2 : Value} {ps fbs2 : List (Nat × Nat)} {p : Nat × Nat} {cs : List PFr} {x : PFr} {nx : List Int} {wA w w' : World}
theorem SwAt.head (H : SwAt m A cf B cw mb T b0 rb s v u ps p cs x nx wA w) (hr : RfAt mb s2 v2 u2 fbs2 w') (hs : w'.heap[mb + 1]? = w.heap[mb + 1]?) (hok : MsOk m T s2) (ho : s2.over = false) (hP : P = runN m T left s2) (jt : Int) : HeadAt m mb T left P u2 (.int .i64 (-1)) (.int .i64 jt) w' :=
  ⟨s2, v2, fbs2, nx, hr, H.nx4, H.nx6, hs.trans H.nxb, ho, .inl ⟨jt, rfl, rfl, hok, hP⟩⟩
theorem SwAt.pne (H : SwAt m A cf B cw mb T b0 rb s v u ps p cs x nx wA w) : p.1 ≠ mb + 1 ∧ p.2 ≠ mb + 1 :=
  (H.rf.none_of H.nxb (fun cs e => by injection e with _ e _; exact absurd e (by decide)) (fun cs e => by injection e with _ e _; exact absurd e (by decide)) (fun cs e => by injection e with _ e _; exact absurd e (by decide))).2.2 p (by simp)
theorem SwAt.how (H : SwAt m A cf B cw mb T b0 rb s v u ps p cs x nx wA w) : s.how = [] := by
  have h := H.ov
  unfold PMs.over at h
  cases hh : s.how with
  | nil => rfl
  | cons a b => rw [hh] at h; cases h
theorem RfAt.put {n : Int} {v' : Value} {o : Obj} {fbs : List (Nat × Nat)} (h : RfAt mb s v u fbs w) (hl : ¬ 1000 ≤ s.out.length) (hown : w'.ownsRow mb 3 1 v' (s.out.length + 1) (intVs s.out ++ [.int .i64 n])) (hg : (w.alloc o).grownBy w' v.ownBlock) (hat : v'.ownBlock = v.ownBlock ∨ v'.ownBlock = some (w.heap.size + 1)) :
    w'.heap[mb]? = w.heap[mb]? ∧ RfAt mb { s with out := s.out ++ [n] } v' u fbs (w'.setCell ⟨mb, 2, none⟩ v') ∧ Below mb w (w'.setCell ⟨mb, 2, none⟩ v') ∧ (∀ k, k < w.heap.size → k ≠ mb → v.ownBlock ≠ some k → (w'.setCell ⟨mb, 2, none⟩ v').heap[k]? = w.heap[k]?) := by
  obtain ⟨n2, n3, n4⟩ := h.mbne
  have hlt := h.lt
  have hold : ∀ k, k < w.heap.size → v.ownBlock ≠ some k → w'.heap[k]? = w.heap[k]? := fun k hk hn => by
    have := hg.block k (by simp; omega) (fun e => hn e.symm)
    rw [this]
    exact old_block w o hk
  have hbel : Below mb w w' := Below.grown ((Below.refl mb w).alloc (Nat.le_of_lt h.lt) o) hg (by have := h.lt; simp; omega) (fun k hk => (own_lt h.out hk).1)
  have hm := hold mb h.lt n2
  have hvlt : ∀ k, v'.ownBlock = some k → v.ownBlock = some k ∨ w.heap.size < k := fun k hk => by
    rcases hat with e | e
    · rw [e] at hk; exact .inl hk
    · rw [e] at hk; have := Option.some.inj hk; omega
  have hne : ∀ k, k < w.heap.size → v.ownBlock ≠ some k → v'.ownBlock ≠ some k := fun k hk hn e => by
    rcases hvlt k e with q | q
    · exact hn q
    · omega
  have hs : ∀ k, k ≠ mb → (w'.setCell ⟨mb, 2, none⟩ v').heap[k]? = w'.heap[k]? := fun k hk => Below.heap_setCell _ _ _ _ hk
  have hks : ∀ k, k < w.heap.size → k ≠ mb → v.ownBlock ≠ some k → (w'.setCell ⟨mb, 2, none⟩ v').heap[k]? = w.heap[k]? := fun k h1 h2 h3 => (hs k h2).trans (hold k h1 h3)
  have hall : Below mb w (w'.setCell ⟨mb, 2, none⟩ v') := hbel.trans ((Below.refl mb w').setCell (p := ⟨mb, 2, none⟩) (Nat.le_refl _) _)
  refine ⟨hm, ⟨row_set (j := 2) v' (hm.trans h.blk) (by unfold ocL; simp), ?_,
    own_same h.calls fun k q => hks k (own_lt h.calls q).2 (fun e => n3 (by rw [q, e])) (own_ne h.calls h.out (by decide) q), h.len, fun k h1 h2 => ?_, h.nd1, h.nd2, fun p hp => ?_⟩, hall, hks⟩
  · show World.ownsRow _ _ _ _ _ (s.out ++ [n]).length (intVs (s.out ++ [n]))
    rw [intVs_snoc, List.length_append]
    exact own_same hown fun k q => hs k (fun e => hne mb h.lt n2 (by rw [q, e]))
  · have hf := h.fr k h1 h2
    have hn := n4 _ (List.getElem_mem h1)
    have hv1 : v.ownBlock ≠ some fbs[k].1 := own_else h.out hf.blk fun cs e => by injection e with _ e _; exact absurd e (by decide)
    exact ⟨hf.low, (hks _ (Array.getElem?_eq_some_iff.1 hf.blk).1 hn.1 hv1).trans hf.blk, (hks _ (Array.getElem?_eq_some_iff.1 hf.slots).1 hn.2 (h.ne _ (List.getElem_mem h1))).trans hf.slots⟩
  · obtain ⟨x, -, hx⟩ := h.frk hp
    exact hne _ (Array.getElem?_eq_some_iff.1 hx.slots).1 (h.ne p hp)
theorem RfAt.zero (h : RfAt mb s v u (ps ++ [p]) w) (hs : s.calls = cs ++ [x]) (hx : FrLen x) : RfAt mb (topM { x with next := zero4 } s) v u (ps ++ [p]) (zeroW p.1 w) ∧ Below mb w (zeroW p.1 w) := by
  obtain ⟨ht, hl⟩ := h.top_at hs
  have hb : Below mb w (zeroW p.1 w) := by
    have hle := Nat.le_of_lt ht.low.1
    exact ((((Below.refl mb w).setCell (p := ⟨p.1, 17, none⟩) hle _).setCell (p := ⟨p.1, 18, none⟩) hle _).setCell (p := ⟨p.1, 19, none⟩) hle _).setCell (p := ⟨p.1, 20, none⟩) hle _
  have hne : p.2 ≠ p.1 := fun e => by
    have := ht.slots
    rw [e, ht.blk] at this
    injection this with this; injection this with _ this _; exact absurd this (by decide)
  refine ⟨h.turn hs (fun k h1 _ => zeroW_heap h1) ⟨ht.low, ?_, (zeroW_heap hne).trans ht.slots⟩, hb⟩
  unfold zeroW
  refine row_set (j := 20) _ (row_set (j := 19) _ (row_set (j := 18) _ (row_set (j := 17) _ ht.blk rfl) rfl) rfl) ?_
  rw [← frL_zeroN hx]
  simp
def setNx (b : Nat) (n0 n1 n2 n3 : Int) (w : World) : World := (((w.setCell ⟨b, 0, none⟩ (.int .i64 n0)).setCell ⟨b, 1, none⟩ (.int .i64 n1)).setCell ⟨b, 2, none⟩ (.int .i64 n2)).setCell ⟨b, 3, none⟩ (.int .i64 n3)
theorem SwAt.setNext (H : SwAt m A cf B cw mb T b0 rb s v u ps p cs x nx wA w) (n0 n1 n2 n3 : Int) (k : Nat) : (setNx (mb + 1) n0 n1 n2 n3 (w.drewN k)).heap[mb + 1]? = some (.cells (intVs [n0, n1, n2, n3]).toArray 105 (0, 0)) ∧ RfAt mb s v u (ps ++ [p]) (setNx (mb + 1) n0 n1 n2 n3 (w.drewN k)) ∧ Below mb w (setNx (mb + 1) n0 n1 n2 n3 (w.drewN k)) := by
  have hn := H.rf.none_of H.nxb (fun cs e => by injection e with _ e _; exact absurd e (by decide)) (fun cs e => by injection e with _ e _; exact absurd e (by decide)) (fun cs e => by injection e with _ e _; exact absurd e (by decide))
  obtain ⟨a0, a1, a2, a3, ha⟩ := len4 H.nx4
  have hb := H.nxb
  rw [ha] at hb
  refine ⟨set4m (w := w.drewN k) (T := 105) (a0 := .int .i64 a0) (a1 := .int .i64 a1) (a2 := .int .i64 a2) (a3 := .int .i64 a3) hb, (H.rf.drewN k).same fun j hj => far4m j ?_, ?_⟩
  · rcases hj with rfl | hj | hj | ⟨p', hp', hj⟩
    · omega
    · intro e; rw [e] at hj; exact hn.1 hj
    · intro e; rw [e] at hj; exact hn.2.1 hj
    · have := hn.2.2 p' hp'
      rcases hj with rfl | rfl
      · exact this.1
      · exact this.2
  · exact (below_drewN (Below.refl _ _) k).trans (((((Below.refl mb _).setCell (p := ⟨mb + 1, 0, none⟩) (by simp) _).setCell (p := ⟨mb + 1, 1, none⟩) (by simp) _).setCell (p := ⟨mb + 1, 2, none⟩) (by simp) _).setCell (p := ⟨mb + 1, 3, none⟩) (by simp) _)
theorem store_keep {w : World} {b j k n : Nat} {z : Value} (h : b ≠ k) : ((w.drewN n).setCell ⟨b, j, none⟩ z).heap[k]? = w.heap[k]? := Below.heap_setCell _ _ _ _ (fun e => h e.symm)
end
def ld138 : Op := Op.load 3 (Operand.tmp 138)
@[go_sem] theorem ld138_eq : ld138 = Op.load 3 (Operand.tmp 138) := rfl
end Go.Proofs.YtonnhechjbdenaaGreatDoor

namespace Go.Proofs.YtonnhechjbdenaaGreatDoor
open Go.RowKit

/-! the reference's machine: the pending call (printed by gen_rfp.py) -/
section
variable {m : PImg} {A : Option Addr} {cf : Nat} {B : Option Addr} {cw mb T most b0 rb left : Nat} {P : Option PMs} {s s2 : PMs} {v u : Value} {fbs : List (Nat × Nat)} {nx : List Int} {wA w : World} {K : Act → World → Prop} {Q0 : Exit → Act → World → Prop} {Q : Ending → World → Prop}
noncomputable def pendC : Code := cL bodyZ
noncomputable def restC : Code := cR bodyZ
/-- What stands at a round's head. -/
structure PdAt (m : PImg) (A : Option Addr) (cf : Nat) (B : Option Addr) (cw mb b0 rb : Nat) (s : PMs) (v u : Value) (fbs : List (Nat × Nat)) (nx : List Int) (wA w : World) : Prop where
  rf : RfAt mb s v u fbs w
  nxb : w.heap[mb + 1]? = some (.cells (intVs nx).toArray 105 (0, 0))
  nx4 : nx.length = 4
  nx6 : ∀ n ∈ nx, I64 n
  rbk : w.heap[rb]? = some (.cells #[.string ⟨#[]⟩, .int .i64 0, .slice none 0 0, .int .i64 0] 54 (0, 0))
  img : w.cell? ⟨b0, 0, none⟩ = some (.slice A m.funs.length cf) ∧ w.cell? ⟨b0, 1, none⟩ = some (.slice B m.words.length cw)
  funs : Row w A (m.funs.flatMap fnL)
  words : Row w B (u64Vs m.words)
  far : (∀ a, A = some a → a.block < mb) ∧ ∀ a, B = some a → a.block < mb
  bel : Below mb wA w
  ov : s.over = false
  low : b0 < mb ∧ rb < mb
theorem PdAt.how (H : PdAt m A cf B cw mb b0 rb s v u fbs nx wA w) : s.how = [] := by
  have h := H.ov
  unfold PMs.over at h
  cases hh : s.how with
  | nil => rfl
  | cons a b => rw [hh] at h; cases h
theorem row_far {mb : Nat} {w w' : World} {A : Option Addr} {l : List Value} (h : Row w A l) (hf : ∀ a, A = some a → a.block < mb) (hb : Below mb w w') : Row w' A l := fun j y hj => by
  obtain ⟨b, off, e, hc⟩ := h j y hj
  exact ⟨b, off, e, (World.cell?_of_block (hb.block b (hf _ e))).trans hc⟩

set_option maxHeartbeats 8000000 in
set_option maxRecDepth 1000000 in
theorem pend_no (H : PdAt m A cf B cw mb b0 rb s v u fbs nx wA w) (hT : T ≤ 5000) (ez jt n17 : Int) (he : ez = -1) (hok : MsOk m T s) (hP : P = runN m T left s)
    (x0 x1 x2 x6 x7 x8 x9 x15 x18 x19 x20 x21 x22 x23 x24 x25 x26 x27 x28 x29 x30 x31 x32 x33 x34 x35 x36 x37 x38 x39 x40 x41 x42 x43 x44 x45 x46 x47 x48 x49 x50 x51 x52 x53 x54 x55 x56 x57 x58 x59 x60 x61 x62 x63 x64 x65 x66 x67 x68 x69 x70 x71 x72 x73 x74 x75 x76 x77 x78 x79 x80 x81 x82 x83 x84 x85 x86 x87 x88 x89 x90 x91 x92 x93 x94 x95 x96 x97 x98 x99 zZ zY zX zW zV zU zT zS zR zQ zP zO zN zM zL zK zJ zI zH zG zF zE zD zC zB zA yZ yY yX yW yV yU yT yS yR yQ yP yO yN yM yL yK yJ yI yH yG yF yE yD yC yB yA xZ xY xX xW xV xU xS xR xQ xP xO xN xM xL xK xJ xI xH xG xF xE xD xC xB xA wZ wY wX wW wV wU wQ wN wM wK wJ wH wG wE wD vZ vY vX vV vU vT vS vR vQ vP vN vM vK vJ vI vH vA uZ uY uX uV uU uT uS uR uQ uP uO uN uM uL uK uJ uI uH uG uF uD uC uB uA tZ tY tX tW tV tU tT tS tR tQ tP tO tN tM tL tK tJ tI tH tG tF tE tD tC tB tA sZ sY sX sW sV sU sT sS sR sQ sP sO sN sM sL sK sJ sI sG sF sE sD sC sB sA rZ rY rX rW rV rU rT rS rR rQ rP rO rN rM rL rK rJ rI rH rG rF rE rD rC rB rA qZ qY qX qW qV qU qT qR qQ qP qO qN qM qL qK qJ qI qH qG qF qE qD qC qA pZ pY pX pW pV pU pT pS pR pQ pP pO pN pM pL pK pJ pI pH pG pF pE pD pC pB pA oZ oY oX oW oV oU oT oS oR oQ oP oO oN oM oL oK oJ : Value)
    (hK : ∀ (y12 y18 y19 y20 y21 y22 y23 y38 y39 y40 y41 y42 y43 y44 y45 y46 y47 y48 y49 y50 y51 y52 y53 y54 y55 y56 y57 y58 y59 y60 y61 y62 y63 y64 y65 y66 y67 y68 y69 y70 y71 y72 y73 y74 y75 y76 y77 y78 y79 y80 y81 y82 y83 y84 y85 y86 y87 y88 y89 y90 y91 y92 y93 y94 y95 y96 y97 y98 y99 oI oH oG oF oE oD oC oB oA nZ nY nX nV nU nT nS nR nQ nP nO nN nM nL nK nJ nI nH nG nF nD nC mZ mY mX mW mV mT mS mQ mP mO mN mM mL mK mJ mI mH mG mF mD mC mB mA lZ lY lX lW lV lU lT lS lR lQ lP lO lN lM lL lK lJ lI lH lG lF lE lD lC lB lA kZ kY kX kW kV kU kT kS kR kQ kP kO kN kM kL kK kJ kI kH kG kF kE kD kC kB kA jZ jY jX jW jV jU jT jS jR jQ jP jO jN jM jL jK jJ jI jH jG jF jE jD jC jB jA iZ iY iX iW iV iU iT iS iR iQ iP iO iN iM iL iK iJ iI iH iG iF iE iD iC iB iA hZ hY hV hU hO hH gZ gY gX gW gV gU gT gS gR gQ gP gO gN gL gK gJ gI gH gG gF gE gC fZ fY fX fW fV fU fT fS fR fQ fP fO fN fM fL fK fJ fI fH fG fF fE fD fC fB fA eZ eY eX eW eV eU eT eS eR eQ eP eO eN eM eL eK eJ eI eH eG eF eE eD eC eB eA dZ dY dX dW dV dU dT dS dR dQ dP dO dN dM dL dK dJ dI dH dG dF dE dD dC dA cZ cY cX cW cV cU cT cS cQ cP cN cM : Value) (w' : World), BodyAt m mb T left P y12 w' → Below mb wA w' → K ⟨#[x0, x1, x2, .int .i64 T, .int .i64 most, .pointer (some ⟨b0, 0, none⟩), x6, x7, x8, x9, .pointer (some ⟨rb, 0, none⟩), .pointer (some ⟨mb, 0, none⟩), y12, .int .i64 (-1), .pointer (some ⟨mb + 1, 0, none⟩), x15, .int .i64 jt, .int .i64 n17, y18, y19, y20, y21, y22, y23, x24, x25, x26, x27, x28, x29, x30, x31, x32, x33, x34, x35, x36, x37, y38, y39, y40, y41, y42, y43, y44, y45, y46, y47, y48, y49, y50, y51, y52, y53, y54, y55, y56, y57, y58, y59, y60, y61, y62, y63, y64, y65, y66, y67, y68, y69, y70, y71, y72, y73, y74, y75, y76, y77, y78, y79, y80, y81, y82, y83, y84, y85, y86, y87, y88, y89, y90, y91, y92, y93, y94, y95, y96, y97, y98, y99, oI, oH, oG, oF, oE, oD, oC, oB, oA, nZ, nY, nX, nV, nU, nT, nS, nR, nQ, nP, nO, nN, nM, nL, nK, nJ, nI, nH, nG, nF, nD, nC, mZ, mY, mX, mW, mV, mT, mS, mQ, mP, mO, mN, mM, mL, mK, mJ, mI, mH, mG, mF, mD, mC, mB, mA, lZ, lY, lX, lW, lV, lU, lT, lS, lR, lQ, lP, lO, lN, lM, lL, lK, lJ, lI, lH, lG, lF, lE, lD, lC, lB, lA, kZ, kY, kX, kW, kV, kU, kT, kS, kR, kQ, kP, kO, kN, kM, kL, kK, kJ, kI, kH, kG, kF, kE, kD, kC, kB, kA, jZ, jY, jX, jW, jV, jU, jT, jS, jR, jQ, jP, jO, jN, jM, jL, jK, jJ, jI, jH, jG, jF, jE, jD, jC, jB, jA, iZ, iY, iX, iW, iV, iU, iT, iS, iR, iQ, iP, iO, iN, iM, iL, iK, iJ, iI, iH, iG, iF, iE, iD, iC, iB, iA, hZ, hY, hV, hU, hO, hH, gZ, gY, gX, gW, gV, gU, gT, gS, gR, gQ, gP, gO, gN, gL, gK, gJ, gI, gH, gG, gF, gE, gC, fZ, fY, fX, fW, fV, fU, fT, fS, fR, fQ, fP, fO, fN, fM, fL, fK, fJ, fI, fH, fG, fF, fE, fD, fC, fB, fA, eZ, eY, eX, eW, eV, eU, eT, eS, eR, eQ, eP, eO, eN, eM, eL, eK, eJ, eI, eH, eG, eF, eE, eD, eC, eB, eA, dZ, dY, dX, dW, dV, dU, dT, dS, dR, dQ, dP, dO, dN, dM, dL, dK, dJ, dI, dH, dG, dF, dE, dD, dC, dA, cZ, cY, cX, cW, cV, cU, cT, cS, cQ, cP, cN, cM, oK, oJ], []⟩ w')
    (hR : ∀ a w', bodyPost Tryz.prog Tryz.f15 Q .ret a w' → Q0 .ret a w')
    (hD : ∀ (s3 : PMs) (A3 : Option Addr) (c3 : Nat) (u3 : Value) (f3 : List (Nat × Nat)) (w3 : World), RfAt mb s3 (.slice A3 s3.out.length c3) u3 f3 w3 → P.map endO = some (endO s3) → Below mb wA w3 → Q (.returned (.agg #[.string (mkB s3.how), .int .i64 s3.val, .slice A3 s3.out.length c3, .int .i64 (s3.ticks : Nat)])) ((((w3.setCell ⟨rb, 0, none⟩ (.string (mkB s3.how))).setCell ⟨rb, 1, none⟩ (.int .i64 s3.val)).setCell ⟨rb, 2, none⟩ (.slice A3 s3.out.length c3)).setCell ⟨rb, 3, none⟩ (.int .i64 (s3.ticks : Nat)))) :
    Code.wp Tryz.prog pendC (Exit.then K Q0) ⟨#[x0, x1, x2, .int .i64 T, .int .i64 most, .pointer (some ⟨b0, 0, none⟩), x6, x7, x8, x9, .pointer (some ⟨rb, 0, none⟩), .pointer (some ⟨mb, 0, none⟩), u, .int .i64 ez, .pointer (some ⟨mb + 1, 0, none⟩), x15, .int .i64 jt, .int .i64 n17, x18, x19, x20, x21, x22, x23, x24, x25, x26, x27, x28, x29, x30, x31, x32, x33, x34, x35, x36, x37, x38, x39, x40, x41, x42, x43, x44, x45, x46, x47, x48, x49, x50, x51, x52, x53, x54, x55, x56, x57, x58, x59, x60, x61, x62, x63, x64, x65, x66, x67, x68, x69, x70, x71, x72, x73, x74, x75, x76, x77, x78, x79, x80, x81, x82, x83, x84, x85, x86, x87, x88, x89, x90, x91, x92, x93, x94, x95, x96, x97, x98, x99, zZ, zY, zX, zW, zV, zU, zT, zS, zR, zQ, zP, zO, zN, zM, zL, zK, zJ, zI, zH, zG, zF, zE, zD, zC, zB, zA, yZ, yY, yX, yW, yV, yU, yT, yS, yR, yQ, yP, yO, yN, yM, yL, yK, yJ, yI, yH, yG, yF, yE, yD, yC, yB, yA, xZ, xY, xX, xW, xV, xU, xS, xR, xQ, xP, xO, xN, xM, xL, xK, xJ, xI, xH, xG, xF, xE, xD, xC, xB, xA, wZ, wY, wX, wW, wV, wU, wQ, wN, wM, wK, wJ, wH, wG, wE, wD, vZ, vY, vX, vV, vU, vT, vS, vR, vQ, vP, vN, vM, vK, vJ, vI, vH, vA, uZ, uY, uX, uV, uU, uT, uS, uR, uQ, uP, uO, uN, uM, uL, uK, uJ, uI, uH, uG, uF, uD, uC, uB, uA, tZ, tY, tX, tW, tV, tU, tT, tS, tR, tQ, tP, tO, tN, tM, tL, tK, tJ, tI, tH, tG, tF, tE, tD, tC, tB, tA, sZ, sY, sX, sW, sV, sU, sT, sS, sR, sQ, sP, sO, sN, sM, sL, sK, sJ, sI, sG, sF, sE, sD, sC, sB, sA, rZ, rY, rX, rW, rV, rU, rT, rS, rR, rQ, rP, rO, rN, rM, rL, rK, rJ, rI, rH, rG, rF, rE, rD, rC, rB, rA, qZ, qY, qX, qW, qV, qU, qT, qR, qQ, qP, qO, qN, qM, qL, qK, qJ, qI, qH, qG, qF, qE, qD, qC, qA, pZ, pY, pX, pW, pV, pU, pT, pS, pR, pQ, pP, pO, pN, pM, pL, pK, pJ, pI, pH, pG, pF, pE, pD, pC, pB, pA, oZ, oY, oX, oW, oV, oU, oT, oS, oR, oQ, oP, oO, oN, oM, oL, oK, oJ], []⟩ w := by
  conv => arg 2; whnf
  subst he
  have HH := Lib.hid H
  clear H
  go_wp2_with fail
  refine hK _ _ _ _ _ _ _ _ _ _ _ _ _ _ _ _ _ _ _ _ _ _ _ _ _ _ _ _ _ _ _ _ _ _ _ _ _ _ _ _ _ _ _ _ _ _ _ _ _ _ _ _ _ _ _ _ _ _ _ _ _ _ _ _ _ _ _ _ _ _ _ _ _ _ _ _ _ _ _ _ _ _ _ _ _ _ _ _ _ _ _ _ _ _ _ _ _ _ _ _ _ _ _ _ _ _ _ _ _ _ _ _ _ _ _ _ _ _ _ _ _ _ _ _ _ _ _ _ _ _ _ _ _ _ _ _ _ _ _ _ _ _ _ _ _ _ _ _ _ _ _ _ _ _ _ _ _ _ _ _ _ _ _ _ _ _ _ _ _ _ _ _ _ _ _ _ _ _ _ _ _ _ _ _ _ _ _ _ _ _ _ _ _ _ _ _ _ _ _ _ _ _ _ _ _ _ _ _ _ _ _ _ _ _ _ _ _ _ _ _ _ _ _ _ _ _ _ _ _ _ _ _ _ _ _ _ _ _ _ _ _ _ _ _ _ _ _ _ _ _ _ _ _ _ _ _ _ _ _ _ _ _ _ _ _ _ _ _ _ _ _ _ _ _ _ _ _ _ _ _ _ _ _ _ _ _ _ _ _ _ _ _ _ _ _ _ _ _ _ _ _ _ _ _ _ _ _ _ _ _ _ _ _ _ _ _ _ _ _ _ _ _ _ _ _ _ _ _ _ _ _ _ _ _ _ _ _ _ _ _ _ _ _ _ _ ?_ ?_
  · exact ⟨s, _, fbs, nx, HH.out.rf, HH.out.nx4, HH.out.nx6, HH.out.nxb, HH.out.ov, hok, hP⟩
  · exact HH.out.bel

set_option maxHeartbeats 8000000 in
set_option maxRecDepth 1000000 in
theorem pend_tired (H : PdAt m A cf B cw mb b0 rb s v u fbs nx wA w) (hT : T ≤ 5000) (ez jt n17 : Int) (q : Nat) (he : ez = q) (hst : s.ticks ≤ T) (htk : ¬ s.ticks < T) (hP : P = some (endM tiredT s))
    (x0 x1 x2 x6 x7 x8 x9 x15 x18 x19 x20 x21 x22 x23 x24 x25 x26 x27 x28 x29 x30 x31 x32 x33 x34 x35 x36 x37 x38 x39 x40 x41 x42 x43 x44 x45 x46 x47 x48 x49 x50 x51 x52 x53 x54 x55 x56 x57 x58 x59 x60 x61 x62 x63 x64 x65 x66 x67 x68 x69 x70 x71 x72 x73 x74 x75 x76 x77 x78 x79 x80 x81 x82 x83 x84 x85 x86 x87 x88 x89 x90 x91 x92 x93 x94 x95 x96 x97 x98 x99 zZ zY zX zW zV zU zT zS zR zQ zP zO zN zM zL zK zJ zI zH zG zF zE zD zC zB zA yZ yY yX yW yV yU yT yS yR yQ yP yO yN yM yL yK yJ yI yH yG yF yE yD yC yB yA xZ xY xX xW xV xU xS xR xQ xP xO xN xM xL xK xJ xI xH xG xF xE xD xC xB xA wZ wY wX wW wV wU wQ wN wM wK wJ wH wG wE wD vZ vY vX vV vU vT vS vR vQ vP vN vM vK vJ vI vH vA uZ uY uX uV uU uT uS uR uQ uP uO uN uM uL uK uJ uI uH uG uF uD uC uB uA tZ tY tX tW tV tU tT tS tR tQ tP tO tN tM tL tK tJ tI tH tG tF tE tD tC tB tA sZ sY sX sW sV sU sT sS sR sQ sP sO sN sM sL sK sJ sI sG sF sE sD sC sB sA rZ rY rX rW rV rU rT rS rR rQ rP rO rN rM rL rK rJ rI rH rG rF rE rD rC rB rA qZ qY qX qW qV qU qT qR qQ qP qO qN qM qL qK qJ qI qH qG qF qE qD qC qA pZ pY pX pW pV pU pT pS pR pQ pP pO pN pM pL pK pJ pI pH pG pF pE pD pC pB pA oZ oY oX oW oV oU oT oS oR oQ oP oO oN oM oL oK oJ : Value)
    (hK : ∀ (y12 y18 y19 y20 y21 y22 y23 y38 y39 y40 y41 y42 y43 y44 y45 y46 y47 y48 y49 y50 y51 y52 y53 y54 y55 y56 y57 y58 y59 y60 y61 y62 y63 y64 y65 y66 y67 y68 y69 y70 y71 y72 y73 y74 y75 y76 y77 y78 y79 y80 y81 y82 y83 y84 y85 y86 y87 y88 y89 y90 y91 y92 y93 y94 y95 y96 y97 y98 y99 oI oH oG oF oE oD oC oB oA nZ nY nX nV nU nT nS nR nQ nP nO nN nM nL nK nJ nI nH nG nF nD nC mZ mY mX mW mV mT mS mQ mP mO mN mM mL mK mJ mI mH mG mF mD mC mB mA lZ lY lX lW lV lU lT lS lR lQ lP lO lN lM lL lK lJ lI lH lG lF lE lD lC lB lA kZ kY kX kW kV kU kT kS kR kQ kP kO kN kM kL kK kJ kI kH kG kF kE kD kC kB kA jZ jY jX jW jV jU jT jS jR jQ jP jO jN jM jL jK jJ jI jH jG jF jE jD jC jB jA iZ iY iX iW iV iU iT iS iR iQ iP iO iN iM iL iK iJ iI iH iG iF iE iD iC iB iA hZ hY hV hU hO hH gZ gY gX gW gV gU gT gS gR gQ gP gO gN gL gK gJ gI gH gG gF gE gC fZ fY fX fW fV fU fT fS fR fQ fP fO fN fM fL fK fJ fI fH fG fF fE fD fC fB fA eZ eY eX eW eV eU eT eS eR eQ eP eO eN eM eL eK eJ eI eH eG eF eE eD eC eB eA dZ dY dX dW dV dU dT dS dR dQ dP dO dN dM dL dK dJ dI dH dG dF dE dD dC dA cZ cY cX cW cV cU cT cS cQ cP cN cM : Value) (w' : World), BodyAt m mb T left P y12 w' → Below mb wA w' → K ⟨#[x0, x1, x2, .int .i64 T, .int .i64 most, .pointer (some ⟨b0, 0, none⟩), x6, x7, x8, x9, .pointer (some ⟨rb, 0, none⟩), .pointer (some ⟨mb, 0, none⟩), y12, .int .i64 (-1), .pointer (some ⟨mb + 1, 0, none⟩), x15, .int .i64 jt, .int .i64 n17, y18, y19, y20, y21, y22, y23, x24, x25, x26, x27, x28, x29, x30, x31, x32, x33, x34, x35, x36, x37, y38, y39, y40, y41, y42, y43, y44, y45, y46, y47, y48, y49, y50, y51, y52, y53, y54, y55, y56, y57, y58, y59, y60, y61, y62, y63, y64, y65, y66, y67, y68, y69, y70, y71, y72, y73, y74, y75, y76, y77, y78, y79, y80, y81, y82, y83, y84, y85, y86, y87, y88, y89, y90, y91, y92, y93, y94, y95, y96, y97, y98, y99, oI, oH, oG, oF, oE, oD, oC, oB, oA, nZ, nY, nX, nV, nU, nT, nS, nR, nQ, nP, nO, nN, nM, nL, nK, nJ, nI, nH, nG, nF, nD, nC, mZ, mY, mX, mW, mV, mT, mS, mQ, mP, mO, mN, mM, mL, mK, mJ, mI, mH, mG, mF, mD, mC, mB, mA, lZ, lY, lX, lW, lV, lU, lT, lS, lR, lQ, lP, lO, lN, lM, lL, lK, lJ, lI, lH, lG, lF, lE, lD, lC, lB, lA, kZ, kY, kX, kW, kV, kU, kT, kS, kR, kQ, kP, kO, kN, kM, kL, kK, kJ, kI, kH, kG, kF, kE, kD, kC, kB, kA, jZ, jY, jX, jW, jV, jU, jT, jS, jR, jQ, jP, jO, jN, jM, jL, jK, jJ, jI, jH, jG, jF, jE, jD, jC, jB, jA, iZ, iY, iX, iW, iV, iU, iT, iS, iR, iQ, iP, iO, iN, iM, iL, iK, iJ, iI, iH, iG, iF, iE, iD, iC, iB, iA, hZ, hY, hV, hU, hO, hH, gZ, gY, gX, gW, gV, gU, gT, gS, gR, gQ, gP, gO, gN, gL, gK, gJ, gI, gH, gG, gF, gE, gC, fZ, fY, fX, fW, fV, fU, fT, fS, fR, fQ, fP, fO, fN, fM, fL, fK, fJ, fI, fH, fG, fF, fE, fD, fC, fB, fA, eZ, eY, eX, eW, eV, eU, eT, eS, eR, eQ, eP, eO, eN, eM, eL, eK, eJ, eI, eH, eG, eF, eE, eD, eC, eB, eA, dZ, dY, dX, dW, dV, dU, dT, dS, dR, dQ, dP, dO, dN, dM, dL, dK, dJ, dI, dH, dG, dF, dE, dD, dC, dA, cZ, cY, cX, cW, cV, cU, cT, cS, cQ, cP, cN, cM, oK, oJ], []⟩ w')
    (hR : ∀ a w', bodyPost Tryz.prog Tryz.f15 Q .ret a w' → Q0 .ret a w')
    (hD : ∀ (s3 : PMs) (A3 : Option Addr) (c3 : Nat) (u3 : Value) (f3 : List (Nat × Nat)) (w3 : World), RfAt mb s3 (.slice A3 s3.out.length c3) u3 f3 w3 → P.map endO = some (endO s3) → Below mb wA w3 → Q (.returned (.agg #[.string (mkB s3.how), .int .i64 s3.val, .slice A3 s3.out.length c3, .int .i64 (s3.ticks : Nat)])) ((((w3.setCell ⟨rb, 0, none⟩ (.string (mkB s3.how))).setCell ⟨rb, 1, none⟩ (.int .i64 s3.val)).setCell ⟨rb, 2, none⟩ (.slice A3 s3.out.length c3)).setCell ⟨rb, 3, none⟩ (.int .i64 (s3.ticks : Nat)))) :
    Code.wp Tryz.prog pendC (Exit.then K Q0) ⟨#[x0, x1, x2, .int .i64 T, .int .i64 most, .pointer (some ⟨b0, 0, none⟩), x6, x7, x8, x9, .pointer (some ⟨rb, 0, none⟩), .pointer (some ⟨mb, 0, none⟩), u, .int .i64 ez, .pointer (some ⟨mb + 1, 0, none⟩), x15, .int .i64 jt, .int .i64 n17, x18, x19, x20, x21, x22, x23, x24, x25, x26, x27, x28, x29, x30, x31, x32, x33, x34, x35, x36, x37, x38, x39, x40, x41, x42, x43, x44, x45, x46, x47, x48, x49, x50, x51, x52, x53, x54, x55, x56, x57, x58, x59, x60, x61, x62, x63, x64, x65, x66, x67, x68, x69, x70, x71, x72, x73, x74, x75, x76, x77, x78, x79, x80, x81, x82, x83, x84, x85, x86, x87, x88, x89, x90, x91, x92, x93, x94, x95, x96, x97, x98, x99, zZ, zY, zX, zW, zV, zU, zT, zS, zR, zQ, zP, zO, zN, zM, zL, zK, zJ, zI, zH, zG, zF, zE, zD, zC, zB, zA, yZ, yY, yX, yW, yV, yU, yT, yS, yR, yQ, yP, yO, yN, yM, yL, yK, yJ, yI, yH, yG, yF, yE, yD, yC, yB, yA, xZ, xY, xX, xW, xV, xU, xS, xR, xQ, xP, xO, xN, xM, xL, xK, xJ, xI, xH, xG, xF, xE, xD, xC, xB, xA, wZ, wY, wX, wW, wV, wU, wQ, wN, wM, wK, wJ, wH, wG, wE, wD, vZ, vY, vX, vV, vU, vT, vS, vR, vQ, vP, vN, vM, vK, vJ, vI, vH, vA, uZ, uY, uX, uV, uU, uT, uS, uR, uQ, uP, uO, uN, uM, uL, uK, uJ, uI, uH, uG, uF, uD, uC, uB, uA, tZ, tY, tX, tW, tV, tU, tT, tS, tR, tQ, tP, tO, tN, tM, tL, tK, tJ, tI, tH, tG, tF, tE, tD, tC, tB, tA, sZ, sY, sX, sW, sV, sU, sT, sS, sR, sQ, sP, sO, sN, sM, sL, sK, sJ, sI, sG, sF, sE, sD, sC, sB, sA, rZ, rY, rX, rW, rV, rU, rT, rS, rR, rQ, rP, rO, rN, rM, rL, rK, rJ, rI, rH, rG, rF, rE, rD, rC, rB, rA, qZ, qY, qX, qW, qV, qU, qT, qR, qQ, qP, qO, qN, qM, qL, qK, qJ, qI, qH, qG, qF, qE, qD, qC, qA, pZ, pY, pX, pW, pV, pU, pT, pS, pR, pQ, pP, pO, pN, pM, pL, pK, pJ, pI, pH, pG, pF, pE, pD, pC, pB, pA, oZ, oY, oX, oW, oV, oU, oT, oS, oR, oQ, oP, oO, oN, oM, oL, oK, oJ], []⟩ w := by
  conv => arg 2; whnf
  subst he
  obtain ⟨Ao, co, rfl⟩ := own_slice H.rf.out
  obtain ⟨Au, cu, rfl⟩ := own_slice H.rf.calls
  obtain ⟨c0, c1, c2, c3⟩ := row4m H.rf.blk
  rw [H.how] at c0
  have z0 := row_frozen H.rf.blk 0
  have z3 := row_frozen H.rf.blk 3
  obtain ⟨w0, w1, w2, w3⟩ := row4e H.rbk
  have y0 := row_frozen H.rbk 0
  have y1 := row_frozen H.rbk 1
  have y2 := row_frozen H.rbk 2
  have y3 := row_frozen H.rbk 3
  have hne1 : rb ≠ mb := by have := H.low; omega
  have hne2 : mb ≠ rb := by have := H.low; omega
  have HH := Lib.hid H
  have ht5 : (s.ticks : Int) ≤ 5000 := by omega
  have ht0 : (0 : Int) ≤ s.ticks := by omega
  have hq0 : (0 : Int) ≤ (q : Int) := by omega
  have htk2 : (T : Int) ≤ (s.ticks : Int) := by omega
  clear H
  go_wp2_with fail
  have hk9 : (w.setCell ⟨mb, 0, none⟩ (.string ⟨#[116, 105, 114, 101, 100]⟩)).heap[rb]? = some (.cells #[.string ⟨#[]⟩, .int .i64 0, .slice none 0 0, .int .i64 0] 54 (0, 0)) := (Below.heap_setCell _ _ _ _ hne1).trans HH.out.rbk
  obtain ⟨u0, u1, u2, u3⟩ := row4e (set4m (v0 := .string ⟨#[116, 105, 114, 101, 100]⟩) (v1 := .int .i64 s.val) (v2 := .slice Ao s.out.length co) (v3 := .int .i64 ((s.ticks : Nat))) hk9)
  refine bodyPost_ret (v := .agg #[.string ⟨#[116, 105, 114, 101, 100]⟩, .int .i64 s.val, .slice Ao s.out.length co, .int .i64 ((s.ticks : Nat))]) (by simp [results, Tryz.results15, go_sem, u0, u1, u2, u3]; try rfl) rfl ?_
  exact hD (endM tiredT s) Ao co _ _ _ (HH.out.rf.store (.string ⟨#[116, 105, 114, 101, 100]⟩) (by unfold ocL Go.Proofs.YtonnhechjbdenaaGreatDoor.endM; simp <;> rfl) rfl rfl) (by rw [hP]; rfl) (HH.out.bel.trans ((Below.refl mb w).setCell (p := ⟨mb, 0, none⟩) (Nat.le_refl _) _))

set_option maxHeartbeats 8000000 in
set_option maxRecDepth 1000000 in
theorem pend_deep (H : PdAt m A cf B cw mb b0 rb s v u fbs nx wA w) (hT : T ≤ 5000) (ez jt n17 : Int) (q : Nat) (he : ez = q) (htk : s.ticks < T) (hdp : 40 ≤ s.calls.length) (hP : P = some (endM deepT { s with ticks := s.ticks + 1 }))
    (x0 x1 x2 x6 x7 x8 x9 x15 x18 x19 x20 x21 x22 x23 x24 x25 x26 x27 x28 x29 x30 x31 x32 x33 x34 x35 x36 x37 x38 x39 x40 x41 x42 x43 x44 x45 x46 x47 x48 x49 x50 x51 x52 x53 x54 x55 x56 x57 x58 x59 x60 x61 x62 x63 x64 x65 x66 x67 x68 x69 x70 x71 x72 x73 x74 x75 x76 x77 x78 x79 x80 x81 x82 x83 x84 x85 x86 x87 x88 x89 x90 x91 x92 x93 x94 x95 x96 x97 x98 x99 zZ zY zX zW zV zU zT zS zR zQ zP zO zN zM zL zK zJ zI zH zG zF zE zD zC zB zA yZ yY yX yW yV yU yT yS yR yQ yP yO yN yM yL yK yJ yI yH yG yF yE yD yC yB yA xZ xY xX xW xV xU xS xR xQ xP xO xN xM xL xK xJ xI xH xG xF xE xD xC xB xA wZ wY wX wW wV wU wQ wN wM wK wJ wH wG wE wD vZ vY vX vV vU vT vS vR vQ vP vN vM vK vJ vI vH vA uZ uY uX uV uU uT uS uR uQ uP uO uN uM uL uK uJ uI uH uG uF uD uC uB uA tZ tY tX tW tV tU tT tS tR tQ tP tO tN tM tL tK tJ tI tH tG tF tE tD tC tB tA sZ sY sX sW sV sU sT sS sR sQ sP sO sN sM sL sK sJ sI sG sF sE sD sC sB sA rZ rY rX rW rV rU rT rS rR rQ rP rO rN rM rL rK rJ rI rH rG rF rE rD rC rB rA qZ qY qX qW qV qU qT qR qQ qP qO qN qM qL qK qJ qI qH qG qF qE qD qC qA pZ pY pX pW pV pU pT pS pR pQ pP pO pN pM pL pK pJ pI pH pG pF pE pD pC pB pA oZ oY oX oW oV oU oT oS oR oQ oP oO oN oM oL oK oJ : Value)
    (hK : ∀ (y12 y18 y19 y20 y21 y22 y23 y38 y39 y40 y41 y42 y43 y44 y45 y46 y47 y48 y49 y50 y51 y52 y53 y54 y55 y56 y57 y58 y59 y60 y61 y62 y63 y64 y65 y66 y67 y68 y69 y70 y71 y72 y73 y74 y75 y76 y77 y78 y79 y80 y81 y82 y83 y84 y85 y86 y87 y88 y89 y90 y91 y92 y93 y94 y95 y96 y97 y98 y99 oI oH oG oF oE oD oC oB oA nZ nY nX nV nU nT nS nR nQ nP nO nN nM nL nK nJ nI nH nG nF nD nC mZ mY mX mW mV mT mS mQ mP mO mN mM mL mK mJ mI mH mG mF mD mC mB mA lZ lY lX lW lV lU lT lS lR lQ lP lO lN lM lL lK lJ lI lH lG lF lE lD lC lB lA kZ kY kX kW kV kU kT kS kR kQ kP kO kN kM kL kK kJ kI kH kG kF kE kD kC kB kA jZ jY jX jW jV jU jT jS jR jQ jP jO jN jM jL jK jJ jI jH jG jF jE jD jC jB jA iZ iY iX iW iV iU iT iS iR iQ iP iO iN iM iL iK iJ iI iH iG iF iE iD iC iB iA hZ hY hV hU hO hH gZ gY gX gW gV gU gT gS gR gQ gP gO gN gL gK gJ gI gH gG gF gE gC fZ fY fX fW fV fU fT fS fR fQ fP fO fN fM fL fK fJ fI fH fG fF fE fD fC fB fA eZ eY eX eW eV eU eT eS eR eQ eP eO eN eM eL eK eJ eI eH eG eF eE eD eC eB eA dZ dY dX dW dV dU dT dS dR dQ dP dO dN dM dL dK dJ dI dH dG dF dE dD dC dA cZ cY cX cW cV cU cT cS cQ cP cN cM : Value) (w' : World), BodyAt m mb T left P y12 w' → Below mb wA w' → K ⟨#[x0, x1, x2, .int .i64 T, .int .i64 most, .pointer (some ⟨b0, 0, none⟩), x6, x7, x8, x9, .pointer (some ⟨rb, 0, none⟩), .pointer (some ⟨mb, 0, none⟩), y12, .int .i64 (-1), .pointer (some ⟨mb + 1, 0, none⟩), x15, .int .i64 jt, .int .i64 n17, y18, y19, y20, y21, y22, y23, x24, x25, x26, x27, x28, x29, x30, x31, x32, x33, x34, x35, x36, x37, y38, y39, y40, y41, y42, y43, y44, y45, y46, y47, y48, y49, y50, y51, y52, y53, y54, y55, y56, y57, y58, y59, y60, y61, y62, y63, y64, y65, y66, y67, y68, y69, y70, y71, y72, y73, y74, y75, y76, y77, y78, y79, y80, y81, y82, y83, y84, y85, y86, y87, y88, y89, y90, y91, y92, y93, y94, y95, y96, y97, y98, y99, oI, oH, oG, oF, oE, oD, oC, oB, oA, nZ, nY, nX, nV, nU, nT, nS, nR, nQ, nP, nO, nN, nM, nL, nK, nJ, nI, nH, nG, nF, nD, nC, mZ, mY, mX, mW, mV, mT, mS, mQ, mP, mO, mN, mM, mL, mK, mJ, mI, mH, mG, mF, mD, mC, mB, mA, lZ, lY, lX, lW, lV, lU, lT, lS, lR, lQ, lP, lO, lN, lM, lL, lK, lJ, lI, lH, lG, lF, lE, lD, lC, lB, lA, kZ, kY, kX, kW, kV, kU, kT, kS, kR, kQ, kP, kO, kN, kM, kL, kK, kJ, kI, kH, kG, kF, kE, kD, kC, kB, kA, jZ, jY, jX, jW, jV, jU, jT, jS, jR, jQ, jP, jO, jN, jM, jL, jK, jJ, jI, jH, jG, jF, jE, jD, jC, jB, jA, iZ, iY, iX, iW, iV, iU, iT, iS, iR, iQ, iP, iO, iN, iM, iL, iK, iJ, iI, iH, iG, iF, iE, iD, iC, iB, iA, hZ, hY, hV, hU, hO, hH, gZ, gY, gX, gW, gV, gU, gT, gS, gR, gQ, gP, gO, gN, gL, gK, gJ, gI, gH, gG, gF, gE, gC, fZ, fY, fX, fW, fV, fU, fT, fS, fR, fQ, fP, fO, fN, fM, fL, fK, fJ, fI, fH, fG, fF, fE, fD, fC, fB, fA, eZ, eY, eX, eW, eV, eU, eT, eS, eR, eQ, eP, eO, eN, eM, eL, eK, eJ, eI, eH, eG, eF, eE, eD, eC, eB, eA, dZ, dY, dX, dW, dV, dU, dT, dS, dR, dQ, dP, dO, dN, dM, dL, dK, dJ, dI, dH, dG, dF, dE, dD, dC, dA, cZ, cY, cX, cW, cV, cU, cT, cS, cQ, cP, cN, cM, oK, oJ], []⟩ w')
    (hR : ∀ a w', bodyPost Tryz.prog Tryz.f15 Q .ret a w' → Q0 .ret a w')
    (hD : ∀ (s3 : PMs) (A3 : Option Addr) (c3 : Nat) (u3 : Value) (f3 : List (Nat × Nat)) (w3 : World), RfAt mb s3 (.slice A3 s3.out.length c3) u3 f3 w3 → P.map endO = some (endO s3) → Below mb wA w3 → Q (.returned (.agg #[.string (mkB s3.how), .int .i64 s3.val, .slice A3 s3.out.length c3, .int .i64 (s3.ticks : Nat)])) ((((w3.setCell ⟨rb, 0, none⟩ (.string (mkB s3.how))).setCell ⟨rb, 1, none⟩ (.int .i64 s3.val)).setCell ⟨rb, 2, none⟩ (.slice A3 s3.out.length c3)).setCell ⟨rb, 3, none⟩ (.int .i64 (s3.ticks : Nat)))) :
    Code.wp Tryz.prog pendC (Exit.then K Q0) ⟨#[x0, x1, x2, .int .i64 T, .int .i64 most, .pointer (some ⟨b0, 0, none⟩), x6, x7, x8, x9, .pointer (some ⟨rb, 0, none⟩), .pointer (some ⟨mb, 0, none⟩), u, .int .i64 ez, .pointer (some ⟨mb + 1, 0, none⟩), x15, .int .i64 jt, .int .i64 n17, x18, x19, x20, x21, x22, x23, x24, x25, x26, x27, x28, x29, x30, x31, x32, x33, x34, x35, x36, x37, x38, x39, x40, x41, x42, x43, x44, x45, x46, x47, x48, x49, x50, x51, x52, x53, x54, x55, x56, x57, x58, x59, x60, x61, x62, x63, x64, x65, x66, x67, x68, x69, x70, x71, x72, x73, x74, x75, x76, x77, x78, x79, x80, x81, x82, x83, x84, x85, x86, x87, x88, x89, x90, x91, x92, x93, x94, x95, x96, x97, x98, x99, zZ, zY, zX, zW, zV, zU, zT, zS, zR, zQ, zP, zO, zN, zM, zL, zK, zJ, zI, zH, zG, zF, zE, zD, zC, zB, zA, yZ, yY, yX, yW, yV, yU, yT, yS, yR, yQ, yP, yO, yN, yM, yL, yK, yJ, yI, yH, yG, yF, yE, yD, yC, yB, yA, xZ, xY, xX, xW, xV, xU, xS, xR, xQ, xP, xO, xN, xM, xL, xK, xJ, xI, xH, xG, xF, xE, xD, xC, xB, xA, wZ, wY, wX, wW, wV, wU, wQ, wN, wM, wK, wJ, wH, wG, wE, wD, vZ, vY, vX, vV, vU, vT, vS, vR, vQ, vP, vN, vM, vK, vJ, vI, vH, vA, uZ, uY, uX, uV, uU, uT, uS, uR, uQ, uP, uO, uN, uM, uL, uK, uJ, uI, uH, uG, uF, uD, uC, uB, uA, tZ, tY, tX, tW, tV, tU, tT, tS, tR, tQ, tP, tO, tN, tM, tL, tK, tJ, tI, tH, tG, tF, tE, tD, tC, tB, tA, sZ, sY, sX, sW, sV, sU, sT, sS, sR, sQ, sP, sO, sN, sM, sL, sK, sJ, sI, sG, sF, sE, sD, sC, sB, sA, rZ, rY, rX, rW, rV, rU, rT, rS, rR, rQ, rP, rO, rN, rM, rL, rK, rJ, rI, rH, rG, rF, rE, rD, rC, rB, rA, qZ, qY, qX, qW, qV, qU, qT, qR, qQ, qP, qO, qN, qM, qL, qK, qJ, qI, qH, qG, qF, qE, qD, qC, qA, pZ, pY, pX, pW, pV, pU, pT, pS, pR, pQ, pP, pO, pN, pM, pL, pK, pJ, pI, pH, pG, pF, pE, pD, pC, pB, pA, oZ, oY, oX, oW, oV, oU, oT, oS, oR, oQ, oP, oO, oN, oM, oL, oK, oJ], []⟩ w := by
  conv => arg 2; whnf
  subst he
  obtain ⟨Ao, co, rfl⟩ := own_slice H.rf.out
  obtain ⟨Au, cu, rfl⟩ := own_slice H.rf.calls
  obtain ⟨c0, c1, c2, c3⟩ := row4m H.rf.blk
  rw [H.how] at c0
  have z0 := row_frozen H.rf.blk 0
  have z3 := row_frozen H.rf.blk 3
  obtain ⟨w0, w1, w2, w3⟩ := row4e H.rbk
  have y0 := row_frozen H.rbk 0
  have y1 := row_frozen H.rbk 1
  have y2 := row_frozen H.rbk 2
  have y3 := row_frozen H.rbk 3
  have hne1 : rb ≠ mb := by have := H.low; omega
  have hne2 : mb ≠ rb := by have := H.low; omega
  have HH := Lib.hid H
  have ht5 : (s.ticks : Int) ≤ 5000 := by omega
  have ht0 : (0 : Int) ≤ s.ticks := by omega
  have hq0 : (0 : Int) ≤ (q : Int) := by omega
  have htk2 : (s.ticks : Int) < (T : Int) := by omega
  have hdp2 : (40 : Int) ≤ (s.calls.length : Int) := by omega
  clear H
  go_wp2_with fail
  have hk9 : ((w.setCell ⟨mb, 3, none⟩ (.int .i64 ((s.ticks : Int) + 1))).setCell ⟨mb, 0, none⟩ (.string ⟨#[100, 101, 101, 112]⟩)).heap[rb]? = some (.cells #[.string ⟨#[]⟩, .int .i64 0, .slice none 0 0, .int .i64 0] 54 (0, 0)) := (Below.heap_setCell _ _ _ _ hne1).trans ((Below.heap_setCell _ _ _ _ hne1).trans HH.out.rbk)
  obtain ⟨u0, u1, u2, u3⟩ := row4e (set4m (v0 := .string ⟨#[100, 101, 101, 112]⟩) (v1 := .int .i64 s.val) (v2 := .slice Ao s.out.length co) (v3 := .int .i64 ((s.ticks : Int) + 1)) hk9)
  refine bodyPost_ret (v := .agg #[.string ⟨#[100, 101, 101, 112]⟩, .int .i64 s.val, .slice Ao s.out.length co, .int .i64 ((s.ticks : Int) + 1)]) (by simp [results, Tryz.results15, go_sem, u0, u1, u2, u3]; try rfl) rfl ?_
  exact hD (endM deepT { s with ticks := s.ticks + 1 }) Ao co _ _ _ ((HH.out.rf.store (s' := { s with ticks := s.ticks + 1 }) (.int .i64 ((s.ticks : Int) + 1)) (by unfold ocL; simp) rfl rfl).store (.string ⟨#[100, 101, 101, 112]⟩) (by unfold ocL Go.Proofs.YtonnhechjbdenaaGreatDoor.endM; simp <;> rfl) rfl rfl) (by rw [hP]; rfl) (HH.out.bel.trans (((Below.refl mb w).setCell (p := ⟨mb, 3, none⟩) (Nat.le_refl _) _).setCell (p := ⟨mb, 0, none⟩) (Nat.le_refl _) _))

set_option maxHeartbeats 8000000 in
set_option maxRecDepth 1000000 in
theorem pend_push (H : PdAt m A cf B cw mb b0 rb s v u fbs nx wA w) (hT : T ≤ 5000) (ez jt n17 : Int) (q d : Nat) (hq : q < m.funs.length) (he : ez = q) (hj : jt = d) (htk : s.ticks < T) (hdp : ¬ 40 ≤ s.calls.length) (f : PFn) (hf : m.funs[q] = f) (n : Nat) (hn : f.slots = n) (hn1000 : n ≤ 1000) (en : Nat) (hen : f.entry = en) (a0 a1 a2 a3 : Int) (hnx : nx = [a0, a1, a2, a3]) (hok : MsOk m T (pushM f d [a0, a1, a2, a3] { s with ticks := s.ticks + 1 })) (hP : P = runN m T left (pushM f d [a0, a1, a2, a3] { s with ticks := s.ticks + 1 }))
    (x0 x1 x2 x6 x7 x8 x9 x15 x18 x19 x20 x21 x22 x23 x24 x25 x26 x27 x28 x29 x30 x31 x32 x33 x34 x35 x36 x37 x38 x39 x40 x41 x42 x43 x44 x45 x46 x47 x48 x49 x50 x51 x52 x53 x54 x55 x56 x57 x58 x59 x60 x61 x62 x63 x64 x65 x66 x67 x68 x69 x70 x71 x72 x73 x74 x75 x76 x77 x78 x79 x80 x81 x82 x83 x84 x85 x86 x87 x88 x89 x90 x91 x92 x93 x94 x95 x96 x97 x98 x99 zZ zY zX zW zV zU zT zS zR zQ zP zO zN zM zL zK zJ zI zH zG zF zE zD zC zB zA yZ yY yX yW yV yU yT yS yR yQ yP yO yN yM yL yK yJ yI yH yG yF yE yD yC yB yA xZ xY xX xW xV xU xS xR xQ xP xO xN xM xL xK xJ xI xH xG xF xE xD xC xB xA wZ wY wX wW wV wU wQ wN wM wK wJ wH wG wE wD vZ vY vX vV vU vT vS vR vQ vP vN vM vK vJ vI vH vA uZ uY uX uV uU uT uS uR uQ uP uO uN uM uL uK uJ uI uH uG uF uD uC uB uA tZ tY tX tW tV tU tT tS tR tQ tP tO tN tM tL tK tJ tI tH tG tF tE tD tC tB tA sZ sY sX sW sV sU sT sS sR sQ sP sO sN sM sL sK sJ sI sG sF sE sD sC sB sA rZ rY rX rW rV rU rT rS rR rQ rP rO rN rM rL rK rJ rI rH rG rF rE rD rC rB rA qZ qY qX qW qV qU qT qR qQ qP qO qN qM qL qK qJ qI qH qG qF qE qD qC qA pZ pY pX pW pV pU pT pS pR pQ pP pO pN pM pL pK pJ pI pH pG pF pE pD pC pB pA oZ oY oX oW oV oU oT oS oR oQ oP oO oN oM oL oK oJ : Value)
    (hK : ∀ (y12 y18 y19 y20 y21 y22 y23 y38 y39 y40 y41 y42 y43 y44 y45 y46 y47 y48 y49 y50 y51 y52 y53 y54 y55 y56 y57 y58 y59 y60 y61 y62 y63 y64 y65 y66 y67 y68 y69 y70 y71 y72 y73 y74 y75 y76 y77 y78 y79 y80 y81 y82 y83 y84 y85 y86 y87 y88 y89 y90 y91 y92 y93 y94 y95 y96 y97 y98 y99 oI oH oG oF oE oD oC oB oA nZ nY nX nV nU nT nS nR nQ nP nO nN nM nL nK nJ nI nH nG nF nD nC mZ mY mX mW mV mT mS mQ mP mO mN mM mL mK mJ mI mH mG mF mD mC mB mA lZ lY lX lW lV lU lT lS lR lQ lP lO lN lM lL lK lJ lI lH lG lF lE lD lC lB lA kZ kY kX kW kV kU kT kS kR kQ kP kO kN kM kL kK kJ kI kH kG kF kE kD kC kB kA jZ jY jX jW jV jU jT jS jR jQ jP jO jN jM jL jK jJ jI jH jG jF jE jD jC jB jA iZ iY iX iW iV iU iT iS iR iQ iP iO iN iM iL iK iJ iI iH iG iF iE iD iC iB iA hZ hY hV hU hO hH gZ gY gX gW gV gU gT gS gR gQ gP gO gN gL gK gJ gI gH gG gF gE gC fZ fY fX fW fV fU fT fS fR fQ fP fO fN fM fL fK fJ fI fH fG fF fE fD fC fB fA eZ eY eX eW eV eU eT eS eR eQ eP eO eN eM eL eK eJ eI eH eG eF eE eD eC eB eA dZ dY dX dW dV dU dT dS dR dQ dP dO dN dM dL dK dJ dI dH dG dF dE dD dC dA cZ cY cX cW cV cU cT cS cQ cP cN cM : Value) (w' : World), BodyAt m mb T left P y12 w' → Below mb wA w' → K ⟨#[x0, x1, x2, .int .i64 T, .int .i64 most, .pointer (some ⟨b0, 0, none⟩), x6, x7, x8, x9, .pointer (some ⟨rb, 0, none⟩), .pointer (some ⟨mb, 0, none⟩), y12, .int .i64 (-1), .pointer (some ⟨mb + 1, 0, none⟩), x15, .int .i64 jt, .int .i64 n17, y18, y19, y20, y21, y22, y23, x24, x25, x26, x27, x28, x29, x30, x31, x32, x33, x34, x35, x36, x37, y38, y39, y40, y41, y42, y43, y44, y45, y46, y47, y48, y49, y50, y51, y52, y53, y54, y55, y56, y57, y58, y59, y60, y61, y62, y63, y64, y65, y66, y67, y68, y69, y70, y71, y72, y73, y74, y75, y76, y77, y78, y79, y80, y81, y82, y83, y84, y85, y86, y87, y88, y89, y90, y91, y92, y93, y94, y95, y96, y97, y98, y99, oI, oH, oG, oF, oE, oD, oC, oB, oA, nZ, nY, nX, nV, nU, nT, nS, nR, nQ, nP, nO, nN, nM, nL, nK, nJ, nI, nH, nG, nF, nD, nC, mZ, mY, mX, mW, mV, mT, mS, mQ, mP, mO, mN, mM, mL, mK, mJ, mI, mH, mG, mF, mD, mC, mB, mA, lZ, lY, lX, lW, lV, lU, lT, lS, lR, lQ, lP, lO, lN, lM, lL, lK, lJ, lI, lH, lG, lF, lE, lD, lC, lB, lA, kZ, kY, kX, kW, kV, kU, kT, kS, kR, kQ, kP, kO, kN, kM, kL, kK, kJ, kI, kH, kG, kF, kE, kD, kC, kB, kA, jZ, jY, jX, jW, jV, jU, jT, jS, jR, jQ, jP, jO, jN, jM, jL, jK, jJ, jI, jH, jG, jF, jE, jD, jC, jB, jA, iZ, iY, iX, iW, iV, iU, iT, iS, iR, iQ, iP, iO, iN, iM, iL, iK, iJ, iI, iH, iG, iF, iE, iD, iC, iB, iA, hZ, hY, hV, hU, hO, hH, gZ, gY, gX, gW, gV, gU, gT, gS, gR, gQ, gP, gO, gN, gL, gK, gJ, gI, gH, gG, gF, gE, gC, fZ, fY, fX, fW, fV, fU, fT, fS, fR, fQ, fP, fO, fN, fM, fL, fK, fJ, fI, fH, fG, fF, fE, fD, fC, fB, fA, eZ, eY, eX, eW, eV, eU, eT, eS, eR, eQ, eP, eO, eN, eM, eL, eK, eJ, eI, eH, eG, eF, eE, eD, eC, eB, eA, dZ, dY, dX, dW, dV, dU, dT, dS, dR, dQ, dP, dO, dN, dM, dL, dK, dJ, dI, dH, dG, dF, dE, dD, dC, dA, cZ, cY, cX, cW, cV, cU, cT, cS, cQ, cP, cN, cM, oK, oJ], []⟩ w')
    (hR : ∀ a w', bodyPost Tryz.prog Tryz.f15 Q .ret a w' → Q0 .ret a w')
    (hD : ∀ (s3 : PMs) (A3 : Option Addr) (c3 : Nat) (u3 : Value) (f3 : List (Nat × Nat)) (w3 : World), RfAt mb s3 (.slice A3 s3.out.length c3) u3 f3 w3 → P.map endO = some (endO s3) → Below mb wA w3 → Q (.returned (.agg #[.string (mkB s3.how), .int .i64 s3.val, .slice A3 s3.out.length c3, .int .i64 (s3.ticks : Nat)])) ((((w3.setCell ⟨rb, 0, none⟩ (.string (mkB s3.how))).setCell ⟨rb, 1, none⟩ (.int .i64 s3.val)).setCell ⟨rb, 2, none⟩ (.slice A3 s3.out.length c3)).setCell ⟨rb, 3, none⟩ (.int .i64 (s3.ticks : Nat)))) :
    Code.wp Tryz.prog pendC (Exit.then K Q0) ⟨#[x0, x1, x2, .int .i64 T, .int .i64 most, .pointer (some ⟨b0, 0, none⟩), x6, x7, x8, x9, .pointer (some ⟨rb, 0, none⟩), .pointer (some ⟨mb, 0, none⟩), u, .int .i64 ez, .pointer (some ⟨mb + 1, 0, none⟩), x15, .int .i64 jt, .int .i64 n17, x18, x19, x20, x21, x22, x23, x24, x25, x26, x27, x28, x29, x30, x31, x32, x33, x34, x35, x36, x37, x38, x39, x40, x41, x42, x43, x44, x45, x46, x47, x48, x49, x50, x51, x52, x53, x54, x55, x56, x57, x58, x59, x60, x61, x62, x63, x64, x65, x66, x67, x68, x69, x70, x71, x72, x73, x74, x75, x76, x77, x78, x79, x80, x81, x82, x83, x84, x85, x86, x87, x88, x89, x90, x91, x92, x93, x94, x95, x96, x97, x98, x99, zZ, zY, zX, zW, zV, zU, zT, zS, zR, zQ, zP, zO, zN, zM, zL, zK, zJ, zI, zH, zG, zF, zE, zD, zC, zB, zA, yZ, yY, yX, yW, yV, yU, yT, yS, yR, yQ, yP, yO, yN, yM, yL, yK, yJ, yI, yH, yG, yF, yE, yD, yC, yB, yA, xZ, xY, xX, xW, xV, xU, xS, xR, xQ, xP, xO, xN, xM, xL, xK, xJ, xI, xH, xG, xF, xE, xD, xC, xB, xA, wZ, wY, wX, wW, wV, wU, wQ, wN, wM, wK, wJ, wH, wG, wE, wD, vZ, vY, vX, vV, vU, vT, vS, vR, vQ, vP, vN, vM, vK, vJ, vI, vH, vA, uZ, uY, uX, uV, uU, uT, uS, uR, uQ, uP, uO, uN, uM, uL, uK, uJ, uI, uH, uG, uF, uD, uC, uB, uA, tZ, tY, tX, tW, tV, tU, tT, tS, tR, tQ, tP, tO, tN, tM, tL, tK, tJ, tI, tH, tG, tF, tE, tD, tC, tB, tA, sZ, sY, sX, sW, sV, sU, sT, sS, sR, sQ, sP, sO, sN, sM, sL, sK, sJ, sI, sG, sF, sE, sD, sC, sB, sA, rZ, rY, rX, rW, rV, rU, rT, rS, rR, rQ, rP, rO, rN, rM, rL, rK, rJ, rI, rH, rG, rF, rE, rD, rC, rB, rA, qZ, qY, qX, qW, qV, qU, qT, qR, qQ, qP, qO, qN, qM, qL, qK, qJ, qI, qH, qG, qF, qE, qD, qC, qA, pZ, pY, pX, pW, pV, pU, pT, pS, pR, pQ, pP, pO, pN, pM, pL, pK, pJ, pI, pH, pG, pF, pE, pD, pC, pB, pA, oZ, oY, oX, oW, oV, oU, oT, oS, oR, oQ, oP, oO, oN, oM, oL, oK, oJ], []⟩ w := by
  conv => arg 2; whnf
  subst he; subst hj
  obtain ⟨Ao, co, rfl⟩ := own_slice H.rf.out
  obtain ⟨Au, cu, rfl⟩ := own_slice H.rf.calls
  obtain ⟨c0, c1, c2, c3⟩ := row4m H.rf.blk
  have z3 := row_frozen H.rf.blk 3
  obtain ⟨i0, i1⟩ := H.img
  obtain ⟨b4, off4, rfl, g0, g1, g2, g3⟩ := fn_cells H.funs hq
  rw [hf] at g0 g1 g2 g3
  rw [hn] at g2
  rw [hen] at g3
  have hqn : (q : Int) < (m.funs.length : Int) := by omega
  have hbne : b4 ≠ mb := Nat.ne_of_lt (H.far.1 _ rfl)
  have hbne2 : b0 ≠ mb := by have := H.low; omega
  have ht5 : (s.ticks : Int) ≤ 5000 := by omega
  have ht0 : (0 : Int) ≤ s.ticks := by omega
  have hq0 : (0 : Int) ≤ (q : Int) := by omega
  have htk2 : (s.ticks : Int) < (T : Int) := by omega
  have hdp2 : ¬ (40 : Int) ≤ (s.calls.length : Int) := by omega
  have hmk := make_ints n hn1000
  have hc39 : s.calls.length < 40 := by omega
  have HH := Lib.hid H
  obtain ⟨w1, hw1⟩ : ∃ w1, w.setCell ⟨mb, 3, none⟩ (.int .i64 ((s.ticks : Int) + 1)) = w1 := ⟨_, rfl⟩
  have hr1 : RfAt mb { s with ticks := s.ticks + 1 } (.slice Ao s.out.length co) (.slice Au s.calls.length cu) fbs w1 := by rw [← hw1]; exact H.rf.store (.int .i64 ((s.ticks : Int) + 1)) (by unfold ocL; simp) rfl rfl
  have hb1 : Below mb w w1 := by rw [← hw1]; exact (Below.refl mb w).setCell (p := ⟨mb, 3, none⟩) (Nat.le_refl _) _
  have hn1 : w1.heap[mb + 1]? = some (.cells (intVs [a0, a1, a2, a3]).toArray 105 (0, 0)) := by rw [← hw1, ← hnx]; exact (Below.heap_setCell _ _ _ _ (by simp)).trans H.nxb
  have HW1 := Lib.hid hw1
  have HB1 := Lib.hid hb1
  have HN1 := Lib.hid hn1
  have HR1 := Lib.hid hr1
  have j0 : w1.cell? ⟨b0, 0, none⟩ = _ := (World.cell?_of_block (hb1.block b0 H.low.1)).trans i0
  have k0 : w1.cell? ⟨b4, off4 + q * 4, none⟩ = _ := (World.cell?_of_block (hb1.block b4 (H.far.1 _ rfl))).trans g0
  have k1 : w1.cell? ⟨b4, off4 + q * 4 + 1, none⟩ = _ := (World.cell?_of_block (hb1.block b4 (H.far.1 _ rfl))).trans g1
  have k2 : w1.cell? ⟨b4, off4 + q * 4 + 2, none⟩ = _ := (World.cell?_of_block (hb1.block b4 (H.far.1 _ rfl))).trans g2
  have k3 : w1.cell? ⟨b4, off4 + q * 4 + 3, none⟩ = _ := (World.cell?_of_block (hb1.block b4 (H.far.1 _ rfl))).trans g3
  have hlt := H.rf.lt
  have HFN := Lib.hid hn
  have HFE := Lib.hid hen
  have HNX := Lib.hid hnx
  have hx6 := H.nx6
  rw [hnx] at hx6
  have HX6 := Lib.hid hx6
  clear H hr1 hb1 hn1 hf hn hen hnx hx6 i0 i1 g0 g1 g2 g3
  go_upto_region 18 with fail
  try rw [HW1.out]
  clear hw1 c0 c1 c2 c3 z3
  go_upto_region 22 with fail
  obtain ⟨wR, hwR⟩ : ∃ wR, w1.alloc (.cells #[.string (mkB f.name), .int .i64 f.params, .int .i64 n, .int .i64 en] 98) = wR := ⟨_, rfl⟩
  have hbR : Below w1.heap.size w1 wR := by rw [← hwR]; exact grow_alloc (grow_refl _) _
  have hqR : wR.heap[w1.heap.size]? = some (.cells #[.string (mkB f.name), .int .i64 f.params, .int .i64 n, .int .i64 en] 98 (0, 0)) := by rw [← hwR]; exact heap_alloc_new w1 _
  try rw [hwR]
  obtain ⟨qb, hqb⟩ : ∃ qb, w1.heap.size = qb := ⟨_, rfl⟩
  rw [hqb] at hqR
  try rw [hqb]
  have hnl : mb + 1 < w1.heap.size := (Array.getElem?_eq_some_iff.1 HN1.out).1
  have hnR : wR.heap[mb + 1]? = some (.cells #[.int .i64 a0, .int .i64 a1, .int .i64 a2, .int .i64 a3] 105 (0, 0)) := (hbR.block _ hnl).trans HN1.out
  have hRR := HR1.out.below hbR
  have HJ0 := Lib.hid (row44 hqR hnR)
  have hown := hRR.calls
  have hqu : Value.ownBlock (.slice Au s.calls.length cu) ≠ some qb := own_else hown hqR fun cs e => by injection e with _ e _; exact absurd e (by decide)
  have hpu : Value.ownBlock (.slice Au s.calls.length cu) ≠ some (mb + 1) := own_else hown hnR fun cs e => by injection e with _ e _; exact absurd e (by decide)
  have hql : qb < wR.heap.size := (Array.getElem?_eq_some_iff.1 hqR).1
  have hpl2 : mb + 1 < wR.heap.size := (Array.getElem?_eq_some_iff.1 hnR).1
  have hmr := hRR.lt
  have HOA : Hid ((((wR.drew.alloc (slO n)).alloc (.cells #[.string (mkB f.name), .int .i64 f.params, .int .i64 n, .int .i64 en, .int .i64 0, .int .i64 0, .int .i64 0, .int .i64 0, .int .i64 0, .int .i64 0, .int .i64 0, .int .i64 0, .slice (some ⟨wR.heap.size, 0, none⟩) n n, .int .i64 a0, .int .i64 a1, .int .i64 a2, .int .i64 a3, .int .i64 0, .int .i64 0, .int .i64 0, .int .i64 0, .int .i64 en, .int .i64 d] 109)).alloc (.cells #[.pointer (some ⟨wR.heap.size + 1, 0, none⟩)] 106)).ownsRow mb 106 1 (.slice Au s.calls.length cu) s.calls.length (ptrVs fbs)) := (((World.ownsRow.alloc (w := wR.drew) hown _).alloc _).alloc _)
  have HNP : Hid (∀ j z, [Value.pointer (some ⟨wR.heap.size + 1, 0, none⟩)][j]? = some z → (((wR.drew.alloc (slO n)).alloc (.cells #[.string (mkB f.name), .int .i64 f.params, .int .i64 n, .int .i64 en, .int .i64 0, .int .i64 0, .int .i64 0, .int .i64 0, .int .i64 0, .int .i64 0, .int .i64 0, .int .i64 0, .slice (some ⟨wR.heap.size, 0, none⟩) n n, .int .i64 a0, .int .i64 a1, .int .i64 a2, .int .i64 a3, .int .i64 0, .int .i64 0, .int .i64 0, .int .i64 0, .int .i64 en, .int .i64 d] 109)).alloc (.cells #[.pointer (some ⟨wR.heap.size + 1, 0, none⟩)] 106)).cell? ((⟨wR.heap.size + 2, 0, none⟩ : Addr).add j) = some z) := by
    have hh := cell_one_new ((wR.drew.alloc (slO n)).alloc (.cells #[.string (mkB f.name), .int .i64 f.params, .int .i64 n, .int .i64 en, .int .i64 0, .int .i64 0, .int .i64 0, .int .i64 0, .int .i64 0, .int .i64 0, .int .i64 0, .int .i64 0, .slice (some ⟨wR.heap.size, 0, none⟩) n n, .int .i64 a0, .int .i64 a1, .int .i64 a2, .int .i64 a3, .int .i64 0, .int .i64 0, .int .i64 0, .int .i64 0, .int .i64 en, .int .i64 d] 109)) (.pointer (some ⟨wR.heap.size + 1, 0, none⟩)) 106
    rw [show ((wR.drew.alloc (slO n)).alloc (.cells #[.string (mkB f.name), .int .i64 f.params, .int .i64 n, .int .i64 en, .int .i64 0, .int .i64 0, .int .i64 0, .int .i64 0, .int .i64 0, .int .i64 0, .int .i64 0, .int .i64 0, .slice (some ⟨wR.heap.size, 0, none⟩) n n, .int .i64 a0, .int .i64 a1, .int .i64 a2, .int .i64 a3, .int .i64 0, .int .i64 0, .int .i64 0, .int .i64 0, .int .i64 en, .int .i64 d] 109)).heap.size = wR.heap.size + 2 by simp] at hh
    exact hh
  have HOC : Hid (∀ z ∈ [Value.pointer (some ⟨wR.heap.size + 1, 0, none⟩)], z.oneCell' = true) := fun z hz => by simp at hz; subst hz; rfl
  obtain ⟨ti, hti, hz0, hz1, hz2⟩ := info_parts rptrInfo
  have hbs : mb ≤ (((wR.drew.alloc (slO n)).alloc (.cells #[.string (mkB f.name), .int .i64 f.params, .int .i64 n, .int .i64 en, .int .i64 0, .int .i64 0, .int .i64 0, .int .i64 0, .int .i64 0, .int .i64 0, .int .i64 0, .int .i64 0, .slice (some ⟨wR.heap.size, 0, none⟩) n n, .int .i64 a0, .int .i64 a1, .int .i64 a2, .int .i64 a3, .int .i64 0, .int .i64 0, .int .i64 0, .int .i64 0, .int .i64 en, .int .i64 d] 109)).alloc (.cells #[.pointer (some ⟨wR.heap.size + 1, 0, none⟩)] 106)).heap.size := by
    have e3 : (((wR.drew.alloc (slO n)).alloc (.cells #[.string (mkB f.name), .int .i64 f.params, .int .i64 n, .int .i64 en, .int .i64 0, .int .i64 0, .int .i64 0, .int .i64 0, .int .i64 0, .int .i64 0, .int .i64 0, .int .i64 0, .slice (some ⟨wR.heap.size, 0, none⟩) n n, .int .i64 a0, .int .i64 a1, .int .i64 a2, .int .i64 a3, .int .i64 0, .int .i64 0, .int .i64 0, .int .i64 0, .int .i64 en, .int .i64 d] 109)).alloc (.cells #[.pointer (some ⟨wR.heap.size + 1, 0, none⟩)] 106)).heap.size = wR.heap.size + 3 := by simp
    omega
  have h63 : s.calls.length + 1 ≤ maxLen := by unfold maxLen; omega
  have hby : (s.calls.length + 1) * 8 ≤ 140737488355328 := by omega
  have HR := Lib.hid hRR
  have HQN := Lib.hid hqR
  have HPN := Lib.hid hnR
  have HBR := Lib.hid hbR
  clear hRR hqR hnR hown hwR hqb hbR k0 k1 k2 k3 j0
  go_region_held3 (fun w' => w'.cell? ⟨qb, 0, none⟩ = some (.string (mkB f.name)) ∧ w'.cell? ⟨qb, 1, none⟩ = some (.int .i64 f.params) ∧ w'.cell? ⟨qb, 2, none⟩ = some (.int .i64 n) ∧ w'.cell? ⟨qb, 3, none⟩ = some (.int .i64 en) ∧ w'.cell? ⟨mb + 1, 0, none⟩ = some (.int .i64 a0) ∧ w'.cell? ⟨mb + 1, 1, none⟩ = some (.int .i64 a1) ∧ w'.cell? ⟨mb + 1, 2, none⟩ = some (.int .i64 a2) ∧ w'.cell? ⟨mb + 1, 3, none⟩ = some (.int .i64 a3))
    (first
      | exact HJ0.out
      | exact J4.out
      | (go_split_ands
         refine ⟨?_, ?_, ?_, ?_, ?_, ?_, ?_, ?_⟩
         all_goals (first | assumption | exact Keeps.alloc _ _ _ _ (by assumption))))
    (first
      | (refine step_append_lies _ rfl _ _ 104 rfl mb 106 ti _ 1 8 Tryz.underlying104 hti hz0 hz1 hz2 rfl (by decide) _ s.calls.length (ptrVs fbs) rfl HOA.out ⟨wR.heap.size + 2, 0, none⟩ 1 1 [.pointer (some ⟨wR.heap.size + 1, 0, none⟩)] rfl rfl HNP.out HOC.out (by decide) h63 hby hbs _ rfl ?_; intro g cap w4 hown hgrow hat hlt4; have hold4 : ∀ k, k < wR.heap.size → Value.ownBlock (.slice Au s.calls.length cu) ≠ some k → w4.heap[k]? = wR.heap[k]? := (push_old hgrow); have J4 := Lib.hid (row44 ((hold4 qb hql hqu).trans HQN.out) ((hold4 (mb + 1) hpl2 hpu).trans HPN.out)); have HNB4 := Lib.hid ((hold4 (mb + 1) hpl2 hpu).trans HPN.out); have HM4 := Lib.hid (And.intro hown (And.intro hgrow hat)); clear hown hgrow hat hlt4 hold4))
  all_goals go_wp2_with fail
  all_goals
    obtain ⟨hown, hgrow, hat⟩ := HM4.out
    rw [← frR_lit HFN.out HFE.out d a0 a1 a2 a3 wR.heap.size] at hgrow
    have hsn : slO n = slO f.slots.toNat := by rw [HFN.out]; rfl
    rw [hsn] at hgrow
    have hpush := RfAt.push (w := wR.drew) (s := { s with ticks := s.ticks + 1 }) (f := f) (d := d) (args := [a0, a1, a2, a3]) (HR.out.drewN 1) hown hgrow
    refine hK _ _ _ _ _ _ _ _ _ _ _ _ _ _ _ _ _ _ _ _ _ _ _ _ _ _ _ _ _ _ _ _ _ _ _ _ _ _ _ _ _ _ _ _ _ _ _ _ _ _ _ _ _ _ _ _ _ _ _ _ _ _ _ _ _ _ _ _ _ _ _ _ _ _ _ _ _ _ _ _ _ _ _ _ _ _ _ _ _ _ _ _ _ _ _ _ _ _ _ _ _ _ _ _ _ _ _ _ _ _ _ _ _ _ _ _ _ _ _ _ _ _ _ _ _ _ _ _ _ _ _ _ _ _ _ _ _ _ _ _ _ _ _ _ _ _ _ _ _ _ _ _ _ _ _ _ _ _ _ _ _ _ _ _ _ _ _ _ _ _ _ _ _ _ _ _ _ _ _ _ _ _ _ _ _ _ _ _ _ _ _ _ _ _ _ _ _ _ _ _ _ _ _ _ _ _ _ _ _ _ _ _ _ _ _ _ _ _ _ _ _ _ _ _ _ _ _ _ _ _ _ _ _ _ _ _ _ _ _ _ _ _ _ _ _ _ _ _ _ _ _ _ _ _ _ _ _ _ _ _ _ _ _ _ _ _ _ _ _ _ _ _ _ _ _ _ _ _ _ _ _ _ _ _ _ _ _ _ _ _ _ _ _ _ _ _ _ _ _ _ _ _ _ _ _ _ _ _ _ _ _ _ _ _ _ _ _ _ _ _ _ _ _ _ _ _ _ _ _ _ _ _ _ _ _ _ _ _ _ _ _ _ _ _ _ ?_ ?_
    · exact ⟨pushM f d [a0, a1, a2, a3] { s with ticks := s.ticks + 1 }, _, _, [a0, a1, a2, a3], hpush.1, rfl, HX6.out, HNB4.out, HH.out.ov, hok, hP⟩
    · exact HH.out.bel.trans (HB1.out.trans ((HBR.out.mono (by omega)).trans ((below_drewN (Below.refl _ _) 1).trans hpush.2)))

set_option maxHeartbeats 8000000 in
set_option maxRecDepth 1000000 in
theorem pend_any (H : PdAt m A cf B cw mb b0 rb s v u fbs nx wA w) (hT : T ≤ 5000) (hg : GoodI m) (ez jt n17 : Int) (hpd : (ez = -1 ∧ MsOk m T s ∧ P = runN m T left s) ∨ (∃ q d : Nat, q < m.funs.length ∧ d < 8 ∧ ez = q ∧ jt = d ∧ s.ticks ≤ T ∧ s.calls.length ≤ 40 ∧ MsOk m T (enterM m.funs T q d nx s) ∧ P = runN m T left (enterM m.funs T q d nx s)))
    (x0 x1 x2 x6 x7 x8 x9 x15 x18 x19 x20 x21 x22 x23 x24 x25 x26 x27 x28 x29 x30 x31 x32 x33 x34 x35 x36 x37 x38 x39 x40 x41 x42 x43 x44 x45 x46 x47 x48 x49 x50 x51 x52 x53 x54 x55 x56 x57 x58 x59 x60 x61 x62 x63 x64 x65 x66 x67 x68 x69 x70 x71 x72 x73 x74 x75 x76 x77 x78 x79 x80 x81 x82 x83 x84 x85 x86 x87 x88 x89 x90 x91 x92 x93 x94 x95 x96 x97 x98 x99 zZ zY zX zW zV zU zT zS zR zQ zP zO zN zM zL zK zJ zI zH zG zF zE zD zC zB zA yZ yY yX yW yV yU yT yS yR yQ yP yO yN yM yL yK yJ yI yH yG yF yE yD yC yB yA xZ xY xX xW xV xU xS xR xQ xP xO xN xM xL xK xJ xI xH xG xF xE xD xC xB xA wZ wY wX wW wV wU wQ wN wM wK wJ wH wG wE wD vZ vY vX vV vU vT vS vR vQ vP vN vM vK vJ vI vH vA uZ uY uX uV uU uT uS uR uQ uP uO uN uM uL uK uJ uI uH uG uF uD uC uB uA tZ tY tX tW tV tU tT tS tR tQ tP tO tN tM tL tK tJ tI tH tG tF tE tD tC tB tA sZ sY sX sW sV sU sT sS sR sQ sP sO sN sM sL sK sJ sI sG sF sE sD sC sB sA rZ rY rX rW rV rU rT rS rR rQ rP rO rN rM rL rK rJ rI rH rG rF rE rD rC rB rA qZ qY qX qW qV qU qT qR qQ qP qO qN qM qL qK qJ qI qH qG qF qE qD qC qA pZ pY pX pW pV pU pT pS pR pQ pP pO pN pM pL pK pJ pI pH pG pF pE pD pC pB pA oZ oY oX oW oV oU oT oS oR oQ oP oO oN oM oL oK oJ : Value)
    (hK : ∀ (y12 y18 y19 y20 y21 y22 y23 y38 y39 y40 y41 y42 y43 y44 y45 y46 y47 y48 y49 y50 y51 y52 y53 y54 y55 y56 y57 y58 y59 y60 y61 y62 y63 y64 y65 y66 y67 y68 y69 y70 y71 y72 y73 y74 y75 y76 y77 y78 y79 y80 y81 y82 y83 y84 y85 y86 y87 y88 y89 y90 y91 y92 y93 y94 y95 y96 y97 y98 y99 oI oH oG oF oE oD oC oB oA nZ nY nX nV nU nT nS nR nQ nP nO nN nM nL nK nJ nI nH nG nF nD nC mZ mY mX mW mV mT mS mQ mP mO mN mM mL mK mJ mI mH mG mF mD mC mB mA lZ lY lX lW lV lU lT lS lR lQ lP lO lN lM lL lK lJ lI lH lG lF lE lD lC lB lA kZ kY kX kW kV kU kT kS kR kQ kP kO kN kM kL kK kJ kI kH kG kF kE kD kC kB kA jZ jY jX jW jV jU jT jS jR jQ jP jO jN jM jL jK jJ jI jH jG jF jE jD jC jB jA iZ iY iX iW iV iU iT iS iR iQ iP iO iN iM iL iK iJ iI iH iG iF iE iD iC iB iA hZ hY hV hU hO hH gZ gY gX gW gV gU gT gS gR gQ gP gO gN gL gK gJ gI gH gG gF gE gC fZ fY fX fW fV fU fT fS fR fQ fP fO fN fM fL fK fJ fI fH fG fF fE fD fC fB fA eZ eY eX eW eV eU eT eS eR eQ eP eO eN eM eL eK eJ eI eH eG eF eE eD eC eB eA dZ dY dX dW dV dU dT dS dR dQ dP dO dN dM dL dK dJ dI dH dG dF dE dD dC dA cZ cY cX cW cV cU cT cS cQ cP cN cM : Value) (w' : World), BodyAt m mb T left P y12 w' → Below mb wA w' → K ⟨#[x0, x1, x2, .int .i64 T, .int .i64 most, .pointer (some ⟨b0, 0, none⟩), x6, x7, x8, x9, .pointer (some ⟨rb, 0, none⟩), .pointer (some ⟨mb, 0, none⟩), y12, .int .i64 (-1), .pointer (some ⟨mb + 1, 0, none⟩), x15, .int .i64 jt, .int .i64 n17, y18, y19, y20, y21, y22, y23, x24, x25, x26, x27, x28, x29, x30, x31, x32, x33, x34, x35, x36, x37, y38, y39, y40, y41, y42, y43, y44, y45, y46, y47, y48, y49, y50, y51, y52, y53, y54, y55, y56, y57, y58, y59, y60, y61, y62, y63, y64, y65, y66, y67, y68, y69, y70, y71, y72, y73, y74, y75, y76, y77, y78, y79, y80, y81, y82, y83, y84, y85, y86, y87, y88, y89, y90, y91, y92, y93, y94, y95, y96, y97, y98, y99, oI, oH, oG, oF, oE, oD, oC, oB, oA, nZ, nY, nX, nV, nU, nT, nS, nR, nQ, nP, nO, nN, nM, nL, nK, nJ, nI, nH, nG, nF, nD, nC, mZ, mY, mX, mW, mV, mT, mS, mQ, mP, mO, mN, mM, mL, mK, mJ, mI, mH, mG, mF, mD, mC, mB, mA, lZ, lY, lX, lW, lV, lU, lT, lS, lR, lQ, lP, lO, lN, lM, lL, lK, lJ, lI, lH, lG, lF, lE, lD, lC, lB, lA, kZ, kY, kX, kW, kV, kU, kT, kS, kR, kQ, kP, kO, kN, kM, kL, kK, kJ, kI, kH, kG, kF, kE, kD, kC, kB, kA, jZ, jY, jX, jW, jV, jU, jT, jS, jR, jQ, jP, jO, jN, jM, jL, jK, jJ, jI, jH, jG, jF, jE, jD, jC, jB, jA, iZ, iY, iX, iW, iV, iU, iT, iS, iR, iQ, iP, iO, iN, iM, iL, iK, iJ, iI, iH, iG, iF, iE, iD, iC, iB, iA, hZ, hY, hV, hU, hO, hH, gZ, gY, gX, gW, gV, gU, gT, gS, gR, gQ, gP, gO, gN, gL, gK, gJ, gI, gH, gG, gF, gE, gC, fZ, fY, fX, fW, fV, fU, fT, fS, fR, fQ, fP, fO, fN, fM, fL, fK, fJ, fI, fH, fG, fF, fE, fD, fC, fB, fA, eZ, eY, eX, eW, eV, eU, eT, eS, eR, eQ, eP, eO, eN, eM, eL, eK, eJ, eI, eH, eG, eF, eE, eD, eC, eB, eA, dZ, dY, dX, dW, dV, dU, dT, dS, dR, dQ, dP, dO, dN, dM, dL, dK, dJ, dI, dH, dG, dF, dE, dD, dC, dA, cZ, cY, cX, cW, cV, cU, cT, cS, cQ, cP, cN, cM, oK, oJ], []⟩ w')
    (hR : ∀ a w', bodyPost Tryz.prog Tryz.f15 Q .ret a w' → Q0 .ret a w')
    (hD : ∀ (s3 : PMs) (A3 : Option Addr) (c3 : Nat) (u3 : Value) (f3 : List (Nat × Nat)) (w3 : World), RfAt mb s3 (.slice A3 s3.out.length c3) u3 f3 w3 → P.map endO = some (endO s3) → Below mb wA w3 → Q (.returned (.agg #[.string (mkB s3.how), .int .i64 s3.val, .slice A3 s3.out.length c3, .int .i64 (s3.ticks : Nat)])) ((((w3.setCell ⟨rb, 0, none⟩ (.string (mkB s3.how))).setCell ⟨rb, 1, none⟩ (.int .i64 s3.val)).setCell ⟨rb, 2, none⟩ (.slice A3 s3.out.length c3)).setCell ⟨rb, 3, none⟩ (.int .i64 (s3.ticks : Nat)))) :
    Code.wp Tryz.prog pendC (Exit.then K Q0) ⟨#[x0, x1, x2, .int .i64 T, .int .i64 most, .pointer (some ⟨b0, 0, none⟩), x6, x7, x8, x9, .pointer (some ⟨rb, 0, none⟩), .pointer (some ⟨mb, 0, none⟩), u, .int .i64 ez, .pointer (some ⟨mb + 1, 0, none⟩), x15, .int .i64 jt, .int .i64 n17, x18, x19, x20, x21, x22, x23, x24, x25, x26, x27, x28, x29, x30, x31, x32, x33, x34, x35, x36, x37, x38, x39, x40, x41, x42, x43, x44, x45, x46, x47, x48, x49, x50, x51, x52, x53, x54, x55, x56, x57, x58, x59, x60, x61, x62, x63, x64, x65, x66, x67, x68, x69, x70, x71, x72, x73, x74, x75, x76, x77, x78, x79, x80, x81, x82, x83, x84, x85, x86, x87, x88, x89, x90, x91, x92, x93, x94, x95, x96, x97, x98, x99, zZ, zY, zX, zW, zV, zU, zT, zS, zR, zQ, zP, zO, zN, zM, zL, zK, zJ, zI, zH, zG, zF, zE, zD, zC, zB, zA, yZ, yY, yX, yW, yV, yU, yT, yS, yR, yQ, yP, yO, yN, yM, yL, yK, yJ, yI, yH, yG, yF, yE, yD, yC, yB, yA, xZ, xY, xX, xW, xV, xU, xS, xR, xQ, xP, xO, xN, xM, xL, xK, xJ, xI, xH, xG, xF, xE, xD, xC, xB, xA, wZ, wY, wX, wW, wV, wU, wQ, wN, wM, wK, wJ, wH, wG, wE, wD, vZ, vY, vX, vV, vU, vT, vS, vR, vQ, vP, vN, vM, vK, vJ, vI, vH, vA, uZ, uY, uX, uV, uU, uT, uS, uR, uQ, uP, uO, uN, uM, uL, uK, uJ, uI, uH, uG, uF, uD, uC, uB, uA, tZ, tY, tX, tW, tV, tU, tT, tS, tR, tQ, tP, tO, tN, tM, tL, tK, tJ, tI, tH, tG, tF, tE, tD, tC, tB, tA, sZ, sY, sX, sW, sV, sU, sT, sS, sR, sQ, sP, sO, sN, sM, sL, sK, sJ, sI, sG, sF, sE, sD, sC, sB, sA, rZ, rY, rX, rW, rV, rU, rT, rS, rR, rQ, rP, rO, rN, rM, rL, rK, rJ, rI, rH, rG, rF, rE, rD, rC, rB, rA, qZ, qY, qX, qW, qV, qU, qT, qR, qQ, qP, qO, qN, qM, qL, qK, qJ, qI, qH, qG, qF, qE, qD, qC, qA, pZ, pY, pX, pW, pV, pU, pT, pS, pR, pQ, pP, pO, pN, pM, pL, pK, pJ, pI, pH, pG, pF, pE, pD, pC, pB, pA, oZ, oY, oX, oW, oV, oU, oT, oS, oR, oQ, oP, oO, oN, oM, oL, oK, oJ], []⟩ w := by
  rcases hpd with ⟨he, hok, hP⟩ | ⟨q, d, hq, hd8, he, hj, htT, hc40, hok, hP⟩
  · exact pend_no H hT ez jt n17 he hok hP _ _ _ _ _ _ _ _ _ _ _ _ _ _ _ _ _ _ _ _ _ _ _ _ _ _ _ _ _ _ _ _ _ _ _ _ _ _ _ _ _ _ _ _ _ _ _ _ _ _ _ _ _ _ _ _ _ _ _ _ _ _ _ _ _ _ _ _ _ _ _ _ _ _ _ _ _ _ _ _ _ _ _ _ _ _ _ _ _ _ _ _ _ _ _ _ _ _ _ _ _ _ _ _ _ _ _ _ _ _ _ _ _ _ _ _ _ _ _ _ _ _ _ _ _ _ _ _ _ _ _ _ _ _ _ _ _ _ _ _ _ _ _ _ _ _ _ _ _ _ _ _ _ _ _ _ _ _ _ _ _ _ _ _ _ _ _ _ _ _ _ _ _ _ _ _ _ _ _ _ _ _ _ _ _ _ _ _ _ _ _ _ _ _ _ _ _ _ _ _ _ _ _ _ _ _ _ _ _ _ _ _ _ _ _ _ _ _ _ _ _ _ _ _ _ _ _ _ _ _ _ _ _ _ _ _ _ _ _ _ _ _ _ _ _ _ _ _ _ _ _ _ _ _ _ _ _ _ _ _ _ _ _ _ _ _ _ _ _ _ _ _ _ _ _ _ _ _ _ _ _ _ _ _ _ _ _ _ _ _ _ _ _ _ _ _ _ _ _ _ _ _ _ _ _ _ _ _ _ _ _ _ _ _ _ _ _ _ _ _ _ _ _ _ _ _ _ _ _ _ _ _ _ _ _ _ _ _ _ _ _ _ _ _ _ _ _ _ _ _ _ _ _ _ _ _ _ _ _ _ _ _ _ _ _ _ _ hK hR hD
  · by_cases htk : s.ticks < T
    · have h1 : tickM T s = { s with ticks := s.ticks + 1 } := by unfold tickM; rw [if_pos htk]
      by_cases hdp : 40 ≤ s.calls.length
      · have he2 : enterM m.funs T q d nx s = endM deepT { s with ticks := s.ticks + 1 } := by
          unfold enterM
          rw [h1, if_neg (by show ¬ s.over = true; rw [H.ov]; decide), if_pos hdp]
        rw [he2, run_over (over_end deepT (by decide))] at hP
        exact pend_deep H hT ez jt n17 q he htk hdp hP _ _ _ _ _ _ _ _ _ _ _ _ _ _ _ _ _ _ _ _ _ _ _ _ _ _ _ _ _ _ _ _ _ _ _ _ _ _ _ _ _ _ _ _ _ _ _ _ _ _ _ _ _ _ _ _ _ _ _ _ _ _ _ _ _ _ _ _ _ _ _ _ _ _ _ _ _ _ _ _ _ _ _ _ _ _ _ _ _ _ _ _ _ _ _ _ _ _ _ _ _ _ _ _ _ _ _ _ _ _ _ _ _ _ _ _ _ _ _ _ _ _ _ _ _ _ _ _ _ _ _ _ _ _ _ _ _ _ _ _ _ _ _ _ _ _ _ _ _ _ _ _ _ _ _ _ _ _ _ _ _ _ _ _ _ _ _ _ _ _ _ _ _ _ _ _ _ _ _ _ _ _ _ _ _ _ _ _ _ _ _ _ _ _ _ _ _ _ _ _ _ _ _ _ _ _ _ _ _ _ _ _ _ _ _ _ _ _ _ _ _ _ _ _ _ _ _ _ _ _ _ _ _ _ _ _ _ _ _ _ _ _ _ _ _ _ _ _ _ _ _ _ _ _ _ _ _ _ _ _ _ _ _ _ _ _ _ _ _ _ _ _ _ _ _ _ _ _ _ _ _ _ _ _ _ _ _ _ _ _ _ _ _ _ _ _ _ _ _ _ _ _ _ _ _ _ _ _ _ _ _ _ _ _ _ _ _ _ _ _ _ _ _ _ _ _ _ _ _ _ _ _ _ _ _ _ _ _ _ _ _ _ _ _ _ _ _ _ _ _ _ _ _ _ _ _ _ _ _ _ _ _ _ _ _ _ _ hK hR hD
      · obtain ⟨f, hf⟩ : ∃ f, m.funs[q] = f := ⟨_, rfl⟩
        have hfo := fn_ok (hg.funs q hq)
        rw [hf] at hfo
        have he2 : enterM m.funs T q d nx s = pushM f d nx { s with ticks := s.ticks + 1 } := by
          have h2 : m.funs.getD q fn0 = f := by rw [List.getD_eq_getElem?_getD, List.getElem?_eq_getElem hq]; exact hf
          unfold enterM
          rw [h1, if_neg (by show ¬ s.over = true; rw [H.ov]; decide), if_neg hdp, h2]
        rw [he2] at hP hok
        obtain ⟨a0, a1, a2, a3, hnx⟩ := len4 H.nx4
        rw [hnx] at hP hok
        exact pend_push H hT ez jt n17 q d hq he hj htk hdp f hf f.slots.toNat (by omega) (by omega) f.entry.toNat (by omega) a0 a1 a2 a3 hnx hok hP _ _ _ _ _ _ _ _ _ _ _ _ _ _ _ _ _ _ _ _ _ _ _ _ _ _ _ _ _ _ _ _ _ _ _ _ _ _ _ _ _ _ _ _ _ _ _ _ _ _ _ _ _ _ _ _ _ _ _ _ _ _ _ _ _ _ _ _ _ _ _ _ _ _ _ _ _ _ _ _ _ _ _ _ _ _ _ _ _ _ _ _ _ _ _ _ _ _ _ _ _ _ _ _ _ _ _ _ _ _ _ _ _ _ _ _ _ _ _ _ _ _ _ _ _ _ _ _ _ _ _ _ _ _ _ _ _ _ _ _ _ _ _ _ _ _ _ _ _ _ _ _ _ _ _ _ _ _ _ _ _ _ _ _ _ _ _ _ _ _ _ _ _ _ _ _ _ _ _ _ _ _ _ _ _ _ _ _ _ _ _ _ _ _ _ _ _ _ _ _ _ _ _ _ _ _ _ _ _ _ _ _ _ _ _ _ _ _ _ _ _ _ _ _ _ _ _ _ _ _ _ _ _ _ _ _ _ _ _ _ _ _ _ _ _ _ _ _ _ _ _ _ _ _ _ _ _ _ _ _ _ _ _ _ _ _ _ _ _ _ _ _ _ _ _ _ _ _ _ _ _ _ _ _ _ _ _ _ _ _ _ _ _ _ _ _ _ _ _ _ _ _ _ _ _ _ _ _ _ _ _ _ _ _ _ _ _ _ _ _ _ _ _ _ _ _ _ _ _ _ _ _ _ _ _ _ _ _ _ _ _ _ _ _ _ _ _ _ _ _ _ _ _ _ _ _ _ _ _ _ _ _ _ _ _ _ _ hK hR hD
    · have he2 : enterM m.funs T q d nx s = endM tiredT s := by
        have h1 : tickM T s = endM tiredT s := by unfold tickM; rw [if_neg htk]
        unfold enterM
        rw [h1, if_pos (over_end tiredT (by decide))]
      rw [he2, run_over (over_end tiredT (by decide))] at hP
      exact pend_tired H hT ez jt n17 q he htT htk hP _ _ _ _ _ _ _ _ _ _ _ _ _ _ _ _ _ _ _ _ _ _ _ _ _ _ _ _ _ _ _ _ _ _ _ _ _ _ _ _ _ _ _ _ _ _ _ _ _ _ _ _ _ _ _ _ _ _ _ _ _ _ _ _ _ _ _ _ _ _ _ _ _ _ _ _ _ _ _ _ _ _ _ _ _ _ _ _ _ _ _ _ _ _ _ _ _ _ _ _ _ _ _ _ _ _ _ _ _ _ _ _ _ _ _ _ _ _ _ _ _ _ _ _ _ _ _ _ _ _ _ _ _ _ _ _ _ _ _ _ _ _ _ _ _ _ _ _ _ _ _ _ _ _ _ _ _ _ _ _ _ _ _ _ _ _ _ _ _ _ _ _ _ _ _ _ _ _ _ _ _ _ _ _ _ _ _ _ _ _ _ _ _ _ _ _ _ _ _ _ _ _ _ _ _ _ _ _ _ _ _ _ _ _ _ _ _ _ _ _ _ _ _ _ _ _ _ _ _ _ _ _ _ _ _ _ _ _ _ _ _ _ _ _ _ _ _ _ _ _ _ _ _ _ _ _ _ _ _ _ _ _ _ _ _ _ _ _ _ _ _ _ _ _ _ _ _ _ _ _ _ _ _ _ _ _ _ _ _ _ _ _ _ _ _ _ _ _ _ _ _ _ _ _ _ _ _ _ _ _ _ _ _ _ _ _ _ _ _ _ _ _ _ _ _ _ _ _ _ _ _ _ _ _ _ _ _ _ _ _ _ _ _ _ _ _ _ _ _ _ _ _ _ _ _ _ _ _ _ _ _ _ _ _ _ _ _ hK hR hD
end
end Go.Proofs.YtonnhechjbdenaaGreatDoor
