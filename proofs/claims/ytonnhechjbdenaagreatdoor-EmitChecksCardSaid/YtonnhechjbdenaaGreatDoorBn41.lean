import Derived.Test.YtonnhechjbdenaaGreatDoorBn33
import Derived.Test.YtonnhechjbdenaaGreatDoorBn32
import Derived.Test.YtonnhechjbdenaaGreatDoorBn34
import Derived.Test.YtonnhechjbdenaaGreatDoorBn35
import Derived.Test.YtonnhechjbdenaaGreatDoorBn36
import Derived.Test.YtonnhechjbdenaaGreatDoorBn37
import Derived.Test.YtonnhechjbdenaaGreatDoorBn38
import Derived.Test.YtonnhechjbdenaaGreatDoorBn39
import Derived.Test.YtonnhechjbdenaaGreatDoorBn40
set_option linter.unusedVariables false
set_option linter.unusedSimpArgs false
namespace Go.Proofs.YtonnhechjbdenaaGreatDoor
open Go.RowKit

/-! the reference's machine: its switch (printed by gen_rfs.py) -/
section
variable {m : PImg} {A : Option Addr} {cf : Nat} {B : Option Addr} {cw mb T b0 rb q left : Nat} {P : Option PMs} {s s2 : PMs} {v u : Value} {ps : List (Nat × Nat)} {p : Nat × Nat} {cs : List PFr} {x : PFr} {nx : List Int} {wA w : World} {K : Act → World → Prop} {Q0 : Exit → Act → World → Prop} {Q : Ending → World → Prop} {p1 : Nat × Nat} {y : PFr}
set_option maxHeartbeats 8000000 in
set_option maxRecDepth 1000000 in
theorem sw_two (H : SwAt m A cf B cw mb T b0 rb s v u ps p cs x nx wA w) (hT : T ≤ 5000) (hm8 : m.funs.length ≤ 8) (hMs : MsOk m T s) (av : Int) (hav : I64 av) (op : Txt) (j : Nat) (hj : j < 14) (hf : findL op = j + 16) (h0 : ((mkB op).toList == [99, 111, 110, 115, 116]) = false) (h1 : ((mkB op).toList == [104, 105, 103, 104]) = false) (h2 : ((mkB op).toList == [109, 111, 118, 101]) = false) (h3 : ((mkB op).toList == [108, 111, 97, 100]) = false) (h4 : ((mkB op).toList == [115, 116, 111, 114, 101]) = false) (h5 : ((mkB op).toList == [112, 97, 114, 97, 109]) = false) (h6 : ((mkB op).toList == [97, 114, 103]) = false) (h7 : ((mkB op).toList == [99, 97, 108, 108]) = false) (h8 : ((mkB op).toList == [116, 105, 99, 107]) = false) (h9 : ((mkB op).toList == [112, 114, 105, 110, 116]) = false) (h10 : ((mkB op).toList == [106, 117, 109, 112]) = false) (h11 : ((mkB op).toList == [105, 102]) = false) (h12 : ((mkB op).toList == [114, 101, 116, 117, 114, 110]) = false) (h13 : ((mkB op).toList == [110, 101, 103]) = false) (h14 : ((mkB op).toList == [110, 111, 116]) = false) (d : Nat) (hd : d < 8) (a : Int) (b : Nat) (hb8 : b < 8) (imm : Int) (res : Int) (hres : dofV (opsB.getD j []) av (regM x b) = res) (jt n17 : Int) (hins : w.heap[q]? = some (.cells #[.string (mkB op), .int .i64 d, .int .i64 a, .int .i64 b, .int .i64 imm] 65 (0, 0)))
    (hP : P = runN m T left (topM (putM x d res) s)) (hok2 : MsOk m T (topM (putM x d res) s)) (hov2 : (topM (putM x d res) s).over = false)
    (x0 x1 x2 x4 x6 x7 x8 x9 x15 x18 x21 x23 x24 x25 x26 x27 x28 x29 x30 x31 x32 x33 x34 x35 x36 x37 x38 x39 x40 x41 x42 x43 x44 x45 x46 x47 x48 x49 x50 x51 x52 x53 x54 x55 x56 x57 x58 x59 x60 x61 x62 x63 x64 x65 x66 x67 x68 x69 x70 x71 x72 x73 x74 x75 x76 x77 x78 x79 x80 x81 x82 x83 x84 x85 x86 x87 x88 x89 x90 x91 x92 x93 x94 x95 x96 x97 x98 x99 zZ zY zX zW zV zU zT zS zR zQ zP zO zN zM zL zK zJ zI zH zG zF zE zD zC zB yZ yY yX yW yV yU yT yS yR yQ yP yO yN yM yL yK yJ yI yH yG yF yE yD yC yB yA xZ xY xX xW xV xU xS xR xQ xP xO xN xM xL xK xJ xI xH xG xF xE xD xC xB xA wZ wY wX wW wV wU wQ wN wM wK wJ wH wG wE wD vZ vY vX vV vU vT vS vR vQ vP vN vM vK vJ vI vH vA uZ uY uX uV uU uT uS uR uQ uP uO uN uM uL uK uJ uI uH uG uF uD uC uB uA tZ tY tX tW tV tU tT tS tR tQ tP tO tN tM tL tK tJ tI tH tG tF tE tD tC tB tA sZ sY sX sW sV sU sT sS sR sQ sP sO sN sM sL sK sJ sI sG sF sE sD sC sB sA rZ rY rX rW rV rU rT rS rR rQ rP rO rN rM rL rK rJ rI rH rG rF rE rD rC rB rA qZ qY qX qW qV qU qT qR qQ qP qO qN qM qL qK qJ qI qH qG qF qE qD qC qA pZ pY pX pW pV pU pT pS pR pQ pP pO pN pM pL pK pJ pI pH pG pF pE pD pC pB pA oZ oY oX oW oV oU oT oS oR oQ oP oO oN oM oL oK oJ : Value)
    (hK : ∀ (y12 y13 y16 y18 y19 y20 y21 y22 y23 y38 y39 y40 y41 y42 y43 y44 y45 y46 y47 y48 y49 y50 y51 y52 y53 y54 y55 y56 y57 y58 y59 y60 y61 y62 y63 y64 y65 y66 y67 y68 y69 y70 y71 y72 y73 y74 y75 y76 y77 y78 y79 y80 y81 y82 y83 y84 y85 y86 y87 y88 y89 y90 y91 y92 y93 y94 y95 y96 y97 y98 y99 oI oH oG oF oE oD oC oB oA nZ nY nX nV nU nT nS nR nQ nP nO nN nM nL nK nJ nI nH nG nF nD nC mZ mY mX mW mV mT mS mQ mP mO mN mM mL mK mJ mI mH mG mF mD mC mB mA lZ lY lX lW lV lU lT lS lR lQ lP lO lN lM lL lK lJ lI lH lG lF lE lD lC lB lA kZ kY kX kW kV kU kT kS kR kQ kP kO kN kM kL kK kJ kI kH kG kF kE kD kC kB kA jZ jY jX jW jV jU jT jS jR jQ jP jO jN jM jL jK jJ jI jH jG jF jE jD jC jB jA iZ iY iX iW iV iU iT iS iR iQ iP iO iN iM iL iK iJ iI iH iG iF iE iD iC iB iA hZ hY hV hU hO hH gZ gY gX gW gV gU gT gS gR gQ gP gO gN gL gK gJ gI gH gG gF gE gC fZ fY fX fW fV fU fT fS fR fQ fP fO fN fM fL fK fJ fI fH fG fF fE fD fC fB fA eZ eY eX eW eV eU eT eS eR eQ eP eO eN eM eL eK eJ eI eH eG eF eE eD eC eB eA dZ dY dX dW dV dU dT dS dR dQ dP dO dN dM dL dK dJ dI dH dG dF dE dD dC dA cZ cY cX cW cV cU cT cS cQ cP cN cM : Value) (w' : World), HeadAt m mb T left P y12 y13 y16 w' → Below mb wA w' → K ⟨#[x0, x1, x2, .int .i64 T, x4, .pointer (some ⟨b0, 0, none⟩), x6, x7, x8, x9, .pointer (some ⟨rb, 0, none⟩), .pointer (some ⟨mb, 0, none⟩), y12, y13, .pointer (some ⟨mb + 1, 0, none⟩), x15, y16, .int .i64 n17, y18, y19, y20, y21, y22, y23, x24, x25, x26, x27, x28, x29, x30, x31, x32, x33, x34, x35, x36, x37, y38, y39, y40, y41, y42, y43, y44, y45, y46, y47, y48, y49, y50, y51, y52, y53, y54, y55, y56, y57, y58, y59, y60, y61, y62, y63, y64, y65, y66, y67, y68, y69, y70, y71, y72, y73, y74, y75, y76, y77, y78, y79, y80, y81, y82, y83, y84, y85, y86, y87, y88, y89, y90, y91, y92, y93, y94, y95, y96, y97, y98, y99, oI, oH, oG, oF, oE, oD, oC, oB, oA, nZ, nY, nX, nV, nU, nT, nS, nR, nQ, nP, nO, nN, nM, nL, nK, nJ, nI, nH, nG, nF, nD, nC, mZ, mY, mX, mW, mV, mT, mS, mQ, mP, mO, mN, mM, mL, mK, mJ, mI, mH, mG, mF, mD, mC, mB, mA, lZ, lY, lX, lW, lV, lU, lT, lS, lR, lQ, lP, lO, lN, lM, lL, lK, lJ, lI, lH, lG, lF, lE, lD, lC, lB, lA, kZ, kY, kX, kW, kV, kU, kT, kS, kR, kQ, kP, kO, kN, kM, kL, kK, kJ, kI, kH, kG, kF, kE, kD, kC, kB, kA, jZ, jY, jX, jW, jV, jU, jT, jS, jR, jQ, jP, jO, jN, jM, jL, jK, jJ, jI, jH, jG, jF, jE, jD, jC, jB, jA, iZ, iY, iX, iW, iV, iU, iT, iS, iR, iQ, iP, iO, iN, iM, iL, iK, iJ, iI, iH, iG, iF, iE, iD, iC, iB, iA, hZ, hY, hV, hU, hO, hH, gZ, gY, gX, gW, gV, gU, gT, gS, gR, gQ, gP, gO, gN, gL, gK, gJ, gI, gH, gG, gF, gE, gC, fZ, fY, fX, fW, fV, fU, fT, fS, fR, fQ, fP, fO, fN, fM, fL, fK, fJ, fI, fH, fG, fF, fE, fD, fC, fB, fA, eZ, eY, eX, eW, eV, eU, eT, eS, eR, eQ, eP, eO, eN, eM, eL, eK, eJ, eI, eH, eG, eF, eE, eD, eC, eB, eA, dZ, dY, dX, dW, dV, dU, dT, dS, dR, dQ, dP, dO, dN, dM, dL, dK, dJ, dI, dH, dG, dF, dE, dD, dC, dA, cZ, cY, cX, cW, cV, cU, cT, cS, cQ, cP, cN, cM, oK, oJ], []⟩ w')
    (hR : ∀ a w', bodyPost Tryz.prog Tryz.f15 Q .ret a w' → Q0 .ret a w')
    (hD : ∀ (s3 : PMs) (A3 : Option Addr) (c3 : Nat) (u3 : Value) (f3 : List (Nat × Nat)) (w3 : World), RfAt mb s3 (.slice A3 s3.out.length c3) u3 f3 w3 → P.map endO = some (endO s3) → Below mb wA w3 → Q (.returned (.agg #[.string (mkB s3.how), .int .i64 s3.val, .slice A3 s3.out.length c3, .int .i64 (s3.ticks : Nat)])) ((((w3.setCell ⟨rb, 0, none⟩ (.string (mkB s3.how))).setCell ⟨rb, 1, none⟩ (.int .i64 s3.val)).setCell ⟨rb, 2, none⟩ (.slice A3 s3.out.length c3)).setCell ⟨rb, 3, none⟩ (.int .i64 (s3.ticks : Nat)))) :
    Code.wp Tryz.prog swC (Exit.then K Q0) ⟨#[x0, x1, x2, .int .i64 T, x4, .pointer (some ⟨b0, 0, none⟩), x6, x7, x8, x9, .pointer (some ⟨rb, 0, none⟩), .pointer (some ⟨mb, 0, none⟩), u, .int .i64 (-1), .pointer (some ⟨mb + 1, 0, none⟩), x15, .int .i64 jt, .int .i64 n17, x18, .pointer (some ⟨p.1, 0, none⟩), .pointer (some ⟨q, 0, none⟩), x21, .int .i64 av, x23, x24, x25, x26, x27, x28, x29, x30, x31, x32, x33, x34, x35, x36, x37, x38, x39, x40, x41, x42, x43, x44, x45, x46, x47, x48, x49, x50, x51, x52, x53, x54, x55, x56, x57, x58, x59, x60, x61, x62, x63, x64, x65, x66, x67, x68, x69, x70, x71, x72, x73, x74, x75, x76, x77, x78, x79, x80, x81, x82, x83, x84, x85, x86, x87, x88, x89, x90, x91, x92, x93, x94, x95, x96, x97, x98, x99, zZ, zY, zX, zW, zV, zU, zT, zS, zR, zQ, zP, zO, zN, zM, zL, zK, zJ, zI, zH, zG, zF, zE, zD, zC, zB, .string (mkB op), yZ, yY, yX, yW, yV, yU, yT, yS, yR, yQ, yP, yO, yN, yM, yL, yK, yJ, yI, yH, yG, yF, yE, yD, yC, yB, yA, xZ, xY, xX, xW, xV, xU, xS, xR, xQ, xP, xO, xN, xM, xL, xK, xJ, xI, xH, xG, xF, xE, xD, xC, xB, xA, wZ, wY, wX, wW, wV, wU, wQ, wN, wM, wK, wJ, wH, wG, wE, wD, vZ, vY, vX, vV, vU, vT, vS, vR, vQ, vP, vN, vM, vK, vJ, vI, vH, vA, uZ, uY, uX, uV, uU, uT, uS, uR, uQ, uP, uO, uN, uM, uL, uK, uJ, uI, uH, uG, uF, uD, uC, uB, uA, tZ, tY, tX, tW, tV, tU, tT, tS, tR, tQ, tP, tO, tN, tM, tL, tK, tJ, tI, tH, tG, tF, tE, tD, tC, tB, tA, sZ, sY, sX, sW, sV, sU, sT, sS, sR, sQ, sP, sO, sN, sM, sL, sK, sJ, sI, sG, sF, sE, sD, sC, sB, sA, rZ, rY, rX, rW, rV, rU, rT, rS, rR, rQ, rP, rO, rN, rM, rL, rK, rJ, rI, rH, rG, rF, rE, rD, rC, rB, rA, qZ, qY, qX, qW, qV, qU, qT, qR, qQ, qP, qO, qN, qM, qL, qK, qJ, qI, qH, qG, qF, qE, qD, qC, qA, pZ, pY, pX, pW, pV, pU, pT, pS, pR, pQ, pP, pO, pN, pM, pL, pK, pJ, pI, pH, pG, pF, pE, pD, pC, pB, pA, oZ, oY, oX, oW, oV, oU, oT, oS, oR, oQ, oP, oO, oN, oM, oL, oK, oJ], []⟩ w := by
  conv => arg 2; whnf
  obtain ⟨e0, e1, e2, e3, e4⟩ := row5e hins
  obtain ⟨ht, -⟩ := H.rf.top_at H.cl
  have hd0 : (0 : Int) ≤ d := by omega
  have hd1 : (d : Int) < 8 := by omega
  have r1 := ht.cell (frL_r H.fx hd)
  have z1 := row_frozen ht.blk (4 + d)
  have r3 : w.cell? ⟨p.1, 4 + b, none⟩ = some (.int .i64 (regM x b)) := ht.cell (frL_r H.fx hb8)
  have hb0 : (0 : Int) ≤ b := by omega
  have hb1 : (b : Int) < 8 := by omega
  have hql : q < w.heap.size := (Array.getElem?_eq_some_iff.1 hins).1
  have hqp : q ≠ p.1 := fun e => by rw [e, ht.blk] at hins; injection hins with hins; injection hins with _ hins _; exact absurd hins (by decide)
  obtain ⟨sv, hsv⟩ : ∃ sv, mkB (opsB.getD j []) = sv := ⟨_, rfl⟩
  have HTH : Hid (Calls Tryz.prog 35 #[.string (mkB op)] w.drew (Ret (.string sv) w.drew)) := by
    have := threeOf_any op j hj hf w.drew
    rw [hsv] at this
    exact this
  have HDO : Hid (∀ w', Calls Tryz.prog 34 #[.string sv, .int .i64 av, .int .i64 (regM x b)] w' fun e w'' => e = .returned (.int .i64 res) ∧ w'' = w') := fun w' => by
    have h1 := DoOf_any (mkB (opsB.getD j [])) av (regM x b) hav w'
    rw [mkB_toList, hres, hsv] at h1
    exact h1
  have HST := Lib.hid (fun w' (hb' : Below w.heap.size w w') n => ((H.rf.below hb').drewN n).frStore H.cl (y := putM x d res) (.int .i64 res) (frL_setR H.fx hd _) rfl)
  have HZ : Hid (∀ w', Below w.heap.size w w' → w'.frozen? ⟨p.1, 4 + d, none⟩ = false) := fun w' hb' => row_frozen ((H.rf.below hb').top_at H.cl).1.blk (4 + d)
  have hb9 := Nat.le_of_lt H.rf.lt
  have hn9 := (Array.getElem?_eq_some_iff.1 H.nxb).1
  clear hres hf e2 e4 hsv hj
  have HH := Lib.hid H
  have HMS := Lib.hid hMs
  clear H ht hins hMs
  go_upto_region 33 with fail
  rw [show Op.load 3 (Operand.tmp 138) = ld138 from rfl]
  go_region_held3 (fun w' => w'.cell? ⟨q, 0, none⟩ = some (.string (mkB op)) ∧ w'.cell? ⟨q, 1, none⟩ = some (.int .i64 d) ∧ w'.cell? ⟨q, 3, none⟩ = some (.int .i64 b))
    (first
      | exact ⟨e0, e1, e3⟩
      | (go_split_ands
         refine ⟨?_, ?_, ?_⟩
         all_goals (first | assumption | exact Keeps.of_below hb5 _ _ (by assumption) | exact (World.cell?_of_block (Below.heap_setCell _ _ _ _ hqp)).trans (by assumption))))
    (first
      | (go_at_call 35; (with_reducible refine HTH.out.mono ?_); rintro z w5 ⟨rfl, hb5⟩; have hbx5 := grow_trans (grow_drew (grow_refl w) 1) hb5; have r3 := Keeps.of_below hbx5 _ _ r3; have r1 := Keeps.of_below hbx5 _ _ r1; have z1 := HZ.out _ hbx5; try dsimp only)
      | (go_at_call 34; (with_reducible refine (HDO.out _).mono ?_); rintro z w6 ⟨rfl, rfl⟩; try dsimp only))
  all_goals go_wp2_with fail
  all_goals
    refine hK _ _ _ _ _ _ _ _ _ _ _ _ _ _ _ _ _ _ _ _ _ _ _ _ _ _ _ _ _ _ _ _ _ _ _ _ _ _ _ _ _ _ _ _ _ _ _ _ _ _ _ _ _ _ _ _ _ _ _ _ _ _ _ _ _ _ _ _ _ _ _ _ _ _ _ _ _ _ _ _ _ _ _ _ _ _ _ _ _ _ _ _ _ _ _ _ _ _ _ _ _ _ _ _ _ _ _ _ _ _ _ _ _ _ _ _ _ _ _ _ _ _ _ _ _ _ _ _ _ _ _ _ _ _ _ _ _ _ _ _ _ _ _ _ _ _ _ _ _ _ _ _ _ _ _ _ _ _ _ _ _ _ _ _ _ _ _ _ _ _ _ _ _ _ _ _ _ _ _ _ _ _ _ _ _ _ _ _ _ _ _ _ _ _ _ _ _ _ _ _ _ _ _ _ _ _ _ _ _ _ _ _ _ _ _ _ _ _ _ _ _ _ _ _ _ _ _ _ _ _ _ _ _ _ _ _ _ _ _ _ _ _ _ _ _ _ _ _ _ _ _ _ _ _ _ _ _ _ _ _ _ _ _ _ _ _ _ _ _ _ _ _ _ _ _ _ _ _ _ _ _ _ _ _ _ _ _ _ _ _ _ _ _ _ _ _ _ _ _ _ _ _ _ _ _ _ _ _ _ _ _ _ _ _ _ _ _ _ _ _ _ _ _ _ _ _ _ _ _ _ _ _ _ _ _ _ _ _ _ _ _ _ _ _ _ _ _ ?_ ?_
    · exact HH.out.head (HST.out _ (by assumption) 0).1 ((Below.heap_setCell _ _ _ _ (fun e => HH.out.pne.1 e.symm)).trans (Below.block (by assumption) _ hn9)) hok2 hov2 hP _
    · exact HH.out.bel.trans ((Below.mono (by assumption) hb9).trans (HST.out _ (by assumption) 0).2)
end
end Go.Proofs.YtonnhechjbdenaaGreatDoor

namespace Go.Proofs.YtonnhechjbdenaaGreatDoor
open Go.RowKit

/-! the reference's machine: its switch (printed by gen_rfsw.py) -/
section
variable {m : PImg} {A : Option Addr} {cf : Nat} {B : Option Addr} {cw mb T b0 rb q left : Nat} {P : Option PMs} {s s2 : PMs} {v u : Value} {ps : List (Nat × Nat)} {p : Nat × Nat} {cs : List PFr} {x : PFr} {nx : List Int} {wA w : World} {K : Act → World → Prop} {Q0 : Exit → Act → World → Prop} {Q : Ending → World → Prop} {p1 : Nat × Nat} {y : PFr}

theorem over_none {s : PMs} {how : Txt} {m : PImg} {T n : Nat} (hh : how ≠ []) : runN m T n (endM how s) = some (endM how s) := run_over (over_end how hh)
theorem find_two (j : Nat) (hj : j < 14) : findL (nameOf (j + 15)) = j + 16 := by
  have : ∀ j, j < 14 → findL (nameOf (j + 15)) = j + 16 := by decide
  exact this j hj
theorem name_not (j : Nat) (hj : j < 14) : ∀ k, k < 15 → nameOf (j + 15) ≠ nameOf k := by
  have : ∀ j, j < 14 → ∀ k, k < 15 → nameOf (j + 15) ≠ nameOf k := by decide
  exact this j hj
theorem step_two (fs : List PFn) (j : Nat) (hj : j < 14) (d a b imm : Int) : stepI fs T ⟨nameOf (j + 15), d, a, b, imm⟩ x s = topM (putM x d (dofV (opsB.getD j []) (regM x a) (regM x b))) s := by
  have hn := name_not j hj
  have h1 : flowB (nameOf (j + 15)) = false := by
    have : ∀ j, j < 14 → flowB (nameOf (j + 15)) = false := by decide
    exact this j hj
  have h2 : moveB (nameOf (j + 15)) = false := by
    have : ∀ j, j < 14 → moveB (nameOf (j + 15)) = false := by decide
    exact this j hj
  have h3 : sumP ⟨nameOf (j + 15), d, a, b, imm⟩ x = dofV (opsB.getD j []) (regM x a) (regM x b) := by
    unfold sumP
    dsimp only
    rw [if_neg (show ¬ nameOf (j + 15) = negT from hn 13 (by omega)), if_neg (show ¬ nameOf (j + 15) = notT from hn 14 (by omega))]
    have h4 : threeP (nameOf (j + 15)) = opsB.getD j [] := by
      have : ∀ j, j < 14 → threeP (nameOf (j + 15)) = opsB.getD j [] := by decide
      exact this j hj
    rw [h4]
    have h5 : (doV (opsB.getD j []) (regM x a) (regM x b)).isSome = true := by
      rw [doV_ops]
      have : ∀ j, j < 14 → opsB.any (fun z => z == opsB.getD j []) = true := by decide
      exact this j hj
    obtain ⟨v, hv⟩ := Option.isSome_iff_exists.1 h5
    rw [hv, doV_dofV _ _ _ _ hv]
    rfl
  unfold stepI
  rw [if_neg (by rw [h1]; decide), if_neg (by rw [h2]; decide), h3]
theorem flow_step {i : PIns} (fs : List PFn) (h : flowB i.op = true) : stepI fs T i x s = flowP fs T i x s := by unfold stepI; rw [if_pos h]
theorem move_step {i : PIns} (fs : List PFn) (h : flowB i.op = false) (h2 : moveB i.op = true) : stepI fs T i x s = moveP i x s := by unfold stepI; rw [if_neg (by rw [h]; decide), if_pos h2]

set_option maxHeartbeats 16000000 in
set_option maxRecDepth 1000000 in
theorem sw_any (hg : GoodI m) (H : SwAt m A cf B cw mb T b0 rb s v u ps p cs x nx wA w) (hT : T ≤ 5000) (hMs : MsOk m T s) (hx : FrOk m x) (i : PIns) (hi : InsOk m i) (av : Int) (hva : regM x i.a = av) (jt n17 : Int) (hins : w.heap[q]? = some (.cells #[.string (mkB i.op), .int .i64 i.d, .int .i64 i.a, .int .i64 i.b, .int .i64 i.imm] 65 (0, 0))) (hP : P = runN m T left (stepI m.funs T i x s))
    (x0 x1 x2 x4 x6 x7 x8 x9 x15 x18 x21 x23 x24 x25 x26 x27 x28 x29 x30 x31 x32 x33 x34 x35 x36 x37 x38 x39 x40 x41 x42 x43 x44 x45 x46 x47 x48 x49 x50 x51 x52 x53 x54 x55 x56 x57 x58 x59 x60 x61 x62 x63 x64 x65 x66 x67 x68 x69 x70 x71 x72 x73 x74 x75 x76 x77 x78 x79 x80 x81 x82 x83 x84 x85 x86 x87 x88 x89 x90 x91 x92 x93 x94 x95 x96 x97 x98 x99 zZ zY zX zW zV zU zT zS zR zQ zP zO zN zM zL zK zJ zI zH zG zF zE zD zC zB yZ yY yX yW yV yU yT yS yR yQ yP yO yN yM yL yK yJ yI yH yG yF yE yD yC yB yA xZ xY xX xW xV xU xS xR xQ xP xO xN xM xL xK xJ xI xH xG xF xE xD xC xB xA wZ wY wX wW wV wU wQ wN wM wK wJ wH wG wE wD vZ vY vX vV vU vT vS vR vQ vP vN vM vK vJ vI vH vA uZ uY uX uV uU uT uS uR uQ uP uO uN uM uL uK uJ uI uH uG uF uD uC uB uA tZ tY tX tW tV tU tT tS tR tQ tP tO tN tM tL tK tJ tI tH tG tF tE tD tC tB tA sZ sY sX sW sV sU sT sS sR sQ sP sO sN sM sL sK sJ sI sG sF sE sD sC sB sA rZ rY rX rW rV rU rT rS rR rQ rP rO rN rM rL rK rJ rI rH rG rF rE rD rC rB rA qZ qY qX qW qV qU qT qR qQ qP qO qN qM qL qK qJ qI qH qG qF qE qD qC qA pZ pY pX pW pV pU pT pS pR pQ pP pO pN pM pL pK pJ pI pH pG pF pE pD pC pB pA oZ oY oX oW oV oU oT oS oR oQ oP oO oN oM oL oK oJ : Value)
    (hK : ∀ (y12 y13 y16 y18 y19 y20 y21 y22 y23 y38 y39 y40 y41 y42 y43 y44 y45 y46 y47 y48 y49 y50 y51 y52 y53 y54 y55 y56 y57 y58 y59 y60 y61 y62 y63 y64 y65 y66 y67 y68 y69 y70 y71 y72 y73 y74 y75 y76 y77 y78 y79 y80 y81 y82 y83 y84 y85 y86 y87 y88 y89 y90 y91 y92 y93 y94 y95 y96 y97 y98 y99 oI oH oG oF oE oD oC oB oA nZ nY nX nV nU nT nS nR nQ nP nO nN nM nL nK nJ nI nH nG nF nD nC mZ mY mX mW mV mT mS mQ mP mO mN mM mL mK mJ mI mH mG mF mD mC mB mA lZ lY lX lW lV lU lT lS lR lQ lP lO lN lM lL lK lJ lI lH lG lF lE lD lC lB lA kZ kY kX kW kV kU kT kS kR kQ kP kO kN kM kL kK kJ kI kH kG kF kE kD kC kB kA jZ jY jX jW jV jU jT jS jR jQ jP jO jN jM jL jK jJ jI jH jG jF jE jD jC jB jA iZ iY iX iW iV iU iT iS iR iQ iP iO iN iM iL iK iJ iI iH iG iF iE iD iC iB iA hZ hY hV hU hO hH gZ gY gX gW gV gU gT gS gR gQ gP gO gN gL gK gJ gI gH gG gF gE gC fZ fY fX fW fV fU fT fS fR fQ fP fO fN fM fL fK fJ fI fH fG fF fE fD fC fB fA eZ eY eX eW eV eU eT eS eR eQ eP eO eN eM eL eK eJ eI eH eG eF eE eD eC eB eA dZ dY dX dW dV dU dT dS dR dQ dP dO dN dM dL dK dJ dI dH dG dF dE dD dC dA cZ cY cX cW cV cU cT cS cQ cP cN cM : Value) (w' : World), HeadAt m mb T left P y12 y13 y16 w' → Below mb wA w' → K ⟨#[x0, x1, x2, .int .i64 T, x4, .pointer (some ⟨b0, 0, none⟩), x6, x7, x8, x9, .pointer (some ⟨rb, 0, none⟩), .pointer (some ⟨mb, 0, none⟩), y12, y13, .pointer (some ⟨mb + 1, 0, none⟩), x15, y16, .int .i64 n17, y18, y19, y20, y21, y22, y23, x24, x25, x26, x27, x28, x29, x30, x31, x32, x33, x34, x35, x36, x37, y38, y39, y40, y41, y42, y43, y44, y45, y46, y47, y48, y49, y50, y51, y52, y53, y54, y55, y56, y57, y58, y59, y60, y61, y62, y63, y64, y65, y66, y67, y68, y69, y70, y71, y72, y73, y74, y75, y76, y77, y78, y79, y80, y81, y82, y83, y84, y85, y86, y87, y88, y89, y90, y91, y92, y93, y94, y95, y96, y97, y98, y99, oI, oH, oG, oF, oE, oD, oC, oB, oA, nZ, nY, nX, nV, nU, nT, nS, nR, nQ, nP, nO, nN, nM, nL, nK, nJ, nI, nH, nG, nF, nD, nC, mZ, mY, mX, mW, mV, mT, mS, mQ, mP, mO, mN, mM, mL, mK, mJ, mI, mH, mG, mF, mD, mC, mB, mA, lZ, lY, lX, lW, lV, lU, lT, lS, lR, lQ, lP, lO, lN, lM, lL, lK, lJ, lI, lH, lG, lF, lE, lD, lC, lB, lA, kZ, kY, kX, kW, kV, kU, kT, kS, kR, kQ, kP, kO, kN, kM, kL, kK, kJ, kI, kH, kG, kF, kE, kD, kC, kB, kA, jZ, jY, jX, jW, jV, jU, jT, jS, jR, jQ, jP, jO, jN, jM, jL, jK, jJ, jI, jH, jG, jF, jE, jD, jC, jB, jA, iZ, iY, iX, iW, iV, iU, iT, iS, iR, iQ, iP, iO, iN, iM, iL, iK, iJ, iI, iH, iG, iF, iE, iD, iC, iB, iA, hZ, hY, hV, hU, hO, hH, gZ, gY, gX, gW, gV, gU, gT, gS, gR, gQ, gP, gO, gN, gL, gK, gJ, gI, gH, gG, gF, gE, gC, fZ, fY, fX, fW, fV, fU, fT, fS, fR, fQ, fP, fO, fN, fM, fL, fK, fJ, fI, fH, fG, fF, fE, fD, fC, fB, fA, eZ, eY, eX, eW, eV, eU, eT, eS, eR, eQ, eP, eO, eN, eM, eL, eK, eJ, eI, eH, eG, eF, eE, eD, eC, eB, eA, dZ, dY, dX, dW, dV, dU, dT, dS, dR, dQ, dP, dO, dN, dM, dL, dK, dJ, dI, dH, dG, dF, dE, dD, dC, dA, cZ, cY, cX, cW, cV, cU, cT, cS, cQ, cP, cN, cM, oK, oJ], []⟩ w')
    (hR : ∀ a w', bodyPost Tryz.prog Tryz.f15 Q .ret a w' → Q0 .ret a w')
    (hD : ∀ (s3 : PMs) (A3 : Option Addr) (c3 : Nat) (u3 : Value) (f3 : List (Nat × Nat)) (w3 : World), RfAt mb s3 (.slice A3 s3.out.length c3) u3 f3 w3 → P.map endO = some (endO s3) → Below mb wA w3 → Q (.returned (.agg #[.string (mkB s3.how), .int .i64 s3.val, .slice A3 s3.out.length c3, .int .i64 (s3.ticks : Nat)])) ((((w3.setCell ⟨rb, 0, none⟩ (.string (mkB s3.how))).setCell ⟨rb, 1, none⟩ (.int .i64 s3.val)).setCell ⟨rb, 2, none⟩ (.slice A3 s3.out.length c3)).setCell ⟨rb, 3, none⟩ (.int .i64 (s3.ticks : Nat)))) :
    Code.wp Tryz.prog swC (Exit.then K Q0) ⟨#[x0, x1, x2, .int .i64 T, x4, .pointer (some ⟨b0, 0, none⟩), x6, x7, x8, x9, .pointer (some ⟨rb, 0, none⟩), .pointer (some ⟨mb, 0, none⟩), u, .int .i64 (-1), .pointer (some ⟨mb + 1, 0, none⟩), x15, .int .i64 jt, .int .i64 n17, x18, .pointer (some ⟨p.1, 0, none⟩), .pointer (some ⟨q, 0, none⟩), x21, .int .i64 av, x23, x24, x25, x26, x27, x28, x29, x30, x31, x32, x33, x34, x35, x36, x37, x38, x39, x40, x41, x42, x43, x44, x45, x46, x47, x48, x49, x50, x51, x52, x53, x54, x55, x56, x57, x58, x59, x60, x61, x62, x63, x64, x65, x66, x67, x68, x69, x70, x71, x72, x73, x74, x75, x76, x77, x78, x79, x80, x81, x82, x83, x84, x85, x86, x87, x88, x89, x90, x91, x92, x93, x94, x95, x96, x97, x98, x99, zZ, zY, zX, zW, zV, zU, zT, zS, zR, zQ, zP, zO, zN, zM, zL, zK, zJ, zI, zH, zG, zF, zE, zD, zC, zB, .string (mkB i.op), yZ, yY, yX, yW, yV, yU, yT, yS, yR, yQ, yP, yO, yN, yM, yL, yK, yJ, yI, yH, yG, yF, yE, yD, yC, yB, yA, xZ, xY, xX, xW, xV, xU, xS, xR, xQ, xP, xO, xN, xM, xL, xK, xJ, xI, xH, xG, xF, xE, xD, xC, xB, xA, wZ, wY, wX, wW, wV, wU, wQ, wN, wM, wK, wJ, wH, wG, wE, wD, vZ, vY, vX, vV, vU, vT, vS, vR, vQ, vP, vN, vM, vK, vJ, vI, vH, vA, uZ, uY, uX, uV, uU, uT, uS, uR, uQ, uP, uO, uN, uM, uL, uK, uJ, uI, uH, uG, uF, uD, uC, uB, uA, tZ, tY, tX, tW, tV, tU, tT, tS, tR, tQ, tP, tO, tN, tM, tL, tK, tJ, tI, tH, tG, tF, tE, tD, tC, tB, tA, sZ, sY, sX, sW, sV, sU, sT, sS, sR, sQ, sP, sO, sN, sM, sL, sK, sJ, sI, sG, sF, sE, sD, sC, sB, sA, rZ, rY, rX, rW, rV, rU, rT, rS, rR, rQ, rP, rO, rN, rM, rL, rK, rJ, rI, rH, rG, rF, rE, rD, rC, rB, rA, qZ, qY, qX, qW, qV, qU, qT, qR, qQ, qP, qO, qN, qM, qL, qK, qJ, qI, qH, qG, qF, qE, qD, qC, qA, pZ, pY, pX, pW, pV, pU, pT, pS, pR, pQ, pP, pO, pN, pM, pL, pK, pJ, pI, pH, pG, pF, pE, pD, pC, pB, pA, oZ, oY, oX, oW, oV, oU, oT, oS, oR, oQ, oP, oO, oN, oM, oL, oK, oJ], []⟩ w := by
  have h0 : s.calls ≠ [] := by rw [H.cl]; simp
  have hok2 := hMs.stepI hg hx hi h0
  have hav := hx.reg i.a
  have hnf := hg.nf
  obtain ⟨op, d, a, b, imm⟩ := i
  obtain ⟨k, hk, hop⟩ := hi.op
  have hjump := hi.jump
  have hcall := hi.call
  have hslot := hi.slot
  have hparam := hi.param
  have hd := hi.d
  have ha := hi.a
  have hb := hi.b
  have him := hi.imm
  clear hi
  simp only at hop hjump hcall hslot hparam hd ha hb him hins hP hok2 hav
  subst hop
  obtain ⟨d, rfl⟩ : ∃ n : Nat, d = n := ⟨d.toNat, by omega⟩
  obtain ⟨a, rfl⟩ : ∃ n : Nat, a = n := ⟨a.toNat, by omega⟩
  obtain ⟨b, rfl⟩ : ∃ n : Nat, b = n := ⟨b.toNat, by omega⟩
  have hva : regM x (a : Int) = av := hva
  rw [hva] at hav
  match k, hk with
  | 0, _ =>
    have e1 : stepI m.funs T ⟨nameOf 0, d, a, b, imm⟩ x s = topM (putM x d imm) s := by
      rw [move_step (i := ⟨nameOf 0, d, a, b, imm⟩) m.funs rfl rfl]; unfold moveP
      rw [if_neg (show ¬ farM ⟨nameOf 0, d, a, b, imm⟩ x = true from (by decide : ¬ (false = true))), if_pos (show nameOf 0 = constT from rfl)]
    rw [e1] at hP hok2
    exact sw_const H hT hnf hMs av d (by omega) a b imm jt n17 hins hP hok2 H.ov _ _ _ _ _ _ _ _ _ _ _ _ _ _ _ _ _ _ _ _ _ _ _ _ _ _ _ _ _ _ _ _ _ _ _ _ _ _ _ _ _ _ _ _ _ _ _ _ _ _ _ _ _ _ _ _ _ _ _ _ _ _ _ _ _ _ _ _ _ _ _ _ _ _ _ _ _ _ _ _ _ _ _ _ _ _ _ _ _ _ _ _ _ _ _ _ _ _ _ _ _ _ _ _ _ _ _ _ _ _ _ _ _ _ _ _ _ _ _ _ _ _ _ _ _ _ _ _ _ _ _ _ _ _ _ _ _ _ _ _ _ _ _ _ _ _ _ _ _ _ _ _ _ _ _ _ _ _ _ _ _ _ _ _ _ _ _ _ _ _ _ _ _ _ _ _ _ _ _ _ _ _ _ _ _ _ _ _ _ _ _ _ _ _ _ _ _ _ _ _ _ _ _ _ _ _ _ _ _ _ _ _ _ _ _ _ _ _ _ _ _ _ _ _ _ _ _ _ _ _ _ _ _ _ _ _ _ _ _ _ _ _ _ _ _ _ _ _ _ _ _ _ _ _ _ _ _ _ _ _ _ _ _ _ _ _ _ _ _ _ _ _ _ _ _ _ _ _ _ _ _ _ _ _ _ _ _ _ _ _ _ _ _ _ _ _ _ _ _ _ _ _ _ _ _ _ _ _ _ _ _ _ _ _ _ _ _ _ _ _ _ _ _ _ _ _ _ _ _ _ _ _ _ _ _ _ _ _ _ _ _ _ _ _ _ _ _ _ _ _ _ _ _ _ _ _ _ _ _ _ _ _ _ _ hK hR hD
  | 1, _ =>
    by_cases him0 : imm < 0
    · have e1 : stepI m.funs T ⟨nameOf 1, d, a, b, imm⟩ x s = topM (putM x d (wrap64 (wrap64 (regM x d * 4294967296) + (imm + 4294967296)))) s := by
        rw [move_step (i := ⟨nameOf 1, d, a, b, imm⟩) m.funs rfl rfl]; unfold moveP
        rw [if_neg (show ¬ farM ⟨nameOf 1, d, a, b, imm⟩ x = true from (by decide : ¬ (false = true))), if_neg (show ¬ nameOf 1 = constT by decide), if_pos (show nameOf 1 = highT from rfl)]
        unfold highP
        rw [show imm % 4294967296 = imm + 4294967296 by omega]
      rw [e1] at hP hok2
      exact sw_high_neg H hT hnf hMs av d (by omega) a b imm him0 him.1 jt n17 hins hP hok2 H.ov _ _ _ _ _ _ _ _ _ _ _ _ _ _ _ _ _ _ _ _ _ _ _ _ _ _ _ _ _ _ _ _ _ _ _ _ _ _ _ _ _ _ _ _ _ _ _ _ _ _ _ _ _ _ _ _ _ _ _ _ _ _ _ _ _ _ _ _ _ _ _ _ _ _ _ _ _ _ _ _ _ _ _ _ _ _ _ _ _ _ _ _ _ _ _ _ _ _ _ _ _ _ _ _ _ _ _ _ _ _ _ _ _ _ _ _ _ _ _ _ _ _ _ _ _ _ _ _ _ _ _ _ _ _ _ _ _ _ _ _ _ _ _ _ _ _ _ _ _ _ _ _ _ _ _ _ _ _ _ _ _ _ _ _ _ _ _ _ _ _ _ _ _ _ _ _ _ _ _ _ _ _ _ _ _ _ _ _ _ _ _ _ _ _ _ _ _ _ _ _ _ _ _ _ _ _ _ _ _ _ _ _ _ _ _ _ _ _ _ _ _ _ _ _ _ _ _ _ _ _ _ _ _ _ _ _ _ _ _ _ _ _ _ _ _ _ _ _ _ _ _ _ _ _ _ _ _ _ _ _ _ _ _ _ _ _ _ _ _ _ _ _ _ _ _ _ _ _ _ _ _ _ _ _ _ _ _ _ _ _ _ _ _ _ _ _ _ _ _ _ _ _ _ _ _ _ _ _ _ _ _ _ _ _ _ _ _ _ _ _ _ _ _ _ _ _ _ _ _ _ _ _ _ _ _ _ _ _ _ _ _ _ _ _ _ _ _ _ _ _ _ _ _ _ _ _ _ _ _ _ _ _ _ _ hK hR hD
    · have e1 : stepI m.funs T ⟨nameOf 1, d, a, b, imm⟩ x s = topM (putM x d (wrap64 (wrap64 (regM x d * 4294967296) + imm))) s := by
        rw [move_step (i := ⟨nameOf 1, d, a, b, imm⟩) m.funs rfl rfl]; unfold moveP
        rw [if_neg (show ¬ farM ⟨nameOf 1, d, a, b, imm⟩ x = true from (by decide : ¬ (false = true))), if_neg (show ¬ nameOf 1 = constT by decide), if_pos (show nameOf 1 = highT from rfl)]
        unfold highP
        rw [show imm % 4294967296 = imm by omega]
      rw [e1] at hP hok2
      exact sw_high_pos H hT hnf hMs av d (by omega) a b imm him0 jt n17 hins hP hok2 H.ov _ _ _ _ _ _ _ _ _ _ _ _ _ _ _ _ _ _ _ _ _ _ _ _ _ _ _ _ _ _ _ _ _ _ _ _ _ _ _ _ _ _ _ _ _ _ _ _ _ _ _ _ _ _ _ _ _ _ _ _ _ _ _ _ _ _ _ _ _ _ _ _ _ _ _ _ _ _ _ _ _ _ _ _ _ _ _ _ _ _ _ _ _ _ _ _ _ _ _ _ _ _ _ _ _ _ _ _ _ _ _ _ _ _ _ _ _ _ _ _ _ _ _ _ _ _ _ _ _ _ _ _ _ _ _ _ _ _ _ _ _ _ _ _ _ _ _ _ _ _ _ _ _ _ _ _ _ _ _ _ _ _ _ _ _ _ _ _ _ _ _ _ _ _ _ _ _ _ _ _ _ _ _ _ _ _ _ _ _ _ _ _ _ _ _ _ _ _ _ _ _ _ _ _ _ _ _ _ _ _ _ _ _ _ _ _ _ _ _ _ _ _ _ _ _ _ _ _ _ _ _ _ _ _ _ _ _ _ _ _ _ _ _ _ _ _ _ _ _ _ _ _ _ _ _ _ _ _ _ _ _ _ _ _ _ _ _ _ _ _ _ _ _ _ _ _ _ _ _ _ _ _ _ _ _ _ _ _ _ _ _ _ _ _ _ _ _ _ _ _ _ _ _ _ _ _ _ _ _ _ _ _ _ _ _ _ _ _ _ _ _ _ _ _ _ _ _ _ _ _ _ _ _ _ _ _ _ _ _ _ _ _ _ _ _ _ _ _ _ _ _ _ _ _ _ _ _ _ _ _ _ _ _ _ hK hR hD
  | 2, _ =>
    have e1 : stepI m.funs T ⟨nameOf 2, d, a, b, imm⟩ x s = topM (putM x d av) s := by
      rw [← hva]
      rw [move_step (i := ⟨nameOf 2, d, a, b, imm⟩) m.funs rfl rfl]; unfold moveP
      rw [if_neg (show ¬ farM ⟨nameOf 2, d, a, b, imm⟩ x = true from (by decide : ¬ (false = true))), if_neg (show ¬ nameOf 2 = constT by decide), if_neg (show ¬ nameOf 2 = highT by decide), if_pos (show nameOf 2 = moveT from rfl)]
    rw [e1] at hP hok2
    exact sw_move H hT hnf hMs av d (by omega) a b imm jt n17 hins hP hok2 H.ov _ _ _ _ _ _ _ _ _ _ _ _ _ _ _ _ _ _ _ _ _ _ _ _ _ _ _ _ _ _ _ _ _ _ _ _ _ _ _ _ _ _ _ _ _ _ _ _ _ _ _ _ _ _ _ _ _ _ _ _ _ _ _ _ _ _ _ _ _ _ _ _ _ _ _ _ _ _ _ _ _ _ _ _ _ _ _ _ _ _ _ _ _ _ _ _ _ _ _ _ _ _ _ _ _ _ _ _ _ _ _ _ _ _ _ _ _ _ _ _ _ _ _ _ _ _ _ _ _ _ _ _ _ _ _ _ _ _ _ _ _ _ _ _ _ _ _ _ _ _ _ _ _ _ _ _ _ _ _ _ _ _ _ _ _ _ _ _ _ _ _ _ _ _ _ _ _ _ _ _ _ _ _ _ _ _ _ _ _ _ _ _ _ _ _ _ _ _ _ _ _ _ _ _ _ _ _ _ _ _ _ _ _ _ _ _ _ _ _ _ _ _ _ _ _ _ _ _ _ _ _ _ _ _ _ _ _ _ _ _ _ _ _ _ _ _ _ _ _ _ _ _ _ _ _ _ _ _ _ _ _ _ _ _ _ _ _ _ _ _ _ _ _ _ _ _ _ _ _ _ _ _ _ _ _ _ _ _ _ _ _ _ _ _ _ _ _ _ _ _ _ _ _ _ _ _ _ _ _ _ _ _ _ _ _ _ _ _ _ _ _ _ _ _ _ _ _ _ _ _ _ _ _ _ _ _ _ _ _ _ _ _ _ _ _ _ _ _ _ _ _ _ _ _ _ _ _ _ _ _ _ _ _ _ hK hR hD
  | 3, _ =>
    have hj := hslot (.inl rfl)
    obtain ⟨n, rfl⟩ : ∃ n : Nat, imm = n := ⟨imm.toNat, by omega⟩
    by_cases hfar : x.f.slots ≤ (n : Int)
    · have e1 : stepI m.funs T ⟨nameOf 3, d, a, b, n⟩ x s = endM stuckT s := by
        rw [move_step (i := ⟨nameOf 3, d, a, b, n⟩) m.funs rfl rfl]; unfold moveP
        rw [if_pos (show farM ⟨nameOf 3, d, a, b, n⟩ x = true by show (true && decide (x.f.slots ≤ (n : Int)) || false) = true; simp [hfar])]
      rw [e1, over_none (by decide)] at hP
      exact sw_load_far H hT hnf hMs av d a b n hfar jt n17 hins hP _ _ _ _ _ _ _ _ _ _ _ _ _ _ _ _ _ _ _ _ _ _ _ _ _ _ _ _ _ _ _ _ _ _ _ _ _ _ _ _ _ _ _ _ _ _ _ _ _ _ _ _ _ _ _ _ _ _ _ _ _ _ _ _ _ _ _ _ _ _ _ _ _ _ _ _ _ _ _ _ _ _ _ _ _ _ _ _ _ _ _ _ _ _ _ _ _ _ _ _ _ _ _ _ _ _ _ _ _ _ _ _ _ _ _ _ _ _ _ _ _ _ _ _ _ _ _ _ _ _ _ _ _ _ _ _ _ _ _ _ _ _ _ _ _ _ _ _ _ _ _ _ _ _ _ _ _ _ _ _ _ _ _ _ _ _ _ _ _ _ _ _ _ _ _ _ _ _ _ _ _ _ _ _ _ _ _ _ _ _ _ _ _ _ _ _ _ _ _ _ _ _ _ _ _ _ _ _ _ _ _ _ _ _ _ _ _ _ _ _ _ _ _ _ _ _ _ _ _ _ _ _ _ _ _ _ _ _ _ _ _ _ _ _ _ _ _ _ _ _ _ _ _ _ _ _ _ _ _ _ _ _ _ _ _ _ _ _ _ _ _ _ _ _ _ _ _ _ _ _ _ _ _ _ _ _ _ _ _ _ _ _ _ _ _ _ _ _ _ _ _ _ _ _ _ _ _ _ _ _ _ _ _ _ _ _ _ _ _ _ _ _ _ _ _ _ _ _ _ _ _ _ _ _ _ _ _ _ _ _ _ _ _ _ _ _ _ _ _ _ _ _ _ _ _ _ _ _ _ _ _ _ _ _ hK hR hD
    · have e1 : stepI m.funs T ⟨nameOf 3, d, a, b, n⟩ x s = topM (putM x d (x.slots.getD n 0)) s := by
        rw [move_step (i := ⟨nameOf 3, d, a, b, n⟩) m.funs rfl rfl]; unfold moveP
        rw [if_neg (show ¬ farM ⟨nameOf 3, d, a, b, n⟩ x = true by show ¬ (true && decide (x.f.slots ≤ (n : Int)) || false) = true; simp [hfar]), if_neg (show ¬ nameOf 3 = constT by decide), if_neg (show ¬ nameOf 3 = highT by decide), if_neg (show ¬ nameOf 3 = moveT by decide), if_pos (show nameOf 3 = loadT from rfl)]
        rfl
      rw [e1] at hP hok2
      exact sw_load H hT hnf hMs av d (by omega) a b n (by have := hx.slots; have := hx.f; omega) (by omega) _ rfl jt n17 hins hP hok2 H.ov _ _ _ _ _ _ _ _ _ _ _ _ _ _ _ _ _ _ _ _ _ _ _ _ _ _ _ _ _ _ _ _ _ _ _ _ _ _ _ _ _ _ _ _ _ _ _ _ _ _ _ _ _ _ _ _ _ _ _ _ _ _ _ _ _ _ _ _ _ _ _ _ _ _ _ _ _ _ _ _ _ _ _ _ _ _ _ _ _ _ _ _ _ _ _ _ _ _ _ _ _ _ _ _ _ _ _ _ _ _ _ _ _ _ _ _ _ _ _ _ _ _ _ _ _ _ _ _ _ _ _ _ _ _ _ _ _ _ _ _ _ _ _ _ _ _ _ _ _ _ _ _ _ _ _ _ _ _ _ _ _ _ _ _ _ _ _ _ _ _ _ _ _ _ _ _ _ _ _ _ _ _ _ _ _ _ _ _ _ _ _ _ _ _ _ _ _ _ _ _ _ _ _ _ _ _ _ _ _ _ _ _ _ _ _ _ _ _ _ _ _ _ _ _ _ _ _ _ _ _ _ _ _ _ _ _ _ _ _ _ _ _ _ _ _ _ _ _ _ _ _ _ _ _ _ _ _ _ _ _ _ _ _ _ _ _ _ _ _ _ _ _ _ _ _ _ _ _ _ _ _ _ _ _ _ _ _ _ _ _ _ _ _ _ _ _ _ _ _ _ _ _ _ _ _ _ _ _ _ _ _ _ _ _ _ _ _ _ _ _ _ _ _ _ _ _ _ _ _ _ _ _ _ _ _ _ _ _ _ _ _ _ _ _ _ _ _ _ _ _ _ _ _ _ _ _ _ _ _ _ _ _ _ _ hK hR hD
  | 4, _ =>
    have hj := hslot (.inr rfl)
    obtain ⟨n, rfl⟩ : ∃ n : Nat, imm = n := ⟨imm.toNat, by omega⟩
    by_cases hfar : x.f.slots ≤ (n : Int)
    · have e1 : stepI m.funs T ⟨nameOf 4, d, a, b, n⟩ x s = endM stuckT s := by
        rw [move_step (i := ⟨nameOf 4, d, a, b, n⟩) m.funs rfl rfl]; unfold moveP
        rw [if_pos (show farM ⟨nameOf 4, d, a, b, n⟩ x = true by show (true && decide (x.f.slots ≤ (n : Int)) || false) = true; simp [hfar])]
      rw [e1, over_none (by decide)] at hP
      exact sw_store_far H hT hnf hMs av d a b n hfar jt n17 hins hP _ _ _ _ _ _ _ _ _ _ _ _ _ _ _ _ _ _ _ _ _ _ _ _ _ _ _ _ _ _ _ _ _ _ _ _ _ _ _ _ _ _ _ _ _ _ _ _ _ _ _ _ _ _ _ _ _ _ _ _ _ _ _ _ _ _ _ _ _ _ _ _ _ _ _ _ _ _ _ _ _ _ _ _ _ _ _ _ _ _ _ _ _ _ _ _ _ _ _ _ _ _ _ _ _ _ _ _ _ _ _ _ _ _ _ _ _ _ _ _ _ _ _ _ _ _ _ _ _ _ _ _ _ _ _ _ _ _ _ _ _ _ _ _ _ _ _ _ _ _ _ _ _ _ _ _ _ _ _ _ _ _ _ _ _ _ _ _ _ _ _ _ _ _ _ _ _ _ _ _ _ _ _ _ _ _ _ _ _ _ _ _ _ _ _ _ _ _ _ _ _ _ _ _ _ _ _ _ _ _ _ _ _ _ _ _ _ _ _ _ _ _ _ _ _ _ _ _ _ _ _ _ _ _ _ _ _ _ _ _ _ _ _ _ _ _ _ _ _ _ _ _ _ _ _ _ _ _ _ _ _ _ _ _ _ _ _ _ _ _ _ _ _ _ _ _ _ _ _ _ _ _ _ _ _ _ _ _ _ _ _ _ _ _ _ _ _ _ _ _ _ _ _ _ _ _ _ _ _ _ _ _ _ _ _ _ _ _ _ _ _ _ _ _ _ _ _ _ _ _ _ _ _ _ _ _ _ _ _ _ _ _ _ _ _ _ _ _ _ _ _ _ _ _ _ _ _ _ _ _ _ _ _ _ hK hR hD
    · have e1 : stepI m.funs T ⟨nameOf 4, d, a, b, n⟩ x s = topM { x with slots := x.slots.set n av } s := by
        rw [← hva]
        rw [move_step (i := ⟨nameOf 4, d, a, b, n⟩) m.funs rfl rfl]; unfold moveP
        rw [if_neg (show ¬ farM ⟨nameOf 4, d, a, b, n⟩ x = true by show ¬ (true && decide (x.f.slots ≤ (n : Int)) || false) = true; simp [hfar]), if_neg (show ¬ nameOf 4 = constT by decide), if_neg (show ¬ nameOf 4 = highT by decide), if_neg (show ¬ nameOf 4 = moveT by decide), if_neg (show ¬ nameOf 4 = loadT by decide), if_pos (show nameOf 4 = storeT from rfl)]
        rfl
      rw [e1] at hP hok2
      exact sw_store H hT hnf hMs av d a b n (by have := hx.slots; have := hx.f; omega) (by omega) jt n17 hins hP hok2 H.ov _ _ _ _ _ _ _ _ _ _ _ _ _ _ _ _ _ _ _ _ _ _ _ _ _ _ _ _ _ _ _ _ _ _ _ _ _ _ _ _ _ _ _ _ _ _ _ _ _ _ _ _ _ _ _ _ _ _ _ _ _ _ _ _ _ _ _ _ _ _ _ _ _ _ _ _ _ _ _ _ _ _ _ _ _ _ _ _ _ _ _ _ _ _ _ _ _ _ _ _ _ _ _ _ _ _ _ _ _ _ _ _ _ _ _ _ _ _ _ _ _ _ _ _ _ _ _ _ _ _ _ _ _ _ _ _ _ _ _ _ _ _ _ _ _ _ _ _ _ _ _ _ _ _ _ _ _ _ _ _ _ _ _ _ _ _ _ _ _ _ _ _ _ _ _ _ _ _ _ _ _ _ _ _ _ _ _ _ _ _ _ _ _ _ _ _ _ _ _ _ _ _ _ _ _ _ _ _ _ _ _ _ _ _ _ _ _ _ _ _ _ _ _ _ _ _ _ _ _ _ _ _ _ _ _ _ _ _ _ _ _ _ _ _ _ _ _ _ _ _ _ _ _ _ _ _ _ _ _ _ _ _ _ _ _ _ _ _ _ _ _ _ _ _ _ _ _ _ _ _ _ _ _ _ _ _ _ _ _ _ _ _ _ _ _ _ _ _ _ _ _ _ _ _ _ _ _ _ _ _ _ _ _ _ _ _ _ _ _ _ _ _ _ _ _ _ _ _ _ _ _ _ _ _ _ _ _ _ _ _ _ _ _ _ _ _ _ _ _ _ _ _ _ _ _ _ _ _ _ _ _ _ _ _ hK hR hD
  | 5, _ =>
    have hj := hparam (.inl rfl)
    obtain ⟨n, rfl⟩ : ∃ n : Nat, imm = n := ⟨imm.toNat, by omega⟩
    by_cases hfar : x.f.params ≤ (n : Int)
    · have e1 : stepI m.funs T ⟨nameOf 5, d, a, b, n⟩ x s = endM stuckT s := by
        rw [move_step (i := ⟨nameOf 5, d, a, b, n⟩) m.funs rfl rfl]; unfold moveP
        rw [if_pos (show farM ⟨nameOf 5, d, a, b, n⟩ x = true by show (false || (true && decide (x.f.params ≤ (n : Int)))) = true; simp [hfar])]
      rw [e1, over_none (by decide)] at hP
      exact sw_param_far H hT hnf hMs av d a b n hfar jt n17 hins hP _ _ _ _ _ _ _ _ _ _ _ _ _ _ _ _ _ _ _ _ _ _ _ _ _ _ _ _ _ _ _ _ _ _ _ _ _ _ _ _ _ _ _ _ _ _ _ _ _ _ _ _ _ _ _ _ _ _ _ _ _ _ _ _ _ _ _ _ _ _ _ _ _ _ _ _ _ _ _ _ _ _ _ _ _ _ _ _ _ _ _ _ _ _ _ _ _ _ _ _ _ _ _ _ _ _ _ _ _ _ _ _ _ _ _ _ _ _ _ _ _ _ _ _ _ _ _ _ _ _ _ _ _ _ _ _ _ _ _ _ _ _ _ _ _ _ _ _ _ _ _ _ _ _ _ _ _ _ _ _ _ _ _ _ _ _ _ _ _ _ _ _ _ _ _ _ _ _ _ _ _ _ _ _ _ _ _ _ _ _ _ _ _ _ _ _ _ _ _ _ _ _ _ _ _ _ _ _ _ _ _ _ _ _ _ _ _ _ _ _ _ _ _ _ _ _ _ _ _ _ _ _ _ _ _ _ _ _ _ _ _ _ _ _ _ _ _ _ _ _ _ _ _ _ _ _ _ _ _ _ _ _ _ _ _ _ _ _ _ _ _ _ _ _ _ _ _ _ _ _ _ _ _ _ _ _ _ _ _ _ _ _ _ _ _ _ _ _ _ _ _ _ _ _ _ _ _ _ _ _ _ _ _ _ _ _ _ _ _ _ _ _ _ _ _ _ _ _ _ _ _ _ _ _ _ _ _ _ _ _ _ _ _ _ _ _ _ _ _ _ _ _ _ _ _ _ _ _ _ _ _ _ _ _ hK hR hD
    · have e1 : stepI m.funs T ⟨nameOf 5, d, a, b, n⟩ x s = topM (putM x d (x.args.getD n 0)) s := by
        rw [move_step (i := ⟨nameOf 5, d, a, b, n⟩) m.funs rfl rfl]; unfold moveP
        rw [if_neg (show ¬ farM ⟨nameOf 5, d, a, b, n⟩ x = true by show ¬ (false || (true && decide (x.f.params ≤ (n : Int)))) = true; simp [hfar]), if_neg (show ¬ nameOf 5 = constT by decide), if_neg (show ¬ nameOf 5 = highT by decide), if_neg (show ¬ nameOf 5 = moveT by decide), if_neg (show ¬ nameOf 5 = loadT by decide), if_neg (show ¬ nameOf 5 = storeT by decide), if_pos (show nameOf 5 = paramT from rfl)]
        rfl
      rw [e1] at hP hok2
      exact sw_param H hT hnf hMs av d (by omega) a b n (by omega) (by omega) _ rfl jt n17 hins hP hok2 H.ov _ _ _ _ _ _ _ _ _ _ _ _ _ _ _ _ _ _ _ _ _ _ _ _ _ _ _ _ _ _ _ _ _ _ _ _ _ _ _ _ _ _ _ _ _ _ _ _ _ _ _ _ _ _ _ _ _ _ _ _ _ _ _ _ _ _ _ _ _ _ _ _ _ _ _ _ _ _ _ _ _ _ _ _ _ _ _ _ _ _ _ _ _ _ _ _ _ _ _ _ _ _ _ _ _ _ _ _ _ _ _ _ _ _ _ _ _ _ _ _ _ _ _ _ _ _ _ _ _ _ _ _ _ _ _ _ _ _ _ _ _ _ _ _ _ _ _ _ _ _ _ _ _ _ _ _ _ _ _ _ _ _ _ _ _ _ _ _ _ _ _ _ _ _ _ _ _ _ _ _ _ _ _ _ _ _ _ _ _ _ _ _ _ _ _ _ _ _ _ _ _ _ _ _ _ _ _ _ _ _ _ _ _ _ _ _ _ _ _ _ _ _ _ _ _ _ _ _ _ _ _ _ _ _ _ _ _ _ _ _ _ _ _ _ _ _ _ _ _ _ _ _ _ _ _ _ _ _ _ _ _ _ _ _ _ _ _ _ _ _ _ _ _ _ _ _ _ _ _ _ _ _ _ _ _ _ _ _ _ _ _ _ _ _ _ _ _ _ _ _ _ _ _ _ _ _ _ _ _ _ _ _ _ _ _ _ _ _ _ _ _ _ _ _ _ _ _ _ _ _ _ _ _ _ _ _ _ _ _ _ _ _ _ _ _ _ _ _ _ _ _ _ _ _ _ _ _ _ _ _ _ _ _ _ hK hR hD
  | 6, _ =>
    have hj := hparam (.inr rfl)
    obtain ⟨n, rfl⟩ : ∃ n : Nat, imm = n := ⟨imm.toNat, by omega⟩
    have e1 : stepI m.funs T ⟨nameOf 6, d, a, b, n⟩ x s = topM { x with next := x.next.set n av } s := by
      rw [← hva]
      rw [move_step (i := ⟨nameOf 6, d, a, b, n⟩) m.funs rfl rfl]; unfold moveP
      rw [if_neg (show ¬ farM ⟨nameOf 6, d, a, b, n⟩ x = true from (by decide : ¬ (false = true))), if_neg (show ¬ nameOf 6 = constT by decide), if_neg (show ¬ nameOf 6 = highT by decide), if_neg (show ¬ nameOf 6 = moveT by decide), if_neg (show ¬ nameOf 6 = loadT by decide), if_neg (show ¬ nameOf 6 = storeT by decide), if_neg (show ¬ nameOf 6 = paramT by decide)]
      rfl
    rw [e1] at hP hok2
    exact sw_arg H hT hnf hMs av d a b n (by omega) jt n17 hins hP hok2 H.ov _ _ _ _ _ _ _ _ _ _ _ _ _ _ _ _ _ _ _ _ _ _ _ _ _ _ _ _ _ _ _ _ _ _ _ _ _ _ _ _ _ _ _ _ _ _ _ _ _ _ _ _ _ _ _ _ _ _ _ _ _ _ _ _ _ _ _ _ _ _ _ _ _ _ _ _ _ _ _ _ _ _ _ _ _ _ _ _ _ _ _ _ _ _ _ _ _ _ _ _ _ _ _ _ _ _ _ _ _ _ _ _ _ _ _ _ _ _ _ _ _ _ _ _ _ _ _ _ _ _ _ _ _ _ _ _ _ _ _ _ _ _ _ _ _ _ _ _ _ _ _ _ _ _ _ _ _ _ _ _ _ _ _ _ _ _ _ _ _ _ _ _ _ _ _ _ _ _ _ _ _ _ _ _ _ _ _ _ _ _ _ _ _ _ _ _ _ _ _ _ _ _ _ _ _ _ _ _ _ _ _ _ _ _ _ _ _ _ _ _ _ _ _ _ _ _ _ _ _ _ _ _ _ _ _ _ _ _ _ _ _ _ _ _ _ _ _ _ _ _ _ _ _ _ _ _ _ _ _ _ _ _ _ _ _ _ _ _ _ _ _ _ _ _ _ _ _ _ _ _ _ _ _ _ _ _ _ _ _ _ _ _ _ _ _ _ _ _ _ _ _ _ _ _ _ _ _ _ _ _ _ _ _ _ _ _ _ _ _ _ _ _ _ _ _ _ _ _ _ _ _ _ _ _ _ _ _ _ _ _ _ _ _ _ _ _ _ _ _ _ _ _ _ _ _ _ _ _ _ _ _ _ _ _ hK hR hD
  | 7, _ =>
    have hj := hcall rfl
    obtain ⟨n, rfl⟩ : ∃ n : Nat, imm = n := ⟨imm.toNat, by omega⟩
    obtain ⟨n0, n1, n2, n3, hnx⟩ := len4 hx.next
    have hn : n < m.funs.length := by omega
    have hf : m.funs.getD ((n : Int)).toNat fn0 = m.funs[n] := by rw [List.getD_eq_getElem?_getD, Int.toNat_natCast, List.getElem?_eq_getElem hn]; rfl
    by_cases hbp : (b : Int) = m.funs[n].params
    · have e1 : stepI m.funs T ⟨nameOf 7, d, a, b, n⟩ x s = enterM m.funs T n d [n0, n1, n2, n3] (topM { x with next := zero4 } s) := by
        rw [flow_step (i := ⟨nameOf 7, d, a, b, n⟩) m.funs rfl]; unfold flowP
        rw [if_neg (show ¬ nameOf 7 = tickT by decide), if_neg (show ¬ nameOf 7 = printT by decide), if_neg (show ¬ nameOf 7 = jumpT by decide), if_neg (show ¬ nameOf 7 = ifT by decide), if_neg (show ¬ nameOf 7 = returnT by decide), hf, if_pos hbp, ← hnx]
        rfl
      rw [e1] at hP hok2
      exact sw_call H hT hnf hMs av d (by omega) a b n hn hbp n0 n1 n2 n3 hnx hx.n6 jt n17 hins hP hok2 _ _ _ _ _ _ _ _ _ _ _ _ _ _ _ _ _ _ _ _ _ _ _ _ _ _ _ _ _ _ _ _ _ _ _ _ _ _ _ _ _ _ _ _ _ _ _ _ _ _ _ _ _ _ _ _ _ _ _ _ _ _ _ _ _ _ _ _ _ _ _ _ _ _ _ _ _ _ _ _ _ _ _ _ _ _ _ _ _ _ _ _ _ _ _ _ _ _ _ _ _ _ _ _ _ _ _ _ _ _ _ _ _ _ _ _ _ _ _ _ _ _ _ _ _ _ _ _ _ _ _ _ _ _ _ _ _ _ _ _ _ _ _ _ _ _ _ _ _ _ _ _ _ _ _ _ _ _ _ _ _ _ _ _ _ _ _ _ _ _ _ _ _ _ _ _ _ _ _ _ _ _ _ _ _ _ _ _ _ _ _ _ _ _ _ _ _ _ _ _ _ _ _ _ _ _ _ _ _ _ _ _ _ _ _ _ _ _ _ _ _ _ _ _ _ _ _ _ _ _ _ _ _ _ _ _ _ _ _ _ _ _ _ _ _ _ _ _ _ _ _ _ _ _ _ _ _ _ _ _ _ _ _ _ _ _ _ _ _ _ _ _ _ _ _ _ _ _ _ _ _ _ _ _ _ _ _ _ _ _ _ _ _ _ _ _ _ _ _ _ _ _ _ _ _ _ _ _ _ _ _ _ _ _ _ _ _ _ _ _ _ _ _ _ _ _ _ _ _ _ _ _ _ _ _ _ _ _ _ _ _ _ _ _ _ _ _ _ _ _ _ _ _ _ _ _ _ _ _ _ _ _ _ _ hK hR hD
    · have e1 : stepI m.funs T ⟨nameOf 7, d, a, b, n⟩ x s = endM stuckT (topM { x with next := zero4 } s) := by
        rw [flow_step (i := ⟨nameOf 7, d, a, b, n⟩) m.funs rfl]; unfold flowP
        rw [if_neg (show ¬ nameOf 7 = tickT by decide), if_neg (show ¬ nameOf 7 = printT by decide), if_neg (show ¬ nameOf 7 = jumpT by decide), if_neg (show ¬ nameOf 7 = ifT by decide), if_neg (show ¬ nameOf 7 = returnT by decide), hf, if_neg hbp]
      rw [e1, over_none (by decide)] at hP
      exact sw_call_bad H hT hnf hMs av d a b n hn hbp jt n17 hins hP _ _ _ _ _ _ _ _ _ _ _ _ _ _ _ _ _ _ _ _ _ _ _ _ _ _ _ _ _ _ _ _ _ _ _ _ _ _ _ _ _ _ _ _ _ _ _ _ _ _ _ _ _ _ _ _ _ _ _ _ _ _ _ _ _ _ _ _ _ _ _ _ _ _ _ _ _ _ _ _ _ _ _ _ _ _ _ _ _ _ _ _ _ _ _ _ _ _ _ _ _ _ _ _ _ _ _ _ _ _ _ _ _ _ _ _ _ _ _ _ _ _ _ _ _ _ _ _ _ _ _ _ _ _ _ _ _ _ _ _ _ _ _ _ _ _ _ _ _ _ _ _ _ _ _ _ _ _ _ _ _ _ _ _ _ _ _ _ _ _ _ _ _ _ _ _ _ _ _ _ _ _ _ _ _ _ _ _ _ _ _ _ _ _ _ _ _ _ _ _ _ _ _ _ _ _ _ _ _ _ _ _ _ _ _ _ _ _ _ _ _ _ _ _ _ _ _ _ _ _ _ _ _ _ _ _ _ _ _ _ _ _ _ _ _ _ _ _ _ _ _ _ _ _ _ _ _ _ _ _ _ _ _ _ _ _ _ _ _ _ _ _ _ _ _ _ _ _ _ _ _ _ _ _ _ _ _ _ _ _ _ _ _ _ _ _ _ _ _ _ _ _ _ _ _ _ _ _ _ _ _ _ _ _ _ _ _ _ _ _ _ _ _ _ _ _ _ _ _ _ _ _ _ _ _ _ _ _ _ _ _ _ _ _ _ _ _ _ _ _ _ _ _ _ _ _ _ _ _ _ _ _ _ _ hK hR hD
  | 8, _ =>
    by_cases htk : s.ticks < T
    · have e1 : stepI m.funs T ⟨nameOf 8, d, a, b, imm⟩ x s = { s with ticks := s.ticks + 1 } := by
        rw [flow_step (i := ⟨nameOf 8, d, a, b, imm⟩) m.funs rfl]; unfold flowP
        rw [if_pos (show nameOf 8 = tickT from rfl)]; unfold tickM; rw [if_pos htk]
      rw [e1] at hP hok2
      exact sw_tick H hT hnf hMs av d a b imm htk jt n17 hins hP hok2 H.ov _ _ _ _ _ _ _ _ _ _ _ _ _ _ _ _ _ _ _ _ _ _ _ _ _ _ _ _ _ _ _ _ _ _ _ _ _ _ _ _ _ _ _ _ _ _ _ _ _ _ _ _ _ _ _ _ _ _ _ _ _ _ _ _ _ _ _ _ _ _ _ _ _ _ _ _ _ _ _ _ _ _ _ _ _ _ _ _ _ _ _ _ _ _ _ _ _ _ _ _ _ _ _ _ _ _ _ _ _ _ _ _ _ _ _ _ _ _ _ _ _ _ _ _ _ _ _ _ _ _ _ _ _ _ _ _ _ _ _ _ _ _ _ _ _ _ _ _ _ _ _ _ _ _ _ _ _ _ _ _ _ _ _ _ _ _ _ _ _ _ _ _ _ _ _ _ _ _ _ _ _ _ _ _ _ _ _ _ _ _ _ _ _ _ _ _ _ _ _ _ _ _ _ _ _ _ _ _ _ _ _ _ _ _ _ _ _ _ _ _ _ _ _ _ _ _ _ _ _ _ _ _ _ _ _ _ _ _ _ _ _ _ _ _ _ _ _ _ _ _ _ _ _ _ _ _ _ _ _ _ _ _ _ _ _ _ _ _ _ _ _ _ _ _ _ _ _ _ _ _ _ _ _ _ _ _ _ _ _ _ _ _ _ _ _ _ _ _ _ _ _ _ _ _ _ _ _ _ _ _ _ _ _ _ _ _ _ _ _ _ _ _ _ _ _ _ _ _ _ _ _ _ _ _ _ _ _ _ _ _ _ _ _ _ _ _ _ _ _ _ _ _ _ _ _ _ _ _ _ _ _ _ _ _ hK hR hD
    · have e1 : stepI m.funs T ⟨nameOf 8, d, a, b, imm⟩ x s = endM tiredT s := by
        rw [flow_step (i := ⟨nameOf 8, d, a, b, imm⟩) m.funs rfl]; unfold flowP
        rw [if_pos (show nameOf 8 = tickT from rfl)]; unfold tickM; rw [if_neg htk]
      rw [e1, over_none (by decide)] at hP
      exact sw_tired H hT hnf hMs av d a b imm htk jt n17 hins hP _ _ _ _ _ _ _ _ _ _ _ _ _ _ _ _ _ _ _ _ _ _ _ _ _ _ _ _ _ _ _ _ _ _ _ _ _ _ _ _ _ _ _ _ _ _ _ _ _ _ _ _ _ _ _ _ _ _ _ _ _ _ _ _ _ _ _ _ _ _ _ _ _ _ _ _ _ _ _ _ _ _ _ _ _ _ _ _ _ _ _ _ _ _ _ _ _ _ _ _ _ _ _ _ _ _ _ _ _ _ _ _ _ _ _ _ _ _ _ _ _ _ _ _ _ _ _ _ _ _ _ _ _ _ _ _ _ _ _ _ _ _ _ _ _ _ _ _ _ _ _ _ _ _ _ _ _ _ _ _ _ _ _ _ _ _ _ _ _ _ _ _ _ _ _ _ _ _ _ _ _ _ _ _ _ _ _ _ _ _ _ _ _ _ _ _ _ _ _ _ _ _ _ _ _ _ _ _ _ _ _ _ _ _ _ _ _ _ _ _ _ _ _ _ _ _ _ _ _ _ _ _ _ _ _ _ _ _ _ _ _ _ _ _ _ _ _ _ _ _ _ _ _ _ _ _ _ _ _ _ _ _ _ _ _ _ _ _ _ _ _ _ _ _ _ _ _ _ _ _ _ _ _ _ _ _ _ _ _ _ _ _ _ _ _ _ _ _ _ _ _ _ _ _ _ _ _ _ _ _ _ _ _ _ _ _ _ _ _ _ _ _ _ _ _ _ _ _ _ _ _ _ _ _ _ _ _ _ _ _ _ _ _ _ _ _ _ _ _ _ _ _ _ _ _ _ _ _ _ _ _ _ _ _ hK hR hD
  | 9, _ =>
    by_cases hl : 1000 ≤ s.out.length
    · have e1 : stepI m.funs T ⟨nameOf 9, d, a, b, imm⟩ x s = endM loudT s := by
        rw [flow_step (i := ⟨nameOf 9, d, a, b, imm⟩) m.funs rfl]; unfold flowP
        rw [if_neg (show ¬ nameOf 9 = tickT by decide), if_pos (show nameOf 9 = printT from rfl)]; unfold printM; rw [if_pos hl]
      rw [e1, over_none (by decide)] at hP
      exact sw_loud H hT hnf hMs av d a b imm hl jt n17 hins hP _ _ _ _ _ _ _ _ _ _ _ _ _ _ _ _ _ _ _ _ _ _ _ _ _ _ _ _ _ _ _ _ _ _ _ _ _ _ _ _ _ _ _ _ _ _ _ _ _ _ _ _ _ _ _ _ _ _ _ _ _ _ _ _ _ _ _ _ _ _ _ _ _ _ _ _ _ _ _ _ _ _ _ _ _ _ _ _ _ _ _ _ _ _ _ _ _ _ _ _ _ _ _ _ _ _ _ _ _ _ _ _ _ _ _ _ _ _ _ _ _ _ _ _ _ _ _ _ _ _ _ _ _ _ _ _ _ _ _ _ _ _ _ _ _ _ _ _ _ _ _ _ _ _ _ _ _ _ _ _ _ _ _ _ _ _ _ _ _ _ _ _ _ _ _ _ _ _ _ _ _ _ _ _ _ _ _ _ _ _ _ _ _ _ _ _ _ _ _ _ _ _ _ _ _ _ _ _ _ _ _ _ _ _ _ _ _ _ _ _ _ _ _ _ _ _ _ _ _ _ _ _ _ _ _ _ _ _ _ _ _ _ _ _ _ _ _ _ _ _ _ _ _ _ _ _ _ _ _ _ _ _ _ _ _ _ _ _ _ _ _ _ _ _ _ _ _ _ _ _ _ _ _ _ _ _ _ _ _ _ _ _ _ _ _ _ _ _ _ _ _ _ _ _ _ _ _ _ _ _ _ _ _ _ _ _ _ _ _ _ _ _ _ _ _ _ _ _ _ _ _ _ _ _ _ _ _ _ _ _ _ _ _ _ _ _ _ _ _ _ _ _ _ _ _ _ _ _ _ _ _ _ _ _ hK hR hD
    · have e1 : stepI m.funs T ⟨nameOf 9, d, a, b, imm⟩ x s = { s with out := s.out ++ [av] } := by
        rw [← hva]
        rw [flow_step (i := ⟨nameOf 9, d, a, b, imm⟩) m.funs rfl]; unfold flowP
        rw [if_neg (show ¬ nameOf 9 = tickT by decide), if_pos (show nameOf 9 = printT from rfl)]; unfold printM; rw [if_neg hl]
      rw [e1] at hP hok2
      exact sw_print H hT hnf hMs av d a b imm hl jt n17 hins hP hok2 H.ov _ _ _ _ _ _ _ _ _ _ _ _ _ _ _ _ _ _ _ _ _ _ _ _ _ _ _ _ _ _ _ _ _ _ _ _ _ _ _ _ _ _ _ _ _ _ _ _ _ _ _ _ _ _ _ _ _ _ _ _ _ _ _ _ _ _ _ _ _ _ _ _ _ _ _ _ _ _ _ _ _ _ _ _ _ _ _ _ _ _ _ _ _ _ _ _ _ _ _ _ _ _ _ _ _ _ _ _ _ _ _ _ _ _ _ _ _ _ _ _ _ _ _ _ _ _ _ _ _ _ _ _ _ _ _ _ _ _ _ _ _ _ _ _ _ _ _ _ _ _ _ _ _ _ _ _ _ _ _ _ _ _ _ _ _ _ _ _ _ _ _ _ _ _ _ _ _ _ _ _ _ _ _ _ _ _ _ _ _ _ _ _ _ _ _ _ _ _ _ _ _ _ _ _ _ _ _ _ _ _ _ _ _ _ _ _ _ _ _ _ _ _ _ _ _ _ _ _ _ _ _ _ _ _ _ _ _ _ _ _ _ _ _ _ _ _ _ _ _ _ _ _ _ _ _ _ _ _ _ _ _ _ _ _ _ _ _ _ _ _ _ _ _ _ _ _ _ _ _ _ _ _ _ _ _ _ _ _ _ _ _ _ _ _ _ _ _ _ _ _ _ _ _ _ _ _ _ _ _ _ _ _ _ _ _ _ _ _ _ _ _ _ _ _ _ _ _ _ _ _ _ _ _ _ _ _ _ _ _ _ _ _ _ _ _ _ _ _ _ _ _ _ _ _ _ _ _ _ _ _ _ _ _ _ hK hR hD
  | 10, _ =>
    have hj := hjump (.inl rfl)
    obtain ⟨n, rfl⟩ : ∃ n : Nat, imm = n := ⟨imm.toNat, by omega⟩
    have e1 : stepI m.funs T ⟨nameOf 10, d, a, b, n⟩ x s = topM { x with pc := n } s := by
      rw [flow_step (i := ⟨nameOf 10, d, a, b, n⟩) m.funs rfl]; unfold flowP
      rw [if_neg (show ¬ nameOf 10 = tickT by decide), if_neg (show ¬ nameOf 10 = printT by decide), if_pos (show nameOf 10 = jumpT from rfl)]
      rfl
    rw [e1] at hP hok2
    exact sw_jump H hT hnf hMs av d a b n jt n17 hins hP hok2 H.ov _ _ _ _ _ _ _ _ _ _ _ _ _ _ _ _ _ _ _ _ _ _ _ _ _ _ _ _ _ _ _ _ _ _ _ _ _ _ _ _ _ _ _ _ _ _ _ _ _ _ _ _ _ _ _ _ _ _ _ _ _ _ _ _ _ _ _ _ _ _ _ _ _ _ _ _ _ _ _ _ _ _ _ _ _ _ _ _ _ _ _ _ _ _ _ _ _ _ _ _ _ _ _ _ _ _ _ _ _ _ _ _ _ _ _ _ _ _ _ _ _ _ _ _ _ _ _ _ _ _ _ _ _ _ _ _ _ _ _ _ _ _ _ _ _ _ _ _ _ _ _ _ _ _ _ _ _ _ _ _ _ _ _ _ _ _ _ _ _ _ _ _ _ _ _ _ _ _ _ _ _ _ _ _ _ _ _ _ _ _ _ _ _ _ _ _ _ _ _ _ _ _ _ _ _ _ _ _ _ _ _ _ _ _ _ _ _ _ _ _ _ _ _ _ _ _ _ _ _ _ _ _ _ _ _ _ _ _ _ _ _ _ _ _ _ _ _ _ _ _ _ _ _ _ _ _ _ _ _ _ _ _ _ _ _ _ _ _ _ _ _ _ _ _ _ _ _ _ _ _ _ _ _ _ _ _ _ _ _ _ _ _ _ _ _ _ _ _ _ _ _ _ _ _ _ _ _ _ _ _ _ _ _ _ _ _ _ _ _ _ _ _ _ _ _ _ _ _ _ _ _ _ _ _ _ _ _ _ _ _ _ _ _ _ _ _ _ _ _ _ _ _ _ _ _ _ _ _ _ _ _ _ _ _ hK hR hD
  | 11, _ =>
    have hj := hjump (.inr rfl)
    obtain ⟨n, rfl⟩ : ∃ n : Nat, imm = n := ⟨imm.toNat, by omega⟩
    by_cases hz : av = 0
    · have e1 : stepI m.funs T ⟨nameOf 11, d, a, b, n⟩ x s = s := by
        rw [flow_step (i := ⟨nameOf 11, d, a, b, n⟩) m.funs rfl]; unfold flowP
        rw [if_neg (show ¬ nameOf 11 = tickT by decide), if_neg (show ¬ nameOf 11 = printT by decide), if_neg (show ¬ nameOf 11 = jumpT by decide), if_pos (show nameOf 11 = ifT from rfl)]
        rw [if_pos (show regM x (a : Int) = 0 from hva.trans hz)]
      rw [e1] at hP hok2
      exact sw_if_no H hT hnf hMs av d a b n (by simp [hz]) jt n17 hins hP hok2 H.ov _ _ _ _ _ _ _ _ _ _ _ _ _ _ _ _ _ _ _ _ _ _ _ _ _ _ _ _ _ _ _ _ _ _ _ _ _ _ _ _ _ _ _ _ _ _ _ _ _ _ _ _ _ _ _ _ _ _ _ _ _ _ _ _ _ _ _ _ _ _ _ _ _ _ _ _ _ _ _ _ _ _ _ _ _ _ _ _ _ _ _ _ _ _ _ _ _ _ _ _ _ _ _ _ _ _ _ _ _ _ _ _ _ _ _ _ _ _ _ _ _ _ _ _ _ _ _ _ _ _ _ _ _ _ _ _ _ _ _ _ _ _ _ _ _ _ _ _ _ _ _ _ _ _ _ _ _ _ _ _ _ _ _ _ _ _ _ _ _ _ _ _ _ _ _ _ _ _ _ _ _ _ _ _ _ _ _ _ _ _ _ _ _ _ _ _ _ _ _ _ _ _ _ _ _ _ _ _ _ _ _ _ _ _ _ _ _ _ _ _ _ _ _ _ _ _ _ _ _ _ _ _ _ _ _ _ _ _ _ _ _ _ _ _ _ _ _ _ _ _ _ _ _ _ _ _ _ _ _ _ _ _ _ _ _ _ _ _ _ _ _ _ _ _ _ _ _ _ _ _ _ _ _ _ _ _ _ _ _ _ _ _ _ _ _ _ _ _ _ _ _ _ _ _ _ _ _ _ _ _ _ _ _ _ _ _ _ _ _ _ _ _ _ _ _ _ _ _ _ _ _ _ _ _ _ _ _ _ _ _ _ _ _ _ _ _ _ _ _ _ _ _ _ _ _ _ _ _ _ _ _ _ _ _ hK hR hD
    · have e1 : stepI m.funs T ⟨nameOf 11, d, a, b, n⟩ x s = topM { x with pc := n } s := by
        rw [flow_step (i := ⟨nameOf 11, d, a, b, n⟩) m.funs rfl]; unfold flowP
        rw [if_neg (show ¬ nameOf 11 = tickT by decide), if_neg (show ¬ nameOf 11 = printT by decide), if_neg (show ¬ nameOf 11 = jumpT by decide), if_pos (show nameOf 11 = ifT from rfl)]
        rw [if_neg (show ¬ regM x (a : Int) = 0 from fun e => hz (hva.symm.trans e))]
        rfl
      rw [e1] at hP hok2
      exact sw_if_yes H hT hnf hMs av d a b n (by simpa using hz) jt n17 hins hP hok2 H.ov _ _ _ _ _ _ _ _ _ _ _ _ _ _ _ _ _ _ _ _ _ _ _ _ _ _ _ _ _ _ _ _ _ _ _ _ _ _ _ _ _ _ _ _ _ _ _ _ _ _ _ _ _ _ _ _ _ _ _ _ _ _ _ _ _ _ _ _ _ _ _ _ _ _ _ _ _ _ _ _ _ _ _ _ _ _ _ _ _ _ _ _ _ _ _ _ _ _ _ _ _ _ _ _ _ _ _ _ _ _ _ _ _ _ _ _ _ _ _ _ _ _ _ _ _ _ _ _ _ _ _ _ _ _ _ _ _ _ _ _ _ _ _ _ _ _ _ _ _ _ _ _ _ _ _ _ _ _ _ _ _ _ _ _ _ _ _ _ _ _ _ _ _ _ _ _ _ _ _ _ _ _ _ _ _ _ _ _ _ _ _ _ _ _ _ _ _ _ _ _ _ _ _ _ _ _ _ _ _ _ _ _ _ _ _ _ _ _ _ _ _ _ _ _ _ _ _ _ _ _ _ _ _ _ _ _ _ _ _ _ _ _ _ _ _ _ _ _ _ _ _ _ _ _ _ _ _ _ _ _ _ _ _ _ _ _ _ _ _ _ _ _ _ _ _ _ _ _ _ _ _ _ _ _ _ _ _ _ _ _ _ _ _ _ _ _ _ _ _ _ _ _ _ _ _ _ _ _ _ _ _ _ _ _ _ _ _ _ _ _ _ _ _ _ _ _ _ _ _ _ _ _ _ _ _ _ _ _ _ _ _ _ _ _ _ _ _ _ _ _ _ _ _ _ _ _ _ _ _ _ _ _ _ _ hK hR hD
  | 12, _ =>
    have e0 : stepI m.funs T ⟨nameOf 12, d, a, b, imm⟩ x s = backM av s := by
      rw [← hva]
      rw [flow_step (i := ⟨nameOf 12, d, a, b, imm⟩) m.funs rfl]; unfold flowP
      rw [if_neg (show ¬ nameOf 12 = tickT by decide), if_neg (show ¬ nameOf 12 = printT by decide), if_neg (show ¬ nameOf 12 = jumpT by decide), if_neg (show ¬ nameOf 12 = ifT by decide), if_pos (show nameOf 12 = returnT from rfl)]
    rcases List.eq_nil_or_concat cs with hcs | ⟨cs', y, hcs⟩
    · have e1 : stepI m.funs T ⟨nameOf 12, d, a, b, imm⟩ x s = { s with calls := [], how := doneT, val := av } := by
        rw [e0]; unfold backM; rw [H.cl, hcs]; rfl
      rw [e1] at hP
      rw [run_over (by rfl)] at hP
      exact sw_done H hT hnf hMs av d a b imm hcs jt n17 hins hP _ _ _ _ _ _ _ _ _ _ _ _ _ _ _ _ _ _ _ _ _ _ _ _ _ _ _ _ _ _ _ _ _ _ _ _ _ _ _ _ _ _ _ _ _ _ _ _ _ _ _ _ _ _ _ _ _ _ _ _ _ _ _ _ _ _ _ _ _ _ _ _ _ _ _ _ _ _ _ _ _ _ _ _ _ _ _ _ _ _ _ _ _ _ _ _ _ _ _ _ _ _ _ _ _ _ _ _ _ _ _ _ _ _ _ _ _ _ _ _ _ _ _ _ _ _ _ _ _ _ _ _ _ _ _ _ _ _ _ _ _ _ _ _ _ _ _ _ _ _ _ _ _ _ _ _ _ _ _ _ _ _ _ _ _ _ _ _ _ _ _ _ _ _ _ _ _ _ _ _ _ _ _ _ _ _ _ _ _ _ _ _ _ _ _ _ _ _ _ _ _ _ _ _ _ _ _ _ _ _ _ _ _ _ _ _ _ _ _ _ _ _ _ _ _ _ _ _ _ _ _ _ _ _ _ _ _ _ _ _ _ _ _ _ _ _ _ _ _ _ _ _ _ _ _ _ _ _ _ _ _ _ _ _ _ _ _ _ _ _ _ _ _ _ _ _ _ _ _ _ _ _ _ _ _ _ _ _ _ _ _ _ _ _ _ _ _ _ _ _ _ _ _ _ _ _ _ _ _ _ _ _ _ _ _ _ _ _ _ _ _ _ _ _ _ _ _ _ _ _ _ _ _ _ _ _ _ _ _ _ _ _ _ _ _ _ _ _ _ _ _ _ _ _ _ _ _ _ _ _ _ _ _ _ hK hR hD
    · try rw [List.concat_eq_append] at hcs
      subst hcs
      obtain ⟨ps', p1, hps⟩ := H.rf.pop' H.cl
      subst hps
      have e1 : stepI m.funs T ⟨nameOf 12, d, a, b, imm⟩ x s = topM { y with r := y.r.set x.d av } { s with calls := cs' ++ [y] } := by
        rw [e0]; unfold backM
        have e1 : s.calls.dropLast = cs' ++ [y] := by rw [H.cl]; simp
        have e2 : s.top = x := by unfold PMs.top; rw [H.cl]; simp
        rw [e1, e2, if_neg (by simp)]
        unfold topM
        simp
      have hy : FrOk m y := hMs.calls y (by rw [H.cl]; simp)
      rw [e1] at hP hok2
      exact sw_back H hT hnf hMs av hy.len hx.d (by have := hMs.deep; rw [H.cl] at this; simp at this; omega) d a b imm jt n17 hins hP hok2 H.ov _ _ _ _ _ _ _ _ _ _ _ _ _ _ _ _ _ _ _ _ _ _ _ _ _ _ _ _ _ _ _ _ _ _ _ _ _ _ _ _ _ _ _ _ _ _ _ _ _ _ _ _ _ _ _ _ _ _ _ _ _ _ _ _ _ _ _ _ _ _ _ _ _ _ _ _ _ _ _ _ _ _ _ _ _ _ _ _ _ _ _ _ _ _ _ _ _ _ _ _ _ _ _ _ _ _ _ _ _ _ _ _ _ _ _ _ _ _ _ _ _ _ _ _ _ _ _ _ _ _ _ _ _ _ _ _ _ _ _ _ _ _ _ _ _ _ _ _ _ _ _ _ _ _ _ _ _ _ _ _ _ _ _ _ _ _ _ _ _ _ _ _ _ _ _ _ _ _ _ _ _ _ _ _ _ _ _ _ _ _ _ _ _ _ _ _ _ _ _ _ _ _ _ _ _ _ _ _ _ _ _ _ _ _ _ _ _ _ _ _ _ _ _ _ _ _ _ _ _ _ _ _ _ _ _ _ _ _ _ _ _ _ _ _ _ _ _ _ _ _ _ _ _ _ _ _ _ _ _ _ _ _ _ _ _ _ _ _ _ _ _ _ _ _ _ _ _ _ _ _ _ _ _ _ _ _ _ _ _ _ _ _ _ _ _ _ _ _ _ _ _ _ _ _ _ _ _ _ _ _ _ _ _ _ _ _ _ _ _ _ _ _ _ _ _ _ _ _ _ _ _ _ _ _ _ _ _ _ _ _ _ _ _ _ _ _ _ _ _ _ _ _ _ _ _ _ _ _ _ _ _ _ _ _ hK hR hD
  | 13, _ =>
    have e1 : stepI m.funs T ⟨nameOf 13, d, a, b, imm⟩ x s = topM (putM x d (wrap64 (-av))) s := by
      rw [← hva]
      unfold stepI
      rw [if_neg (show ¬ flowB (nameOf 13) = true by decide), if_neg (show ¬ moveB (nameOf 13) = true by decide)]
      unfold sumP
      rw [if_pos (show nameOf 13 = negT from rfl)]
    rw [e1] at hP hok2
    exact sw_neg H hT hnf hMs av d (by omega) a b imm _ rfl jt n17 hins hP hok2 H.ov _ _ _ _ _ _ _ _ _ _ _ _ _ _ _ _ _ _ _ _ _ _ _ _ _ _ _ _ _ _ _ _ _ _ _ _ _ _ _ _ _ _ _ _ _ _ _ _ _ _ _ _ _ _ _ _ _ _ _ _ _ _ _ _ _ _ _ _ _ _ _ _ _ _ _ _ _ _ _ _ _ _ _ _ _ _ _ _ _ _ _ _ _ _ _ _ _ _ _ _ _ _ _ _ _ _ _ _ _ _ _ _ _ _ _ _ _ _ _ _ _ _ _ _ _ _ _ _ _ _ _ _ _ _ _ _ _ _ _ _ _ _ _ _ _ _ _ _ _ _ _ _ _ _ _ _ _ _ _ _ _ _ _ _ _ _ _ _ _ _ _ _ _ _ _ _ _ _ _ _ _ _ _ _ _ _ _ _ _ _ _ _ _ _ _ _ _ _ _ _ _ _ _ _ _ _ _ _ _ _ _ _ _ _ _ _ _ _ _ _ _ _ _ _ _ _ _ _ _ _ _ _ _ _ _ _ _ _ _ _ _ _ _ _ _ _ _ _ _ _ _ _ _ _ _ _ _ _ _ _ _ _ _ _ _ _ _ _ _ _ _ _ _ _ _ _ _ _ _ _ _ _ _ _ _ _ _ _ _ _ _ _ _ _ _ _ _ _ _ _ _ _ _ _ _ _ _ _ _ _ _ _ _ _ _ _ _ _ _ _ _ _ _ _ _ _ _ _ _ _ _ _ _ _ _ _ _ _ _ _ _ _ _ _ _ _ _ _ _ _ _ _ _ _ _ _ _ _ _ _ _ _ _ _ hK hR hD
  | 14, _ =>
    have e1 : stepI m.funs T ⟨nameOf 14, d, a, b, imm⟩ x s = topM (putM x d (bitV (av == 0))) s := by
      rw [← hva]
      unfold stepI
      rw [if_neg (show ¬ flowB (nameOf 14) = true by decide), if_neg (show ¬ moveB (nameOf 14) = true by decide)]
      unfold sumP
      rw [if_neg (show ¬ nameOf 14 = negT by decide), if_pos (show nameOf 14 = notT from rfl)]
    rw [e1] at hP hok2
    exact sw_not H hT hnf hMs av d (by omega) a b imm _ rfl jt n17 hins hP hok2 H.ov _ _ _ _ _ _ _ _ _ _ _ _ _ _ _ _ _ _ _ _ _ _ _ _ _ _ _ _ _ _ _ _ _ _ _ _ _ _ _ _ _ _ _ _ _ _ _ _ _ _ _ _ _ _ _ _ _ _ _ _ _ _ _ _ _ _ _ _ _ _ _ _ _ _ _ _ _ _ _ _ _ _ _ _ _ _ _ _ _ _ _ _ _ _ _ _ _ _ _ _ _ _ _ _ _ _ _ _ _ _ _ _ _ _ _ _ _ _ _ _ _ _ _ _ _ _ _ _ _ _ _ _ _ _ _ _ _ _ _ _ _ _ _ _ _ _ _ _ _ _ _ _ _ _ _ _ _ _ _ _ _ _ _ _ _ _ _ _ _ _ _ _ _ _ _ _ _ _ _ _ _ _ _ _ _ _ _ _ _ _ _ _ _ _ _ _ _ _ _ _ _ _ _ _ _ _ _ _ _ _ _ _ _ _ _ _ _ _ _ _ _ _ _ _ _ _ _ _ _ _ _ _ _ _ _ _ _ _ _ _ _ _ _ _ _ _ _ _ _ _ _ _ _ _ _ _ _ _ _ _ _ _ _ _ _ _ _ _ _ _ _ _ _ _ _ _ _ _ _ _ _ _ _ _ _ _ _ _ _ _ _ _ _ _ _ _ _ _ _ _ _ _ _ _ _ _ _ _ _ _ _ _ _ _ _ _ _ _ _ _ _ _ _ _ _ _ _ _ _ _ _ _ _ _ _ _ _ _ _ _ _ _ _ _ _ _ _ _ _ _ _ _ _ _ _ _ _ _ _ _ _ _ _ _ hK hR hD
  | j + 15, hk =>
    have hj : j < 14 := by omega
    have e1 := step_two (T := T) (s := s) (x := x) m.funs j hj d a b imm
    rw [hva] at e1
    have hn := name_not j hj
    have hne : ∀ k, k < 15 → ((mkB (nameOf (j + 15))).toList == nameOf k) = false := fun k hk => by rw [mkB_toList]; exact beq_eq_false_iff_ne.2 (hn k hk)
    rw [e1] at hP hok2
    exact sw_two H hT hnf hMs av hav (nameOf (j + 15)) j hj (find_two j hj) (hne 0 (by omega)) (hne 1 (by omega)) (hne 2 (by omega)) (hne 3 (by omega)) (hne 4 (by omega)) (hne 5 (by omega)) (hne 6 (by omega)) (hne 7 (by omega)) (hne 8 (by omega)) (hne 9 (by omega)) (hne 10 (by omega)) (hne 11 (by omega)) (hne 12 (by omega)) (hne 13 (by omega)) (hne 14 (by omega)) d (by omega) a b (by omega) imm _ rfl jt n17 hins hP hok2 H.ov _ _ _ _ _ _ _ _ _ _ _ _ _ _ _ _ _ _ _ _ _ _ _ _ _ _ _ _ _ _ _ _ _ _ _ _ _ _ _ _ _ _ _ _ _ _ _ _ _ _ _ _ _ _ _ _ _ _ _ _ _ _ _ _ _ _ _ _ _ _ _ _ _ _ _ _ _ _ _ _ _ _ _ _ _ _ _ _ _ _ _ _ _ _ _ _ _ _ _ _ _ _ _ _ _ _ _ _ _ _ _ _ _ _ _ _ _ _ _ _ _ _ _ _ _ _ _ _ _ _ _ _ _ _ _ _ _ _ _ _ _ _ _ _ _ _ _ _ _ _ _ _ _ _ _ _ _ _ _ _ _ _ _ _ _ _ _ _ _ _ _ _ _ _ _ _ _ _ _ _ _ _ _ _ _ _ _ _ _ _ _ _ _ _ _ _ _ _ _ _ _ _ _ _ _ _ _ _ _ _ _ _ _ _ _ _ _ _ _ _ _ _ _ _ _ _ _ _ _ _ _ _ _ _ _ _ _ _ _ _ _ _ _ _ _ _ _ _ _ _ _ _ _ _ _ _ _ _ _ _ _ _ _ _ _ _ _ _ _ _ _ _ _ _ _ _ _ _ _ _ _ _ _ _ _ _ _ _ _ _ _ _ _ _ _ _ _ _ _ _ _ _ _ _ _ _ _ _ _ _ _ _ _ _ _ _ _ _ _ _ _ _ _ _ _ _ _ _ _ _ _ _ _ _ _ _ _ _ _ _ _ _ _ _ _ _ _ _ _ _ _ _ _ _ _ _ _ _ _ _ _ _ _ _ hK hR hD
end
end Go.Proofs.YtonnhechjbdenaaGreatDoor

namespace Go.Proofs.YtonnhechjbdenaaGreatDoor
open Go.RowKit

/-! the reference's machine: the rest of a round (printed by gen_rfp.py) -/
section
variable {m : PImg} {A : Option Addr} {cf : Nat} {B : Option Addr} {cw mb T most b0 rb left : Nat} {P : Option PMs} {s s2 : PMs} {v u : Value} {fbs : List (Nat × Nat)} {nx : List Int} {wA w : World} {K : Act → World → Prop} {QQ : Exit → Act → World → Prop} {Q : Ending → World → Prop}
theorem put5_below {n : Nat} {w0 w : World} {q : Nat} {v0 v1 v2 v3 v4 : Value} (h : Below n w0 w) (hq : n ≤ q) : Below n w0 (((((w.setCell ⟨q, 0, none⟩ v0).setCell ⟨q, 1, none⟩ v1).setCell ⟨q, 2, none⟩ v2).setCell ⟨q, 3, none⟩ v3).setCell ⟨q, 4, none⟩ v4) :=
  ((((h.setCell hq _).setCell hq _).setCell hq _).setCell hq _).setCell hq _
theorem put5_cell {w : World} {q : Nat} {v0 v1 v2 v3 v4 x : Value} {a : Addr} (h : a.block < q) (hx : w.cell? a = some x) : (((((w.setCell ⟨q, 0, none⟩ v0).setCell ⟨q, 1, none⟩ v1).setCell ⟨q, 2, none⟩ v2).setCell ⟨q, 3, none⟩ v3).setCell ⟨q, 4, none⟩ v4).cell? a = some x :=
  (World.cell?_of_block ((put5_below (Below.refl q w) (Nat.le_refl _)).block _ h)).trans hx
theorem below_drewR {n : Nat} {a w : World} (h : Below n a w) : Below n a w.drew := below_drewN h 1
theorem cell_drewR {w : World} {a : Addr} {x : Value} (h : w.cell? a = some x) : w.drew.cell? a = some x := h
/-- The block that an alloc made, in a world further on. -/
theorem alloc_blockR {w w' W : World} {o : Obj} (hW : W.heap = (w.alloc o).heap) (hb : Below W.heap.size W w') : w'.heap[w.heap.size]? = (w.alloc o).heap[w.heap.size]? := by
  rw [hb.block w.heap.size (by rw [hW]; simp), hW]
theorem cell_allocR {w : World} {o : Obj} {a : Addr} {x : Value} (h : w.cell? a = some x) : (w.alloc o).cell? a = some x := Keeps.alloc _ _ _ _ h
theorem cell_belowR {w w' : World} {a : Addr} {x : Value} (hb : Below w.heap.size w w') (h : w.cell? a = some x) : w'.cell? a = some x := Keeps.of_below hb _ _ h
theorem put5_row {w : World} {q : Nat} {a0 a1 a2 a3 a4 v0 v1 v2 v3 v4 : Value} {T : TypeId} {fz : Nat × Nat} (h : w.heap[q]? = some (.cells #[a0, a1, a2, a3, a4] T fz)) :
    (((((w.setCell ⟨q, 0, none⟩ v0).setCell ⟨q, 1, none⟩ v1).setCell ⟨q, 2, none⟩ v2).setCell ⟨q, 3, none⟩ v3).setCell ⟨q, 4, none⟩ v4).heap[q]? = some (.cells #[v0, v1, v2, v3, v4] T fz) :=
  row_set (j := 4) v4 (row_set (j := 3) v3 (row_set (j := 2) v2 (row_set (j := 1) v1 (row_set (j := 0) v0 h rfl) rfl) rfl) rfl) (by simp)

set_option maxHeartbeats 64000000 in
set_option maxRecDepth 1000000 in
theorem rest_long (H : PdAt m A cf B cw mb b0 rb s v u fbs nx wA w) (hT : T ≤ 5000) (hmost : most ≤ 1000000) (k : Nat) (jt : Int) (hk : k = most) (hP : P = none)
    (x0 x1 x2 x6 x7 x8 x9 x15 x18 x19 x20 x21 x22 x23 x24 x25 x26 x27 x28 x29 x30 x31 x32 x33 x34 x35 x36 x37 x38 x39 x40 x41 x42 x43 x44 x45 x46 x47 x48 x49 x50 x51 x52 x53 x54 x55 x56 x57 x58 x59 x60 x61 x62 x63 x64 x65 x66 x67 x68 x69 x70 x71 x72 x73 x74 x75 x76 x77 x78 x79 x80 x81 x82 x83 x84 x85 x86 x87 x88 x89 x90 x91 x92 x93 x94 x95 x96 x97 x98 x99 zZ zY zX zW zV zU zT zS zR zQ zP zO zN zM zL zK zJ zI zH zG zF zE zD zC zB zA yZ yY yX yW yV yU yT yS yR yQ yP yO yN yM yL yK yJ yI yH yG yF yE yD yC yB yA xZ xY xX xW xV xU xS xR xQ xP xO xN xM xL xK xJ xI xH xG xF xE xD xC xB xA wZ wY wX wW wV wU wQ wN wM wK wJ wH wG wE wD vZ vY vX vV vU vT vS vR vQ vP vN vM vK vJ vI vH vA uZ uY uX uV uU uT uS uR uQ uP uO uN uM uL uK uJ uI uH uG uF uD uC uB uA tZ tY tX tW tV tU tT tS tR tQ tP tO tN tM tL tK tJ tI tH tG tF tE tD tC tB tA sZ sY sX sW sV sU sT sS sR sQ sP sO sN sM sL sK sJ sI sG sF sE sD sC sB sA rZ rY rX rW rV rU rT rS rR rQ rP rO rN rM rL rK rJ rI rH rG rF rE rD rC rB rA qZ qY qX qW qV qU qT qR qQ qP qO qN qM qL qK qJ qI qH qG qF qE qD qC qA pZ pY pX pW pV pU pT pS pR pQ pP pO pN pM pL pK pJ pI pH pG pF pE pD pC pB pA oZ oY oX oW oV oU oT oS oR oQ oP oO oN oM oL oK oJ : Value)
    (hK : ∀ (y12 y13 y16 y18 y19 y20 y21 y22 y23 y38 y39 y40 y41 y42 y43 y44 y45 y46 y47 y48 y49 y50 y51 y52 y53 y54 y55 y56 y57 y58 y59 y60 y61 y62 y63 y64 y65 y66 y67 y68 y69 y70 y71 y72 y73 y74 y75 y76 y77 y78 y79 y80 y81 y82 y83 y84 y85 y86 y87 y88 y89 y90 y91 y92 y93 y94 y95 y96 y97 y98 y99 oI oH oG oF oE oD oC oB oA nZ nY nX nV nU nT nS nR nQ nP nO nN nM nL nK nJ nI nH nG nF nD nC mZ mY mX mW mV mT mS mQ mP mO mN mM mL mK mJ mI mH mG mF mD mC mB mA lZ lY lX lW lV lU lT lS lR lQ lP lO lN lM lL lK lJ lI lH lG lF lE lD lC lB lA kZ kY kX kW kV kU kT kS kR kQ kP kO kN kM kL kK kJ kI kH kG kF kE kD kC kB kA jZ jY jX jW jV jU jT jS jR jQ jP jO jN jM jL jK jJ jI jH jG jF jE jD jC jB jA iZ iY iX iW iV iU iT iS iR iQ iP iO iN iM iL iK iJ iI iH iG iF iE iD iC iB iA hZ hY hV hU hO hH gZ gY gX gW gV gU gT gS gR gQ gP gO gN gL gK gJ gI gH gG gF gE gC fZ fY fX fW fV fU fT fS fR fQ fP fO fN fM fL fK fJ fI fH fG fF fE fD fC fB fA eZ eY eX eW eV eU eT eS eR eQ eP eO eN eM eL eK eJ eI eH eG eF eE eD eC eB eA dZ dY dX dW dV dU dT dS dR dQ dP dO dN dM dL dK dJ dI dH dG dF dE dD dC dA cZ cY cX cW cV cU cT cS cQ cP cN cM : Value) (w' : World), k < most → HeadAt m mb T (most - (k + 1)) P y12 y13 y16 w' → Below mb wA w' → QQ .normal ⟨#[x0, x1, x2, .int .i64 T, .int .i64 most, .pointer (some ⟨b0, 0, none⟩), x6, x7, x8, x9, .pointer (some ⟨rb, 0, none⟩), .pointer (some ⟨mb, 0, none⟩), y12, y13, .pointer (some ⟨mb + 1, 0, none⟩), x15, y16, .int .i64 k, y18, y19, y20, y21, y22, y23, x24, x25, x26, x27, x28, x29, x30, x31, x32, x33, x34, x35, x36, x37, y38, y39, y40, y41, y42, y43, y44, y45, y46, y47, y48, y49, y50, y51, y52, y53, y54, y55, y56, y57, y58, y59, y60, y61, y62, y63, y64, y65, y66, y67, y68, y69, y70, y71, y72, y73, y74, y75, y76, y77, y78, y79, y80, y81, y82, y83, y84, y85, y86, y87, y88, y89, y90, y91, y92, y93, y94, y95, y96, y97, y98, y99, oI, oH, oG, oF, oE, oD, oC, oB, oA, nZ, nY, nX, nV, nU, nT, nS, nR, nQ, nP, nO, nN, nM, nL, nK, nJ, nI, nH, nG, nF, nD, nC, mZ, mY, mX, mW, mV, mT, mS, mQ, mP, mO, mN, mM, mL, mK, mJ, mI, mH, mG, mF, mD, mC, mB, mA, lZ, lY, lX, lW, lV, lU, lT, lS, lR, lQ, lP, lO, lN, lM, lL, lK, lJ, lI, lH, lG, lF, lE, lD, lC, lB, lA, kZ, kY, kX, kW, kV, kU, kT, kS, kR, kQ, kP, kO, kN, kM, kL, kK, kJ, kI, kH, kG, kF, kE, kD, kC, kB, kA, jZ, jY, jX, jW, jV, jU, jT, jS, jR, jQ, jP, jO, jN, jM, jL, jK, jJ, jI, jH, jG, jF, jE, jD, jC, jB, jA, iZ, iY, iX, iW, iV, iU, iT, iS, iR, iQ, iP, iO, iN, iM, iL, iK, iJ, iI, iH, iG, iF, iE, iD, iC, iB, iA, hZ, hY, hV, hU, hO, hH, gZ, gY, gX, gW, gV, gU, gT, gS, gR, gQ, gP, gO, gN, gL, gK, gJ, gI, gH, gG, gF, gE, gC, fZ, fY, fX, fW, fV, fU, fT, fS, fR, fQ, fP, fO, fN, fM, fL, fK, fJ, fI, fH, fG, fF, fE, fD, fC, fB, fA, eZ, eY, eX, eW, eV, eU, eT, eS, eR, eQ, eP, eO, eN, eM, eL, eK, eJ, eI, eH, eG, eF, eE, eD, eC, eB, eA, dZ, dY, dX, dW, dV, dU, dT, dS, dR, dQ, dP, dO, dN, dM, dL, dK, dJ, dI, dH, dG, dF, dE, dD, dC, dA, cZ, cY, cX, cW, cV, cU, cT, cS, cQ, cP, cN, cM, oK, oJ], []⟩ w')
    (hE : ∀ (y12 y13 y16 y18 y19 y20 y21 y22 y23 y38 y39 y40 y41 y42 y43 y44 y45 y46 y47 y48 y49 y50 y51 y52 y53 y54 y55 y56 y57 y58 y59 y60 y61 y62 y63 y64 y65 y66 y67 y68 y69 y70 y71 y72 y73 y74 y75 y76 y77 y78 y79 y80 y81 y82 y83 y84 y85 y86 y87 y88 y89 y90 y91 y92 y93 y94 y95 y96 y97 y98 y99 oI oH oG oF oE oD oC oB oA nZ nY nX nV nU nT nS nR nQ nP nO nN nM nL nK nJ nI nH nG nF nD nC mZ mY mX mW mV mT mS mQ mP mO mN mM mL mK mJ mI mH mG mF mD mC mB mA lZ lY lX lW lV lU lT lS lR lQ lP lO lN lM lL lK lJ lI lH lG lF lE lD lC lB lA kZ kY kX kW kV kU kT kS kR kQ kP kO kN kM kL kK kJ kI kH kG kF kE kD kC kB kA jZ jY jX jW jV jU jT jS jR jQ jP jO jN jM jL jK jJ jI jH jG jF jE jD jC jB jA iZ iY iX iW iV iU iT iS iR iQ iP iO iN iM iL iK iJ iI iH iG iF iE iD iC iB iA hZ hY hV hU hO hH gZ gY gX gW gV gU gT gS gR gQ gP gO gN gL gK gJ gI gH gG gF gE gC fZ fY fX fW fV fU fT fS fR fQ fP fO fN fM fL fK fJ fI fH fG fF fE fD fC fB fA eZ eY eX eW eV eU eT eS eR eQ eP eO eN eM eL eK eJ eI eH eG eF eE eD eC eB eA dZ dY dX dW dV dU dT dS dR dQ dP dO dN dM dL dK dJ dI dH dG dF dE dD dC dA cZ cY cX cW cV cU cT cS cQ cP cN cM : Value) (s3 : PMs) (A3 : Option Addr) (c3 : Nat) (f3 : List (Nat × Nat)) (w' : World), RfAt mb s3 (.slice A3 s3.out.length c3) y12 f3 w' → s3.over = false → P.map endO = some (endO (endM stuckT s3)) → Below mb wA w' → QQ (.exit 2) ⟨#[x0, x1, x2, .int .i64 T, .int .i64 most, .pointer (some ⟨b0, 0, none⟩), x6, x7, x8, x9, .pointer (some ⟨rb, 0, none⟩), .pointer (some ⟨mb, 0, none⟩), y12, y13, .pointer (some ⟨mb + 1, 0, none⟩), x15, y16, .int .i64 k, y18, y19, y20, y21, y22, y23, x24, x25, x26, x27, x28, x29, x30, x31, x32, x33, x34, x35, x36, x37, y38, y39, y40, y41, y42, y43, y44, y45, y46, y47, y48, y49, y50, y51, y52, y53, y54, y55, y56, y57, y58, y59, y60, y61, y62, y63, y64, y65, y66, y67, y68, y69, y70, y71, y72, y73, y74, y75, y76, y77, y78, y79, y80, y81, y82, y83, y84, y85, y86, y87, y88, y89, y90, y91, y92, y93, y94, y95, y96, y97, y98, y99, oI, oH, oG, oF, oE, oD, oC, oB, oA, nZ, nY, nX, nV, nU, nT, nS, nR, nQ, nP, nO, nN, nM, nL, nK, nJ, nI, nH, nG, nF, nD, nC, mZ, mY, mX, mW, mV, mT, mS, mQ, mP, mO, mN, mM, mL, mK, mJ, mI, mH, mG, mF, mD, mC, mB, mA, lZ, lY, lX, lW, lV, lU, lT, lS, lR, lQ, lP, lO, lN, lM, lL, lK, lJ, lI, lH, lG, lF, lE, lD, lC, lB, lA, kZ, kY, kX, kW, kV, kU, kT, kS, kR, kQ, kP, kO, kN, kM, kL, kK, kJ, kI, kH, kG, kF, kE, kD, kC, kB, kA, jZ, jY, jX, jW, jV, jU, jT, jS, jR, jQ, jP, jO, jN, jM, jL, jK, jJ, jI, jH, jG, jF, jE, jD, jC, jB, jA, iZ, iY, iX, iW, iV, iU, iT, iS, iR, iQ, iP, iO, iN, iM, iL, iK, iJ, iI, iH, iG, iF, iE, iD, iC, iB, iA, hZ, hY, hV, hU, hO, hH, gZ, gY, gX, gW, gV, gU, gT, gS, gR, gQ, gP, gO, gN, gL, gK, gJ, gI, gH, gG, gF, gE, gC, fZ, fY, fX, fW, fV, fU, fT, fS, fR, fQ, fP, fO, fN, fM, fL, fK, fJ, fI, fH, fG, fF, fE, fD, fC, fB, fA, eZ, eY, eX, eW, eV, eU, eT, eS, eR, eQ, eP, eO, eN, eM, eL, eK, eJ, eI, eH, eG, eF, eE, eD, eC, eB, eA, dZ, dY, dX, dW, dV, dU, dT, dS, dR, dQ, dP, dO, dN, dM, dL, dK, dJ, dI, dH, dG, dF, dE, dD, dC, dA, cZ, cY, cX, cW, cV, cU, cT, cS, cQ, cP, cN, cM, oK, oJ], []⟩ w')
    (hR : ∀ a w', bodyPost Tryz.prog Tryz.f15 Q .ret a w' → QQ .ret a w')
    (hD : ∀ (s3 : PMs) (A3 : Option Addr) (c3 : Nat) (u3 : Value) (f3 : List (Nat × Nat)) (w3 : World), RfAt mb s3 (.slice A3 s3.out.length c3) u3 f3 w3 → P.map endO = some (endO s3) → Below mb wA w3 → Q (.returned (.agg #[.string (mkB s3.how), .int .i64 s3.val, .slice A3 s3.out.length c3, .int .i64 (s3.ticks : Nat)])) ((((w3.setCell ⟨rb, 0, none⟩ (.string (mkB s3.how))).setCell ⟨rb, 1, none⟩ (.int .i64 s3.val)).setCell ⟨rb, 2, none⟩ (.slice A3 s3.out.length c3)).setCell ⟨rb, 3, none⟩ (.int .i64 (s3.ticks : Nat))))
    (hN : ∀ (s3 : PMs) (A3 : Option Addr) (c3 : Nat) (u3 : Value) (f3 : List (Nat × Nat)) (w3 : World), RfAt mb s3 (.slice A3 s3.out.length c3) u3 f3 w3 → s3.how = longT → P = none → Below mb wA w3 → Q (.returned (.agg #[.string (mkB s3.how), .int .i64 s3.val, .slice A3 s3.out.length c3, .int .i64 (s3.ticks : Nat)])) ((((w3.setCell ⟨rb, 0, none⟩ (.string (mkB s3.how))).setCell ⟨rb, 1, none⟩ (.int .i64 s3.val)).setCell ⟨rb, 2, none⟩ (.slice A3 s3.out.length c3)).setCell ⟨rb, 3, none⟩ (.int .i64 (s3.ticks : Nat)))) :
    Code.wp Tryz.prog restC QQ ⟨#[x0, x1, x2, .int .i64 T, .int .i64 most, .pointer (some ⟨b0, 0, none⟩), x6, x7, x8, x9, .pointer (some ⟨rb, 0, none⟩), .pointer (some ⟨mb, 0, none⟩), u, .int .i64 (-1), .pointer (some ⟨mb + 1, 0, none⟩), x15, .int .i64 jt, .int .i64 k, x18, x19, x20, x21, x22, x23, x24, x25, x26, x27, x28, x29, x30, x31, x32, x33, x34, x35, x36, x37, x38, x39, x40, x41, x42, x43, x44, x45, x46, x47, x48, x49, x50, x51, x52, x53, x54, x55, x56, x57, x58, x59, x60, x61, x62, x63, x64, x65, x66, x67, x68, x69, x70, x71, x72, x73, x74, x75, x76, x77, x78, x79, x80, x81, x82, x83, x84, x85, x86, x87, x88, x89, x90, x91, x92, x93, x94, x95, x96, x97, x98, x99, zZ, zY, zX, zW, zV, zU, zT, zS, zR, zQ, zP, zO, zN, zM, zL, zK, zJ, zI, zH, zG, zF, zE, zD, zC, zB, zA, yZ, yY, yX, yW, yV, yU, yT, yS, yR, yQ, yP, yO, yN, yM, yL, yK, yJ, yI, yH, yG, yF, yE, yD, yC, yB, yA, xZ, xY, xX, xW, xV, xU, xS, xR, xQ, xP, xO, xN, xM, xL, xK, xJ, xI, xH, xG, xF, xE, xD, xC, xB, xA, wZ, wY, wX, wW, wV, wU, wQ, wN, wM, wK, wJ, wH, wG, wE, wD, vZ, vY, vX, vV, vU, vT, vS, vR, vQ, vP, vN, vM, vK, vJ, vI, vH, vA, uZ, uY, uX, uV, uU, uT, uS, uR, uQ, uP, uO, uN, uM, uL, uK, uJ, uI, uH, uG, uF, uD, uC, uB, uA, tZ, tY, tX, tW, tV, tU, tT, tS, tR, tQ, tP, tO, tN, tM, tL, tK, tJ, tI, tH, tG, tF, tE, tD, tC, tB, tA, sZ, sY, sX, sW, sV, sU, sT, sS, sR, sQ, sP, sO, sN, sM, sL, sK, sJ, sI, sG, sF, sE, sD, sC, sB, sA, rZ, rY, rX, rW, rV, rU, rT, rS, rR, rQ, rP, rO, rN, rM, rL, rK, rJ, rI, rH, rG, rF, rE, rD, rC, rB, rA, qZ, qY, qX, qW, qV, qU, qT, qR, qQ, qP, qO, qN, qM, qL, qK, qJ, qI, qH, qG, qF, qE, qD, qC, qA, pZ, pY, pX, pW, pV, pU, pT, pS, pR, pQ, pP, pO, pN, pM, pL, pK, pJ, pI, pH, pG, pF, pE, pD, pC, pB, pA, oZ, oY, oX, oW, oV, oU, oT, oS, oR, oQ, oP, oO, oN, oM, oL, oK, oJ], []⟩ w := by
  conv => arg 2; whnf
  obtain ⟨Ao, co, rfl⟩ := own_slice H.rf.out
  obtain ⟨Au, cu, rfl⟩ := own_slice H.rf.calls
  obtain ⟨c0, c1, c2, c3⟩ := row4m H.rf.blk
  rw [H.how] at c0
  have z0 := row_frozen H.rf.blk 0
  have z3 := row_frozen H.rf.blk 3
  obtain ⟨w0, w1, w2, w3⟩ := row4e H.rbk
  have y0 := row_frozen H.rbk 0
  have y1 := row_frozen H.rbk 1
  have y2 := row_frozen H.rbk 2
  have y3 := row_frozen H.rbk 3
  have hne1 : rb ≠ mb := by have := H.low; omega
  have hne2 : mb ≠ rb := by have := H.low; omega
  have HH := Lib.hid H
  have hkmi : ((k : Int) == (most : Int)) = true := by rw [hk]; exact beq_self_eq_true _
  clear H hk
  go_wp2_with fail
  have hk9 : (w.setCell ⟨mb, 0, none⟩ (.string ⟨#[108, 111, 110, 103]⟩)).heap[rb]? = some (.cells #[.string ⟨#[]⟩, .int .i64 0, .slice none 0 0, .int .i64 0] 54 (0, 0)) := (Below.heap_setCell _ _ _ _ hne1).trans HH.out.rbk
  obtain ⟨u0, u1, u2, u3⟩ := row4e (set4m (v0 := .string ⟨#[108, 111, 110, 103]⟩) (v1 := .int .i64 s.val) (v2 := .slice Ao s.out.length co) (v3 := .int .i64 ((s.ticks : Nat))) hk9)
  refine bodyPost_ret (v := .agg #[.string ⟨#[108, 111, 110, 103]⟩, .int .i64 s.val, .slice Ao s.out.length co, .int .i64 ((s.ticks : Nat))]) (by simp [results, Tryz.results15, go_sem, u0, u1, u2, u3]; try rfl) rfl ?_
  exact hN (endM longT s) Ao co _ _ _ (HH.out.rf.store (.string ⟨#[108, 111, 110, 103]⟩) (by unfold ocL Go.Proofs.YtonnhechjbdenaaGreatDoor.endM; simp <;> rfl) rfl rfl) rfl hP (HH.out.bel.trans ((Below.refl mb w).setCell (p := ⟨mb, 0, none⟩) (Nat.le_refl _) _))

set_option maxHeartbeats 64000000 in
set_option maxRecDepth 1000000 in
theorem rest_stuck (H : PdAt m A cf B cw mb b0 rb s v u fbs nx wA w) (hT : T ≤ 5000) (hmost : most ≤ 1000000) (k : Nat) (jt : Int) (hkm : k < most) (cs : List PFr) (x : PFr) (hcl : s.calls = cs ++ [x]) (hx : FrOk m x) (hMs : MsOk m T s) (hpc : m.words.length ≤ x.pc) (hP : P = some (endM stuckT s))
    (x0 x1 x2 x6 x7 x8 x9 x15 x18 x19 x20 x21 x22 x23 x24 x25 x26 x27 x28 x29 x30 x31 x32 x33 x34 x35 x36 x37 x38 x39 x40 x41 x42 x43 x44 x45 x46 x47 x48 x49 x50 x51 x52 x53 x54 x55 x56 x57 x58 x59 x60 x61 x62 x63 x64 x65 x66 x67 x68 x69 x70 x71 x72 x73 x74 x75 x76 x77 x78 x79 x80 x81 x82 x83 x84 x85 x86 x87 x88 x89 x90 x91 x92 x93 x94 x95 x96 x97 x98 x99 zZ zY zX zW zV zU zT zS zR zQ zP zO zN zM zL zK zJ zI zH zG zF zE zD zC zB zA yZ yY yX yW yV yU yT yS yR yQ yP yO yN yM yL yK yJ yI yH yG yF yE yD yC yB yA xZ xY xX xW xV xU xS xR xQ xP xO xN xM xL xK xJ xI xH xG xF xE xD xC xB xA wZ wY wX wW wV wU wQ wN wM wK wJ wH wG wE wD vZ vY vX vV vU vT vS vR vQ vP vN vM vK vJ vI vH vA uZ uY uX uV uU uT uS uR uQ uP uO uN uM uL uK uJ uI uH uG uF uD uC uB uA tZ tY tX tW tV tU tT tS tR tQ tP tO tN tM tL tK tJ tI tH tG tF tE tD tC tB tA sZ sY sX sW sV sU sT sS sR sQ sP sO sN sM sL sK sJ sI sG sF sE sD sC sB sA rZ rY rX rW rV rU rT rS rR rQ rP rO rN rM rL rK rJ rI rH rG rF rE rD rC rB rA qZ qY qX qW qV qU qT qR qQ qP qO qN qM qL qK qJ qI qH qG qF qE qD qC qA pZ pY pX pW pV pU pT pS pR pQ pP pO pN pM pL pK pJ pI pH pG pF pE pD pC pB pA oZ oY oX oW oV oU oT oS oR oQ oP oO oN oM oL oK oJ : Value)
    (hK : ∀ (y12 y13 y16 y18 y19 y20 y21 y22 y23 y38 y39 y40 y41 y42 y43 y44 y45 y46 y47 y48 y49 y50 y51 y52 y53 y54 y55 y56 y57 y58 y59 y60 y61 y62 y63 y64 y65 y66 y67 y68 y69 y70 y71 y72 y73 y74 y75 y76 y77 y78 y79 y80 y81 y82 y83 y84 y85 y86 y87 y88 y89 y90 y91 y92 y93 y94 y95 y96 y97 y98 y99 oI oH oG oF oE oD oC oB oA nZ nY nX nV nU nT nS nR nQ nP nO nN nM nL nK nJ nI nH nG nF nD nC mZ mY mX mW mV mT mS mQ mP mO mN mM mL mK mJ mI mH mG mF mD mC mB mA lZ lY lX lW lV lU lT lS lR lQ lP lO lN lM lL lK lJ lI lH lG lF lE lD lC lB lA kZ kY kX kW kV kU kT kS kR kQ kP kO kN kM kL kK kJ kI kH kG kF kE kD kC kB kA jZ jY jX jW jV jU jT jS jR jQ jP jO jN jM jL jK jJ jI jH jG jF jE jD jC jB jA iZ iY iX iW iV iU iT iS iR iQ iP iO iN iM iL iK iJ iI iH iG iF iE iD iC iB iA hZ hY hV hU hO hH gZ gY gX gW gV gU gT gS gR gQ gP gO gN gL gK gJ gI gH gG gF gE gC fZ fY fX fW fV fU fT fS fR fQ fP fO fN fM fL fK fJ fI fH fG fF fE fD fC fB fA eZ eY eX eW eV eU eT eS eR eQ eP eO eN eM eL eK eJ eI eH eG eF eE eD eC eB eA dZ dY dX dW dV dU dT dS dR dQ dP dO dN dM dL dK dJ dI dH dG dF dE dD dC dA cZ cY cX cW cV cU cT cS cQ cP cN cM : Value) (w' : World), k < most → HeadAt m mb T (most - (k + 1)) P y12 y13 y16 w' → Below mb wA w' → QQ .normal ⟨#[x0, x1, x2, .int .i64 T, .int .i64 most, .pointer (some ⟨b0, 0, none⟩), x6, x7, x8, x9, .pointer (some ⟨rb, 0, none⟩), .pointer (some ⟨mb, 0, none⟩), y12, y13, .pointer (some ⟨mb + 1, 0, none⟩), x15, y16, .int .i64 k, y18, y19, y20, y21, y22, y23, x24, x25, x26, x27, x28, x29, x30, x31, x32, x33, x34, x35, x36, x37, y38, y39, y40, y41, y42, y43, y44, y45, y46, y47, y48, y49, y50, y51, y52, y53, y54, y55, y56, y57, y58, y59, y60, y61, y62, y63, y64, y65, y66, y67, y68, y69, y70, y71, y72, y73, y74, y75, y76, y77, y78, y79, y80, y81, y82, y83, y84, y85, y86, y87, y88, y89, y90, y91, y92, y93, y94, y95, y96, y97, y98, y99, oI, oH, oG, oF, oE, oD, oC, oB, oA, nZ, nY, nX, nV, nU, nT, nS, nR, nQ, nP, nO, nN, nM, nL, nK, nJ, nI, nH, nG, nF, nD, nC, mZ, mY, mX, mW, mV, mT, mS, mQ, mP, mO, mN, mM, mL, mK, mJ, mI, mH, mG, mF, mD, mC, mB, mA, lZ, lY, lX, lW, lV, lU, lT, lS, lR, lQ, lP, lO, lN, lM, lL, lK, lJ, lI, lH, lG, lF, lE, lD, lC, lB, lA, kZ, kY, kX, kW, kV, kU, kT, kS, kR, kQ, kP, kO, kN, kM, kL, kK, kJ, kI, kH, kG, kF, kE, kD, kC, kB, kA, jZ, jY, jX, jW, jV, jU, jT, jS, jR, jQ, jP, jO, jN, jM, jL, jK, jJ, jI, jH, jG, jF, jE, jD, jC, jB, jA, iZ, iY, iX, iW, iV, iU, iT, iS, iR, iQ, iP, iO, iN, iM, iL, iK, iJ, iI, iH, iG, iF, iE, iD, iC, iB, iA, hZ, hY, hV, hU, hO, hH, gZ, gY, gX, gW, gV, gU, gT, gS, gR, gQ, gP, gO, gN, gL, gK, gJ, gI, gH, gG, gF, gE, gC, fZ, fY, fX, fW, fV, fU, fT, fS, fR, fQ, fP, fO, fN, fM, fL, fK, fJ, fI, fH, fG, fF, fE, fD, fC, fB, fA, eZ, eY, eX, eW, eV, eU, eT, eS, eR, eQ, eP, eO, eN, eM, eL, eK, eJ, eI, eH, eG, eF, eE, eD, eC, eB, eA, dZ, dY, dX, dW, dV, dU, dT, dS, dR, dQ, dP, dO, dN, dM, dL, dK, dJ, dI, dH, dG, dF, dE, dD, dC, dA, cZ, cY, cX, cW, cV, cU, cT, cS, cQ, cP, cN, cM, oK, oJ], []⟩ w')
    (hE : ∀ (y12 y13 y16 y18 y19 y20 y21 y22 y23 y38 y39 y40 y41 y42 y43 y44 y45 y46 y47 y48 y49 y50 y51 y52 y53 y54 y55 y56 y57 y58 y59 y60 y61 y62 y63 y64 y65 y66 y67 y68 y69 y70 y71 y72 y73 y74 y75 y76 y77 y78 y79 y80 y81 y82 y83 y84 y85 y86 y87 y88 y89 y90 y91 y92 y93 y94 y95 y96 y97 y98 y99 oI oH oG oF oE oD oC oB oA nZ nY nX nV nU nT nS nR nQ nP nO nN nM nL nK nJ nI nH nG nF nD nC mZ mY mX mW mV mT mS mQ mP mO mN mM mL mK mJ mI mH mG mF mD mC mB mA lZ lY lX lW lV lU lT lS lR lQ lP lO lN lM lL lK lJ lI lH lG lF lE lD lC lB lA kZ kY kX kW kV kU kT kS kR kQ kP kO kN kM kL kK kJ kI kH kG kF kE kD kC kB kA jZ jY jX jW jV jU jT jS jR jQ jP jO jN jM jL jK jJ jI jH jG jF jE jD jC jB jA iZ iY iX iW iV iU iT iS iR iQ iP iO iN iM iL iK iJ iI iH iG iF iE iD iC iB iA hZ hY hV hU hO hH gZ gY gX gW gV gU gT gS gR gQ gP gO gN gL gK gJ gI gH gG gF gE gC fZ fY fX fW fV fU fT fS fR fQ fP fO fN fM fL fK fJ fI fH fG fF fE fD fC fB fA eZ eY eX eW eV eU eT eS eR eQ eP eO eN eM eL eK eJ eI eH eG eF eE eD eC eB eA dZ dY dX dW dV dU dT dS dR dQ dP dO dN dM dL dK dJ dI dH dG dF dE dD dC dA cZ cY cX cW cV cU cT cS cQ cP cN cM : Value) (s3 : PMs) (A3 : Option Addr) (c3 : Nat) (f3 : List (Nat × Nat)) (w' : World), RfAt mb s3 (.slice A3 s3.out.length c3) y12 f3 w' → s3.over = false → P.map endO = some (endO (endM stuckT s3)) → Below mb wA w' → QQ (.exit 2) ⟨#[x0, x1, x2, .int .i64 T, .int .i64 most, .pointer (some ⟨b0, 0, none⟩), x6, x7, x8, x9, .pointer (some ⟨rb, 0, none⟩), .pointer (some ⟨mb, 0, none⟩), y12, y13, .pointer (some ⟨mb + 1, 0, none⟩), x15, y16, .int .i64 k, y18, y19, y20, y21, y22, y23, x24, x25, x26, x27, x28, x29, x30, x31, x32, x33, x34, x35, x36, x37, y38, y39, y40, y41, y42, y43, y44, y45, y46, y47, y48, y49, y50, y51, y52, y53, y54, y55, y56, y57, y58, y59, y60, y61, y62, y63, y64, y65, y66, y67, y68, y69, y70, y71, y72, y73, y74, y75, y76, y77, y78, y79, y80, y81, y82, y83, y84, y85, y86, y87, y88, y89, y90, y91, y92, y93, y94, y95, y96, y97, y98, y99, oI, oH, oG, oF, oE, oD, oC, oB, oA, nZ, nY, nX, nV, nU, nT, nS, nR, nQ, nP, nO, nN, nM, nL, nK, nJ, nI, nH, nG, nF, nD, nC, mZ, mY, mX, mW, mV, mT, mS, mQ, mP, mO, mN, mM, mL, mK, mJ, mI, mH, mG, mF, mD, mC, mB, mA, lZ, lY, lX, lW, lV, lU, lT, lS, lR, lQ, lP, lO, lN, lM, lL, lK, lJ, lI, lH, lG, lF, lE, lD, lC, lB, lA, kZ, kY, kX, kW, kV, kU, kT, kS, kR, kQ, kP, kO, kN, kM, kL, kK, kJ, kI, kH, kG, kF, kE, kD, kC, kB, kA, jZ, jY, jX, jW, jV, jU, jT, jS, jR, jQ, jP, jO, jN, jM, jL, jK, jJ, jI, jH, jG, jF, jE, jD, jC, jB, jA, iZ, iY, iX, iW, iV, iU, iT, iS, iR, iQ, iP, iO, iN, iM, iL, iK, iJ, iI, iH, iG, iF, iE, iD, iC, iB, iA, hZ, hY, hV, hU, hO, hH, gZ, gY, gX, gW, gV, gU, gT, gS, gR, gQ, gP, gO, gN, gL, gK, gJ, gI, gH, gG, gF, gE, gC, fZ, fY, fX, fW, fV, fU, fT, fS, fR, fQ, fP, fO, fN, fM, fL, fK, fJ, fI, fH, fG, fF, fE, fD, fC, fB, fA, eZ, eY, eX, eW, eV, eU, eT, eS, eR, eQ, eP, eO, eN, eM, eL, eK, eJ, eI, eH, eG, eF, eE, eD, eC, eB, eA, dZ, dY, dX, dW, dV, dU, dT, dS, dR, dQ, dP, dO, dN, dM, dL, dK, dJ, dI, dH, dG, dF, dE, dD, dC, dA, cZ, cY, cX, cW, cV, cU, cT, cS, cQ, cP, cN, cM, oK, oJ], []⟩ w')
    (hR : ∀ a w', bodyPost Tryz.prog Tryz.f15 Q .ret a w' → QQ .ret a w')
    (hD : ∀ (s3 : PMs) (A3 : Option Addr) (c3 : Nat) (u3 : Value) (f3 : List (Nat × Nat)) (w3 : World), RfAt mb s3 (.slice A3 s3.out.length c3) u3 f3 w3 → P.map endO = some (endO s3) → Below mb wA w3 → Q (.returned (.agg #[.string (mkB s3.how), .int .i64 s3.val, .slice A3 s3.out.length c3, .int .i64 (s3.ticks : Nat)])) ((((w3.setCell ⟨rb, 0, none⟩ (.string (mkB s3.how))).setCell ⟨rb, 1, none⟩ (.int .i64 s3.val)).setCell ⟨rb, 2, none⟩ (.slice A3 s3.out.length c3)).setCell ⟨rb, 3, none⟩ (.int .i64 (s3.ticks : Nat))))
    (hN : ∀ (s3 : PMs) (A3 : Option Addr) (c3 : Nat) (u3 : Value) (f3 : List (Nat × Nat)) (w3 : World), RfAt mb s3 (.slice A3 s3.out.length c3) u3 f3 w3 → s3.how = longT → P = none → Below mb wA w3 → Q (.returned (.agg #[.string (mkB s3.how), .int .i64 s3.val, .slice A3 s3.out.length c3, .int .i64 (s3.ticks : Nat)])) ((((w3.setCell ⟨rb, 0, none⟩ (.string (mkB s3.how))).setCell ⟨rb, 1, none⟩ (.int .i64 s3.val)).setCell ⟨rb, 2, none⟩ (.slice A3 s3.out.length c3)).setCell ⟨rb, 3, none⟩ (.int .i64 (s3.ticks : Nat)))) :
    Code.wp Tryz.prog restC QQ ⟨#[x0, x1, x2, .int .i64 T, .int .i64 most, .pointer (some ⟨b0, 0, none⟩), x6, x7, x8, x9, .pointer (some ⟨rb, 0, none⟩), .pointer (some ⟨mb, 0, none⟩), u, .int .i64 (-1), .pointer (some ⟨mb + 1, 0, none⟩), x15, .int .i64 jt, .int .i64 k, x18, x19, x20, x21, x22, x23, x24, x25, x26, x27, x28, x29, x30, x31, x32, x33, x34, x35, x36, x37, x38, x39, x40, x41, x42, x43, x44, x45, x46, x47, x48, x49, x50, x51, x52, x53, x54, x55, x56, x57, x58, x59, x60, x61, x62, x63, x64, x65, x66, x67, x68, x69, x70, x71, x72, x73, x74, x75, x76, x77, x78, x79, x80, x81, x82, x83, x84, x85, x86, x87, x88, x89, x90, x91, x92, x93, x94, x95, x96, x97, x98, x99, zZ, zY, zX, zW, zV, zU, zT, zS, zR, zQ, zP, zO, zN, zM, zL, zK, zJ, zI, zH, zG, zF, zE, zD, zC, zB, zA, yZ, yY, yX, yW, yV, yU, yT, yS, yR, yQ, yP, yO, yN, yM, yL, yK, yJ, yI, yH, yG, yF, yE, yD, yC, yB, yA, xZ, xY, xX, xW, xV, xU, xS, xR, xQ, xP, xO, xN, xM, xL, xK, xJ, xI, xH, xG, xF, xE, xD, xC, xB, xA, wZ, wY, wX, wW, wV, wU, wQ, wN, wM, wK, wJ, wH, wG, wE, wD, vZ, vY, vX, vV, vU, vT, vS, vR, vQ, vP, vN, vM, vK, vJ, vI, vH, vA, uZ, uY, uX, uV, uU, uT, uS, uR, uQ, uP, uO, uN, uM, uL, uK, uJ, uI, uH, uG, uF, uD, uC, uB, uA, tZ, tY, tX, tW, tV, tU, tT, tS, tR, tQ, tP, tO, tN, tM, tL, tK, tJ, tI, tH, tG, tF, tE, tD, tC, tB, tA, sZ, sY, sX, sW, sV, sU, sT, sS, sR, sQ, sP, sO, sN, sM, sL, sK, sJ, sI, sG, sF, sE, sD, sC, sB, sA, rZ, rY, rX, rW, rV, rU, rT, rS, rR, rQ, rP, rO, rN, rM, rL, rK, rJ, rI, rH, rG, rF, rE, rD, rC, rB, rA, qZ, qY, qX, qW, qV, qU, qT, qR, qQ, qP, qO, qN, qM, qL, qK, qJ, qI, qH, qG, qF, qE, qD, qC, qA, pZ, pY, pX, pW, pV, pU, pT, pS, pR, pQ, pP, pO, pN, pM, pL, pK, pJ, pI, pH, pG, pF, pE, pD, pC, pB, pA, oZ, oY, oX, oW, oV, oU, oT, oS, oR, oQ, oP, oO, oN, oM, oL, oK, oJ], []⟩ w := by
  conv => arg 2; whnf
  obtain ⟨ps, p, rfl⟩ := H.rf.split hcl
  obtain ⟨Ao, co, rfl⟩ := own_slice H.rf.out
  obtain ⟨g, cap, rfl, hle, hptr⟩ := H.rf.ptr hcl
  obtain ⟨ht, -⟩ := H.rf.top_at hcl
  have rp := ht.cell (frL_pc hx.len).1
  have zp := row_frozen ht.blk 21
  obtain ⟨i0, i1⟩ := H.img
  have hkmi : ((k : Int) == (most : Int)) = false := beq_eq_false_iff_ne.2 (by omega)
  have hcl41 : (cs.length : Int) ≤ 41 := by have := hMs.deep; rw [hcl] at this; simp at this; omega
  have hs1 : ((cs.length : Int) + 1 - 1).toNat = cs.length := by omega
  have hs0 : (0 : Int) ≤ (cs.length : Int) := by omega
  have hs2 : (0 : Int) ≤ (cs.length : Int) + 1 - 1 := by omega
  have hpc0 : (0 : Int) ≤ (x.pc : Int) := by omega
  have hpci : decide ((m.words.length : Int) ≤ (x.pc : Int)) = true := decide_eq_true (by omega)
  have hpci2 : (m.words.length : Int) ≤ (x.pc : Int) := by omega
  have HH := Lib.hid H
  clear H ht hpc hcl hx hMs
  go_wp2_with fail
  go_quiet (fail)
  go_wp2_with fail
  refine hE _ _ _ _ _ _ _ _ _ _ _ _ _ _ _ _ _ _ _ _ _ _ _ _ _ _ _ _ _ _ _ _ _ _ _ _ _ _ _ _ _ _ _ _ _ _ _ _ _ _ _ _ _ _ _ _ _ _ _ _ _ _ _ _ _ _ _ _ _ _ _ _ _ _ _ _ _ _ _ _ _ _ _ _ _ _ _ _ _ _ _ _ _ _ _ _ _ _ _ _ _ _ _ _ _ _ _ _ _ _ _ _ _ _ _ _ _ _ _ _ _ _ _ _ _ _ _ _ _ _ _ _ _ _ _ _ _ _ _ _ _ _ _ _ _ _ _ _ _ _ _ _ _ _ _ _ _ _ _ _ _ _ _ _ _ _ _ _ _ _ _ _ _ _ _ _ _ _ _ _ _ _ _ _ _ _ _ _ _ _ _ _ _ _ _ _ _ _ _ _ _ _ _ _ _ _ _ _ _ _ _ _ _ _ _ _ _ _ _ _ _ _ _ _ _ _ _ _ _ _ _ _ _ _ _ _ _ _ _ _ _ _ _ _ _ _ _ _ _ _ _ _ _ _ _ _ _ _ _ _ _ _ _ _ _ _ _ _ _ _ _ _ _ _ _ _ _ _ _ _ _ _ _ _ _ _ _ _ _ _ _ _ _ _ _ _ _ _ _ _ _ _ _ _ _ _ _ _ _ _ _ _ _ _ _ _ _ _ _ _ _ _ _ _ _ _ _ _ _ _ _ _ _ _ _ _ _ _ _ _ _ _ _ _ _ _ s Ao co (ps ++ [p]) _ ?_ ?_ ?_ ?_
  · exact HH.out.rf.drewN nq
  · exact HH.out.ov
  · rw [hP]; rfl
  · exact HH.out.bel.trans (below_drewN (Below.refl _ _) nq)

set_option maxHeartbeats 64000000 in
set_option maxRecDepth 1000000 in
theorem rest_go (H : PdAt m A cf B cw mb b0 rb s v u fbs nx wA w) (hT : T ≤ 5000) (hmost : most ≤ 1000000) (k : Nat) (jt : Int) (hkm : k < most) (cs : List PFr) (x : PFr) (hcl : s.calls = cs ++ [x]) (hx : FrOk m x) (hMs : MsOk m T s) (hg : GoodI m) (h64 : ∀ n ∈ m.words, 0 ≤ n ∧ n < 18446744073709551616) (hpc : x.pc < m.words.length) (i : PIns) (hi : insP m.words[x.pc] = i) (hP : P = runN m T (most - (k + 1)) (stepI m.funs T i { x with pc := x.pc + 1 } (topM { x with pc := x.pc + 1 } s)))
    (x0 x1 x2 x6 x7 x8 x9 x15 x18 x19 x20 x21 x22 x23 x24 x25 x26 x27 x28 x29 x30 x31 x32 x33 x34 x35 x36 x37 x38 x39 x40 x41 x42 x43 x44 x45 x46 x47 x48 x49 x50 x51 x52 x53 x54 x55 x56 x57 x58 x59 x60 x61 x62 x63 x64 x65 x66 x67 x68 x69 x70 x71 x72 x73 x74 x75 x76 x77 x78 x79 x80 x81 x82 x83 x84 x85 x86 x87 x88 x89 x90 x91 x92 x93 x94 x95 x96 x97 x98 x99 zZ zY zX zW zV zU zT zS zR zQ zP zO zN zM zL zK zJ zI zH zG zF zE zD zC zB zA yZ yY yX yW yV yU yT yS yR yQ yP yO yN yM yL yK yJ yI yH yG yF yE yD yC yB yA xZ xY xX xW xV xU xS xR xQ xP xO xN xM xL xK xJ xI xH xG xF xE xD xC xB xA wZ wY wX wW wV wU wQ wN wM wK wJ wH wG wE wD vZ vY vX vV vU vT vS vR vQ vP vN vM vK vJ vI vH vA uZ uY uX uV uU uT uS uR uQ uP uO uN uM uL uK uJ uI uH uG uF uD uC uB uA tZ tY tX tW tV tU tT tS tR tQ tP tO tN tM tL tK tJ tI tH tG tF tE tD tC tB tA sZ sY sX sW sV sU sT sS sR sQ sP sO sN sM sL sK sJ sI sG sF sE sD sC sB sA rZ rY rX rW rV rU rT rS rR rQ rP rO rN rM rL rK rJ rI rH rG rF rE rD rC rB rA qZ qY qX qW qV qU qT qR qQ qP qO qN qM qL qK qJ qI qH qG qF qE qD qC qA pZ pY pX pW pV pU pT pS pR pQ pP pO pN pM pL pK pJ pI pH pG pF pE pD pC pB pA oZ oY oX oW oV oU oT oS oR oQ oP oO oN oM oL oK oJ : Value)
    (hK : ∀ (y12 y13 y16 y18 y19 y20 y21 y22 y23 y38 y39 y40 y41 y42 y43 y44 y45 y46 y47 y48 y49 y50 y51 y52 y53 y54 y55 y56 y57 y58 y59 y60 y61 y62 y63 y64 y65 y66 y67 y68 y69 y70 y71 y72 y73 y74 y75 y76 y77 y78 y79 y80 y81 y82 y83 y84 y85 y86 y87 y88 y89 y90 y91 y92 y93 y94 y95 y96 y97 y98 y99 oI oH oG oF oE oD oC oB oA nZ nY nX nV nU nT nS nR nQ nP nO nN nM nL nK nJ nI nH nG nF nD nC mZ mY mX mW mV mT mS mQ mP mO mN mM mL mK mJ mI mH mG mF mD mC mB mA lZ lY lX lW lV lU lT lS lR lQ lP lO lN lM lL lK lJ lI lH lG lF lE lD lC lB lA kZ kY kX kW kV kU kT kS kR kQ kP kO kN kM kL kK kJ kI kH kG kF kE kD kC kB kA jZ jY jX jW jV jU jT jS jR jQ jP jO jN jM jL jK jJ jI jH jG jF jE jD jC jB jA iZ iY iX iW iV iU iT iS iR iQ iP iO iN iM iL iK iJ iI iH iG iF iE iD iC iB iA hZ hY hV hU hO hH gZ gY gX gW gV gU gT gS gR gQ gP gO gN gL gK gJ gI gH gG gF gE gC fZ fY fX fW fV fU fT fS fR fQ fP fO fN fM fL fK fJ fI fH fG fF fE fD fC fB fA eZ eY eX eW eV eU eT eS eR eQ eP eO eN eM eL eK eJ eI eH eG eF eE eD eC eB eA dZ dY dX dW dV dU dT dS dR dQ dP dO dN dM dL dK dJ dI dH dG dF dE dD dC dA cZ cY cX cW cV cU cT cS cQ cP cN cM : Value) (w' : World), k < most → HeadAt m mb T (most - (k + 1)) P y12 y13 y16 w' → Below mb wA w' → QQ .normal ⟨#[x0, x1, x2, .int .i64 T, .int .i64 most, .pointer (some ⟨b0, 0, none⟩), x6, x7, x8, x9, .pointer (some ⟨rb, 0, none⟩), .pointer (some ⟨mb, 0, none⟩), y12, y13, .pointer (some ⟨mb + 1, 0, none⟩), x15, y16, .int .i64 k, y18, y19, y20, y21, y22, y23, x24, x25, x26, x27, x28, x29, x30, x31, x32, x33, x34, x35, x36, x37, y38, y39, y40, y41, y42, y43, y44, y45, y46, y47, y48, y49, y50, y51, y52, y53, y54, y55, y56, y57, y58, y59, y60, y61, y62, y63, y64, y65, y66, y67, y68, y69, y70, y71, y72, y73, y74, y75, y76, y77, y78, y79, y80, y81, y82, y83, y84, y85, y86, y87, y88, y89, y90, y91, y92, y93, y94, y95, y96, y97, y98, y99, oI, oH, oG, oF, oE, oD, oC, oB, oA, nZ, nY, nX, nV, nU, nT, nS, nR, nQ, nP, nO, nN, nM, nL, nK, nJ, nI, nH, nG, nF, nD, nC, mZ, mY, mX, mW, mV, mT, mS, mQ, mP, mO, mN, mM, mL, mK, mJ, mI, mH, mG, mF, mD, mC, mB, mA, lZ, lY, lX, lW, lV, lU, lT, lS, lR, lQ, lP, lO, lN, lM, lL, lK, lJ, lI, lH, lG, lF, lE, lD, lC, lB, lA, kZ, kY, kX, kW, kV, kU, kT, kS, kR, kQ, kP, kO, kN, kM, kL, kK, kJ, kI, kH, kG, kF, kE, kD, kC, kB, kA, jZ, jY, jX, jW, jV, jU, jT, jS, jR, jQ, jP, jO, jN, jM, jL, jK, jJ, jI, jH, jG, jF, jE, jD, jC, jB, jA, iZ, iY, iX, iW, iV, iU, iT, iS, iR, iQ, iP, iO, iN, iM, iL, iK, iJ, iI, iH, iG, iF, iE, iD, iC, iB, iA, hZ, hY, hV, hU, hO, hH, gZ, gY, gX, gW, gV, gU, gT, gS, gR, gQ, gP, gO, gN, gL, gK, gJ, gI, gH, gG, gF, gE, gC, fZ, fY, fX, fW, fV, fU, fT, fS, fR, fQ, fP, fO, fN, fM, fL, fK, fJ, fI, fH, fG, fF, fE, fD, fC, fB, fA, eZ, eY, eX, eW, eV, eU, eT, eS, eR, eQ, eP, eO, eN, eM, eL, eK, eJ, eI, eH, eG, eF, eE, eD, eC, eB, eA, dZ, dY, dX, dW, dV, dU, dT, dS, dR, dQ, dP, dO, dN, dM, dL, dK, dJ, dI, dH, dG, dF, dE, dD, dC, dA, cZ, cY, cX, cW, cV, cU, cT, cS, cQ, cP, cN, cM, oK, oJ], []⟩ w')
    (hE : ∀ (y12 y13 y16 y18 y19 y20 y21 y22 y23 y38 y39 y40 y41 y42 y43 y44 y45 y46 y47 y48 y49 y50 y51 y52 y53 y54 y55 y56 y57 y58 y59 y60 y61 y62 y63 y64 y65 y66 y67 y68 y69 y70 y71 y72 y73 y74 y75 y76 y77 y78 y79 y80 y81 y82 y83 y84 y85 y86 y87 y88 y89 y90 y91 y92 y93 y94 y95 y96 y97 y98 y99 oI oH oG oF oE oD oC oB oA nZ nY nX nV nU nT nS nR nQ nP nO nN nM nL nK nJ nI nH nG nF nD nC mZ mY mX mW mV mT mS mQ mP mO mN mM mL mK mJ mI mH mG mF mD mC mB mA lZ lY lX lW lV lU lT lS lR lQ lP lO lN lM lL lK lJ lI lH lG lF lE lD lC lB lA kZ kY kX kW kV kU kT kS kR kQ kP kO kN kM kL kK kJ kI kH kG kF kE kD kC kB kA jZ jY jX jW jV jU jT jS jR jQ jP jO jN jM jL jK jJ jI jH jG jF jE jD jC jB jA iZ iY iX iW iV iU iT iS iR iQ iP iO iN iM iL iK iJ iI iH iG iF iE iD iC iB iA hZ hY hV hU hO hH gZ gY gX gW gV gU gT gS gR gQ gP gO gN gL gK gJ gI gH gG gF gE gC fZ fY fX fW fV fU fT fS fR fQ fP fO fN fM fL fK fJ fI fH fG fF fE fD fC fB fA eZ eY eX eW eV eU eT eS eR eQ eP eO eN eM eL eK eJ eI eH eG eF eE eD eC eB eA dZ dY dX dW dV dU dT dS dR dQ dP dO dN dM dL dK dJ dI dH dG dF dE dD dC dA cZ cY cX cW cV cU cT cS cQ cP cN cM : Value) (s3 : PMs) (A3 : Option Addr) (c3 : Nat) (f3 : List (Nat × Nat)) (w' : World), RfAt mb s3 (.slice A3 s3.out.length c3) y12 f3 w' → s3.over = false → P.map endO = some (endO (endM stuckT s3)) → Below mb wA w' → QQ (.exit 2) ⟨#[x0, x1, x2, .int .i64 T, .int .i64 most, .pointer (some ⟨b0, 0, none⟩), x6, x7, x8, x9, .pointer (some ⟨rb, 0, none⟩), .pointer (some ⟨mb, 0, none⟩), y12, y13, .pointer (some ⟨mb + 1, 0, none⟩), x15, y16, .int .i64 k, y18, y19, y20, y21, y22, y23, x24, x25, x26, x27, x28, x29, x30, x31, x32, x33, x34, x35, x36, x37, y38, y39, y40, y41, y42, y43, y44, y45, y46, y47, y48, y49, y50, y51, y52, y53, y54, y55, y56, y57, y58, y59, y60, y61, y62, y63, y64, y65, y66, y67, y68, y69, y70, y71, y72, y73, y74, y75, y76, y77, y78, y79, y80, y81, y82, y83, y84, y85, y86, y87, y88, y89, y90, y91, y92, y93, y94, y95, y96, y97, y98, y99, oI, oH, oG, oF, oE, oD, oC, oB, oA, nZ, nY, nX, nV, nU, nT, nS, nR, nQ, nP, nO, nN, nM, nL, nK, nJ, nI, nH, nG, nF, nD, nC, mZ, mY, mX, mW, mV, mT, mS, mQ, mP, mO, mN, mM, mL, mK, mJ, mI, mH, mG, mF, mD, mC, mB, mA, lZ, lY, lX, lW, lV, lU, lT, lS, lR, lQ, lP, lO, lN, lM, lL, lK, lJ, lI, lH, lG, lF, lE, lD, lC, lB, lA, kZ, kY, kX, kW, kV, kU, kT, kS, kR, kQ, kP, kO, kN, kM, kL, kK, kJ, kI, kH, kG, kF, kE, kD, kC, kB, kA, jZ, jY, jX, jW, jV, jU, jT, jS, jR, jQ, jP, jO, jN, jM, jL, jK, jJ, jI, jH, jG, jF, jE, jD, jC, jB, jA, iZ, iY, iX, iW, iV, iU, iT, iS, iR, iQ, iP, iO, iN, iM, iL, iK, iJ, iI, iH, iG, iF, iE, iD, iC, iB, iA, hZ, hY, hV, hU, hO, hH, gZ, gY, gX, gW, gV, gU, gT, gS, gR, gQ, gP, gO, gN, gL, gK, gJ, gI, gH, gG, gF, gE, gC, fZ, fY, fX, fW, fV, fU, fT, fS, fR, fQ, fP, fO, fN, fM, fL, fK, fJ, fI, fH, fG, fF, fE, fD, fC, fB, fA, eZ, eY, eX, eW, eV, eU, eT, eS, eR, eQ, eP, eO, eN, eM, eL, eK, eJ, eI, eH, eG, eF, eE, eD, eC, eB, eA, dZ, dY, dX, dW, dV, dU, dT, dS, dR, dQ, dP, dO, dN, dM, dL, dK, dJ, dI, dH, dG, dF, dE, dD, dC, dA, cZ, cY, cX, cW, cV, cU, cT, cS, cQ, cP, cN, cM, oK, oJ], []⟩ w')
    (hR : ∀ a w', bodyPost Tryz.prog Tryz.f15 Q .ret a w' → QQ .ret a w')
    (hD : ∀ (s3 : PMs) (A3 : Option Addr) (c3 : Nat) (u3 : Value) (f3 : List (Nat × Nat)) (w3 : World), RfAt mb s3 (.slice A3 s3.out.length c3) u3 f3 w3 → P.map endO = some (endO s3) → Below mb wA w3 → Q (.returned (.agg #[.string (mkB s3.how), .int .i64 s3.val, .slice A3 s3.out.length c3, .int .i64 (s3.ticks : Nat)])) ((((w3.setCell ⟨rb, 0, none⟩ (.string (mkB s3.how))).setCell ⟨rb, 1, none⟩ (.int .i64 s3.val)).setCell ⟨rb, 2, none⟩ (.slice A3 s3.out.length c3)).setCell ⟨rb, 3, none⟩ (.int .i64 (s3.ticks : Nat))))
    (hN : ∀ (s3 : PMs) (A3 : Option Addr) (c3 : Nat) (u3 : Value) (f3 : List (Nat × Nat)) (w3 : World), RfAt mb s3 (.slice A3 s3.out.length c3) u3 f3 w3 → s3.how = longT → P = none → Below mb wA w3 → Q (.returned (.agg #[.string (mkB s3.how), .int .i64 s3.val, .slice A3 s3.out.length c3, .int .i64 (s3.ticks : Nat)])) ((((w3.setCell ⟨rb, 0, none⟩ (.string (mkB s3.how))).setCell ⟨rb, 1, none⟩ (.int .i64 s3.val)).setCell ⟨rb, 2, none⟩ (.slice A3 s3.out.length c3)).setCell ⟨rb, 3, none⟩ (.int .i64 (s3.ticks : Nat)))) :
    Code.wp Tryz.prog restC QQ ⟨#[x0, x1, x2, .int .i64 T, .int .i64 most, .pointer (some ⟨b0, 0, none⟩), x6, x7, x8, x9, .pointer (some ⟨rb, 0, none⟩), .pointer (some ⟨mb, 0, none⟩), u, .int .i64 (-1), .pointer (some ⟨mb + 1, 0, none⟩), x15, .int .i64 jt, .int .i64 k, x18, x19, x20, x21, x22, x23, x24, x25, x26, x27, x28, x29, x30, x31, x32, x33, x34, x35, x36, x37, x38, x39, x40, x41, x42, x43, x44, x45, x46, x47, x48, x49, x50, x51, x52, x53, x54, x55, x56, x57, x58, x59, x60, x61, x62, x63, x64, x65, x66, x67, x68, x69, x70, x71, x72, x73, x74, x75, x76, x77, x78, x79, x80, x81, x82, x83, x84, x85, x86, x87, x88, x89, x90, x91, x92, x93, x94, x95, x96, x97, x98, x99, zZ, zY, zX, zW, zV, zU, zT, zS, zR, zQ, zP, zO, zN, zM, zL, zK, zJ, zI, zH, zG, zF, zE, zD, zC, zB, zA, yZ, yY, yX, yW, yV, yU, yT, yS, yR, yQ, yP, yO, yN, yM, yL, yK, yJ, yI, yH, yG, yF, yE, yD, yC, yB, yA, xZ, xY, xX, xW, xV, xU, xS, xR, xQ, xP, xO, xN, xM, xL, xK, xJ, xI, xH, xG, xF, xE, xD, xC, xB, xA, wZ, wY, wX, wW, wV, wU, wQ, wN, wM, wK, wJ, wH, wG, wE, wD, vZ, vY, vX, vV, vU, vT, vS, vR, vQ, vP, vN, vM, vK, vJ, vI, vH, vA, uZ, uY, uX, uV, uU, uT, uS, uR, uQ, uP, uO, uN, uM, uL, uK, uJ, uI, uH, uG, uF, uD, uC, uB, uA, tZ, tY, tX, tW, tV, tU, tT, tS, tR, tQ, tP, tO, tN, tM, tL, tK, tJ, tI, tH, tG, tF, tE, tD, tC, tB, tA, sZ, sY, sX, sW, sV, sU, sT, sS, sR, sQ, sP, sO, sN, sM, sL, sK, sJ, sI, sG, sF, sE, sD, sC, sB, sA, rZ, rY, rX, rW, rV, rU, rT, rS, rR, rQ, rP, rO, rN, rM, rL, rK, rJ, rI, rH, rG, rF, rE, rD, rC, rB, rA, qZ, qY, qX, qW, qV, qU, qT, qR, qQ, qP, qO, qN, qM, qL, qK, qJ, qI, qH, qG, qF, qE, qD, qC, qA, pZ, pY, pX, pW, pV, pU, pT, pS, pR, pQ, pP, pO, pN, pM, pL, pK, pJ, pI, pH, pG, pF, pE, pD, pC, pB, pA, oZ, oY, oX, oW, oV, oU, oT, oS, oR, oQ, oP, oO, oN, oM, oL, oK, oJ], []⟩ w := by
  conv => arg 2; whnf
  obtain ⟨ps, p, rfl⟩ := H.rf.split hcl
  obtain ⟨Ao, co, rfl⟩ := own_slice H.rf.out
  obtain ⟨g, cap, rfl, hle, hptr⟩ := H.rf.ptr hcl
  obtain ⟨ht, -⟩ := H.rf.top_at hcl
  have rp := ht.cell (frL_pc hx.len).1
  have zp := row_frozen ht.blk 21
  obtain ⟨i0, i1⟩ := H.img
  have hkmi : ((k : Int) == (most : Int)) = false := beq_eq_false_iff_ne.2 (by omega)
  have hcl41 : (cs.length : Int) ≤ 41 := by have := hMs.deep; rw [hcl] at this; simp at this; omega
  have hs1 : ((cs.length : Int) + 1 - 1).toNat = cs.length := by omega
  have hs0 : (0 : Int) ≤ (cs.length : Int) := by omega
  have hs2 : (0 : Int) ≤ (cs.length : Int) + 1 - 1 := by omega
  have hpc0 : (0 : Int) ≤ (x.pc : Int) := by omega
  have hpci : decide ((m.words.length : Int) ≤ (x.pc : Int)) = false := decide_eq_false (by omega)
  have hpci2 : ¬ (m.words.length : Int) ≤ (x.pc : Int) := by omega
  have hpci3 : (x.pc : Int) < (m.words.length : Int) := by omega
  have hpci4 : (x.pc : Int) ≤ 8000 := by have := hg.nw; omega
  have hi : insP m.words[x.pc] = i := hi
  have hiok : InsOk m i := hi ▸ ins_ok hg hpc
  have hw0 : errW m.words[x.pc] = 0 := by
    have := hg.words x.pc hpc
    unfold wordC at this
    by_cases he : errW m.words[x.pc] = 0
    · exact he
    · rw [if_pos he] at this; exact absurd this he
  obtain ⟨b, off, rfl, cw0⟩ := H.words x.pc _ (u64_get hpc)
  have hv := h64 m.words[x.pc] (List.getElem_mem hpc)
  have HIN : Hid (∀ w', Calls Tryz.prog 20 #[.int .u64 m.words[x.pc]] w' (Ret (.tuple #[.agg #[.string (mkB i.op), .int .i64 i.d, .int .i64 i.a, .int .i64 i.b, .int .i64 i.imm], .int .i64 0]) w')) := fun w' => by
    have h := InsOf_any m.words[x.pc] hv.1 hv.2 w'
    unfold insR at h
    rw [if_pos hw0, hw0, hi] at h
    exact h
  have hbl0 : b0 < w.heap.size := by have := H.low; have := H.rf.lt; omega
  have hbl1 : b < w.heap.size := by have h1 : b < mb := H.far.2 _ rfl; have := H.rf.lt; omega
  have hpl : p.1 < w.heap.size := (Array.getElem?_eq_some_iff.1 ht.blk).1
  have hblt : b < mb := H.far.2 _ rfl
  have hlt := H.rf.lt
  have HH := Lib.hid H
  have HCL := Lib.hid hcl
  have HFX := Lib.hid hx
  have HMS := Lib.hid hMs
  have HIO := Lib.hid hiok
  have HG := Lib.hid hg
  have HPP := Lib.hid hP
  clear H ht hcl hx hMs hiok hi hw0 hv h64 hP hg hpci
  go_upto_region 28 with fail
  go_quiet (fail)
  go_upto_region 29 with fail
  obtain ⟨wq, hwq⟩ : ∃ wq, w.drewN nq = wq := ⟨_, rfl⟩
  rw [hwq]
  change (w.drewN nq).cell? _ = _ at rp
  change (w.drewN nq).cell? _ = _ at i1
  change (w.drewN nq).cell? _ = _ at i0
  change (w.drewN nq).cell? _ = _ at cw0
  rw [hwq] at rp i1 i0 cw0
  have hbq : Below mb w wq := by rw [← hwq]; exact below_drewN (Below.refl _ _) nq
  have hrq := HH.out.rf.drewN nq
  rw [hwq] at hrq
  have hzq : wq.heap.size = w.heap.size := by rw [← hwq]; rfl
  have HNXQ : Hid (wq.heap[mb + 1]? = some (.cells (intVs nx).toArray 105 (0, 0))) := show _ = _ by rw [← hwq]; exact HH.out.nxb
  have HBQ := Lib.hid hbq
  have HRQ := Lib.hid hrq
  clear hwq hbq hrq
  have hplq : p.1 < wq.heap.size := by omega
  have hbl0q : b0 < wq.heap.size := by omega
  have hbl1q : b < wq.heap.size := by omega
  have HZQ := Lib.hid hzq
  clear hzq hpl hbl0 hbl1
  go_cut [20, 21] from 38 to 374 (fun i9 e9 wx => ∃ q9, i9 = .pointer (some ⟨q9, 0, none⟩) ∧ wx.heap[q9]? = some (.cells #[.string (mkB i.op), .int .i64 i.d, .int .i64 i.a, .int .i64 i.b, .int .i64 i.imm] 65 (0, 0)) ∧ Below wq.heap.size wq wx ∧ e9 = .int .i64 0)
  case first =>
    go_region_held3 (fun w' => Below wq.heap.size wq w' ∧ w'.cell? ⟨p.1, 21, none⟩ = some (.int .i64 x.pc) ∧ w'.cell? ⟨b0, 1, none⟩ = some (.slice (some ⟨b, off, none⟩) m.words.length cw) ∧ w'.cell? ⟨b, off + x.pc, none⟩ = some (.int .u64 m.words[x.pc]))
      (first
        | with_reducible exact ⟨grow_refl _, rp, i1, cw0⟩
        | with_reducible exact ⟨below_drewR (grow_refl _), cell_drewR rp, cell_drewR i1, cell_drewR cw0⟩
        | (go_split_ands
           refine ⟨?_, ?_, ?_, ?_⟩
           all_goals (first | with_reducible assumption | ((repeat (first | with_reducible refine below_drewR ?_ | with_reducible refine grow_alloc ?_ _)); (first | with_reducible assumption | with_reducible exact HJ.out.1 | with_reducible exact grow_refl _)) | ((repeat (first | with_reducible refine cell_drewR ?_ | with_reducible refine cell_allocR ?_)); (first | with_reducible assumption | with_reducible exact HJ.out.2.1 | with_reducible exact HJ.out.2.2.1 | with_reducible exact HJ.out.2.2.2)) | (with_reducible refine grow_trans ?_ hb1; with_reducible assumption) | (with_reducible refine cell_belowR hb1 ?_; with_reducible assumption) | (with_reducible refine put5_below ?_ (by omega); (first | with_reducible assumption | with_reducible exact HJ.out.1 | with_reducible exact grow_refl _)) | (with_reducible refine put5_cell (by dsimp only; omega) ?_; (first | with_reducible assumption | with_reducible exact HJ.out.2.1 | with_reducible exact HJ.out.2.2.1 | with_reducible exact HJ.out.2.2.2)))))
      (first
        | (go_at_call 20; (with_reducible refine (HIN.out _).mono ?_); rintro z w1 ⟨rfl, hb1⟩; (try dsimp only); have hs1 : wq.heap.size ≤ w1.heap.size := (by first | exact hb1.size | exact Nat.le_trans (by show wq.heap.size ≤ (wq.alloc _).heap.size; simp) hb1.size); have HJ : Hid (Below wq.heap.size wq w1 ∧ w1.cell? ⟨p.1, 21, none⟩ = some (.int .i64 x.pc) ∧ w1.cell? ⟨b0, 1, none⟩ = some (.slice (some ⟨b, off, none⟩) m.words.length cw) ∧ w1.cell? ⟨b, off + x.pc, none⟩ = some (.int .u64 m.words[x.pc])) := show _ ∧ _ from (by go_split_ands; refine ⟨?_, ?_, ?_, ?_⟩; all_goals (first | (with_reducible refine grow_trans ?_ hb1; with_reducible assumption) | (with_reducible refine cell_belowR hb1 ?_; with_reducible assumption))); (first | (have hz := (alloc_blockR (w := wq) (o := .cells #[.string ⟨#[]⟩, .int .i64 0, .int .i64 0, .int .i64 0, .int .i64 0] 65) (by rfl) hb1).trans (heap_alloc_new _ _); obtain ⟨e0, e1, e2, e3, e4⟩ := row5e hz; have y0 := row_frozen hz 0; have y1 := row_frozen hz 1; have y2 := row_frozen hz 2; have y3 := row_frozen hz 3; have y4 := row_frozen hz 4) | skip)))
    all_goals go_wp2_with fail
    all_goals go_meet
    all_goals first
      | with_reducible exact ⟨_, rfl, heap_alloc_new _ _, grow_alloc HJ.out.1 _, rfl⟩
      | with_reducible exact ⟨_, rfl, put5_row hz, put5_below HJ.out.1 (Nat.le_refl _), rfl⟩
      | exact ⟨_, rfl, heap_alloc_new w1 _, grow_alloc HJ.out.1 _, rfl⟩
  case rest =>
    obtain ⟨q, rfl, hnq, hbq2, rfl⟩ := hcut
    obtain ⟨wI, hwI⟩ : ∃ z, wc = z := ⟨_, rfl⟩
    rw [hwI] at hnq hbq2
    rw [hwI]
    clear hwI
    obtain ⟨a, hia⟩ : ∃ a : Nat, i.a = a := ⟨i.a.toNat, by have := HIO.out.a; omega⟩
    have ha7 : a ≤ 7 := by have := HIO.out.a; omega
    rw [hia] at hnq
    have hri := HRQ.out.below hbq2
    have hyF : FrOk m { x with pc := x.pc + 1 } := ⟨HFX.out.r, HFX.out.slots, HFX.out.args, HFX.out.next, by show x.pc + 1 ≤ _; omega, HFX.out.d, HFX.out.r6, HFX.out.s6, HFX.out.a6, HFX.out.n6, HFX.out.f⟩
    obtain ⟨ht2, -⟩ := hri.top_at HCL.out
    have rp := ht2.cell (frL_pc HFX.out.len).1
    have zp := row_frozen ht2.blk 21
    have hcast : (x.pc : Int) + 1 = ((x.pc + 1 : Nat) : Int) := by omega
    have hst := hri.frStore HCL.out (y := { x with pc := x.pc + 1 }) (.int .i64 ((x.pc : Int) + 1)) (by rw [hcast]; exact frL_setPc HFX.out.len (x.pc + 1)) rfl
    have hnxI : wI.heap[mb + 1]? = some (.cells (intVs nx).toArray 105 (0, 0)) := (hbq2.block (mb + 1) (Array.getElem?_eq_some_iff.1 HNXQ.out).1).trans HNXQ.out
    have hpne := (hri.none_of hnxI (fun cs e => by injection e with _ e _; exact absurd e (by decide)) (fun cs e => by injection e with _ e _; exact absurd e (by decide)) (fun cs e => by injection e with _ e _; exact absurd e (by decide))).2.2 p (by simp)
    have hpq : p.1 ≠ q := fun e => by
      have h1 := ht2.blk
      rw [e, hnq] at h1
      injection h1 with h1
      injection h1 with _ h1 _
      exact absurd h1 (by decide)
    obtain ⟨wP, hwP⟩ : ∃ z, wI.setCell ⟨p.1, 21, none⟩ (.int .i64 ((x.pc : Int) + 1)) = z := ⟨_, rfl⟩
    rw [hwP] at hst
    have hnP : wP.heap[q]? = some (.cells #[.string (mkB i.op), .int .i64 i.d, .int .i64 a, .int .i64 i.b, .int .i64 i.imm] 65 (0, 0)) := by rw [← hwP]; exact (Below.heap_setCell _ _ _ _ (fun e => hpq e.symm)).trans hnq
    have hnxP : wP.heap[mb + 1]? = some (.cells (intVs nx).toArray 105 (0, 0)) := by rw [← hwP]; exact (Below.heap_setCell _ _ _ _ (fun e => hpne.1 e.symm)).trans hnxI
    have hcl3 : (topM { x with pc := x.pc + 1 } s).calls = cs ++ [{ x with pc := x.pc + 1 }] := by unfold topM; rw [HCL.out]; simp
    obtain ⟨ht3, -⟩ := hst.1.top_at hcl3
    obtain ⟨av, hav⟩ : ∃ av, x.r.getD a 0 = av := ⟨_, rfl⟩
    have rr : wP.cell? ⟨p.1, 4 + a, none⟩ = some (.int .i64 (x.r.getD a 0)) := ht3.cell (frL_r hyF.len (j := a) (by omega))
    rw [hav] at rr
    have HVA : Hid (regM { x with pc := x.pc + 1 } i.a = av) := show _ = _ by unfold regM; rw [hia, Int.toNat_natCast]; exact hav
    obtain ⟨e0, e1, e2, e3, e4⟩ := row5e hnP
    have hbP : Below mb w wP := HBQ.out.trans ((hbq2.mono (by rw [HZQ.out]; omega)).trans hst.2)
    have ha8 : (a : Int) < 8 := by omega
    have ha0 : (0 : Int) ≤ a := by omega
    have HST := Lib.hid hst
    have HYF := Lib.hid hyF
    have HNP := Lib.hid hnP
    have HNXP := Lib.hid hnxP
    have HC3 := Lib.hid hcl3
    have HBP := Lib.hid hbP
    have HIA := Lib.hid hia
    clear hnq hbq2 hri ht2 hst hnxI hpne hpq hnP hnxP ht3 hcl3 hyF hbP hav hia hcast
    go_upto_region 31 with fail
    try rw [hwP]
    clear rp zp hwP
    go_quiet (fail)
    go_upto_block 4 with fail
    have hbF := below_drewN HBP.out nq
    refine wp_of_then ?_
    change Code.wp Tryz.prog swC _ _ _
    exact sw_any (Q := Q) (Q0 := QQ) (K := fun a w => QQ .normal a w) HG.out ⟨HST.out.1.drewN nq, HC3.out, HYF.out.len, HNXP.out, HH.out.nx4, HH.out.nx6, (hbF.block rb HH.out.low.2).trans HH.out.rbk, ⟨(World.cell?_of_block (hbF.block b0 HH.out.low.1)).trans HH.out.img.1, (World.cell?_of_block (hbF.block b0 HH.out.low.1)).trans HH.out.img.2⟩, row_far HH.out.funs HH.out.far.1 hbF, HH.out.bel.trans hbF, HH.out.ov, HH.out.low⟩ hT (HMS.out.top HYF.out (by rw [HCL.out]; simp)) HYF.out i HIO.out av HVA.out jt k (by rw [HIA.out]; exact HNP.out) HPP.out _ _ _ _ _ _ _ _ _ _ _ _ _ _ _ _ _ _ _ _ _ _ _ _ _ _ _ _ _ _ _ _ _ _ _ _ _ _ _ _ _ _ _ _ _ _ _ _ _ _ _ _ _ _ _ _ _ _ _ _ _ _ _ _ _ _ _ _ _ _ _ _ _ _ _ _ _ _ _ _ _ _ _ _ _ _ _ _ _ _ _ _ _ _ _ _ _ _ _ _ _ _ _ _ _ _ _ _ _ _ _ _ _ _ _ _ _ _ _ _ _ _ _ _ _ _ _ _ _ _ _ _ _ _ _ _ _ _ _ _ _ _ _ _ _ _ _ _ _ _ _ _ _ _ _ _ _ _ _ _ _ _ _ _ _ _ _ _ _ _ _ _ _ _ _ _ _ _ _ _ _ _ _ _ _ _ _ _ _ _ _ _ _ _ _ _ _ _ _ _ _ _ _ _ _ _ _ _ _ _ _ _ _ _ _ _ _ _ _ _ _ _ _ _ _ _ _ _ _ _ _ _ _ _ _ _ _ _ _ _ _ _ _ _ _ _ _ _ _ _ _ _ _ _ _ _ _ _ _ _ _ _ _ _ _ _ _ _ _ _ _ _ _ _ _ _ _ _ _ _ _ _ _ _ _ _ _ _ _ _ _ _ _ _ _ _ _ _ _ _ _ _ _ _ _ _ _ _ _ _ _ _ _ _ _ _ _ _ _ _ _ _ _ _ _ _ _ _ _ _ _ _ _ _ _ _ _ _ _ _ _ _ _ _ _ _ _ _ _ _ _ _ _ _ _ _ _ _ _ _ _ _ _ _ (fun y12 y13 y16 y18 y19 y20 y21 y22 y23 y38 y39 y40 y41 y42 y43 y44 y45 y46 y47 y48 y49 y50 y51 y52 y53 y54 y55 y56 y57 y58 y59 y60 y61 y62 y63 y64 y65 y66 y67 y68 y69 y70 y71 y72 y73 y74 y75 y76 y77 y78 y79 y80 y81 y82 y83 y84 y85 y86 y87 y88 y89 y90 y91 y92 y93 y94 y95 y96 y97 y98 y99 oI oH oG oF oE oD oC oB oA nZ nY nX nV nU nT nS nR nQ nP nO nN nM nL nK nJ nI nH nG nF nD nC mZ mY mX mW mV mT mS mQ mP mO mN mM mL mK mJ mI mH mG mF mD mC mB mA lZ lY lX lW lV lU lT lS lR lQ lP lO lN lM lL lK lJ lI lH lG lF lE lD lC lB lA kZ kY kX kW kV kU kT kS kR kQ kP kO kN kM kL kK kJ kI kH kG kF kE kD kC kB kA jZ jY jX jW jV jU jT jS jR jQ jP jO jN jM jL jK jJ jI jH jG jF jE jD jC jB jA iZ iY iX iW iV iU iT iS iR iQ iP iO iN iM iL iK iJ iI iH iG iF iE iD iC iB iA hZ hY hV hU hO hH gZ gY gX gW gV gU gT gS gR gQ gP gO gN gL gK gJ gI gH gG gF gE gC fZ fY fX fW fV fU fT fS fR fQ fP fO fN fM fL fK fJ fI fH fG fF fE fD fC fB fA eZ eY eX eW eV eU eT eS eR eQ eP eO eN eM eL eK eJ eI eH eG eF eE eD eC eB eA dZ dY dX dW dV dU dT dS dR dQ dP dO dN dM dL dK dJ dI dH dG dF dE dD dC dA cZ cY cX cW cV cU cT cS cQ cP cN cM w' h1 h2 => hK y12 y13 y16 y18 y19 y20 y21 y22 y23 y38 y39 y40 y41 y42 y43 y44 y45 y46 y47 y48 y49 y50 y51 y52 y53 y54 y55 y56 y57 y58 y59 y60 y61 y62 y63 y64 y65 y66 y67 y68 y69 y70 y71 y72 y73 y74 y75 y76 y77 y78 y79 y80 y81 y82 y83 y84 y85 y86 y87 y88 y89 y90 y91 y92 y93 y94 y95 y96 y97 y98 y99 oI oH oG oF oE oD oC oB oA nZ nY nX nV nU nT nS nR nQ nP nO nN nM nL nK nJ nI nH nG nF nD nC mZ mY mX mW mV mT mS mQ mP mO mN mM mL mK mJ mI mH mG mF mD mC mB mA lZ lY lX lW lV lU lT lS lR lQ lP lO lN lM lL lK lJ lI lH lG lF lE lD lC lB lA kZ kY kX kW kV kU kT kS kR kQ kP kO kN kM kL kK kJ kI kH kG kF kE kD kC kB kA jZ jY jX jW jV jU jT jS jR jQ jP jO jN jM jL jK jJ jI jH jG jF jE jD jC jB jA iZ iY iX iW iV iU iT iS iR iQ iP iO iN iM iL iK iJ iI iH iG iF iE iD iC iB iA hZ hY hV hU hO hH gZ gY gX gW gV gU gT gS gR gQ gP gO gN gL gK gJ gI gH gG gF gE gC fZ fY fX fW fV fU fT fS fR fQ fP fO fN fM fL fK fJ fI fH fG fF fE fD fC fB fA eZ eY eX eW eV eU eT eS eR eQ eP eO eN eM eL eK eJ eI eH eG eF eE eD eC eB eA dZ dY dX dW dV dU dT dS dR dQ dP dO dN dM dL dK dJ dI dH dG dF dE dD dC dA cZ cY cX cW cV cU cT cS cQ cP cN cM w' hkm h1 h2) hR hD
end
end Go.Proofs.YtonnhechjbdenaaGreatDoor
