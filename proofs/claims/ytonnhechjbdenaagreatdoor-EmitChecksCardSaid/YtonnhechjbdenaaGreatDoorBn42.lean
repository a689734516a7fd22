import Derived.Deep.CutRange
import Derived.Deep.DeepCutAuto
import Derived.Deep.AppendLies
import Derived.Deep.RegionHeld3
import Derived.Deep.RegionLaw
import Derived.BigRegion
import Derived.BigQuiet
import Derived.Deep.QuietTactic
import Derived.StillTailTactics
import Derived.Test.YtonnhechjbdenaaGreatDoorBn41
import Derived.Test.YtonnhechjbdenaaGreatDoorBn26
import Derived.Test.YtonnhechjbdenaaGreatDoorBn3
set_option linter.unusedVariables false
set_option linter.unusedSimpArgs false
namespace Go.Proofs.YtonnhechjbdenaaGreatDoor
open Go.RowKit

/-! the reference's machine: a round (printed by gen_rfp.py) -/
/-- What stands below the machine's block, at the start of the rounds. -/
structure LowAt (m : PImg) (A : Option Addr) (cf : Nat) (B : Option Addr) (cw mb b0 rb : Nat) (wA : World) : Prop where
  rbk : wA.heap[rb]? = some (.cells #[.string ⟨#[]⟩, .int .i64 0, .slice none 0 0, .int .i64 0] 54 (0, 0))
  img : wA.cell? ⟨b0, 0, none⟩ = some (.slice A m.funs.length cf) ∧ wA.cell? ⟨b0, 1, none⟩ = some (.slice B m.words.length cw)
  funs : Row wA A (m.funs.flatMap fnL)
  words : Row wA B (u64Vs m.words)
  far : (∀ a, A = some a → a.block < mb) ∧ ∀ a, B = some a → a.block < mb
  low : b0 < mb ∧ rb < mb
section
variable {m : PImg} {A : Option Addr} {cf : Nat} {B : Option Addr} {cw mb T most b0 rb left : Nat} {P : Option PMs} {u : Value} {wA w : World} {K : Act → World → Prop} {jt0 : Int} {QQ : Exit → Act → World → Prop} {Q : Ending → World → Prop}

theorem LowAt.pd {s : PMs} {v : Value} {fbs : List (Nat × Nat)} {nx : List Int} (H : LowAt m A cf B cw mb b0 rb wA) (h1 : RfAt mb s v u fbs w) (h2 : nx.length = 4) (h3 : ∀ n ∈ nx, I64 n) (h4 : w.heap[mb + 1]? = some (.cells (intVs nx).toArray 105 (0, 0))) (h5 : s.over = false) (hb : Below mb wA w) : PdAt m A cf B cw mb b0 rb s v u fbs nx wA w :=
  ⟨h1, h4, h2, h3, (hb.block _ H.low.2).trans H.rbk, ⟨(World.cell?_of_block (hb.block b0 H.low.1)).trans H.img.1, (World.cell?_of_block (hb.block b0 H.low.1)).trans H.img.2⟩, row_far H.funs H.far.1 hb, row_far H.words H.far.2 hb, H.far, hb, h5, H.low⟩
theorem body_parts : bodyZ = Code.seq pendC restC := by unfold pendC restC; rfl
set_option maxHeartbeats 8000000 in
set_option maxRecDepth 1000000 in
theorem round_any (H : LowAt m A cf B cw mb b0 rb wA) (hg : GoodI m) (h64 : ∀ n ∈ m.words, 0 ≤ n ∧ n < 18446744073709551616) (hT : T ≤ 5000) (hmost : most ≤ 1000000) (k : Nat) (hk : k ≤ most) (ez jt : Int) (hd : HeadB m mb T (most - k) P u ez jt w) (hbel : Below mb wA w)
    (x0 x1 x2 x6 x7 x8 x9 x15 x18 x19 x20 x21 x22 x23 x24 x25 x26 x27 x28 x29 x30 x31 x32 x33 x34 x35 x36 x37 x38 x39 x40 x41 x42 x43 x44 x45 x46 x47 x48 x49 x50 x51 x52 x53 x54 x55 x56 x57 x58 x59 x60 x61 x62 x63 x64 x65 x66 x67 x68 x69 x70 x71 x72 x73 x74 x75 x76 x77 x78 x79 x80 x81 x82 x83 x84 x85 x86 x87 x88 x89 x90 x91 x92 x93 x94 x95 x96 x97 x98 x99 zZ zY zX zW zV zU zT zS zR zQ zP zO zN zM zL zK zJ zI zH zG zF zE zD zC zB zA yZ yY yX yW yV yU yT yS yR yQ yP yO yN yM yL yK yJ yI yH yG yF yE yD yC yB yA xZ xY xX xW xV xU xS xR xQ xP xO xN xM xL xK xJ xI xH xG xF xE xD xC xB xA wZ wY wX wW wV wU wQ wN wM wK wJ wH wG wE wD vZ vY vX vV vU vT vS vR vQ vP vN vM vK vJ vI vH vA uZ uY uX uV uU uT uS uR uQ uP uO uN uM uL uK uJ uI uH uG uF uD uC uB uA tZ tY tX tW tV tU tT tS tR tQ tP tO tN tM tL tK tJ tI tH tG tF tE tD tC tB tA sZ sY sX sW sV sU sT sS sR sQ sP sO sN sM sL sK sJ sI sG sF sE sD sC sB sA rZ rY rX rW rV rU rT rS rR rQ rP rO rN rM rL rK rJ rI rH rG rF rE rD rC rB rA qZ qY qX qW qV qU qT qR qQ qP qO qN qM qL qK qJ qI qH qG qF qE qD qC qA pZ pY pX pW pV pU pT pS pR pQ pP pO pN pM pL pK pJ pI pH pG pF pE pD pC pB pA oZ oY oX oW oV oU oT oS oR oQ oP oO oN oM oL oK oJ : Value)
    (hK : ∀ (y12 y13 y16 y18 y19 y20 y21 y22 y23 y38 y39 y40 y41 y42 y43 y44 y45 y46 y47 y48 y49 y50 y51 y52 y53 y54 y55 y56 y57 y58 y59 y60 y61 y62 y63 y64 y65 y66 y67 y68 y69 y70 y71 y72 y73 y74 y75 y76 y77 y78 y79 y80 y81 y82 y83 y84 y85 y86 y87 y88 y89 y90 y91 y92 y93 y94 y95 y96 y97 y98 y99 oI oH oG oF oE oD oC oB oA nZ nY nX nV nU nT nS nR nQ nP nO nN nM nL nK nJ nI nH nG nF nD nC mZ mY mX mW mV mT mS mQ mP mO mN mM mL mK mJ mI mH mG mF mD mC mB mA lZ lY lX lW lV lU lT lS lR lQ lP lO lN lM lL lK lJ lI lH lG lF lE lD lC lB lA kZ kY kX kW kV kU kT kS kR kQ kP kO kN kM kL kK kJ kI kH kG kF kE kD kC kB kA jZ jY jX jW jV jU jT jS jR jQ jP jO jN jM jL jK jJ jI jH jG jF jE jD jC jB jA iZ iY iX iW iV iU iT iS iR iQ iP iO iN iM iL iK iJ iI iH iG iF iE iD iC iB iA hZ hY hV hU hO hH gZ gY gX gW gV gU gT gS gR gQ gP gO gN gL gK gJ gI gH gG gF gE gC fZ fY fX fW fV fU fT fS fR fQ fP fO fN fM fL fK fJ fI fH fG fF fE fD fC fB fA eZ eY eX eW eV eU eT eS eR eQ eP eO eN eM eL eK eJ eI eH eG eF eE eD eC eB eA dZ dY dX dW dV dU dT dS dR dQ dP dO dN dM dL dK dJ dI dH dG dF dE dD dC dA cZ cY cX cW cV cU cT cS cQ cP cN cM : Value) (w' : World), k < most → HeadAt m mb T (most - (k + 1)) P y12 y13 y16 w' → Below mb wA w' → QQ .normal ⟨#[x0, x1, x2, .int .i64 T, .int .i64 most, .pointer (some ⟨b0, 0, none⟩), x6, x7, x8, x9, .pointer (some ⟨rb, 0, none⟩), .pointer (some ⟨mb, 0, none⟩), y12, y13, .pointer (some ⟨mb + 1, 0, none⟩), x15, y16, .int .i64 k, y18, y19, y20, y21, y22, y23, x24, x25, x26, x27, x28, x29, x30, x31, x32, x33, x34, x35, x36, x37, y38, y39, y40, y41, y42, y43, y44, y45, y46, y47, y48, y49, y50, y51, y52, y53, y54, y55, y56, y57, y58, y59, y60, y61, y62, y63, y64, y65, y66, y67, y68, y69, y70, y71, y72, y73, y74, y75, y76, y77, y78, y79, y80, y81, y82, y83, y84, y85, y86, y87, y88, y89, y90, y91, y92, y93, y94, y95, y96, y97, y98, y99, oI, oH, oG, oF, oE, oD, oC, oB, oA, nZ, nY, nX, nV, nU, nT, nS, nR, nQ, nP, nO, nN, nM, nL, nK, nJ, nI, nH, nG, nF, nD, nC, mZ, mY, mX, mW, mV, mT, mS, mQ, mP, mO, mN, mM, mL, mK, mJ, mI, mH, mG, mF, mD, mC, mB, mA, lZ, lY, lX, lW, lV, lU, lT, lS, lR, lQ, lP, lO, lN, lM, lL, lK, lJ, lI, lH, lG, lF, lE, lD, lC, lB, lA, kZ, kY, kX, kW, kV, kU, kT, kS, kR, kQ, kP, kO, kN, kM, kL, kK, kJ, kI, kH, kG, kF, kE, kD, kC, kB, kA, jZ, jY, jX, jW, jV, jU, jT, jS, jR, jQ, jP, jO, jN, jM, jL, jK, jJ, jI, jH, jG, jF, jE, jD, jC, jB, jA, iZ, iY, iX, iW, iV, iU, iT, iS, iR, iQ, iP, iO, iN, iM, iL, iK, iJ, iI, iH, iG, iF, iE, iD, iC, iB, iA, hZ, hY, hV, hU, hO, hH, gZ, gY, gX, gW, gV, gU, gT, gS, gR, gQ, gP, gO, gN, gL, gK, gJ, gI, gH, gG, gF, gE, gC, fZ, fY, fX, fW, fV, fU, fT, fS, fR, fQ, fP, fO, fN, fM, fL, fK, fJ, fI, fH, fG, fF, fE, fD, fC, fB, fA, eZ, eY, eX, eW, eV, eU, eT, eS, eR, eQ, eP, eO, eN, eM, eL, eK, eJ, eI, eH, eG, eF, eE, eD, eC, eB, eA, dZ, dY, dX, dW, dV, dU, dT, dS, dR, dQ, dP, dO, dN, dM, dL, dK, dJ, dI, dH, dG, dF, dE, dD, dC, dA, cZ, cY, cX, cW, cV, cU, cT, cS, cQ, cP, cN, cM, oK, oJ], []⟩ w')
    (hE : ∀ (y12 y13 y16 y18 y19 y20 y21 y22 y23 y38 y39 y40 y41 y42 y43 y44 y45 y46 y47 y48 y49 y50 y51 y52 y53 y54 y55 y56 y57 y58 y59 y60 y61 y62 y63 y64 y65 y66 y67 y68 y69 y70 y71 y72 y73 y74 y75 y76 y77 y78 y79 y80 y81 y82 y83 y84 y85 y86 y87 y88 y89 y90 y91 y92 y93 y94 y95 y96 y97 y98 y99 oI oH oG oF oE oD oC oB oA nZ nY nX nV nU nT nS nR nQ nP nO nN nM nL nK nJ nI nH nG nF nD nC mZ mY mX mW mV mT mS mQ mP mO mN mM mL mK mJ mI mH mG mF mD mC mB mA lZ lY lX lW lV lU lT lS lR lQ lP lO lN lM lL lK lJ lI lH lG lF lE lD lC lB lA kZ kY kX kW kV kU kT kS kR kQ kP kO kN kM kL kK kJ kI kH kG kF kE kD kC kB kA jZ jY jX jW jV jU jT jS jR jQ jP jO jN jM jL jK jJ jI jH jG jF jE jD jC jB jA iZ iY iX iW iV iU iT iS iR iQ iP iO iN iM iL iK iJ iI iH iG iF iE iD iC iB iA hZ hY hV hU hO hH gZ gY gX gW gV gU gT gS gR gQ gP gO gN gL gK gJ gI gH gG gF gE gC fZ fY fX fW fV fU fT fS fR fQ fP fO fN fM fL fK fJ fI fH fG fF fE fD fC fB fA eZ eY eX eW eV eU eT eS eR eQ eP eO eN eM eL eK eJ eI eH eG eF eE eD eC eB eA dZ dY dX dW dV dU dT dS dR dQ dP dO dN dM dL dK dJ dI dH dG dF dE dD dC dA cZ cY cX cW cV cU cT cS cQ cP cN cM : Value) (s3 : PMs) (A3 : Option Addr) (c3 : Nat) (f3 : List (Nat × Nat)) (w' : World), RfAt mb s3 (.slice A3 s3.out.length c3) y12 f3 w' → s3.over = false → P.map endO = some (endO (endM stuckT s3)) → Below mb wA w' → QQ (.exit 2) ⟨#[x0, x1, x2, .int .i64 T, .int .i64 most, .pointer (some ⟨b0, 0, none⟩), x6, x7, x8, x9, .pointer (some ⟨rb, 0, none⟩), .pointer (some ⟨mb, 0, none⟩), y12, y13, .pointer (some ⟨mb + 1, 0, none⟩), x15, y16, .int .i64 k, y18, y19, y20, y21, y22, y23, x24, x25, x26, x27, x28, x29, x30, x31, x32, x33, x34, x35, x36, x37, y38, y39, y40, y41, y42, y43, y44, y45, y46, y47, y48, y49, y50, y51, y52, y53, y54, y55, y56, y57, y58, y59, y60, y61, y62, y63, y64, y65, y66, y67, y68, y69, y70, y71, y72, y73, y74, y75, y76, y77, y78, y79, y80, y81, y82, y83, y84, y85, y86, y87, y88, y89, y90, y91, y92, y93, y94, y95, y96, y97, y98, y99, oI, oH, oG, oF, oE, oD, oC, oB, oA, nZ, nY, nX, nV, nU, nT, nS, nR, nQ, nP, nO, nN, nM, nL, nK, nJ, nI, nH, nG, nF, nD, nC, mZ, mY, mX, mW, mV, mT, mS, mQ, mP, mO, mN, mM, mL, mK, mJ, mI, mH, mG, mF, mD, mC, mB, mA, lZ, lY, lX, lW, lV, lU, lT, lS, lR, lQ, lP, lO, lN, lM, lL, lK, lJ, lI, lH, lG, lF, lE, lD, lC, lB, lA, kZ, kY, kX, kW, kV, kU, kT, kS, kR, kQ, kP, kO, kN, kM, kL, kK, kJ, kI, kH, kG, kF, kE, kD, kC, kB, kA, jZ, jY, jX, jW, jV, jU, jT, jS, jR, jQ, jP, jO, jN, jM, jL, jK, jJ, jI, jH, jG, jF, jE, jD, jC, jB, jA, iZ, iY, iX, iW, iV, iU, iT, iS, iR, iQ, iP, iO, iN, iM, iL, iK, iJ, iI, iH, iG, iF, iE, iD, iC, iB, iA, hZ, hY, hV, hU, hO, hH, gZ, gY, gX, gW, gV, gU, gT, gS, gR, gQ, gP, gO, gN, gL, gK, gJ, gI, gH, gG, gF, gE, gC, fZ, fY, fX, fW, fV, fU, fT, fS, fR, fQ, fP, fO, fN, fM, fL, fK, fJ, fI, fH, fG, fF, fE, fD, fC, fB, fA, eZ, eY, eX, eW, eV, eU, eT, eS, eR, eQ, eP, eO, eN, eM, eL, eK, eJ, eI, eH, eG, eF, eE, eD, eC, eB, eA, dZ, dY, dX, dW, dV, dU, dT, dS, dR, dQ, dP, dO, dN, dM, dL, dK, dJ, dI, dH, dG, dF, dE, dD, dC, dA, cZ, cY, cX, cW, cV, cU, cT, cS, cQ, cP, cN, cM, oK, oJ], []⟩ w')
    (hR : ∀ a w', bodyPost Tryz.prog Tryz.f15 Q .ret a w' → QQ .ret a w')
    (hD : ∀ (s3 : PMs) (A3 : Option Addr) (c3 : Nat) (u3 : Value) (f3 : List (Nat × Nat)) (w3 : World), RfAt mb s3 (.slice A3 s3.out.length c3) u3 f3 w3 → P.map endO = some (endO s3) → Below mb wA w3 → Q (.returned (.agg #[.string (mkB s3.how), .int .i64 s3.val, .slice A3 s3.out.length c3, .int .i64 (s3.ticks : Nat)])) ((((w3.setCell ⟨rb, 0, none⟩ (.string (mkB s3.how))).setCell ⟨rb, 1, none⟩ (.int .i64 s3.val)).setCell ⟨rb, 2, none⟩ (.slice A3 s3.out.length c3)).setCell ⟨rb, 3, none⟩ (.int .i64 (s3.ticks : Nat))))
    (hN : ∀ (s3 : PMs) (A3 : Option Addr) (c3 : Nat) (u3 : Value) (f3 : List (Nat × Nat)) (w3 : World), RfAt mb s3 (.slice A3 s3.out.length c3) u3 f3 w3 → s3.how = longT → P = none → Below mb wA w3 → Q (.returned (.agg #[.string (mkB s3.how), .int .i64 s3.val, .slice A3 s3.out.length c3, .int .i64 (s3.ticks : Nat)])) ((((w3.setCell ⟨rb, 0, none⟩ (.string (mkB s3.how))).setCell ⟨rb, 1, none⟩ (.int .i64 s3.val)).setCell ⟨rb, 2, none⟩ (.slice A3 s3.out.length c3)).setCell ⟨rb, 3, none⟩ (.int .i64 (s3.ticks : Nat)))) :
    Code.wp Tryz.prog bodyZ QQ ⟨#[x0, x1, x2, .int .i64 T, .int .i64 most, .pointer (some ⟨b0, 0, none⟩), x6, x7, x8, x9, .pointer (some ⟨rb, 0, none⟩), .pointer (some ⟨mb, 0, none⟩), u, .int .i64 ez, .pointer (some ⟨mb + 1, 0, none⟩), x15, .int .i64 jt, .int .i64 k, x18, x19, x20, x21, x22, x23, x24, x25, x26, x27, x28, x29, x30, x31, x32, x33, x34, x35, x36, x37, x38, x39, x40, x41, x42, x43, x44, x45, x46, x47, x48, x49, x50, x51, x52, x53, x54, x55, x56, x57, x58, x59, x60, x61, x62, x63, x64, x65, x66, x67, x68, x69, x70, x71, x72, x73, x74, x75, x76, x77, x78, x79, x80, x81, x82, x83, x84, x85, x86, x87, x88, x89, x90, x91, x92, x93, x94, x95, x96, x97, x98, x99, zZ, zY, zX, zW, zV, zU, zT, zS, zR, zQ, zP, zO, zN, zM, zL, zK, zJ, zI, zH, zG, zF, zE, zD, zC, zB, zA, yZ, yY, yX, yW, yV, yU, yT, yS, yR, yQ, yP, yO, yN, yM, yL, yK, yJ, yI, yH, yG, yF, yE, yD, yC, yB, yA, xZ, xY, xX, xW, xV, xU, xS, xR, xQ, xP, xO, xN, xM, xL, xK, xJ, xI, xH, xG, xF, xE, xD, xC, xB, xA, wZ, wY, wX, wW, wV, wU, wQ, wN, wM, wK, wJ, wH, wG, wE, wD, vZ, vY, vX, vV, vU, vT, vS, vR, vQ, vP, vN, vM, vK, vJ, vI, vH, vA, uZ, uY, uX, uV, uU, uT, uS, uR, uQ, uP, uO, uN, uM, uL, uK, uJ, uI, uH, uG, uF, uD, uC, uB, uA, tZ, tY, tX, tW, tV, tU, tT, tS, tR, tQ, tP, tO, tN, tM, tL, tK, tJ, tI, tH, tG, tF, tE, tD, tC, tB, tA, sZ, sY, sX, sW, sV, sU, sT, sS, sR, sQ, sP, sO, sN, sM, sL, sK, sJ, sI, sG, sF, sE, sD, sC, sB, sA, rZ, rY, rX, rW, rV, rU, rT, rS, rR, rQ, rP, rO, rN, rM, rL, rK, rJ, rI, rH, rG, rF, rE, rD, rC, rB, rA, qZ, qY, qX, qW, qV, qU, qT, qR, qQ, qP, qO, qN, qM, qL, qK, qJ, qI, qH, qG, qF, qE, qD, qC, qA, pZ, pY, pX, pW, pV, pU, pT, pS, pR, pQ, pP, pO, pN, pM, pL, pK, pJ, pI, pH, pG, pF, pE, pD, pC, pB, pA, oZ, oY, oX, oW, oV, oU, oT, oS, oR, oQ, oP, oO, oN, oM, oL, oK, oJ], []⟩ w := by
  obtain ⟨s, v, fbs, nx, h1, h2, h3, h4, h5, hpd⟩ := hd
  rw [body_parts]
  refine wp_seq (pend_any (K := restC.wp Tryz.prog QQ) (Q0 := QQ) (H.pd h1 h2 h3 h4 h5 hbel) hT hg ez jt k hpd x0 x1 x2 x6 x7 x8 x9 x15 x18 x19 x20 x21 x22 x23 x24 x25 x26 x27 x28 x29 x30 x31 x32 x33 x34 x35 x36 x37 x38 x39 x40 x41 x42 x43 x44 x45 x46 x47 x48 x49 x50 x51 x52 x53 x54 x55 x56 x57 x58 x59 x60 x61 x62 x63 x64 x65 x66 x67 x68 x69 x70 x71 x72 x73 x74 x75 x76 x77 x78 x79 x80 x81 x82 x83 x84 x85 x86 x87 x88 x89 x90 x91 x92 x93 x94 x95 x96 x97 x98 x99 zZ zY zX zW zV zU zT zS zR zQ zP zO zN zM zL zK zJ zI zH zG zF zE zD zC zB zA yZ yY yX yW yV yU yT yS yR yQ yP yO yN yM yL yK yJ yI yH yG yF yE yD yC yB yA xZ xY xX xW xV xU xS xR xQ xP xO xN xM xL xK xJ xI xH xG xF xE xD xC xB xA wZ wY wX wW wV wU wQ wN wM wK wJ wH wG wE wD vZ vY vX vV vU vT vS vR vQ vP vN vM vK vJ vI vH vA uZ uY uX uV uU uT uS uR uQ uP uO uN uM uL uK uJ uI uH uG uF uD uC uB uA tZ tY tX tW tV tU tT tS tR tQ tP tO tN tM tL tK tJ tI tH tG tF tE tD tC tB tA sZ sY sX sW sV sU sT sS sR sQ sP sO sN sM sL sK sJ sI sG sF sE sD sC sB sA rZ rY rX rW rV rU rT rS rR rQ rP rO rN rM rL rK rJ rI rH rG rF rE rD rC rB rA qZ qY qX qW qV qU qT qR qQ qP qO qN qM qL qK qJ qI qH qG qF qE qD qC qA pZ pY pX pW pV pU pT pS pR pQ pP pO pN pM pL pK pJ pI pH pG pF pE pD pC pB pA oZ oY oX oW oV oU oT oS oR oQ oP oO oN oM oL oK oJ ?_ hR hD)
  intro y12 y18 y19 y20 y21 y22 y23 y38 y39 y40 y41 y42 y43 y44 y45 y46 y47 y48 y49 y50 y51 y52 y53 y54 y55 y56 y57 y58 y59 y60 y61 y62 y63 y64 y65 y66 y67 y68 y69 y70 y71 y72 y73 y74 y75 y76 y77 y78 y79 y80 y81 y82 y83 y84 y85 y86 y87 y88 y89 y90 y91 y92 y93 y94 y95 y96 y97 y98 y99 oI oH oG oF oE oD oC oB oA nZ nY nX nV nU nT nS nR nQ nP nO nN nM nL nK nJ nI nH nG nF nD nC mZ mY mX mW mV mT mS mQ mP mO mN mM mL mK mJ mI mH mG mF mD mC mB mA lZ lY lX lW lV lU lT lS lR lQ lP lO lN lM lL lK lJ lI lH lG lF lE lD lC lB lA kZ kY kX kW kV kU kT kS kR kQ kP kO kN kM kL kK kJ kI kH kG kF kE kD kC kB kA jZ jY jX jW jV jU jT jS jR jQ jP jO jN jM jL jK jJ jI jH jG jF jE jD jC jB jA iZ iY iX iW iV iU iT iS iR iQ iP iO iN iM iL iK iJ iI iH iG iF iE iD iC iB iA hZ hY hV hU hO hH gZ gY gX gW gV gU gT gS gR gQ gP gO gN gL gK gJ gI gH gG gF gE gC fZ fY fX fW fV fU fT fS fR fQ fP fO fN fM fL fK fJ fI fH fG fF fE fD fC fB fA eZ eY eX eW eV eU eT eS eR eQ eP eO eN eM eL eK eJ eI eH eG eF eE eD eC eB eA dZ dY dX dW dV dU dT dS dR dQ dP dO dN dM dL dK dJ dI dH dG dF dE dD dC dA cZ cY cX cW cV cU cT cS cQ cP cN cM w' hb hbel'
  obtain ⟨s, v, fbs, nx, g1, g2, g3, g4, g5, hMs, hP⟩ := hb
  have H2 := H.pd g1 g2 g3 g4 g5 hbel'
  rcases Nat.lt_or_ge k most with hkm | hkm
  · have hstep : P = runN m T (most - (k + 1)) (stepM m T s) := by
      rw [hP, show most - k = (most - (k + 1)) + 1 by omega]
      show (if s.over then some s else _) = _
      rw [if_neg (by rw [g5]; decide)]
    obtain ⟨cs, x, hcl, htop⟩ := calls_split (hMs.some g5)
    have hx : FrOk m x := hMs.calls x (by rw [hcl]; simp)
    by_cases hpc : m.words.length ≤ x.pc
    · have e : stepM m T s = endM stuckT s := by unfold stepM; rw [htop, if_pos hpc]
      rw [e, run_over (over_end stuckT (by decide))] at hstep
      exact rest_stuck H2 hT hmost k jt hkm cs x hcl hx hMs hpc hstep x0 x1 x2 x6 x7 x8 x9 x15 y18 y19 y20 y21 y22 y23 x24 x25 x26 x27 x28 x29 x30 x31 x32 x33 x34 x35 x36 x37 y38 y39 y40 y41 y42 y43 y44 y45 y46 y47 y48 y49 y50 y51 y52 y53 y54 y55 y56 y57 y58 y59 y60 y61 y62 y63 y64 y65 y66 y67 y68 y69 y70 y71 y72 y73 y74 y75 y76 y77 y78 y79 y80 y81 y82 y83 y84 y85 y86 y87 y88 y89 y90 y91 y92 y93 y94 y95 y96 y97 y98 y99 oI oH oG oF oE oD oC oB oA nZ nY nX nV nU nT nS nR nQ nP nO nN nM nL nK nJ nI nH nG nF nD nC mZ mY mX mW mV mT mS mQ mP mO mN mM mL mK mJ mI mH mG mF mD mC mB mA lZ lY lX lW lV lU lT lS lR lQ lP lO lN lM lL lK lJ lI lH lG lF lE lD lC lB lA kZ kY kX kW kV kU kT kS kR kQ kP kO kN kM kL kK kJ kI kH kG kF kE kD kC kB kA jZ jY jX jW jV jU jT jS jR jQ jP jO jN jM jL jK jJ jI jH jG jF jE jD jC jB jA iZ iY iX iW iV iU iT iS iR iQ iP iO iN iM iL iK iJ iI iH iG iF iE iD iC iB iA hZ hY hV hU hO hH gZ gY gX gW gV gU gT gS gR gQ gP gO gN gL gK gJ gI gH gG gF gE gC fZ fY fX fW fV fU fT fS fR fQ fP fO fN fM fL fK fJ fI fH fG fF fE fD fC fB fA eZ eY eX eW eV eU eT eS eR eQ eP eO eN eM eL eK eJ eI eH eG eF eE eD eC eB eA dZ dY dX dW dV dU dT dS dR dQ dP dO dN dM dL dK dJ dI dH dG dF dE dD dC dA cZ cY cX cW cV cU cT cS cQ cP cN cM oK oJ hK hE hR hD hN
    · have hp' : x.pc < m.words.length := by omega
      have e : stepM m T s = stepI m.funs T (insP m.words[x.pc]) { x with pc := x.pc + 1 } (topM { x with pc := x.pc + 1 } s) := by
        unfold stepM
        rw [htop, if_neg hpc, List.getD_eq_getElem?_getD, List.getElem?_eq_getElem hp']
        rfl
      rw [e] at hstep
      exact rest_go H2 hT hmost k jt hkm cs x hcl hx hMs hg h64 hp' _ rfl hstep x0 x1 x2 x6 x7 x8 x9 x15 y18 y19 y20 y21 y22 y23 x24 x25 x26 x27 x28 x29 x30 x31 x32 x33 x34 x35 x36 x37 y38 y39 y40 y41 y42 y43 y44 y45 y46 y47 y48 y49 y50 y51 y52 y53 y54 y55 y56 y57 y58 y59 y60 y61 y62 y63 y64 y65 y66 y67 y68 y69 y70 y71 y72 y73 y74 y75 y76 y77 y78 y79 y80 y81 y82 y83 y84 y85 y86 y87 y88 y89 y90 y91 y92 y93 y94 y95 y96 y97 y98 y99 oI oH oG oF oE oD oC oB oA nZ nY nX nV nU nT nS nR nQ nP nO nN nM nL nK nJ nI nH nG nF nD nC mZ mY mX mW mV mT mS mQ mP mO mN mM mL mK mJ mI mH mG mF mD mC mB mA lZ lY lX lW lV lU lT lS lR lQ lP lO lN lM lL lK lJ lI lH lG lF lE lD lC lB lA kZ kY kX kW kV kU kT kS kR kQ kP kO kN kM kL kK kJ kI kH kG kF kE kD kC kB kA jZ jY jX jW jV jU jT jS jR jQ jP jO jN jM jL jK jJ jI jH jG jF jE jD jC jB jA iZ iY iX iW iV iU iT iS iR iQ iP iO iN iM iL iK iJ iI iH iG iF iE iD iC iB iA hZ hY hV hU hO hH gZ gY gX gW gV gU gT gS gR gQ gP gO gN gL gK gJ gI gH gG gF gE gC fZ fY fX fW fV fU fT fS fR fQ fP fO fN fM fL fK fJ fI fH fG fF fE fD fC fB fA eZ eY eX eW eV eU eT eS eR eQ eP eO eN eM eL eK eJ eI eH eG eF eE eD eC eB eA dZ dY dX dW dV dU dT dS dR dQ dP dO dN dM dL dK dJ dI dH dG dF dE dD dC dA cZ cY cX cW cV cU cT cS cQ cP cN cM oK oJ hK hE hR hD hN
  · have hkm' : k = most := by omega
    refine rest_long H2 hT hmost k jt hkm' ?_ x0 x1 x2 x6 x7 x8 x9 x15 y18 y19 y20 y21 y22 y23 x24 x25 x26 x27 x28 x29 x30 x31 x32 x33 x34 x35 x36 x37 y38 y39 y40 y41 y42 y43 y44 y45 y46 y47 y48 y49 y50 y51 y52 y53 y54 y55 y56 y57 y58 y59 y60 y61 y62 y63 y64 y65 y66 y67 y68 y69 y70 y71 y72 y73 y74 y75 y76 y77 y78 y79 y80 y81 y82 y83 y84 y85 y86 y87 y88 y89 y90 y91 y92 y93 y94 y95 y96 y97 y98 y99 oI oH oG oF oE oD oC oB oA nZ nY nX nV nU nT nS nR nQ nP nO nN nM nL nK nJ nI nH nG nF nD nC mZ mY mX mW mV mT mS mQ mP mO mN mM mL mK mJ mI mH mG mF mD mC mB mA lZ lY lX lW lV lU lT lS lR lQ lP lO lN lM lL lK lJ lI lH lG lF lE lD lC lB lA kZ kY kX kW kV kU kT kS kR kQ kP kO kN kM kL kK kJ kI kH kG kF kE kD kC kB kA jZ jY jX jW jV jU jT jS jR jQ jP jO jN jM jL jK jJ jI jH jG jF jE jD jC jB jA iZ iY iX iW iV iU iT iS iR iQ iP iO iN iM iL iK iJ iI iH iG iF iE iD iC iB iA hZ hY hV hU hO hH gZ gY gX gW gV gU gT gS gR gQ gP gO gN gL gK gJ gI gH gG gF gE gC fZ fY fX fW fV fU fT fS fR fQ fP fO fN fM fL fK fJ fI fH fG fF fE fD fC fB fA eZ eY eX eW eV eU eT eS eR eQ eP eO eN eM eL eK eJ eI eH eG eF eE eD eC eB eA dZ dY dX dW dV dU dT dS dR dQ dP dO dN dM dL dK dJ dI dH dG dF dE dD dC dA cZ cY cX cW cV cU cT cS cQ cP cN cM oK oJ hK hE hR hD hN
    rw [hP, hkm', Nat.sub_self]
    show (if s.over then some s else none) = none
    rw [if_neg (by rw [g5]; decide)]
end
end Go.Proofs.YtonnhechjbdenaaGreatDoor

namespace Go.Proofs.YtonnhechjbdenaaGreatDoor
open Go.RowKit

/-! the reference's machine (printed by gen_rfm.py) -/
theorem rf_done2 {m : PImg} {k : Nat} {args : List Int} {T most mb : Nat} {s : PMs} {A : Option Addr} {c : Nat} {u : Value} {fbs : List (Nat × Nat)} {w0 w : World} (h : RfAt mb s (.slice A s.out.length c) u fbs w) (hP : (machP m k args T most).map endO = some (endO s) ∨ (machP m k args T most = none ∧ s.how = longT)) (hb : Below w0.heap.size w0 w) (hm : w0.heap.size + 2 = mb) :
    RfPost m k args T most w0 (.returned (.agg #[.string (mkB s.how), .int .i64 s.val, .slice A s.out.length c, .int .i64 (s.ticks : Nat)])) ((((w.setCell ⟨w0.heap.size + 1, 0, none⟩ (.string (mkB s.how))).setCell ⟨w0.heap.size + 1, 1, none⟩ (.int .i64 s.val)).setCell ⟨w0.heap.size + 1, 2, none⟩ (.slice A s.out.length c)).setCell ⟨w0.heap.size + 1, 3, none⟩ (.int .i64 (s.ticks : Nat))) := by
  have hown := own_same h.out (w' := ((((w.setCell ⟨w0.heap.size + 1, 0, none⟩ (.string (mkB s.how))).setCell ⟨w0.heap.size + 1, 1, none⟩ (.int .i64 s.val)).setCell ⟨w0.heap.size + 1, 2, none⟩ (.slice A s.out.length c)).setCell ⟨w0.heap.size + 1, 3, none⟩ (.int .i64 (s.ticks : Nat)))) fun k hk => far4m k (by have := (own_lt h.out hk).1; omega)
  obtain ⟨A7, c7, he7, hle7, hr7⟩ := owns_rowM hown
  injection he7 with he7 _ he8
  subst he7; subst he8
  refine ⟨A, c, endO s, rfl, ?_, hr7, hle7, below4m hb (by omega)⟩
  rcases hP with e | ⟨e, e2⟩
  · cases hm2 : machP m k args T most with
    | none => rw [hm2] at e; cases e
    | some s' => rw [hm2] at e; injection e with e; exact e.symm
  · rw [e]; exact e2
set_option maxHeartbeats 64000000 in
set_option maxRecDepth 100000 in
theorem MachOf_any (m : PImg) (hg : GoodI m) (A B : Option Addr) (cf cw : Nat) (h64 : ∀ n ∈ m.words, 0 ≤ n ∧ n < 18446744073709551616) (k0 : Nat) (hk0 : k0 < m.funs.length) (args : List Int) (hl4 : args.length ≤ 4) (h6 : ∀ n ∈ args, I64 n) (X : Option Addr) (xc T most : Nat) (hT : T ≤ 5000) (hmost : most ≤ 1000000) (w : World) (hA : Row w A (m.funs.flatMap fnL)) (hB : Row w B (u64Vs m.words)) (hX : Row w X (intVs args)) :
    Calls Tryz.prog 15 #[.agg #[.slice A m.funs.length cf, .slice B m.words.length cw], .int .i64 k0, .slice X args.length xc, .int .i64 T, .int .i64 most] w (RfPost m k0 args T most w) := by
  obtain ⟨mb, hmb⟩ : ∃ mb, w.heap.size + 2 = mb := ⟨_, rfl⟩
  obtain ⟨wA, hwA⟩ : ∃ wA, (((w.alloc (.cells #[.slice A m.funs.length cf, .slice B m.words.length cw] 48)).alloc (.cells #[.string ⟨#[]⟩, .int .i64 0, .slice none 0 0, .int .i64 0] 54)).alloc (.cells #[.string ⟨#[]⟩, .int .i64 0, .slice none 0 0, .int .i64 0] 54)).alloc (.cells #[.int .i64 0, .int .i64 0, .int .i64 0, .int .i64 0] 105) = wA := ⟨_, rfl⟩
  have hbA : Below w.heap.size w wA := by rw [← hwA]; exact grow_alloc (grow_alloc (grow_alloc (grow_alloc (grow_refl _) _) _) _) _
  have hzA : wA.heap.size = mb + 2 := by rw [← hwA, ← hmb]; simp
  have hm0 : wA.heap[w.heap.size]? = some (.cells #[.slice A m.funs.length cf, .slice B m.words.length cw] 48 (0, 0)) := by rw [← hwA]; exact (old_block _ _ (by simp <;> omega)).trans ((old_block _ _ (by simp <;> omega)).trans ((old_block _ _ (by simp)).trans (heap_alloc_new w _)))
  have hm1 : wA.heap[w.heap.size + 1]? = some (.cells #[.string ⟨#[]⟩, .int .i64 0, .slice none 0 0, .int .i64 0] 54 (0, 0)) := by rw [← hwA]; exact (old_block _ _ (by simp <;> omega)).trans ((old_block _ _ (by simp)).trans (new_block _ _ (by simp)))
  have hm2 : wA.heap[mb]? = some (.cells #[.string ⟨#[]⟩, .int .i64 0, .slice none 0 0, .int .i64 0] 54 (0, 0)) := by rw [← hwA, ← hmb]; exact (old_block _ _ (by simp)).trans (new_block _ _ (by simp))
  have hm3 : wA.heap[mb + 1]? = some (.cells (intVs (args4 (args.take 0))).toArray 105 (0, 0)) := by rw [← hwA, ← hmb]; exact new_block _ _ (by simp)
  have HX : Hid (∀ w', Below mb wA w' → (w'.cell? ⟨w.heap.size, 0, none⟩ = some (.slice A m.funs.length cf) ∧ w'.cell? ⟨w.heap.size, 1, none⟩ = some (.slice B m.words.length cw)) ∧ w'.heap[w.heap.size + 1]? = some (.cells #[.string ⟨#[]⟩, .int .i64 0, .slice none 0 0, .int .i64 0] 54 (0, 0)) ∧ Row w' A (m.funs.flatMap fnL) ∧ Row w' B (u64Vs m.words) ∧ Row w' X (intVs args) ∧ Below w.heap.size w w') := fun w' hb =>
    have hb2 : Below w.heap.size w w' := hbA.trans (hb.mono (by omega))
    ⟨row2m ((hb.block _ (by omega)).trans hm0), (hb.block _ (by omega)).trans hm1, hA.keep (Keeps.of_below hb2), hB.keep (Keeps.of_below hb2), hX.keep (Keeps.of_below hb2), hb2⟩
  have HRF : Hid (∀ w', (∀ k, k ≠ mb + 1 → w'.heap[k]? = wA.heap[k]?) → RfAt mb Ms0 (.slice none 0 0) (.slice none 0 0) [] w') := fun w' hs =>
    ⟨(hs mb (by omega)).trans hm2, World.ownsRow_nil _ _ _ _, World.ownsRow_nil _ _ _ _, rfl, fun k h1 => absurd h1 (by simp), by simp, by simp, fun p hp => by cases hp⟩
  obtain ⟨P, hP⟩ : ∃ P, machP m k0 args T most = P := ⟨_, rfl⟩
  have hP2 : P = runN m T most (enterM m.funs T k0 0 (args4 args) Ms0) := by rw [← hP]; rfl
  have HP := Lib.hid hP
  have HP2 := Lib.hid hP2
  have HOK0 := Lib.hid (start_ok (T := T) hg hk0 h6)
  have HGI := Lib.hid hg
  have H6 := Lib.hid h6
  have HW64 := Lib.hid h64
  have HWA := Lib.hid hwA
  have HM3 := Lib.hid hm3
  have HK0 := Lib.hid hk0
  have hnw8 := hg.nw
  have hnf8 := hg.nf
  have hmb2 : w.heap.size + 1 + 1 = mb := by omega
  have hmb3 : w.heap.size + 1 + 1 + 1 = mb + 1 := by omega
  obtain ⟨Q, hQ⟩ : ∃ Q, RfPost m k0 args T most w = Q := ⟨_, rfl⟩
  have HQ := Lib.hid hQ
  rw [hQ]
  have HLOW : Hid (LowAt m A cf B cw mb w.heap.size (w.heap.size + 1) wA) := show LowAt _ _ _ _ _ _ _ _ _ from by
    obtain ⟨g1, g2, g3, g4, -, -⟩ := HX.out wA (Below.refl _ _)
    refine ⟨g2, g1, g3, g4, ⟨fun a e => ?_, fun a e => ?_⟩, by omega, by omega⟩
    · obtain ⟨b, off, e2, h0, -, -, -⟩ := fn_cells hA hk0
      rw [e] at e2
      injection e2 with e2
      have := World.block_lt_of_cell? w _ h0
      rw [e2]; simp only at this ⊢; omega
    · have hw1 : 0 < m.words.length := by have := fn_ok (hg.funs k0 hk0); omega
      obtain ⟨b, off, e2, h0⟩ := hB 0 _ (u64_get hw1)
      rw [e] at e2
      injection e2 with e2
      have := World.block_lt_of_cell? w _ h0
      rw [e2]; simp only at this ⊢; omega
  clear hA hB hX hbA hm0 hm1 hm2 hm3 hP hP2 hg h6 h64 hwA hk0 hQ
  go_enter Tryz.func15, Tryz.ntmps15
  go_upto_region 5 with fail
  change Code.wp _ _ _ _ ((((w.alloc (.cells #[.slice A m.funs.length cf, .slice B m.words.length cw] 48)).alloc (.cells #[.string ⟨#[]⟩, .int .i64 0, .slice none 0 0, .int .i64 0] 54)).alloc (.cells #[.string ⟨#[]⟩, .int .i64 0, .slice none 0 0, .int .i64 0] 54)).alloc (.cells #[.int .i64 0, .int .i64 0, .int .i64 0, .int .i64 0] 105))
  rw [HWA.out]
  go_wp2_with fail
  go_loopw [15] (fun i wr => ∃ j : Nat, j ≤ args.length ∧ i = .int .i64 j ∧ wr.heap[mb + 1]? = some (.cells (intVs (args4 (args.take j))).toArray 105 (0, 0)) ∧ (∀ k, k ≠ mb + 1 → wr.heap[k]? = wA.heap[k]?) ∧ Below mb wA wr) (fun i _ => args.length - (intOf i).toNat)
  case atStart => exact ⟨0, Nat.zero_le _, rfl, HM3.out, fun _ _ => rfl, Below.refl _ _⟩
  case round =>
    obtain ⟨j, hj, rfl, hnx, hoth, hbel⟩ := hrel
    by_cases hlt : j < args.length
    · have hlt' : (j : Int) < (args.length : Int) := by omega
      have hj4 : (j : Int) < 4 := by omega
      have hj0 : (0 : Int) ≤ j := by omega
      obtain ⟨b, off, rfl, c0⟩ := (HX.out wr hbel).2.2.2.2.1 j _ (intVs_get hlt)
      have z0 := row_frozen hnx j
      obtain ⟨x0, hx0⟩ : ∃ x0, (args4 (args.take j)).getD j 0 = x0 := ⟨_, rfl⟩
      have d0 : wr.cell? ⟨mb + 1, j, none⟩ = some (.int .i64 x0) := by
        rw [cell_of_row _ _ j _ _ _ hnx, List.getElem?_toArray, intVs_get (by rw [args4_len]; omega), ← hx0, List.getD_eq_getElem?_getD, List.getElem?_eq_getElem (by rw [args4_len]; omega)]; rfl
      have hset : (wr.setCell ⟨mb + 1, j, none⟩ (.int .i64 args[j])).heap[mb + 1]? = some (.cells (intVs (args4 (args.take (j + 1)))).toArray 105 (0, 0)) := row_set (j := j) _ hnx (by rw [args4_step hl4 hlt, intVs_set]; simp)
      have hoth2 : ∀ k, k ≠ mb + 1 → (wr.setCell ⟨mb + 1, j, none⟩ (.int .i64 args[j])).heap[k]? = wA.heap[k]? := fun k hk => (Below.heap_setCell _ _ _ _ hk).trans (hoth k hk)
      have hbel2 : Below mb wA (wr.setCell ⟨mb + 1, j, none⟩ (.int .i64 args[j])) := hbel.trans ((Below.refl mb wr).setCell (p := ⟨mb + 1, j, none⟩) (by simp) _)
      have HR := Lib.hid (And.intro hset (And.intro hoth2 hbel2))
      clear hnx hoth hbel hset hoth2 hbel2 hx0
      go_wp2_with fail
      go_roundw
      case rel => exact ⟨j + 1, by omega, by go_num, HR.out⟩
      case measure => simp [intOf]; omega
    · have hj' : j = args.length := by omega
      subst hj'
      rw [List.take_length] at hnx
      have hHead : HeadAt m mb T (most - 0) P (.slice none 0 0) (.int .i64 k0) (.int .i64 0) wr := ⟨Ms0, .slice none 0 0, [], args4 args, HRF.out wr hoth, args4_len args, args4_I64 H6.out, hnx, rfl, .inr ⟨k0, 0, HK0.out, by omega, rfl, rfl, Nat.zero_le _, by simp [Ms0], HOK0.out, HP2.out⟩⟩
      have HHD := Lib.hid hHead
      have HBE := Lib.hid hbel
      clear hnx hoth hbel hHead hlt
      go_wp2_with fail
      go_loopw [12, 13, 16, 17, 18, 19, 20, 21, 22, 23] (fun u e t n _ _ _ _ _ _ wr2 => ∃ k : Nat, k ≤ most ∧ n = .int .i64 k ∧ HeadAt m mb T (most - k) P u e t wr2 ∧ Below mb wA wr2) (fun _ _ _ n _ _ _ _ _ _ _ => most + 1 - (intOf n).toNat)
      case atStart => exact ⟨0, Nat.zero_le _, rfl, HHD.out, HBE.out⟩
      case round =>
        clear HHD HBE HOK0 HP2 HM3 HRF
        obtain ⟨k, hk, rfl, hhead, hbel⟩ := hrel
        have hkm' : (k : Int) ≤ (most : Int) := by omega
        obtain ⟨ez, jt, rfl, rfl, hhd⟩ := hhead.ints
        have HHB := Lib.hid hhd
        have HBE := Lib.hid hbel
        have HKM := Lib.hid hk
        clear hhead hhd hbel hk
        go_upto_block 3 with fail
        refine wp_block ?_
        change Code.wp Tryz.prog bodyZ _ _ _
        refine round_any (Q := Q) HLOW.out HGI.out HW64.out hT hmost k HKM.out ez jt HHB.out HBE.out _ _ _ _ _ _ _ _ _ _ _ _ _ _ _ _ _ _ _ _ _ _ _ _ _ _ _ _ _ _ _ _ _ _ _ _ _ _ _ _ _ _ _ _ _ _ _ _ _ _ _ _ _ _ _ _ _ _ _ _ _ _ _ _ _ _ _ _ _ _ _ _ _ _ _ _ _ _ _ _ _ _ _ _ _ _ _ _ _ _ _ _ _ _ _ _ _ _ _ _ _ _ _ _ _ _ _ _ _ _ _ _ _ _ _ _ _ _ _ _ _ _ _ _ _ _ _ _ _ _ _ _ _ _ _ _ _ _ _ _ _ _ _ _ _ _ _ _ _ _ _ _ _ _ _ _ _ _ _ _ _ _ _ _ _ _ _ _ _ _ _ _ _ _ _ _ _ _ _ _ _ _ _ _ _ _ _ _ _ _ _ _ _ _ _ _ _ _ _ _ _ _ _ _ _ _ _ _ _ _ _ _ _ _ _ _ _ _ _ _ _ _ _ _ _ _ _ _ _ _ _ _ _ _ _ _ _ _ _ _ _ _ _ _ _ _ _ _ _ _ _ _ _ _ _ _ _ _ _ _ _ _ _ _ _ _ _ _ _ _ _ _ _ _ _ _ _ _ _ _ _ _ _ _ _ _ _ _ _ _ _ _ _ _ _ _ _ _ _ _ _ _ _ _ _ _ _ _ _ _ _ _ _ _ _ _ _ _ _ _ _ _ _ _ _ _ _ _ _ _ _ _ _ _ _ _ _ _ _ _ _ _ _ _ _ _ _ _ _ _ _ _ _ _ _ _ _ _ _ _ _ _ _ _ _ _ _ ?_ ?_ ?_ ?_ ?_
        · intro y12 y13 y16 y18 y19 y20 y21 y22 y23 y38 y39 y40 y41 y42 y43 y44 y45 y46 y47 y48 y49 y50 y51 y52 y53 y54 y55 y56 y57 y58 y59 y60 y61 y62 y63 y64 y65 y66 y67 y68 y69 y70 y71 y72 y73 y74 y75 y76 y77 y78 y79 y80 y81 y82 y83 y84 y85 y86 y87 y88 y89 y90 y91 y92 y93 y94 y95 y96 y97 y98 y99 oI oH oG oF oE oD oC oB oA nZ nY nX nV nU nT nS nR nQ nP nO nN nM nL nK nJ nI nH nG nF nD nC mZ mY mX mW mV mT mS mQ mP mO mN mM mL mK mJ mI mH mG mF mD mC mB mA lZ lY lX lW lV lU lT lS lR lQ lP lO lN lM lL lK lJ lI lH lG lF lE lD lC lB lA kZ kY kX kW kV kU kT kS kR kQ kP kO kN kM kL kK kJ kI kH kG kF kE kD kC kB kA jZ jY jX jW jV jU jT jS jR jQ jP jO jN jM jL jK jJ jI jH jG jF jE jD jC jB jA iZ iY iX iW iV iU iT iS iR iQ iP iO iN iM iL iK iJ iI iH iG iF iE iD iC iB iA hZ hY hV hU hO hH gZ gY gX gW gV gU gT gS gR gQ gP gO gN gL gK gJ gI gH gG gF gE gC fZ fY fX fW fV fU fT fS fR fQ fP fO fN fM fL fK fJ fI fH fG fF fE fD fC fB fA eZ eY eX eW eV eU eT eS eR eQ eP eO eN eM eL eK eJ eI eH eG eF eE eD eC eB eA dZ dY dX dW dV dU dT dS dR dQ dP dO dN dM dL dK dJ dI dH dG dF dE dD dC dA cZ cY cX cW cV cU cT cS cQ cP cN cM w' hkm hh hb
          have HH2 := Lib.hid hh
          have HB2 := Lib.hid hb
          clear hh hb
          go_wp2_with fail
          go_roundw
          case rel => exact ⟨k + 1, by omega, by go_num, HH2.out, HB2.out⟩
          case measure => simp [intOf]; omega
        · intro y12 y13 y16 y18 y19 y20 y21 y22 y23 y38 y39 y40 y41 y42 y43 y44 y45 y46 y47 y48 y49 y50 y51 y52 y53 y54 y55 y56 y57 y58 y59 y60 y61 y62 y63 y64 y65 y66 y67 y68 y69 y70 y71 y72 y73 y74 y75 y76 y77 y78 y79 y80 y81 y82 y83 y84 y85 y86 y87 y88 y89 y90 y91 y92 y93 y94 y95 y96 y97 y98 y99 oI oH oG oF oE oD oC oB oA nZ nY nX nV nU nT nS nR nQ nP nO nN nM nL nK nJ nI nH nG nF nD nC mZ mY mX mW mV mT mS mQ mP mO mN mM mL mK mJ mI mH mG mF mD mC mB mA lZ lY lX lW lV lU lT lS lR lQ lP lO lN lM lL lK lJ lI lH lG lF lE lD lC lB lA kZ kY kX kW kV kU kT kS kR kQ kP kO kN kM kL kK kJ kI kH kG kF kE kD kC kB kA jZ jY jX jW jV jU jT jS jR jQ jP jO jN jM jL jK jJ jI jH jG jF jE jD jC jB jA iZ iY iX iW iV iU iT iS iR iQ iP iO iN iM iL iK iJ iI iH iG iF iE iD iC iB iA hZ hY hV hU hO hH gZ gY gX gW gV gU gT gS gR gQ gP gO gN gL gK gJ gI gH gG gF gE gC fZ fY fX fW fV fU fT fS fR fQ fP fO fN fM fL fK fJ fI fH fG fF fE fD fC fB fA eZ eY eX eW eV eU eT eS eR eQ eP eO eN eM eL eK eJ eI eH eG eF eE eD eC eB eA dZ dY dX dW dV dU dT dS dR dQ dP dO dN dM dL dK dJ dI dH dG dF dE dD dC dA cZ cY cX cW cV cU cT cS cQ cP cN cM s3 A3 c3 f3 w' hr ho hp hb
          obtain ⟨c0, c1, c2, c3'⟩ := row4m hr.blk
          rw [how_nil ho] at c0
          have z0 := row_frozen hr.blk 0
          obtain ⟨-, hrb, -, -, -, hbw⟩ := HX.out w' hb
          obtain ⟨r0, r1, r2, r3⟩ := row4e hrb
          have y0 := row_frozen hrb 0
          have y1 := row_frozen hrb 1
          have y2 := row_frozen hrb 2
          have y3 := row_frozen hrb 3
          have hne1 : w.heap.size + 1 ≠ mb := by omega
          have hne2 : mb ≠ w.heap.size + 1 := by omega
          have HR3 := Lib.hid hr
          have HP3 := Lib.hid hp
          have HB3 := Lib.hid hb
          have HRB := Lib.hid hrb
          clear hr ho hp hb hrb hbw
          go_wp2_with fail
          have hk9 : (w'.setCell ⟨mb, 0, none⟩ (.string ⟨#[115, 116, 117, 99, 107]⟩)).heap[w.heap.size + 1]? = some (.cells #[.string ⟨#[]⟩, .int .i64 0, .slice none 0 0, .int .i64 0] 54 (0, 0)) := (Below.heap_setCell _ _ _ _ hne1).trans HRB.out
          obtain ⟨u0, u1, u2, u3⟩ := row4e (set4m (v0 := .string ⟨#[115, 116, 117, 99, 107]⟩) (v1 := .int .i64 s3.val) (v2 := .slice A3 s3.out.length c3) (v3 := .int .i64 (s3.ticks : Nat)) hk9)
          refine bodyPost_ret (v := .agg #[.string ⟨#[115, 116, 117, 99, 107]⟩, .int .i64 s3.val, .slice A3 s3.out.length c3, .int .i64 (s3.ticks : Nat)]) (by simp [results, Tryz.results15, go_sem, u0, u1, u2, u3]; try rfl) rfl ?_
          rw [← HQ.out]
          exact rf_done2 (s := endM stuckT s3) (HR3.out.store (.string ⟨#[115, 116, 117, 99, 107]⟩) (by unfold ocL Go.Proofs.YtonnhechjbdenaaGreatDoor.endM; simp <;> rfl) rfl rfl) (.inl (by rw [HP.out]; exact HP3.out)) (HX.out _ (HB3.out.trans ((Below.refl mb w').setCell (p := ⟨mb, 0, none⟩) (Nat.le_refl _) _))).2.2.2.2.2 hmb
        · exact fun a w' h => h
        · intro s3 A3 c3 u3 f3 w3 hr hp hb
          rw [← HQ.out]
          exact rf_done2 hr (.inl (by rw [HP.out]; exact hp)) (HX.out w3 hb).2.2.2.2.2 hmb
        · intro s3 A3 c3 u3 f3 w3 hr hl hp hb
          rw [← HQ.out]
          exact rf_done2 hr (.inr ⟨by rw [HP.out]; exact hp, hl⟩) (HX.out w3 hb).2.2.2.2.2 hmb
end Go.Proofs.YtonnhechjbdenaaGreatDoor
