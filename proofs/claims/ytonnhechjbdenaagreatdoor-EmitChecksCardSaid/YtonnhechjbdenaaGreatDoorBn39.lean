import Derived.Test.YtonnhechjbdenaaGreatDoorBn33
set_option linter.unusedVariables false
set_option linter.unusedSimpArgs false
namespace Go.Proofs.YtonnhechjbdenaaGreatDoor
open Go.RowKit

/-! the reference's machine: its switch (printed by gen_rfs.py) -/
section
variable {m : PImg} {A : Option Addr} {cf : Nat} {B : Option Addr} {cw mb T b0 rb q left : Nat} {P : Option PMs} {s s2 : PMs} {v u : Value} {ps : List (Nat × Nat)} {p : Nat × Nat} {cs : List PFr} {x : PFr} {nx : List Int} {wA w : World} {K : Act → World → Prop} {Q0 : Exit → Act → World → Prop} {Q : Ending → World → Prop} {p1 : Nat × Nat} {y : PFr}
set_option maxHeartbeats 8000000 in
set_option maxRecDepth 1000000 in
theorem sw_call (H : SwAt m A cf B cw mb T b0 rb s v u ps p cs x nx wA w) (hT : T ≤ 5000) (hm8 : m.funs.length ≤ 8) (hMs : MsOk m T s) (av : Int) (d : Nat) (hd : d < 8) (a b : Int) (k : Nat) (hk : k < m.funs.length) (hbp : b = m.funs[k].params) (n0 n1 n2 n3 : Int) (hnx : x.next = [n0, n1, n2, n3]) (hx6 : ∀ n ∈ x.next, I64 n) (jt n17 : Int) (hins : w.heap[q]? = some (.cells #[.string ⟨#[99, 97, 108, 108]⟩, .int .i64 d, .int .i64 a, .int .i64 b, .int .i64 k] 65 (0, 0)))
    (hP : P = runN m T left (enterM m.funs T k d [n0, n1, n2, n3] (topM { x with next := zero4 } s))) (hok2 : MsOk m T (enterM m.funs T k d [n0, n1, n2, n3] (topM { x with next := zero4 } s)))
    (x0 x1 x2 x4 x6 x7 x8 x9 x15 x18 x21 x23 x24 x25 x26 x27 x28 x29 x30 x31 x32 x33 x34 x35 x36 x37 x38 x39 x40 x41 x42 x43 x44 x45 x46 x47 x48 x49 x50 x51 x52 x53 x54 x55 x56 x57 x58 x59 x60 x61 x62 x63 x64 x65 x66 x67 x68 x69 x70 x71 x72 x73 x74 x75 x76 x77 x78 x79 x80 x81 x82 x83 x84 x85 x86 x87 x88 x89 x90 x91 x92 x93 x94 x95 x96 x97 x98 x99 zZ zY zX zW zV zU zT zS zR zQ zP zO zN zM zL zK zJ zI zH zG zF zE zD zC zB yZ yY yX yW yV yU yT yS yR yQ yP yO yN yM yL yK yJ yI yH yG yF yE yD yC yB yA xZ xY xX xW xV xU xS xR xQ xP xO xN xM xL xK xJ xI xH xG xF xE xD xC xB xA wZ wY wX wW wV wU wQ wN wM wK wJ wH wG wE wD vZ vY vX vV vU vT vS vR vQ vP vN vM vK vJ vI vH vA uZ uY uX uV uU uT uS uR uQ uP uO uN uM uL uK uJ uI uH uG uF uD uC uB uA tZ tY tX tW tV tU tT tS tR tQ tP tO tN tM tL tK tJ tI tH tG tF tE tD tC tB tA sZ sY sX sW sV sU sT sS sR sQ sP sO sN sM sL sK sJ sI sG sF sE sD sC sB sA rZ rY rX rW rV rU rT rS rR rQ rP rO rN rM rL rK rJ rI rH rG rF rE rD rC rB rA qZ qY qX qW qV qU qT qR qQ qP qO qN qM qL qK qJ qI qH qG qF qE qD qC qA pZ pY pX pW pV pU pT pS pR pQ pP pO pN pM pL pK pJ pI pH pG pF pE pD pC pB pA oZ oY oX oW oV oU oT oS oR oQ oP oO oN oM oL oK oJ : Value)
    (hK : ∀ (y12 y13 y16 y18 y19 y20 y21 y22 y23 y38 y39 y40 y41 y42 y43 y44 y45 y46 y47 y48 y49 y50 y51 y52 y53 y54 y55 y56 y57 y58 y59 y60 y61 y62 y63 y64 y65 y66 y67 y68 y69 y70 y71 y72 y73 y74 y75 y76 y77 y78 y79 y80 y81 y82 y83 y84 y85 y86 y87 y88 y89 y90 y91 y92 y93 y94 y95 y96 y97 y98 y99 oI oH oG oF oE oD oC oB oA nZ nY nX nV nU nT nS nR nQ nP nO nN nM nL nK nJ nI nH nG nF nD nC mZ mY mX mW mV mT mS mQ mP mO mN mM mL mK mJ mI mH mG mF mD mC mB mA lZ lY lX lW lV lU lT lS lR lQ lP lO lN lM lL lK lJ lI lH lG lF lE lD lC lB lA kZ kY kX kW kV kU kT kS kR kQ kP kO kN kM kL kK kJ kI kH kG kF kE kD kC kB kA jZ jY jX jW jV jU jT jS jR jQ jP jO jN jM jL jK jJ jI jH jG jF jE jD jC jB jA iZ iY iX iW iV iU iT iS iR iQ iP iO iN iM iL iK iJ iI iH iG iF iE iD iC iB iA hZ hY hV hU hO hH gZ gY gX gW gV gU gT gS gR gQ gP gO gN gL gK gJ gI gH gG gF gE gC fZ fY fX fW fV fU fT fS fR fQ fP fO fN fM fL fK fJ fI fH fG fF fE fD fC fB fA eZ eY eX eW eV eU eT eS eR eQ eP eO eN eM eL eK eJ eI eH eG eF eE eD eC eB eA dZ dY dX dW dV dU dT dS dR dQ dP dO dN dM dL dK dJ dI dH dG dF dE dD dC dA cZ cY cX cW cV cU cT cS cQ cP cN cM : Value) (w' : World), HeadAt m mb T left P y12 y13 y16 w' → Below mb wA w' → K ⟨#[x0, x1, x2, .int .i64 T, x4, .pointer (some ⟨b0, 0, none⟩), x6, x7, x8, x9, .pointer (some ⟨rb, 0, none⟩), .pointer (some ⟨mb, 0, none⟩), y12, y13, .pointer (some ⟨mb + 1, 0, none⟩), x15, y16, .int .i64 n17, y18, y19, y20, y21, y22, y23, x24, x25, x26, x27, x28, x29, x30, x31, x32, x33, x34, x35, x36, x37, y38, y39, y40, y41, y42, y43, y44, y45, y46, y47, y48, y49, y50, y51, y52, y53, y54, y55, y56, y57, y58, y59, y60, y61, y62, y63, y64, y65, y66, y67, y68, y69, y70, y71, y72, y73, y74, y75, y76, y77, y78, y79, y80, y81, y82, y83, y84, y85, y86, y87, y88, y89, y90, y91, y92, y93, y94, y95, y96, y97, y98, y99, oI, oH, oG, oF, oE, oD, oC, oB, oA, nZ, nY, nX, nV, nU, nT, nS, nR, nQ, nP, nO, nN, nM, nL, nK, nJ, nI, nH, nG, nF, nD, nC, mZ, mY, mX, mW, mV, mT, mS, mQ, mP, mO, mN, mM, mL, mK, mJ, mI, mH, mG, mF, mD, mC, mB, mA, lZ, lY, lX, lW, lV, lU, lT, lS, lR, lQ, lP, lO, lN, lM, lL, lK, lJ, lI, lH, lG, lF, lE, lD, lC, lB, lA, kZ, kY, kX, kW, kV, kU, kT, kS, kR, kQ, kP, kO, kN, kM, kL, kK, kJ, kI, kH, kG, kF, kE, kD, kC, kB, kA, jZ, jY, jX, jW, jV, jU, jT, jS, jR, jQ, jP, jO, jN, jM, jL, jK, jJ, jI, jH, jG, jF, jE, jD, jC, jB, jA, iZ, iY, iX, iW, iV, iU, iT, iS, iR, iQ, iP, iO, iN, iM, iL, iK, iJ, iI, iH, iG, iF, iE, iD, iC, iB, iA, hZ, hY, hV, hU, hO, hH, gZ, gY, gX, gW, gV, gU, gT, gS, gR, gQ, gP, gO, gN, gL, gK, gJ, gI, gH, gG, gF, gE, gC, fZ, fY, fX, fW, fV, fU, fT, fS, fR, fQ, fP, fO, fN, fM, fL, fK, fJ, fI, fH, fG, fF, fE, fD, fC, fB, fA, eZ, eY, eX, eW, eV, eU, eT, eS, eR, eQ, eP, eO, eN, eM, eL, eK, eJ, eI, eH, eG, eF, eE, eD, eC, eB, eA, dZ, dY, dX, dW, dV, dU, dT, dS, dR, dQ, dP, dO, dN, dM, dL, dK, dJ, dI, dH, dG, dF, dE, dD, dC, dA, cZ, cY, cX, cW, cV, cU, cT, cS, cQ, cP, cN, cM, oK, oJ], []⟩ w')
    (hR : ∀ a w', bodyPost Tryz.prog Tryz.f15 Q .ret a w' → Q0 .ret a w')
    (hD : ∀ (s3 : PMs) (A3 : Option Addr) (c3 : Nat) (u3 : Value) (f3 : List (Nat × Nat)) (w3 : World), RfAt mb s3 (.slice A3 s3.out.length c3) u3 f3 w3 → P.map endO = some (endO s3) → Below mb wA w3 → Q (.returned (.agg #[.string (mkB s3.how), .int .i64 s3.val, .slice A3 s3.out.length c3, .int .i64 (s3.ticks : Nat)])) ((((w3.setCell ⟨rb, 0, none⟩ (.string (mkB s3.how))).setCell ⟨rb, 1, none⟩ (.int .i64 s3.val)).setCell ⟨rb, 2, none⟩ (.slice A3 s3.out.length c3)).setCell ⟨rb, 3, none⟩ (.int .i64 (s3.ticks : Nat)))) :
    Code.wp Tryz.prog swC (Exit.then K Q0) ⟨#[x0, x1, x2, .int .i64 T, x4, .pointer (some ⟨b0, 0, none⟩), x6, x7, x8, x9, .pointer (some ⟨rb, 0, none⟩), .pointer (some ⟨mb, 0, none⟩), u, .int .i64 (-1), .pointer (some ⟨mb + 1, 0, none⟩), x15, .int .i64 jt, .int .i64 n17, x18, .pointer (some ⟨p.1, 0, none⟩), .pointer (some ⟨q, 0, none⟩), x21, .int .i64 av, x23, x24, x25, x26, x27, x28, x29, x30, x31, x32, x33, x34, x35, x36, x37, x38, x39, x40, x41, x42, x43, x44, x45, x46, x47, x48, x49, x50, x51, x52, x53, x54, x55, x56, x57, x58, x59, x60, x61, x62, x63, x64, x65, x66, x67, x68, x69, x70, x71, x72, x73, x74, x75, x76, x77, x78, x79, x80, x81, x82, x83, x84, x85, x86, x87, x88, x89, x90, x91, x92, x93, x94, x95, x96, x97, x98, x99, zZ, zY, zX, zW, zV, zU, zT, zS, zR, zQ, zP, zO, zN, zM, zL, zK, zJ, zI, zH, zG, zF, zE, zD, zC, zB, .string ⟨#[99, 97, 108, 108]⟩, yZ, yY, yX, yW, yV, yU, yT, yS, yR, yQ, yP, yO, yN, yM, yL, yK, yJ, yI, yH, yG, yF, yE, yD, yC, yB, yA, xZ, xY, xX, xW, xV, xU, xS, xR, xQ, xP, xO, xN, xM, xL, xK, xJ, xI, xH, xG, xF, xE, xD, xC, xB, xA, wZ, wY, wX, wW, wV, wU, wQ, wN, wM, wK, wJ, wH, wG, wE, wD, vZ, vY, vX, vV, vU, vT, vS, vR, vQ, vP, vN, vM, vK, vJ, vI, vH, vA, uZ, uY, uX, uV, uU, uT, uS, uR, uQ, uP, uO, uN, uM, uL, uK, uJ, uI, uH, uG, uF, uD, uC, uB, uA, tZ, tY, tX, tW, tV, tU, tT, tS, tR, tQ, tP, tO, tN, tM, tL, tK, tJ, tI, tH, tG, tF, tE, tD, tC, tB, tA, sZ, sY, sX, sW, sV, sU, sT, sS, sR, sQ, sP, sO, sN, sM, sL, sK, sJ, sI, sG, sF, sE, sD, sC, sB, sA, rZ, rY, rX, rW, rV, rU, rT, rS, rR, rQ, rP, rO, rN, rM, rL, rK, rJ, rI, rH, rG, rF, rE, rD, rC, rB, rA, qZ, qY, qX, qW, qV, qU, qT, qR, qQ, qP, qO, qN, qM, qL, qK, qJ, qI, qH, qG, qF, qE, qD, qC, qA, pZ, pY, pX, pW, pV, pU, pT, pS, pR, pQ, pP, pO, pN, pM, pL, pK, pJ, pI, pH, pG, pF, pE, pD, pC, pB, pA, oZ, oY, oX, oW, oV, oU, oT, oS, oR, oQ, oP, oO, oN, oM, oL, oK, oJ], []⟩ w := by
  conv => arg 2; whnf
  obtain ⟨e0, e1, e2, e3, e4⟩ := row5e hins
  obtain ⟨ht, -⟩ := H.rf.top_at H.cl
  obtain ⟨b4, off4, rfl, f0, f1, f2, f3⟩ := fn_cells H.funs hk
  obtain ⟨i0, i1⟩ := H.img
  have hk0 : (0 : Int) ≤ k := by omega
  have hkn : (k : Int) < (m.funs.length : Int) := by omega
  have q0 : w.cell? ⟨p.1, 17, none⟩ = some (.int .i64 n0) := by have := ht.cell (frL_next H.fx (j := 0) (by omega)); rw [hnx] at this; exact this
  have q1 : w.cell? ⟨p.1, 18, none⟩ = some (.int .i64 n1) := by have := ht.cell (frL_next H.fx (j := 1) (by omega)); rw [hnx] at this; exact this
  have q2 : w.cell? ⟨p.1, 19, none⟩ = some (.int .i64 n2) := by have := ht.cell (frL_next H.fx (j := 2) (by omega)); rw [hnx] at this; exact this
  have q3 : w.cell? ⟨p.1, 20, none⟩ = some (.int .i64 n3) := by have := ht.cell (frL_next H.fx (j := 3) (by omega)); rw [hnx] at this; exact this
  have v0 := row_frozen ht.blk 17
  have v1 := row_frozen ht.blk 18
  have v2 := row_frozen ht.blk 19
  have v3 := row_frozen ht.blk 20
  have o0 := row_frozen H.nxb 0
  have o1 := row_frozen H.nxb 1
  have o2 := row_frozen H.nxb 2
  have o3 := row_frozen H.nxb 3
  obtain ⟨l0, l1, l2, l3, hl⟩ := len4 H.nx4
  have hnb : w.heap[mb + 1]? = some (.cells #[.int .i64 l0, .int .i64 l1, .int .i64 l2, .int .i64 l3] 105 (0, 0)) := by rw [H.nxb, hl]; rfl
  obtain ⟨t0, t1, t2, t3⟩ := row4e hnb
  have hpn1 := H.pne.1
  have hpn2 : mb + 1 ≠ p.1 := fun e => hpn1 e.symm
  have HSN := Lib.hid (fun k => H.setNext n0 n1 n2 n3 k)
  have hbe : (b != m.funs[k].params) = false := by simp [hbp]
  have HNX := Lib.hid hnx
  have hq1 : q ≠ mb + 1 := fun e => by rw [e, hnb] at hins; injection hins with hins; injection hins with _ hins _; exact absurd hins (by decide)
  have hq2 : mb + 1 ≠ q := fun e => hq1 e.symm
  have hq3 : q ≠ p.1 := fun e => by rw [e, ht.blk] at hins; injection hins with hins; injection hins with _ hins _; exact absurd hins (by decide)
  have hq4 : p.1 ≠ q := fun e => hq3 e.symm
  clear hnb hl hnx hbp
  have HH := Lib.hid H
  have HMS := Lib.hid hMs
  clear H ht hins hMs
  go_wp2_with fail
  go_quiet (fail)
  go_wp2_with fail
  refine hK _ _ _ _ _ _ _ _ _ _ _ _ _ _ _ _ _ _ _ _ _ _ _ _ _ _ _ _ _ _ _ _ _ _ _ _ _ _ _ _ _ _ _ _ _ _ _ _ _ _ _ _ _ _ _ _ _ _ _ _ _ _ _ _ _ _ _ _ _ _ _ _ _ _ _ _ _ _ _ _ _ _ _ _ _ _ _ _ _ _ _ _ _ _ _ _ _ _ _ _ _ _ _ _ _ _ _ _ _ _ _ _ _ _ _ _ _ _ _ _ _ _ _ _ _ _ _ _ _ _ _ _ _ _ _ _ _ _ _ _ _ _ _ _ _ _ _ _ _ _ _ _ _ _ _ _ _ _ _ _ _ _ _ _ _ _ _ _ _ _ _ _ _ _ _ _ _ _ _ _ _ _ _ _ _ _ _ _ _ _ _ _ _ _ _ _ _ _ _ _ _ _ _ _ _ _ _ _ _ _ _ _ _ _ _ _ _ _ _ _ _ _ _ _ _ _ _ _ _ _ _ _ _ _ _ _ _ _ _ _ _ _ _ _ _ _ _ _ _ _ _ _ _ _ _ _ _ _ _ _ _ _ _ _ _ _ _ _ _ _ _ _ _ _ _ _ _ _ _ _ _ _ _ _ _ _ _ _ _ _ _ _ _ _ _ _ _ _ _ _ _ _ _ _ _ _ _ _ _ _ _ _ _ _ _ _ _ _ _ _ _ _ _ _ _ _ _ _ _ _ _ _ _ _ _ _ _ _ _ _ _ _ _ _ _ _ _ ?_ ?_
  · have h1 := (HSN.out nq).2.1.zero HH.out.cl HH.out.fx
    exact ⟨topM { x with next := zero4 } s, v, ps ++ [p], [n0, n1, n2, n3], h1.1, rfl, (by rw [← HNX.out]; exact hx6), (zeroW_heap (fun e => HH.out.pne.1 e.symm)).trans (HSN.out nq).1, HH.out.ov, .inr ⟨k, d, hk, hd, rfl, rfl, HMS.out.ticks, (by unfold topM; have := HMS.out.deep; rw [HH.out.cl] at this ⊢; simp at this ⊢; omega), hok2, hP⟩⟩
  · exact HH.out.bel.trans ((HSN.out nq).2.2.trans ((HSN.out nq).2.1.zero HH.out.cl HH.out.fx).2)

set_option maxHeartbeats 8000000 in
set_option maxRecDepth 1000000 in
theorem sw_call_bad (H : SwAt m A cf B cw mb T b0 rb s v u ps p cs x nx wA w) (hT : T ≤ 5000) (hm8 : m.funs.length ≤ 8) (hMs : MsOk m T s) (av : Int) (d : Nat) (a b : Int) (k : Nat) (hk : k < m.funs.length) (hbp : b ≠ m.funs[k].params) (jt n17 : Int) (hins : w.heap[q]? = some (.cells #[.string ⟨#[99, 97, 108, 108]⟩, .int .i64 d, .int .i64 a, .int .i64 b, .int .i64 k] 65 (0, 0)))
    (hP : P = some (endM stuckT (topM { x with next := zero4 } s)))
    (x0 x1 x2 x4 x6 x7 x8 x9 x15 x18 x21 x23 x24 x25 x26 x27 x28 x29 x30 x31 x32 x33 x34 x35 x36 x37 x38 x39 x40 x41 x42 x43 x44 x45 x46 x47 x48 x49 x50 x51 x52 x53 x54 x55 x56 x57 x58 x59 x60 x61 x62 x63 x64 x65 x66 x67 x68 x69 x70 x71 x72 x73 x74 x75 x76 x77 x78 x79 x80 x81 x82 x83 x84 x85 x86 x87 x88 x89 x90 x91 x92 x93 x94 x95 x96 x97 x98 x99 zZ zY zX zW zV zU zT zS zR zQ zP zO zN zM zL zK zJ zI zH zG zF zE zD zC zB yZ yY yX yW yV yU yT yS yR yQ yP yO yN yM yL yK yJ yI yH yG yF yE yD yC yB yA xZ xY xX xW xV xU xS xR xQ xP xO xN xM xL xK xJ xI xH xG xF xE xD xC xB xA wZ wY wX wW wV wU wQ wN wM wK wJ wH wG wE wD vZ vY vX vV vU vT vS vR vQ vP vN vM vK vJ vI vH vA uZ uY uX uV uU uT uS uR uQ uP uO uN uM uL uK uJ uI uH uG uF uD uC uB uA tZ tY tX tW tV tU tT tS tR tQ tP tO tN tM tL tK tJ tI tH tG tF tE tD tC tB tA sZ sY sX sW sV sU sT sS sR sQ sP sO sN sM sL sK sJ sI sG sF sE sD sC sB sA rZ rY rX rW rV rU rT rS rR rQ rP rO rN rM rL rK rJ rI rH rG rF rE rD rC rB rA qZ qY qX qW qV qU qT qR qQ qP qO qN qM qL qK qJ qI qH qG qF qE qD qC qA pZ pY pX pW pV pU pT pS pR pQ pP pO pN pM pL pK pJ pI pH pG pF pE pD pC pB pA oZ oY oX oW oV oU oT oS oR oQ oP oO oN oM oL oK oJ : Value)
    (hK : ∀ (y12 y13 y16 y18 y19 y20 y21 y22 y23 y38 y39 y40 y41 y42 y43 y44 y45 y46 y47 y48 y49 y50 y51 y52 y53 y54 y55 y56 y57 y58 y59 y60 y61 y62 y63 y64 y65 y66 y67 y68 y69 y70 y71 y72 y73 y74 y75 y76 y77 y78 y79 y80 y81 y82 y83 y84 y85 y86 y87 y88 y89 y90 y91 y92 y93 y94 y95 y96 y97 y98 y99 oI oH oG oF oE oD oC oB oA nZ nY nX nV nU nT nS nR nQ nP nO nN nM nL nK nJ nI nH nG nF nD nC mZ mY mX mW mV mT mS mQ mP mO mN mM mL mK mJ mI mH mG mF mD mC mB mA lZ lY lX lW lV lU lT lS lR lQ lP lO lN lM lL lK lJ lI lH lG lF lE lD lC lB lA kZ kY kX kW kV kU kT kS kR kQ kP kO kN kM kL kK kJ kI kH kG kF kE kD kC kB kA jZ jY jX jW jV jU jT jS jR jQ jP jO jN jM jL jK jJ jI jH jG jF jE jD jC jB jA iZ iY iX iW iV iU iT iS iR iQ iP iO iN iM iL iK iJ iI iH iG iF iE iD iC iB iA hZ hY hV hU hO hH gZ gY gX gW gV gU gT gS gR gQ gP gO gN gL gK gJ gI gH gG gF gE gC fZ fY fX fW fV fU fT fS fR fQ fP fO fN fM fL fK fJ fI fH fG fF fE fD fC fB fA eZ eY eX eW eV eU eT eS eR eQ eP eO eN eM eL eK eJ eI eH eG eF eE eD eC eB eA dZ dY dX dW dV dU dT dS dR dQ dP dO dN dM dL dK dJ dI dH dG dF dE dD dC dA cZ cY cX cW cV cU cT cS cQ cP cN cM : Value) (w' : World), HeadAt m mb T left P y12 y13 y16 w' → Below mb wA w' → K ⟨#[x0, x1, x2, .int .i64 T, x4, .pointer (some ⟨b0, 0, none⟩), x6, x7, x8, x9, .pointer (some ⟨rb, 0, none⟩), .pointer (some ⟨mb, 0, none⟩), y12, y13, .pointer (some ⟨mb + 1, 0, none⟩), x15, y16, .int .i64 n17, y18, y19, y20, y21, y22, y23, x24, x25, x26, x27, x28, x29, x30, x31, x32, x33, x34, x35, x36, x37, y38, y39, y40, y41, y42, y43, y44, y45, y46, y47, y48, y49, y50, y51, y52, y53, y54, y55, y56, y57, y58, y59, y60, y61, y62, y63, y64, y65, y66, y67, y68, y69, y70, y71, y72, y73, y74, y75, y76, y77, y78, y79, y80, y81, y82, y83, y84, y85, y86, y87, y88, y89, y90, y91, y92, y93, y94, y95, y96, y97, y98, y99, oI, oH, oG, oF, oE, oD, oC, oB, oA, nZ, nY, nX, nV, nU, nT, nS, nR, nQ, nP, nO, nN, nM, nL, nK, nJ, nI, nH, nG, nF, nD, nC, mZ, mY, mX, mW, mV, mT, mS, mQ, mP, mO, mN, mM, mL, mK, mJ, mI, mH, mG, mF, mD, mC, mB, mA, lZ, lY, lX, lW, lV, lU, lT, lS, lR, lQ, lP, lO, lN, lM, lL, lK, lJ, lI, lH, lG, lF, lE, lD, lC, lB, lA, kZ, kY, kX, kW, kV, kU, kT, kS, kR, kQ, kP, kO, kN, kM, kL, kK, kJ, kI, kH, kG, kF, kE, kD, kC, kB, kA, jZ, jY, jX, jW, jV, jU, jT, jS, jR, jQ, jP, jO, jN, jM, jL, jK, jJ, jI, jH, jG, jF, jE, jD, jC, jB, jA, iZ, iY, iX, iW, iV, iU, iT, iS, iR, iQ, iP, iO, iN, iM, iL, iK, iJ, iI, iH, iG, iF, iE, iD, iC, iB, iA, hZ, hY, hV, hU, hO, hH, gZ, gY, gX, gW, gV, gU, gT, gS, gR, gQ, gP, gO, gN, gL, gK, gJ, gI, gH, gG, gF, gE, gC, fZ, fY, fX, fW, fV, fU, fT, fS, fR, fQ, fP, fO, fN, fM, fL, fK, fJ, fI, fH, fG, fF, fE, fD, fC, fB, fA, eZ, eY, eX, eW, eV, eU, eT, eS, eR, eQ, eP, eO, eN, eM, eL, eK, eJ, eI, eH, eG, eF, eE, eD, eC, eB, eA, dZ, dY, dX, dW, dV, dU, dT, dS, dR, dQ, dP, dO, dN, dM, dL, dK, dJ, dI, dH, dG, dF, dE, dD, dC, dA, cZ, cY, cX, cW, cV, cU, cT, cS, cQ, cP, cN, cM, oK, oJ], []⟩ w')
    (hR : ∀ a w', bodyPost Tryz.prog Tryz.f15 Q .ret a w' → Q0 .ret a w')
    (hD : ∀ (s3 : PMs) (A3 : Option Addr) (c3 : Nat) (u3 : Value) (f3 : List (Nat × Nat)) (w3 : World), RfAt mb s3 (.slice A3 s3.out.length c3) u3 f3 w3 → P.map endO = some (endO s3) → Below mb wA w3 → Q (.returned (.agg #[.string (mkB s3.how), .int .i64 s3.val, .slice A3 s3.out.length c3, .int .i64 (s3.ticks : Nat)])) ((((w3.setCell ⟨rb, 0, none⟩ (.string (mkB s3.how))).setCell ⟨rb, 1, none⟩ (.int .i64 s3.val)).setCell ⟨rb, 2, none⟩ (.slice A3 s3.out.length c3)).setCell ⟨rb, 3, none⟩ (.int .i64 (s3.ticks : Nat)))) :
    Code.wp Tryz.prog swC (Exit.then K Q0) ⟨#[x0, x1, x2, .int .i64 T, x4, .pointer (some ⟨b0, 0, none⟩), x6, x7, x8, x9, .pointer (some ⟨rb, 0, none⟩), .pointer (some ⟨mb, 0, none⟩), u, .int .i64 (-1), .pointer (some ⟨mb + 1, 0, none⟩), x15, .int .i64 jt, .int .i64 n17, x18, .pointer (some ⟨p.1, 0, none⟩), .pointer (some ⟨q, 0, none⟩), x21, .int .i64 av, x23, x24, x25, x26, x27, x28, x29, x30, x31, x32, x33, x34, x35, x36, x37, x38, x39, x40, x41, x42, x43, x44, x45, x46, x47, x48, x49, x50, x51, x52, x53, x54, x55, x56, x57, x58, x59, x60, x61, x62, x63, x64, x65, x66, x67, x68, x69, x70, x71, x72, x73, x74, x75, x76, x77, x78, x79, x80, x81, x82, x83, x84, x85, x86, x87, x88, x89, x90, x91, x92, x93, x94, x95, x96, x97, x98, x99, zZ, zY, zX, zW, zV, zU, zT, zS, zR, zQ, zP, zO, zN, zM, zL, zK, zJ, zI, zH, zG, zF, zE, zD, zC, zB, .string ⟨#[99, 97, 108, 108]⟩, yZ, yY, yX, yW, yV, yU, yT, yS, yR, yQ, yP, yO, yN, yM, yL, yK, yJ, yI, yH, yG, yF, yE, yD, yC, yB, yA, xZ, xY, xX, xW, xV, xU, xS, xR, xQ, xP, xO, xN, xM, xL, xK, xJ, xI, xH, xG, xF, xE, xD, xC, xB, xA, wZ, wY, wX, wW, wV, wU, wQ, wN, wM, wK, wJ, wH, wG, wE, wD, vZ, vY, vX, vV, vU, vT, vS, vR, vQ, vP, vN, vM, vK, vJ, vI, vH, vA, uZ, uY, uX, uV, uU, uT, uS, uR, uQ, uP, uO, uN, uM, uL, uK, uJ, uI, uH, uG, uF, uD, uC, uB, uA, tZ, tY, tX, tW, tV, tU, tT, tS, tR, tQ, tP, tO, tN, tM, tL, tK, tJ, tI, tH, tG, tF, tE, tD, tC, tB, tA, sZ, sY, sX, sW, sV, sU, sT, sS, sR, sQ, sP, sO, sN, sM, sL, sK, sJ, sI, sG, sF, sE, sD, sC, sB, sA, rZ, rY, rX, rW, rV, rU, rT, rS, rR, rQ, rP, rO, rN, rM, rL, rK, rJ, rI, rH, rG, rF, rE, rD, rC, rB, rA, qZ, qY, qX, qW, qV, qU, qT, qR, qQ, qP, qO, qN, qM, qL, qK, qJ, qI, qH, qG, qF, qE, qD, qC, qA, pZ, pY, pX, pW, pV, pU, pT, pS, pR, pQ, pP, pO, pN, pM, pL, pK, pJ, pI, pH, pG, pF, pE, pD, pC, pB, pA, oZ, oY, oX, oW, oV, oU, oT, oS, oR, oQ, oP, oO, oN, oM, oL, oK, oJ], []⟩ w := by
  conv => arg 2; whnf
  obtain ⟨e0, e1, e2, e3, e4⟩ := row5e hins
  obtain ⟨ht, -⟩ := H.rf.top_at H.cl
  obtain ⟨b4, off4, rfl, f0, f1, f2, f3⟩ := fn_cells H.funs hk
  obtain ⟨i0, i1⟩ := H.img
  have hk0 : (0 : Int) ≤ k := by omega
  have hkn : (k : Int) < (m.funs.length : Int) := by omega
  have hbe : (b != m.funs[k].params) = true := by simpa using hbp
  clear hbp
  obtain ⟨Ao, co, rfl⟩ := own_slice H.rf.out
  obtain ⟨c0, c1, c2, c3⟩ := row4m H.rf.blk
  rw [H.how] at c0
  have zz0 := row_frozen H.rf.blk 0
  have zz1 := row_frozen H.rf.blk 1
  obtain ⟨w0, w1, w2, w3⟩ := row4e H.rbk
  have y0 := row_frozen H.rbk 0
  have y1 := row_frozen H.rbk 1
  have y2 := row_frozen H.rbk 2
  have y3 := row_frozen H.rbk 3
  have hne1 : rb ≠ mb := by have := H.low; omega
  have hne2 : mb ≠ rb := by have := H.low; omega
  have HH := Lib.hid H
  have HMS := Lib.hid hMs
  clear H ht hins hMs
  go_wp2_with fail
  go_quiet (fail)
  go_wp2_with fail
  have hk9 : ((w.drewN nq).setCell ⟨mb, 0, none⟩ (.string ⟨#[115, 116, 117, 99, 107]⟩)).heap[rb]? = some (.cells #[.string ⟨#[]⟩, .int .i64 0, .slice none 0 0, .int .i64 0] 54 (0, 0)) := (Below.heap_setCell _ _ _ _ hne1).trans HH.out.rbk
  obtain ⟨u0, u1, u2, u3⟩ := row4e (set4m (v0 := .string ⟨#[115, 116, 117, 99, 107]⟩) (v1 := .int .i64 s.val) (v2 := .slice Ao s.out.length co) (v3 := .int .i64 (s.ticks : Nat)) hk9)
  refine (bodyPost_ret (v := .agg #[.string ⟨#[115, 116, 117, 99, 107]⟩, .int .i64 s.val, .slice Ao s.out.length co, .int .i64 (s.ticks : Nat)]) (by simp [results, Tryz.results15, go_sem, u0, u1, u2, u3]; try rfl) rfl ?_)
  exact hD (endM [115, 116, 117, 99, 107] s) Ao co _ _ _ ((HH.out.rf.drewN _).store (.string ⟨#[115, 116, 117, 99, 107]⟩) (by unfold ocL Go.Proofs.YtonnhechjbdenaaGreatDoor.endM; simp <;> rfl) rfl rfl) (by rw [hP]; rfl) (HH.out.bel.trans ((below_drewN (Below.refl _ _) _).trans ((Below.refl mb _).setCell (p := ⟨mb, 0, none⟩) (Nat.le_refl _) _)))
end
end Go.Proofs.YtonnhechjbdenaaGreatDoor
