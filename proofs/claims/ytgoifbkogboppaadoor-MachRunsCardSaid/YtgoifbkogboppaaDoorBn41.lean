import Derived.Lib.Strings
import Derived.Test.YtgoifbkogboppaaDoorBn33
import Derived.Test.YtgoifbkogboppaaDoorBn32
import Derived.Test.YtgoifbkogboppaaDoorBn34
import Derived.Test.YtgoifbkogboppaaDoorBn35
import Derived.Test.YtgoifbkogboppaaDoorBn36
import Derived.Test.YtgoifbkogboppaaDoorBn37
import Derived.Test.YtgoifbkogboppaaDoorBn38
import Derived.Test.YtgoifbkogboppaaDoorBn39
import Derived.Test.YtgoifbkogboppaaDoorBn40
import Derived.Test.YtgoifbkogboppaaDoorBn31
import Derived.Test.YtgoifbkogboppaaDoorBn10
import Derived.Test.YtgoifbkogboppaaDoorBn5
set_option linter.unusedVariables false
set_option linter.unusedSimpArgs false
namespace Go.Proofs.YtgoifbkogboppaaDoor
open Go.RowKit

/-! the reference's machine: its switch (printed by gen_rfs.py) -/
section
variable {m : PImg} {A : Option Addr} {cf : Nat} {B : Option Addr} {cw mb T b0 rb q left : Nat} {P : Option PMs} {s s2 : PMs} {v u : Value} {ps : List (Nat × Nat)} {p : Nat × Nat} {cs : List PFr} {x : PFr} {nx : List Int} {wA w : World} {K : Act → World → Prop} {Q0 : Exit → Act → World → Prop} {Q : Ending → World → Prop} {p1 : Nat × Nat} {y : PFr}
set_option maxHeartbeats 8000000 in
set_option maxRecDepth 1000000 in
theorem sw_two (H : SwAt m A cf B cw mb T b0 rb s v u ps p cs x nx wA w) (hT : T ≤ 5000) (hm8 : m.funs.length ≤ 8) (hMs : MsOk m T s) (av : Int) (hav : I64 av) (op : Txt) (j : Nat) (hj : j < 14) (hf : findL op = j + 16) (h0 : ((mkB op).toList == [99, 111, 110, 115, 116]) = false) (h1 : ((mkB op).toList == [104, 105, 103, 104]) = false) (h2 : ((mkB op).toList == [109, 111, 118, 101]) = false) (h3 : ((mkB op).toList == [108, 111, 97, 100]) = false) (h4 : ((mkB op).toList == [115, 116, 111, 114, 101]) = false) (h5 : ((mkB op).toList == [112, 97, 114, 97, 109]) = false) (h6 : ((mkB op).toList == [97, 114, 103]) = false) (h7 : ((mkB op).toList == [99, 97, 108, 108]) = false) (h8 : ((mkB op).toList == [116, 105, 99, 107]) = false) (h9 : ((mkB op).toList == [112, 114, 105, 110, 116]) = false) (h10 : ((mkB op).toList == [106, 117, 109, 112]) = false) (h11 : ((mkB op).toList == [105, 102]) = false) (h12 : ((mkB op).toList == [114, 101, 116, 117, 114, 110]) = false) (h13 : ((mkB op).toList == [110, 101, 103]) = false) (h14 : ((mkB op).toList == [110, 111, 116]) = false) (d : Nat) (hd : d < 8) (a : Int) (b : Nat) (hb8 : b < 8) (imm : Int) (res : Int) (hres : dofV (opsB.getD j []) av (regM x b) = res) (jt n17 : Int) (hins : w.heap[q]? = some (.cells #[.string (mkB op), .int .i64 d, .int .i64 a, .int .i64 b, .int .i64 imm] 52 (0, 0)))
    (hP : P = runN m T left (topM (putM x d res) s)) (hok2 : MsOk m T (topM (putM x d res) s)) (hov2 : (topM (putM x d res) s).over = false)
    (x0 x1 x2 x4 x6 x7 x8 x9 x15 x18 x21 x23 x24 x25 x26 x27 x28 x29 x30 x31 x32 x33 x34 x35 x36 x37 x38 x39 x40 x41 x42 x43 x44 x45 x46 x47 x48 x49 x50 x51 x52 x53 x54 x55 x56 x57 x58 x59 x60 x61 x62 x63 x64 x65 x66 x67 x68 x69 x70 x71 x72 x73 x74 x75 x76 x77 x78 x79 x80 x81 x82 x83 x84 x85 x86 x87 x88 x89 x90 x91 x92 x93 x94 x95 x96 x97 x98 x99 x100 x101 x102 x103 x104 x105 x106 x107 x108 x109 x110 x111 x112 x113 x114 x115 x116 x117 x118 x119 x120 x121 x122 x123 x124 x126 x127 x128 x129 x130 x131 x132 x133 x134 x135 x136 x137 x138 x139 x140 x141 x142 x143 x144 x145 x146 x147 x148 x149 x150 x151 x152 x153 x154 x155 x156 x157 x158 x159 x160 x161 x162 x163 x164 x165 x166 x167 x168 x169 x170 x171 x172 x173 x174 x175 x176 x177 x178 x179 x180 x181 x182 x183 x184 x185 x186 x187 x188 x189 x190 x191 x192 x193 x194 x195 x196 x197 x198 x199 x200 x201 x202 x203 x204 x205 x206 x207 x208 x209 x210 x211 x212 x213 x214 x215 x216 x217 x218 x219 x220 x221 x222 x223 x224 x225 x226 x227 x228 x229 x230 x231 x232 x233 x234 x235 x236 x237 x238 x239 x240 x241 x242 x243 x244 x245 x246 x247 x248 x249 x250 x251 x252 x253 x254 x255 x256 x257 x258 x259 x260 x261 x262 x263 x264 x265 x266 x267 x268 x269 x270 x271 x272 x273 x274 x275 x276 x277 x278 x279 x280 x281 x282 x283 x284 x285 x286 x287 x288 x289 x290 x291 x292 x293 x294 x295 x296 x297 x298 x299 x300 x301 x302 x303 x304 x305 x306 x307 x308 x309 x310 x311 x312 x313 x314 x315 x316 x317 x318 x319 x320 x321 x322 x323 x324 x325 x326 x327 x328 x329 x330 x331 x332 x333 x334 x335 x336 x337 x338 x339 x340 x341 x342 x343 x344 x345 x346 x347 x348 x349 x350 x351 x352 x353 x354 x355 x356 x357 x358 x359 x360 x361 x362 x363 x364 x365 x366 x367 x368 x369 x370 x371 x372 x373 x374 x375 x376 : Value)
    (hK : ∀ (y12 y13 y16 y18 y19 y20 y21 y22 y23 y38 y39 y40 y41 y42 y43 y44 y45 y46 y47 y48 y49 y50 y51 y52 y53 y54 y55 y56 y57 y58 y59 y60 y61 y62 y63 y64 y65 y66 y67 y68 y69 y70 y71 y72 y73 y74 y75 y76 y77 y78 y79 y80 y81 y82 y83 y84 y85 y86 y87 y88 y89 y90 y91 y92 y93 y94 y95 y96 y97 y98 y99 y100 y101 y102 y103 y104 y105 y106 y107 y108 y109 y110 y111 y112 y113 y114 y115 y116 y117 y118 y119 y120 y121 y122 y123 y124 y125 y126 y127 y128 y129 y130 y131 y132 y133 y134 y135 y136 y137 y138 y139 y140 y141 y142 y143 y144 y145 y146 y147 y148 y149 y150 y151 y152 y153 y154 y155 y156 y157 y158 y159 y160 y161 y162 y163 y164 y165 y166 y167 y168 y169 y170 y171 y172 y173 y174 y175 y176 y177 y178 y179 y180 y181 y182 y183 y184 y185 y186 y187 y188 y189 y190 y191 y192 y193 y194 y195 y196 y197 y198 y199 y200 y201 y202 y203 y204 y205 y206 y207 y208 y209 y210 y211 y212 y213 y214 y215 y216 y217 y218 y219 y220 y221 y222 y223 y224 y225 y226 y227 y228 y229 y230 y231 y232 y233 y234 y235 y236 y237 y238 y239 y240 y241 y242 y243 y244 y245 y246 y247 y248 y249 y250 y251 y252 y253 y254 y255 y256 y257 y258 y259 y260 y261 y262 y263 y264 y265 y266 y267 y268 y269 y270 y271 y272 y273 y274 y275 y276 y277 y278 y279 y280 y281 y282 y283 y284 y285 y286 y287 y288 y289 y290 y291 y292 y293 y294 y295 y296 y297 y298 y299 y300 y301 y302 y303 y304 y305 y306 y307 y308 y309 y310 y311 y312 y313 y314 y315 y316 y317 y318 y319 y320 y321 y322 y323 y324 y325 y326 y327 y328 y329 y330 y331 y332 y333 y334 y335 y336 y337 y338 y339 y340 y341 y342 y343 y344 y345 y346 y347 y348 y349 y350 y351 y352 y353 y354 y355 y356 y357 y358 y359 y360 y361 y362 y363 y364 y365 y366 y367 y368 y369 y370 y371 y372 y373 y374 : Value) (w' : World), HeadAt m mb T left P y12 y13 y16 w' → Below mb wA w' → K ⟨#[x0, x1, x2, .int .i64 T, x4, .pointer (some ⟨b0, 0, none⟩), x6, x7, x8, x9, .pointer (some ⟨rb, 0, none⟩), .pointer (some ⟨mb, 0, none⟩), y12, y13, .pointer (some ⟨mb + 1, 0, none⟩), x15, y16, .int .i64 n17, y18, y19, y20, y21, y22, y23, x24, x25, x26, x27, x28, x29, x30, x31, x32, x33, x34, x35, x36, x37, y38, y39, y40, y41, y42, y43, y44, y45, y46, y47, y48, y49, y50, y51, y52, y53, y54, y55, y56, y57, y58, y59, y60, y61, y62, y63, y64, y65, y66, y67, y68, y69, y70, y71, y72, y73, y74, y75, y76, y77, y78, y79, y80, y81, y82, y83, y84, y85, y86, y87, y88, y89, y90, y91, y92, y93, y94, y95, y96, y97, y98, y99, y100, y101, y102, y103, y104, y105, y106, y107, y108, y109, y110, y111, y112, y113, y114, y115, y116, y117, y118, y119, y120, y121, y122, y123, y124, y125, y126, y127, y128, y129, y130, y131, y132, y133, y134, y135, y136, y137, y138, y139, y140, y141, y142, y143, y144, y145, y146, y147, y148, y149, y150, y151, y152, y153, y154, y155, y156, y157, y158, y159, y160, y161, y162, y163, y164, y165, y166, y167, y168, y169, y170, y171, y172, y173, y174, y175, y176, y177, y178, y179, y180, y181, y182, y183, y184, y185, y186, y187, y188, y189, y190, y191, y192, y193, y194, y195, y196, y197, y198, y199, y200, y201, y202, y203, y204, y205, y206, y207, y208, y209, y210, y211, y212, y213, y214, y215, y216, y217, y218, y219, y220, y221, y222, y223, y224, y225, y226, y227, y228, y229, y230, y231, y232, y233, y234, y235, y236, y237, y238, y239, y240, y241, y242, y243, y244, y245, y246, y247, y248, y249, y250, y251, y252, y253, y254, y255, y256, y257, y258, y259, y260, y261, y262, y263, y264, y265, y266, y267, y268, y269, y270, y271, y272, y273, y274, y275, y276, y277, y278, y279, y280, y281, y282, y283, y284, y285, y286, y287, y288, y289, y290, y291, y292, y293, y294, y295, y296, y297, y298, y299, y300, y301, y302, y303, y304, y305, y306, y307, y308, y309, y310, y311, y312, y313, y314, y315, y316, y317, y318, y319, y320, y321, y322, y323, y324, y325, y326, y327, y328, y329, y330, y331, y332, y333, y334, y335, y336, y337, y338, y339, y340, y341, y342, y343, y344, y345, y346, y347, y348, y349, y350, y351, y352, y353, y354, y355, y356, y357, y358, y359, y360, y361, y362, y363, y364, y365, y366, y367, y368, y369, y370, y371, y372, y373, y374, x375, x376], []⟩ w')
    (hR : ∀ a w', bodyPost Tryd.prog Tryd.f9 Q .ret a w' → Q0 .ret a w')
    (hD : ∀ (s3 : PMs) (A3 : Option Addr) (c3 : Nat) (u3 : Value) (f3 : List (Nat × Nat)) (w3 : World), RfAt mb s3 (.slice A3 s3.out.length c3) u3 f3 w3 → P.map endO = some (endO s3) → Below mb wA w3 → Q (.returned (.agg #[.string (mkB s3.how), .int .i64 s3.val, .slice A3 s3.out.length c3, .int .i64 (s3.ticks : Nat)])) ((((w3.setCell ⟨rb, 0, none⟩ (.string (mkB s3.how))).setCell ⟨rb, 1, none⟩ (.int .i64 s3.val)).setCell ⟨rb, 2, none⟩ (.slice A3 s3.out.length c3)).setCell ⟨rb, 3, none⟩ (.int .i64 (s3.ticks : Nat)))) :
    Code.wp Tryd.prog swC (Exit.then K Q0) ⟨#[x0, x1, x2, .int .i64 T, x4, .pointer (some ⟨b0, 0, none⟩), x6, x7, x8, x9, .pointer (some ⟨rb, 0, none⟩), .pointer (some ⟨mb, 0, none⟩), u, .int .i64 (-1), .pointer (some ⟨mb + 1, 0, none⟩), x15, .int .i64 jt, .int .i64 n17, x18, .pointer (some ⟨p.1, 0, none⟩), .pointer (some ⟨q, 0, none⟩), x21, .int .i64 av, x23, x24, x25, x26, x27, x28, x29, x30, x31, x32, x33, x34, x35, x36, x37, x38, x39, x40, x41, x42, x43, x44, x45, x46, x47, x48, x49, x50, x51, x52, x53, x54, x55, x56, x57, x58, x59, x60, x61, x62, x63, x64, x65, x66, x67, x68, x69, x70, x71, x72, x73, x74, x75, x76, x77, x78, x79, x80, x81, x82, x83, x84, x85, x86, x87, x88, x89, x90, x91, x92, x93, x94, x95, x96, x97, x98, x99, x100, x101, x102, x103, x104, x105, x106, x107, x108, x109, x110, x111, x112, x113, x114, x115, x116, x117, x118, x119, x120, x121, x122, x123, x124, .string (mkB op), x126, x127, x128, x129, x130, x131, x132, x133, x134, x135, x136, x137, x138, x139, x140, x141, x142, x143, x144, x145, x146, x147, x148, x149, x150, x151, x152, x153, x154, x155, x156, x157, x158, x159, x160, x161, x162, x163, x164, x165, x166, x167, x168, x169, x170, x171, x172, x173, x174, x175, x176, x177, x178, x179, x180, x181, x182, x183, x184, x185, x186, x187, x188, x189, x190, x191, x192, x193, x194, x195, x196, x197, x198, x199, x200, x201, x202, x203, x204, x205, x206, x207, x208, x209, x210, x211, x212, x213, x214, x215, x216, x217, x218, x219, x220, x221, x222, x223, x224, x225, x226, x227, x228, x229, x230, x231, x232, x233, x234, x235, x236, x237, x238, x239, x240, x241, x242, x243, x244, x245, x246, x247, x248, x249, x250, x251, x252, x253, x254, x255, x256, x257, x258, x259, x260, x261, x262, x263, x264, x265, x266, x267, x268, x269, x270, x271, x272, x273, x274, x275, x276, x277, x278, x279, x280, x281, x282, x283, x284, x285, x286, x287, x288, x289, x290, x291, x292, x293, x294, x295, x296, x297, x298, x299, x300, x301, x302, x303, x304, x305, x306, x307, x308, x309, x310, x311, x312, x313, x314, x315, x316, x317, x318, x319, x320, x321, x322, x323, x324, x325, x326, x327, x328, x329, x330, x331, x332, x333, x334, x335, x336, x337, x338, x339, x340, x341, x342, x343, x344, x345, x346, x347, x348, x349, x350, x351, x352, x353, x354, x355, x356, x357, x358, x359, x360, x361, x362, x363, x364, x365, x366, x367, x368, x369, x370, x371, x372, x373, x374, x375, x376], []⟩ w := by
  conv => arg 2; whnf
  obtain ⟨e0, e1, e2, e3, e4⟩ := row5e hins
  obtain ⟨ht, -⟩ := H.rf.top_at H.cl
  have hd0 : (0 : Int) ≤ d := by omega
  have hd1 : (d : Int) < 8 := by omega
  have r1 := ht.cell (frL_r H.fx hd)
  have z1 := row_frozen ht.blk (4 + d)
  have r3 : w.cell? ⟨p.1, 4 + b, none⟩ = some (.int .i64 (regM x b)) := ht.cell (frL_r H.fx hb8)
  have hb0 : (0 : Int) ≤ b := by omega
  have hb1 : (b : Int) < 8 := by omega
  have hql : q < w.heap.size := (Array.getElem?_eq_some_iff.1 hins).1
  have hqp : q ≠ p.1 := fun e => by rw [e, ht.blk] at hins; injection hins with hins; injection hins with _ hins _; exact absurd hins (by decide)
  obtain ⟨sv, hsv⟩ : ∃ sv, mkB (opsB.getD j []) = sv := ⟨_, rfl⟩
  have HTH : Hid (Calls Tryd.prog 21 #[.string (mkB op)] w.drew (Ret (.string sv) w.drew)) := by
    have := threeOf_any op j hj hf w.drew
    rw [hsv] at this
    exact this
  have HDO : Hid (∀ w', Calls Tryd.prog 20 #[.string sv, .int .i64 av, .int .i64 (regM x b)] w' fun e w'' => e = .returned (.int .i64 res) ∧ w'' = w') := fun w' => by
    have h1 := DoOf_any (mkB (opsB.getD j [])) av (regM x b) hav w'
    rw [mkB_toList, hres, hsv] at h1
    exact h1
  have HST := Lib.hid (fun w' (hb' : Below w.heap.size w w') n => ((H.rf.below hb').drewN n).frStore H.cl (y := putM x d res) (.int .i64 res) (frL_setR H.fx hd _) rfl)
  have HZ : Hid (∀ w', Below w.heap.size w w' → w'.frozen? ⟨p.1, 4 + d, none⟩ = false) := fun w' hb' => row_frozen ((H.rf.below hb').top_at H.cl).1.blk (4 + d)
  have hb9 := Nat.le_of_lt H.rf.lt
  have hn9 := (Array.getElem?_eq_some_iff.1 H.nxb).1
  clear hres hf e2 e4 hsv hj
  have HH := Lib.hid H
  have HMS := Lib.hid hMs
  clear H ht hins hMs
  go_upto_region 33 with fail
  rw [show Op.load 3 (Operand.tmp 138) = ld138 from rfl]
  go_region_held3 (fun w' => w'.cell? ⟨q, 0, none⟩ = some (.string (mkB op)) ∧ w'.cell? ⟨q, 1, none⟩ = some (.int .i64 d) ∧ w'.cell? ⟨q, 3, none⟩ = some (.int .i64 b))
    (first
      | exact ⟨e0, e1, e3⟩
      | (go_split_ands
         refine ⟨?_, ?_, ?_⟩
         all_goals (first | assumption | exact Keeps.of_below hb5 _ _ (by assumption) | exact (World.cell?_of_block (Below.heap_setCell _ _ _ _ hqp)).trans (by assumption))))
    (first
      | (go_at_call 21; (with_reducible refine HTH.out.mono ?_); rintro z w5 ⟨rfl, hb5⟩; have hbx5 := grow_trans (grow_drew (grow_refl w) 1) hb5; have r3 := Keeps.of_below hbx5 _ _ r3; have r1 := Keeps.of_below hbx5 _ _ r1; have z1 := HZ.out _ hbx5; try dsimp only)
      | (go_at_call 20; (with_reducible refine (HDO.out _).mono ?_); rintro z w6 ⟨rfl, rfl⟩; try dsimp only))
  all_goals go_wp2_with fail
  all_goals
    refine hK _ _ _ _ _ _ _ _ _ _ _ _ _ _ _ _ _ _ _ _ _ _ _ _ _ _ _ _ _ _ _ _ _ _ _ _ _ _ _ _ _ _ _ _ _ _ _ _ _ _ _ _ _ _ _ _ _ _ _ _ _ _ _ _ _ _ _ _ _ _ _ _ _ _ _ _ _ _ _ _ _ _ _ _ _ _ _ _ _ _ _ _ _ _ _ _ _ _ _ _ _ _ _ _ _ _ _ _ _ _ _ _ _ _ _ _ _ _ _ _ _ _ _ _ _ _ _ _ _ _ _ _ _ _ _ _ _ _ _ _ _ _ _ _ _ _ _ _ _ _ _ _ _ _ _ _ _ _ _ _ _ _ _ _ _ _ _ _ _ _ _ _ _ _ _ _ _ _ _ _ _ _ _ _ _ _ _ _ _ _ _ _ _ _ _ _ _ _ _ _ _ _ _ _ _ _ _ _ _ _ _ _ _ _ _ _ _ _ _ _ _ _ _ _ _ _ _ _ _ _ _ _ _ _ _ _ _ _ _ _ _ _ _ _ _ _ _ _ _ _ _ _ _ _ _ _ _ _ _ _ _ _ _ _ _ _ _ _ _ _ _ _ _ _ _ _ _ _ _ _ _ _ _ _ _ _ _ _ _ _ _ _ _ _ _ _ _ _ _ _ _ _ _ _ _ _ _ _ _ _ _ _ _ _ _ _ _ _ _ _ _ _ _ _ _ _ _ _ _ _ _ _ _ _ _ _ _ _ _ _ _ _ _ _ _ _ _ ?_ ?_
    · exact HH.out.head (HST.out _ (by assumption) 0).1 ((Below.heap_setCell _ _ _ _ (fun e => HH.out.pne.1 e.symm)).trans (Below.block (by assumption) _ hn9)) hok2 hov2 hP _
    · exact HH.out.bel.trans ((Below.mono (by assumption) hb9).trans (HST.out _ (by assumption) 0).2)
end
end Go.Proofs.YtgoifbkogboppaaDoor

namespace Go.Proofs.YtgoifbkogboppaaDoor
open Go.RowKit

/-! the reference's machine: its switch (printed by gen_rfsw.py) -/
section
variable {m : PImg} {A : Option Addr} {cf : Nat} {B : Option Addr} {cw mb T b0 rb q left : Nat} {P : Option PMs} {s s2 : PMs} {v u : Value} {ps : List (Nat × Nat)} {p : Nat × Nat} {cs : List PFr} {x : PFr} {nx : List Int} {wA w : World} {K : Act → World → Prop} {Q0 : Exit → Act → World → Prop} {Q : Ending → World → Prop} {p1 : Nat × Nat} {y : PFr}

theorem over_none {s : PMs} {how : Txt} {m : PImg} {T n : Nat} (hh : how ≠ []) : runN m T n (endM how s) = some (endM how s) := run_over (over_end how hh)
theorem find_two (j : Nat) (hj : j < 14) : findL (nameOf (j + 15)) = j + 16 := by
  have : ∀ j, j < 14 → findL (nameOf (j + 15)) = j + 16 := by decide
  exact this j hj
theorem name_not (j : Nat) (hj : j < 14) : ∀ k, k < 15 → nameOf (j + 15) ≠ nameOf k := by
  have : ∀ j, j < 14 → ∀ k, k < 15 → nameOf (j + 15) ≠ nameOf k := by decide
  exact this j hj
theorem step_two (fs : List PFn) (j : Nat) (hj : j < 14) (d a b imm : Int) : stepI fs T ⟨nameOf (j + 15), d, a, b, imm⟩ x s = topM (putM x d (dofV (opsB.getD j []) (regM x a) (regM x b))) s := by
  have hn := name_not j hj
  have h1 : flowB (nameOf (j + 15)) = false := by
    have : ∀ j, j < 14 → flowB (nameOf (j + 15)) = false := by decide
    exact this j hj
  have h2 : moveB (nameOf (j + 15)) = false := by
    have : ∀ j, j < 14 → moveB (nameOf (j + 15)) = false := by decide
    exact this j hj
  have h3 : sumP ⟨nameOf (j + 15), d, a, b, imm⟩ x = dofV (opsB.getD j []) (regM x a) (regM x b) := by
    unfold sumP
    dsimp only
    rw [if_neg (show ¬ nameOf (j + 15) = negT from hn 13 (by omega)), if_neg (show ¬ nameOf (j + 15) = notT from hn 14 (by omega))]
    have h4 : threeP (nameOf (j + 15)) = opsB.getD j [] := by
      have : ∀ j, j < 14 → threeP (nameOf (j + 15)) = opsB.getD j [] := by decide
      exact this j hj
    rw [h4]
    have h5 : (doV (opsB.getD j []) (regM x a) (regM x b)).isSome = true := by
      rw [doV_ops]
      have : ∀ j, j < 14 → opsB.any (fun z => z == opsB.getD j []) = true := by decide
      exact this j hj
    obtain ⟨v, hv⟩ := Option.isSome_iff_exists.1 h5
    rw [hv, doV_dofV _ _ _ _ hv]
    rfl
  unfold stepI
  rw [if_neg (by rw [h1]; decide), if_neg (by rw [h2]; decide), h3]
theorem flow_step {i : PIns} (fs : List PFn) (h : flowB i.op = true) : stepI fs T i x s = flowP fs T i x s := by unfold stepI; rw [if_pos h]
theorem move_step {i : PIns} (fs : List PFn) (h : flowB i.op = false) (h2 : moveB i.op = true) : stepI fs T i x s = moveP i x s := by unfold stepI; rw [if_neg (by rw [h]; decide), if_pos h2]

set_option maxHeartbeats 16000000 in
set_option maxRecDepth 1000000 in
theorem sw_any (hg : GoodI m) (H : SwAt m A cf B cw mb T b0 rb s v u ps p cs x nx wA w) (hT : T ≤ 5000) (hMs : MsOk m T s) (hx : FrOk m x) (i : PIns) (hi : InsOk m i) (av : Int) (hva : regM x i.a = av) (jt n17 : Int) (hins : w.heap[q]? = some (.cells #[.string (mkB i.op), .int .i64 i.d, .int .i64 i.a, .int .i64 i.b, .int .i64 i.imm] 52 (0, 0))) (hP : P = runN m T left (stepI m.funs T i x s))
    (x0 x1 x2 x4 x6 x7 x8 x9 x15 x18 x21 x23 x24 x25 x26 x27 x28 x29 x30 x31 x32 x33 x34 x35 x36 x37 x38 x39 x40 x41 x42 x43 x44 x45 x46 x47 x48 x49 x50 x51 x52 x53 x54 x55 x56 x57 x58 x59 x60 x61 x62 x63 x64 x65 x66 x67 x68 x69 x70 x71 x72 x73 x74 x75 x76 x77 x78 x79 x80 x81 x82 x83 x84 x85 x86 x87 x88 x89 x90 x91 x92 x93 x94 x95 x96 x97 x98 x99 x100 x101 x102 x103 x104 x105 x106 x107 x108 x109 x110 x111 x112 x113 x114 x115 x116 x117 x118 x119 x120 x121 x122 x123 x124 x126 x127 x128 x129 x130 x131 x132 x133 x134 x135 x136 x137 x138 x139 x140 x141 x142 x143 x144 x145 x146 x147 x148 x149 x150 x151 x152 x153 x154 x155 x156 x157 x158 x159 x160 x161 x162 x163 x164 x165 x166 x167 x168 x169 x170 x171 x172 x173 x174 x175 x176 x177 x178 x179 x180 x181 x182 x183 x184 x185 x186 x187 x188 x189 x190 x191 x192 x193 x194 x195 x196 x197 x198 x199 x200 x201 x202 x203 x204 x205 x206 x207 x208 x209 x210 x211 x212 x213 x214 x215 x216 x217 x218 x219 x220 x221 x222 x223 x224 x225 x226 x227 x228 x229 x230 x231 x232 x233 x234 x235 x236 x237 x238 x239 x240 x241 x242 x243 x244 x245 x246 x247 x248 x249 x250 x251 x252 x253 x254 x255 x256 x257 x258 x259 x260 x261 x262 x263 x264 x265 x266 x267 x268 x269 x270 x271 x272 x273 x274 x275 x276 x277 x278 x279 x280 x281 x282 x283 x284 x285 x286 x287 x288 x289 x290 x291 x292 x293 x294 x295 x296 x297 x298 x299 x300 x301 x302 x303 x304 x305 x306 x307 x308 x309 x310 x311 x312 x313 x314 x315 x316 x317 x318 x319 x320 x321 x322 x323 x324 x325 x326 x327 x328 x329 x330 x331 x332 x333 x334 x335 x336 x337 x338 x339 x340 x341 x342 x343 x344 x345 x346 x347 x348 x349 x350 x351 x352 x353 x354 x355 x356 x357 x358 x359 x360 x361 x362 x363 x364 x365 x366 x367 x368 x369 x370 x371 x372 x373 x374 x375 x376 : Value)
    (hK : ∀ (y12 y13 y16 y18 y19 y20 y21 y22 y23 y38 y39 y40 y41 y42 y43 y44 y45 y46 y47 y48 y49 y50 y51 y52 y53 y54 y55 y56 y57 y58 y59 y60 y61 y62 y63 y64 y65 y66 y67 y68 y69 y70 y71 y72 y73 y74 y75 y76 y77 y78 y79 y80 y81 y82 y83 y84 y85 y86 y87 y88 y89 y90 y91 y92 y93 y94 y95 y96 y97 y98 y99 y100 y101 y102 y103 y104 y105 y106 y107 y108 y109 y110 y111 y112 y113 y114 y115 y116 y117 y118 y119 y120 y121 y122 y123 y124 y125 y126 y127 y128 y129 y130 y131 y132 y133 y134 y135 y136 y137 y138 y139 y140 y141 y142 y143 y144 y145 y146 y147 y148 y149 y150 y151 y152 y153 y154 y155 y156 y157 y158 y159 y160 y161 y162 y163 y164 y165 y166 y167 y168 y169 y170 y171 y172 y173 y174 y175 y176 y177 y178 y179 y180 y181 y182 y183 y184 y185 y186 y187 y188 y189 y190 y191 y192 y193 y194 y195 y196 y197 y198 y199 y200 y201 y202 y203 y204 y205 y206 y207 y208 y209 y210 y211 y212 y213 y214 y215 y216 y217 y218 y219 y220 y221 y222 y223 y224 y225 y226 y227 y228 y229 y230 y231 y232 y233 y234 y235 y236 y237 y238 y239 y240 y241 y242 y243 y244 y245 y246 y247 y248 y249 y250 y251 y252 y253 y254 y255 y256 y257 y258 y259 y260 y261 y262 y263 y264 y265 y266 y267 y268 y269 y270 y271 y272 y273 y274 y275 y276 y277 y278 y279 y280 y281 y282 y283 y284 y285 y286 y287 y288 y289 y290 y291 y292 y293 y294 y295 y296 y297 y298 y299 y300 y301 y302 y303 y304 y305 y306 y307 y308 y309 y310 y311 y312 y313 y314 y315 y316 y317 y318 y319 y320 y321 y322 y323 y324 y325 y326 y327 y328 y329 y330 y331 y332 y333 y334 y335 y336 y337 y338 y339 y340 y341 y342 y343 y344 y345 y346 y347 y348 y349 y350 y351 y352 y353 y354 y355 y356 y357 y358 y359 y360 y361 y362 y363 y364 y365 y366 y367 y368 y369 y370 y371 y372 y373 y374 : Value) (w' : World), HeadAt m mb T left P y12 y13 y16 w' → Below mb wA w' → K ⟨#[x0, x1, x2, .int .i64 T, x4, .pointer (some ⟨b0, 0, none⟩), x6, x7, x8, x9, .pointer (some ⟨rb, 0, none⟩), .pointer (some ⟨mb, 0, none⟩), y12, y13, .pointer (some ⟨mb + 1, 0, none⟩), x15, y16, .int .i64 n17, y18, y19, y20, y21, y22, y23, x24, x25, x26, x27, x28, x29, x30, x31, x32, x33, x34, x35, x36, x37, y38, y39, y40, y41, y42, y43, y44, y45, y46, y47, y48, y49, y50, y51, y52, y53, y54, y55, y56, y57, y58, y59, y60, y61, y62, y63, y64, y65, y66, y67, y68, y69, y70, y71, y72, y73, y74, y75, y76, y77, y78, y79, y80, y81, y82, y83, y84, y85, y86, y87, y88, y89, y90, y91, y92, y93, y94, y95, y96, y97, y98, y99, y100, y101, y102, y103, y104, y105, y106, y107, y108, y109, y110, y111, y112, y113, y114, y115, y116, y117, y118, y119, y120, y121, y122, y123, y124, y125, y126, y127, y128, y129, y130, y131, y132, y133, y134, y135, y136, y137, y138, y139, y140, y141, y142, y143, y144, y145, y146, y147, y148, y149, y150, y151, y152, y153, y154, y155, y156, y157, y158, y159, y160, y161, y162, y163, y164, y165, y166, y167, y168, y169, y170, y171, y172, y173, y174, y175, y176, y177, y178, y179, y180, y181, y182, y183, y184, y185, y186, y187, y188, y189, y190, y191, y192, y193, y194, y195, y196, y197, y198, y199, y200, y201, y202, y203, y204, y205, y206, y207, y208, y209, y210, y211, y212, y213, y214, y215, y216, y217, y218, y219, y220, y221, y222, y223, y224, y225, y226, y227, y228, y229, y230, y231, y232, y233, y234, y235, y236, y237, y238, y239, y240, y241, y242, y243, y244, y245, y246, y247, y248, y249, y250, y251, y252, y253, y254, y255, y256, y257, y258, y259, y260, y261, y262, y263, y264, y265, y266, y267, y268, y269, y270, y271, y272, y273, y274, y275, y276, y277, y278, y279, y280, y281, y282, y283, y284, y285, y286, y287, y288, y289, y290, y291, y292, y293, y294, y295, y296, y297, y298, y299, y300, y301, y302, y303, y304, y305, y306, y307, y308, y309, y310, y311, y312, y313, y314, y315, y316, y317, y318, y319, y320, y321, y322, y323, y324, y325, y326, y327, y328, y329, y330, y331, y332, y333, y334, y335, y336, y337, y338, y339, y340, y341, y342, y343, y344, y345, y346, y347, y348, y349, y350, y351, y352, y353, y354, y355, y356, y357, y358, y359, y360, y361, y362, y363, y364, y365, y366, y367, y368, y369, y370, y371, y372, y373, y374, x375, x376], []⟩ w')
    (hR : ∀ a w', bodyPost Tryd.prog Tryd.f9 Q .ret a w' → Q0 .ret a w')
    (hD : ∀ (s3 : PMs) (A3 : Option Addr) (c3 : Nat) (u3 : Value) (f3 : List (Nat × Nat)) (w3 : World), RfAt mb s3 (.slice A3 s3.out.length c3) u3 f3 w3 → P.map endO = some (endO s3) → Below mb wA w3 → Q (.returned (.agg #[.string (mkB s3.how), .int .i64 s3.val, .slice A3 s3.out.length c3, .int .i64 (s3.ticks : Nat)])) ((((w3.setCell ⟨rb, 0, none⟩ (.string (mkB s3.how))).setCell ⟨rb, 1, none⟩ (.int .i64 s3.val)).setCell ⟨rb, 2, none⟩ (.slice A3 s3.out.length c3)).setCell ⟨rb, 3, none⟩ (.int .i64 (s3.ticks : Nat)))) :
    Code.wp Tryd.prog swC (Exit.then K Q0) ⟨#[x0, x1, x2, .int .i64 T, x4, .pointer (some ⟨b0, 0, none⟩), x6, x7, x8, x9, .pointer (some ⟨rb, 0, none⟩), .pointer (some ⟨mb, 0, none⟩), u, .int .i64 (-1), .pointer (some ⟨mb + 1, 0, none⟩), x15, .int .i64 jt, .int .i64 n17, x18, .pointer (some ⟨p.1, 0, none⟩), .pointer (some ⟨q, 0, none⟩), x21, .int .i64 av, x23, x24, x25, x26, x27, x28, x29, x30, x31, x32, x33, x34, x35, x36, x37, x38, x39, x40, x41, x42, x43, x44, x45, x46, x47, x48, x49, x50, x51, x52, x53, x54, x55, x56, x57, x58, x59, x60, x61, x62, x63, x64, x65, x66, x67, x68, x69, x70, x71, x72, x73, x74, x75, x76, x77, x78, x79, x80, x81, x82, x83, x84, x85, x86, x87, x88, x89, x90, x91, x92, x93, x94, x95, x96, x97, x98, x99, x100, x101, x102, x103, x104, x105, x106, x107, x108, x109, x110, x111, x112, x113, x114, x115, x116, x117, x118, x119, x120, x121, x122, x123, x124, .string (mkB i.op), x126, x127, x128, x129, x130, x131, x132, x133, x134, x135, x136, x137, x138, x139, x140, x141, x142, x143, x144, x145, x146, x147, x148, x149, x150, x151, x152, x153, x154, x155, x156, x157, x158, x159, x160, x161, x162, x163, x164, x165, x166, x167, x168, x169, x170, x171, x172, x173, x174, x175, x176, x177, x178, x179, x180, x181, x182, x183, x184, x185, x186, x187, x188, x189, x190, x191, x192, x193, x194, x195, x196, x197, x198, x199, x200, x201, x202, x203, x204, x205, x206, x207, x208, x209, x210, x211, x212, x213, x214, x215, x216, x217, x218, x219, x220, x221, x222, x223, x224, x225, x226, x227, x228, x229, x230, x231, x232, x233, x234, x235, x236, x237, x238, x239, x240, x241, x242, x243, x244, x245, x246, x247, x248, x249, x250, x251, x252, x253, x254, x255, x256, x257, x258, x259, x260, x261, x262, x263, x264, x265, x266, x267, x268, x269, x270, x271, x272, x273, x274, x275, x276, x277, x278, x279, x280, x281, x282, x283, x284, x285, x286, x287, x288, x289, x290, x291, x292, x293, x294, x295, x296, x297, x298, x299, x300, x301, x302, x303, x304, x305, x306, x307, x308, x309, x310, x311, x312, x313, x314, x315, x316, x317, x318, x319, x320, x321, x322, x323, x324, x325, x326, x327, x328, x329, x330, x331, x332, x333, x334, x335, x336, x337, x338, x339, x340, x341, x342, x343, x344, x345, x346, x347, x348, x349, x350, x351, x352, x353, x354, x355, x356, x357, x358, x359, x360, x361, x362, x363, x364, x365, x366, x367, x368, x369, x370, x371, x372, x373, x374, x375, x376], []⟩ w := by
  have h0 : s.calls ≠ [] := by rw [H.cl]; simp
  have hok2 := hMs.stepI hg hx hi h0
  have hav := hx.reg i.a
  have hnf := hg.nf
  obtain ⟨op, d, a, b, imm⟩ := i
  obtain ⟨k, hk, hop⟩ := hi.op
  have hjump := hi.jump
  have hcall := hi.call
  have hslot := hi.slot
  have hparam := hi.param
  have hd := hi.d
  have ha := hi.a
  have hb := hi.b
  have him := hi.imm
  clear hi
  simp only at hop hjump hcall hslot hparam hd ha hb him hins hP hok2 hav
  subst hop
  obtain ⟨d, rfl⟩ : ∃ n : Nat, d = n := ⟨d.toNat, by omega⟩
  obtain ⟨a, rfl⟩ : ∃ n : Nat, a = n := ⟨a.toNat, by omega⟩
  obtain ⟨b, rfl⟩ : ∃ n : Nat, b = n := ⟨b.toNat, by omega⟩
  have hva : regM x (a : Int) = av := hva
  rw [hva] at hav
  match k, hk with
  | 0, _ =>
    have e1 : stepI m.funs T ⟨nameOf 0, d, a, b, imm⟩ x s = topM (putM x d imm) s := by
      rw [move_step (i := ⟨nameOf 0, d, a, b, imm⟩) m.funs rfl rfl]; unfold moveP
      rw [if_neg (show ¬ farM ⟨nameOf 0, d, a, b, imm⟩ x = true from (by decide : ¬ (false = true))), if_pos (show nameOf 0 = constT from rfl)]
    rw [e1] at hP hok2
    exact sw_const H hT hnf hMs av d (by omega) a b imm jt n17 hins hP hok2 H.ov _ _ _ _ _ _ _ _ _ _ _ _ _ _ _ _ _ _ _ _ _ _ _ _ _ _ _ _ _ _ _ _ _ _ _ _ _ _ _ _ _ _ _ _ _ _ _ _ _ _ _ _ _ _ _ _ _ _ _ _ _ _ _ _ _ _ _ _ _ _ _ _ _ _ _ _ _ _ _ _ _ _ _ _ _ _ _ _ _ _ _ _ _ _ _ _ _ _ _ _ _ _ _ _ _ _ _ _ _ _ _ _ _ _ _ _ _ _ _ _ _ _ _ _ _ _ _ _ _ _ _ _ _ _ _ _ _ _ _ _ _ _ _ _ _ _ _ _ _ _ _ _ _ _ _ _ _ _ _ _ _ _ _ _ _ _ _ _ _ _ _ _ _ _ _ _ _ _ _ _ _ _ _ _ _ _ _ _ _ _ _ _ _ _ _ _ _ _ _ _ _ _ _ _ _ _ _ _ _ _ _ _ _ _ _ _ _ _ _ _ _ _ _ _ _ _ _ _ _ _ _ _ _ _ _ _ _ _ _ _ _ _ _ _ _ _ _ _ _ _ _ _ _ _ _ _ _ _ _ _ _ _ _ _ _ _ _ _ _ _ _ _ _ _ _ _ _ _ _ _ _ _ _ _ _ _ _ _ _ _ _ _ _ _ _ _ _ _ _ _ _ _ _ _ _ _ _ _ _ _ _ _ _ _ _ _ _ _ _ _ _ _ _ _ _ _ _ _ _ _ _ _ _ _ _ _ _ _ _ _ _ _ _ _ _ _ _ _ _ _ _ _ _ _ _ _ _ _ _ _ _ _ _ _ hK hR hD
  | 1, _ =>
    by_cases him0 : imm < 0
    · have e1 : stepI m.funs T ⟨nameOf 1, d, a, b, imm⟩ x s = topM (putM x d (wrap64 (wrap64 (regM x d * 4294967296) + (imm + 4294967296)))) s := by
        rw [move_step (i := ⟨nameOf 1, d, a, b, imm⟩) m.funs rfl rfl]; unfold moveP
        rw [if_neg (show ¬ farM ⟨nameOf 1, d, a, b, imm⟩ x = true from (by decide : ¬ (false = true))), if_neg (show ¬ nameOf 1 = constT by decide), if_pos (show nameOf 1 = highT from rfl)]
        unfold highP
        rw [show imm % 4294967296 = imm + 4294967296 by omega]
      rw [e1] at hP hok2
      exact sw_high_neg H hT hnf hMs av d (by omega) a b imm him0 him.1 jt n17 hins hP hok2 H.ov _ _ _ _ _ _ _ _ _ _ _ _ _ _ _ _ _ _ _ _ _ _ _ _ _ _ _ _ _ _ _ _ _ _ _ _ _ _ _ _ _ _ _ _ _ _ _ _ _ _ _ _ _ _ _ _ _ _ _ _ _ _ _ _ _ _ _ _ _ _ _ _ _ _ _ _ _ _ _ _ _ _ _ _ _ _ _ _ _ _ _ _ _ _ _ _ _ _ _ _ _ _ _ _ _ _ _ _ _ _ _ _ _ _ _ _ _ _ _ _ _ _ _ _ _ _ _ _ _ _ _ _ _ _ _ _ _ _ _ _ _ _ _ _ _ _ _ _ _ _ _ _ _ _ _ _ _ _ _ _ _ _ _ _ _ _ _ _ _ _ _ _ _ _ _ _ _ _ _ _ _ _ _ _ _ _ _ _ _ _ _ _ _ _ _ _ _ _ _ _ _ _ _ _ _ _ _ _ _ _ _ _ _ _ _ _ _ _ _ _ _ _ _ _ _ _ _ _ _ _ _ _ _ _ _ _ _ _ _ _ _ _ _ _ _ _ _ _ _ _ _ _ _ _ _ _ _ _ _ _ _ _ _ _ _ _ _ _ _ _ _ _ _ _ _ _ _ _ _ _ _ _ _ _ _ _ _ _ _ _ _ _ _ _ _ _ _ _ _ _ _ _ _ _ _ _ _ _ _ _ _ _ _ _ _ _ _ _ _ _ _ _ _ _ _ _ _ _ _ _ _ _ _ _ _ _ _ _ _ _ _ _ _ _ _ _ _ _ _ _ _ _ _ _ _ _ _ _ _ _ _ _ _ _ hK hR hD
    · have e1 : stepI m.funs T ⟨nameOf 1, d, a, b, imm⟩ x s = topM (putM x d (wrap64 (wrap64 (regM x d * 4294967296) + imm))) s := by
        rw [move_step (i := ⟨nameOf 1, d, a, b, imm⟩) m.funs rfl rfl]; unfold moveP
        rw [if_neg (show ¬ farM ⟨nameOf 1, d, a, b, imm⟩ x = true from (by decide : ¬ (false = true))), if_neg (show ¬ nameOf 1 = constT by decide), if_pos (show nameOf 1 = highT from rfl)]
        unfold highP
        rw [show imm % 4294967296 = imm by omega]
      rw [e1] at hP hok2
      exact sw_high_pos H hT hnf hMs av d (by omega) a b imm him0 jt n17 hins hP hok2 H.ov _ _ _ _ _ _ _ _ _ _ _ _ _ _ _ _ _ _ _ _ _ _ _ _ _ _ _ _ _ _ _ _ _ _ _ _ _ _ _ _ _ _ _ _ _ _ _ _ _ _ _ _ _ _ _ _ _ _ _ _ _ _ _ _ _ _ _ _ _ _ _ _ _ _ _ _ _ _ _ _ _ _ _ _ _ _ _ _ _ _ _ _ _ _ _ _ _ _ _ _ _ _ _ _ _ _ _ _ _ _ _ _ _ _ _ _ _ _ _ _ _ _ _ _ _ _ _ _ _ _ _ _ _ _ _ _ _ _ _ _ _ _ _ _ _ _ _ _ _ _ _ _ _ _ _ _ _ _ _ _ _ _ _ _ _ _ _ _ _ _ _ _ _ _ _ _ _ _ _ _ _ _ _ _ _ _ _ _ _ _ _ _ _ _ _ _ _ _ _ _ _ _ _ _ _ _ _ _ _ _ _ _ _ _ _ _ _ _ _ _ _ _ _ _ _ _ _ _ _ _ _ _ _ _ _ _ _ _ _ _ _ _ _ _ _ _ _ _ _ _ _ _ _ _ _ _ _ _ _ _ _ _ _ _ _ _ _ _ _ _ _ _ _ _ _ _ _ _ _ _ _ _ _ _ _ _ _ _ _ _ _ _ _ _ _ _ _ _ _ _ _ _ _ _ _ _ _ _ _ _ _ _ _ _ _ _ _ _ _ _ _ _ _ _ _ _ _ _ _ _ _ _ _ _ _ _ _ _ _ _ _ _ _ _ _ _ _ _ _ _ _ _ _ _ _ _ _ _ _ _ _ _ _ _ hK hR hD
  | 2, _ =>
    have e1 : stepI m.funs T ⟨nameOf 2, d, a, b, imm⟩ x s = topM (putM x d av) s := by
      rw [← hva]
      rw [move_step (i := ⟨nameOf 2, d, a, b, imm⟩) m.funs rfl rfl]; unfold moveP
      rw [if_neg (show ¬ farM ⟨nameOf 2, d, a, b, imm⟩ x = true from (by decide : ¬ (false = true))), if_neg (show ¬ nameOf 2 = constT by decide), if_neg (show ¬ nameOf 2 = highT by decide), if_pos (show nameOf 2 = moveT from rfl)]
    rw [e1] at hP hok2
    exact sw_move H hT hnf hMs av d (by omega) a b imm jt n17 hins hP hok2 H.ov _ _ _ _ _ _ _ _ _ _ _ _ _ _ _ _ _ _ _ _ _ _ _ _ _ _ _ _ _ _ _ _ _ _ _ _ _ _ _ _ _ _ _ _ _ _ _ _ _ _ _ _ _ _ _ _ _ _ _ _ _ _ _ _ _ _ _ _ _ _ _ _ _ _ _ _ _ _ _ _ _ _ _ _ _ _ _ _ _ _ _ _ _ _ _ _ _ _ _ _ _ _ _ _ _ _ _ _ _ _ _ _ _ _ _ _ _ _ _ _ _ _ _ _ _ _ _ _ _ _ _ _ _ _ _ _ _ _ _ _ _ _ _ _ _ _ _ _ _ _ _ _ _ _ _ _ _ _ _ _ _ _ _ _ _ _ _ _ _ _ _ _ _ _ _ _ _ _ _ _ _ _ _ _ _ _ _ _ _ _ _ _ _ _ _ _ _ _ _ _ _ _ _ _ _ _ _ _ _ _ _ _ _ _ _ _ _ _ _ _ _ _ _ _ _ _ _ _ _ _ _ _ _ _ _ _ _ _ _ _ _ _ _ _ _ _ _ _ _ _ _ _ _ _ _ _ _ _ _ _ _ _ _ _ _ _ _ _ _ _ _ _ _ _ _ _ _ _ _ _ _ _ _ _ _ _ _ _ _ _ _ _ _ _ _ _ _ _ _ _ _ _ _ _ _ _ _ _ _ _ _ _ _ _ _ _ _ _ _ _ _ _ _ _ _ _ _ _ _ _ _ _ _ _ _ _ _ _ _ _ _ _ _ _ _ _ _ _ _ _ _ _ _ _ _ _ _ _ _ _ _ _ _ _ hK hR hD
  | 3, _ =>
    have hj := hslot (.inl rfl)
    obtain ⟨n, rfl⟩ : ∃ n : Nat, imm = n := ⟨imm.toNat, by omega⟩
    by_cases hfar : x.f.slots ≤ (n : Int)
    · have e1 : stepI m.funs T ⟨nameOf 3, d, a, b, n⟩ x s = endM stuckT s := by
        rw [move_step (i := ⟨nameOf 3, d, a, b, n⟩) m.funs rfl rfl]; unfold moveP
        rw [if_pos (show farM ⟨nameOf 3, d, a, b, n⟩ x = true by show (true && decide (x.f.slots ≤ (n : Int)) || false) = true; simp [hfar])]
      rw [e1, over_none (by decide)] at hP
      exact sw_load_far H hT hnf hMs av d a b n hfar jt n17 hins hP _ _ _ _ _ _ _ _ _ _ _ _ _ _ _ _ _ _ _ _ _ _ _ _ _ _ _ _ _ _ _ _ _ _ _ _ _ _ _ _ _ _ _ _ _ _ _ _ _ _ _ _ _ _ _ _ _ _ _ _ _ _ _ _ _ _ _ _ _ _ _ _ _ _ _ _ _ _ _ _ _ _ _ _ _ _ _ _ _ _ _ _ _ _ _ _ _ _ _ _ _ _ _ _ _ _ _ _ _ _ _ _ _ _ _ _ _ _ _ _ _ _ _ _ _ _ _ _ _ _ _ _ _ _ _ _ _ _ _ _ _ _ _ _ _ _ _ _ _ _ _ _ _ _ _ _ _ _ _ _ _ _ _ _ _ _ _ _ _ _ _ _ _ _ _ _ _ _ _ _ _ _ _ _ _ _ _ _ _ _ _ _ _ _ _ _ _ _ _ _ _ _ _ _ _ _ _ _ _ _ _ _ _ _ _ _ _ _ _ _ _ _ _ _ _ _ _ _ _ _ _ _ _ _ _ _ _ _ _ _ _ _ _ _ _ _ _ _ _ _ _ _ _ _ _ _ _ _ _ _ _ _ _ _ _ _ _ _ _ _ _ _ _ _ _ _ _ _ _ _ _ _ _ _ _ _ _ _ _ _ _ _ _ _ _ _ _ _ _ _ _ _ _ _ _ _ _ _ _ _ _ _ _ _ _ _ _ _ _ _ _ _ _ _ _ _ _ _ _ _ _ _ _ _ _ _ _ _ _ _ _ _ _ _ _ _ _ _ _ _ _ _ _ _ _ _ _ _ _ _ _ _ _ _ hK hR hD
    · have e1 : stepI m.funs T ⟨nameOf 3, d, a, b, n⟩ x s = topM (putM x d (x.slots.getD n 0)) s := by
        rw [move_step (i := ⟨nameOf 3, d, a, b, n⟩) m.funs rfl rfl]; unfold moveP
        rw [if_neg (show ¬ farM ⟨nameOf 3, d, a, b, n⟩ x = true by show ¬ (true && decide (x.f.slots ≤ (n : Int)) || false) = true; simp [hfar]), if_neg (show ¬ nameOf 3 = constT by decide), if_neg (show ¬ nameOf 3 = highT by decide), if_neg (show ¬ nameOf 3 = moveT by decide), if_pos (show nameOf 3 = loadT from rfl)]
        rfl
      rw [e1] at hP hok2
      exact sw_load H hT hnf hMs av d (by omega) a b n (by have := hx.slots; have := hx.f; omega) (by omega) _ rfl jt n17 hins hP hok2 H.ov _ _ _ _ _ _ _ _ _ _ _ _ _ _ _ _ _ _ _ _ _ _ _ _ _ _ _ _ _ _ _ _ _ _ _ _ _ _ _ _ _ _ _ _ _ _ _ _ _ _ _ _ _ _ _ _ _ _ _ _ _ _ _ _ _ _ _ _ _ _ _ _ _ _ _ _ _ _ _ _ _ _ _ _ _ _ _ _ _ _ _ _ _ _ _ _ _ _ _ _ _ _ _ _ _ _ _ _ _ _ _ _ _ _ _ _ _ _ _ _ _ _ _ _ _ _ _ _ _ _ _ _ _ _ _ _ _ _ _ _ _ _ _ _ _ _ _ _ _ _ _ _ _ _ _ _ _ _ _ _ _ _ _ _ _ _ _ _ _ _ _ _ _ _ _ _ _ _ _ _ _ _ _ _ _ _ _ _ _ _ _ _ _ _ _ _ _ _ _ _ _ _ _ _ _ _ _ _ _ _ _ _ _ _ _ _ _ _ _ _ _ _ _ _ _ _ _ _ _ _ _ _ _ _ _ _ _ _ _ _ _ _ _ _ _ _ _ _ _ _ _ _ _ _ _ _ _ _ _ _ _ _ _ _ _ _ _ _ _ _ _ _ _ _ _ _ _ _ _ _ _ _ _ _ _ _ _ _ _ _ _ _ _ _ _ _ _ _ _ _ _ _ _ _ _ _ _ _ _ _ _ _ _ _ _ _ _ _ _ _ _ _ _ _ _ _ _ _ _ _ _ _ _ _ _ _ _ _ _ _ _ _ _ _ _ _ _ _ _ _ _ _ _ _ _ _ _ _ _ _ _ _ _ _ hK hR hD
  | 4, _ =>
    have hj := hslot (.inr rfl)
    obtain ⟨n, rfl⟩ : ∃ n : Nat, imm = n := ⟨imm.toNat, by omega⟩
    by_cases hfar : x.f.slots ≤ (n : Int)
    · have e1 : stepI m.funs T ⟨nameOf 4, d, a, b, n⟩ x s = endM stuckT s := by
        rw [move_step (i := ⟨nameOf 4, d, a, b, n⟩) m.funs rfl rfl]; unfold moveP
        rw [if_pos (show farM ⟨nameOf 4, d, a, b, n⟩ x = true by show (true && decide (x.f.slots ≤ (n : Int)) || false) = true; simp [hfar])]
      rw [e1, over_none (by decide)] at hP
      exact sw_store_far H hT hnf hMs av d a b n hfar jt n17 hins hP _ _ _ _ _ _ _ _ _ _ _ _ _ _ _ _ _ _ _ _ _ _ _ _ _ _ _ _ _ _ _ _ _ _ _ _ _ _ _ _ _ _ _ _ _ _ _ _ _ _ _ _ _ _ _ _ _ _ _ _ _ _ _ _ _ _ _ _ _ _ _ _ _ _ _ _ _ _ _ _ _ _ _ _ _ _ _ _ _ _ _ _ _ _ _ _ _ _ _ _ _ _ _ _ _ _ _ _ _ _ _ _ _ _ _ _ _ _ _ _ _ _ _ _ _ _ _ _ _ _ _ _ _ _ _ _ _ _ _ _ _ _ _ _ _ _ _ _ _ _ _ _ _ _ _ _ _ _ _ _ _ _ _ _ _ _ _ _ _ _ _ _ _ _ _ _ _ _ _ _ _ _ _ _ _ _ _ _ _ _ _ _ _ _ _ _ _ _ _ _ _ _ _ _ _ _ _ _ _ _ _ _ _ _ _ _ _ _ _ _ _ _ _ _ _ _ _ _ _ _ _ _ _ _ _ _ _ _ _ _ _ _ _ _ _ _ _ _ _ _ _ _ _ _ _ _ _ _ _ _ _ _ _ _ _ _ _ _ _ _ _ _ _ _ _ _ _ _ _ _ _ _ _ _ _ _ _ _ _ _ _ _ _ _ _ _ _ _ _ _ _ _ _ _ _ _ _ _ _ _ _ _ _ _ _ _ _ _ _ _ _ _ _ _ _ _ _ _ _ _ _ _ _ _ _ _ _ _ _ _ _ _ _ _ _ _ _ _ _ _ _ _ _ _ _ _ _ _ _ _ _ _ _ _ hK hR hD
    · have e1 : stepI m.funs T ⟨nameOf 4, d, a, b, n⟩ x s = topM { x with slots := x.slots.set n av } s := by
        rw [← hva]
        rw [move_step (i := ⟨nameOf 4, d, a, b, n⟩) m.funs rfl rfl]; unfold moveP
        rw [if_neg (show ¬ farM ⟨nameOf 4, d, a, b, n⟩ x = true by show ¬ (true && decide (x.f.slots ≤ (n : Int)) || false) = true; simp [hfar]), if_neg (show ¬ nameOf 4 = constT by decide), if_neg (show ¬ nameOf 4 = highT by decide), if_neg (show ¬ nameOf 4 = moveT by decide), if_neg (show ¬ nameOf 4 = loadT by decide), if_pos (show nameOf 4 = storeT from rfl)]
        rfl
      rw [e1] at hP hok2
      exact sw_store H hT hnf hMs av d a b n (by have := hx.slots; have := hx.f; omega) (by omega) jt n17 hins hP hok2 H.ov _ _ _ _ _ _ _ _ _ _ _ _ _ _ _ _ _ _ _ _ _ _ _ _ _ _ _ _ _ _ _ _ _ _ _ _ _ _ _ _ _ _ _ _ _ _ _ _ _ _ _ _ _ _ _ _ _ _ _ _ _ _ _ _ _ _ _ _ _ _ _ _ _ _ _ _ _ _ _ _ _ _ _ _ _ _ _ _ _ _ _ _ _ _ _ _ _ _ _ _ _ _ _ _ _ _ _ _ _ _ _ _ _ _ _ _ _ _ _ _ _ _ _ _ _ _ _ _ _ _ _ _ _ _ _ _ _ _ _ _ _ _ _ _ _ _ _ _ _ _ _ _ _ _ _ _ _ _ _ _ _ _ _ _ _ _ _ _ _ _ _ _ _ _ _ _ _ _ _ _ _ _ _ _ _ _ _ _ _ _ _ _ _ _ _ _ _ _ _ _ _ _ _ _ _ _ _ _ _ _ _ _ _ _ _ _ _ _ _ _ _ _ _ _ _ _ _ _ _ _ _ _ _ _ _ _ _ _ _ _ _ _ _ _ _ _ _ _ _ _ _ _ _ _ _ _ _ _ _ _ _ _ _ _ _ _ _ _ _ _ _ _ _ _ _ _ _ _ _ _ _ _ _ _ _ _ _ _ _ _ _ _ _ _ _ _ _ _ _ _ _ _ _ _ _ _ _ _ _ _ _ _ _ _ _ _ _ _ _ _ _ _ _ _ _ _ _ _ _ _ _ _ _ _ _ _ _ _ _ _ _ _ _ _ _ _ _ _ _ _ _ _ _ _ _ _ _ _ _ _ _ _ _ _ hK hR hD
  | 5, _ =>
    have hj := hparam (.inl rfl)
    obtain ⟨n, rfl⟩ : ∃ n : Nat, imm = n := ⟨imm.toNat, by omega⟩
    by_cases hfar : x.f.params ≤ (n : Int)
    · have e1 : stepI m.funs T ⟨nameOf 5, d, a, b, n⟩ x s = endM stuckT s := by
        rw [move_step (i := ⟨nameOf 5, d, a, b, n⟩) m.funs rfl rfl]; unfold moveP
        rw [if_pos (show farM ⟨nameOf 5, d, a, b, n⟩ x = true by show (false || (true && decide (x.f.params ≤ (n : Int)))) = true; simp [hfar])]
      rw [e1, over_none (by decide)] at hP
      exact sw_param_far H hT hnf hMs av d a b n hfar jt n17 hins hP _ _ _ _ _ _ _ _ _ _ _ _ _ _ _ _ _ _ _ _ _ _ _ _ _ _ _ _ _ _ _ _ _ _ _ _ _ _ _ _ _ _ _ _ _ _ _ _ _ _ _ _ _ _ _ _ _ _ _ _ _ _ _ _ _ _ _ _ _ _ _ _ _ _ _ _ _ _ _ _ _ _ _ _ _ _ _ _ _ _ _ _ _ _ _ _ _ _ _ _ _ _ _ _ _ _ _ _ _ _ _ _ _ _ _ _ _ _ _ _ _ _ _ _ _ _ _ _ _ _ _ _ _ _ _ _ _ _ _ _ _ _ _ _ _ _ _ _ _ _ _ _ _ _ _ _ _ _ _ _ _ _ _ _ _ _ _ _ _ _ _ _ _ _ _ _ _ _ _ _ _ _ _ _ _ _ _ _ _ _ _ _ _ _ _ _ _ _ _ _ _ _ _ _ _ _ _ _ _ _ _ _ _ _ _ _ _ _ _ _ _ _ _ _ _ _ _ _ _ _ _ _ _ _ _ _ _ _ _ _ _ _ _ _ _ _ _ _ _ _ _ _ _ _ _ _ _ _ _ _ _ _ _ _ _ _ _ _ _ _ _ _ _ _ _ _ _ _ _ _ _ _ _ _ _ _ _ _ _ _ _ _ _ _ _ _ _ _ _ _ _ _ _ _ _ _ _ _ _ _ _ _ _ _ _ _ _ _ _ _ _ _ _ _ _ _ _ _ _ _ _ _ _ _ _ _ _ _ _ _ _ _ _ _ _ _ _ _ _ _ _ _ _ _ _ _ _ _ _ _ _ _ _ _ hK hR hD
    · have e1 : stepI m.funs T ⟨nameOf 5, d, a, b, n⟩ x s = topM (putM x d (x.args.getD n 0)) s := by
        rw [move_step (i := ⟨nameOf 5, d, a, b, n⟩) m.funs rfl rfl]; unfold moveP
        rw [if_neg (show ¬ farM ⟨nameOf 5, d, a, b, n⟩ x = true by show ¬ (false || (true && decide (x.f.params ≤ (n : Int)))) = true; simp [hfar]), if_neg (show ¬ nameOf 5 = constT by decide), if_neg (show ¬ nameOf 5 = highT by decide), if_neg (show ¬ nameOf 5 = moveT by decide), if_neg (show ¬ nameOf 5 = loadT by decide), if_neg (show ¬ nameOf 5 = storeT by decide), if_pos (show nameOf 5 = paramT from rfl)]
        rfl
      rw [e1] at hP hok2
      exact sw_param H hT hnf hMs av d (by omega) a b n (by omega) (by omega) _ rfl jt n17 hins hP hok2 H.ov _ _ _ _ _ _ _ _ _ _ _ _ _ _ _ _ _ _ _ _ _ _ _ _ _ _ _ _ _ _ _ _ _ _ _ _ _ _ _ _ _ _ _ _ _ _ _ _ _ _ _ _ _ _ _ _ _ _ _ _ _ _ _ _ _ _ _ _ _ _ _ _ _ _ _ _ _ _ _ _ _ _ _ _ _ _ _ _ _ _ _ _ _ _ _ _ _ _ _ _ _ _ _ _ _ _ _ _ _ _ _ _ _ _ _ _ _ _ _ _ _ _ _ _ _ _ _ _ _ _ _ _ _ _ _ _ _ _ _ _ _ _ _ _ _ _ _ _ _ _ _ _ _ _ _ _ _ _ _ _ _ _ _ _ _ _ _ _ _ _ _ _ _ _ _ _ _ _ _ _ _ _ _ _ _ _ _ _ _ _ _ _ _ _ _ _ _ _ _ _ _ _ _ _ _ _ _ _ _ _ _ _ _ _ _ _ _ _ _ _ _ _ _ _ _ _ _ _ _ _ _ _ _ _ _ _ _ _ _ _ _ _ _ _ _ _ _ _ _ _ _ _ _ _ _ _ _ _ _ _ _ _ _ _ _ _ _ _ _ _ _ _ _ _ _ _ _ _ _ _ _ _ _ _ _ _ _ _ _ _ _ _ _ _ _ _ _ _ _ _ _ _ _ _ _ _ _ _ _ _ _ _ _ _ _ _ _ _ _ _ _ _ _ _ _ _ _ _ _ _ _ _ _ _ _ _ _ _ _ _ _ _ _ _ _ _ _ _ _ _ _ _ _ _ _ _ _ _ _ _ _ _ _ _ hK hR hD
  | 6, _ =>
    have hj := hparam (.inr rfl)
    obtain ⟨n, rfl⟩ : ∃ n : Nat, imm = n := ⟨imm.toNat, by omega⟩
    have e1 : stepI m.funs T ⟨nameOf 6, d, a, b, n⟩ x s = topM { x with next := x.next.set n av } s := by
      rw [← hva]
      rw [move_step (i := ⟨nameOf 6, d, a, b, n⟩) m.funs rfl rfl]; unfold moveP
      rw [if_neg (show ¬ farM ⟨nameOf 6, d, a, b, n⟩ x = true from (by decide : ¬ (false = true))), if_neg (show ¬ nameOf 6 = constT by decide), if_neg (show ¬ nameOf 6 = highT by decide), if_neg (show ¬ nameOf 6 = moveT by decide), if_neg (show ¬ nameOf 6 = loadT by decide), if_neg (show ¬ nameOf 6 = storeT by decide), if_neg (show ¬ nameOf 6 = paramT by decide)]
      rfl
    rw [e1] at hP hok2
    exact sw_arg H hT hnf hMs av d a b n (by omega) jt n17 hins hP hok2 H.ov _ _ _ _ _ _ _ _ _ _ _ _ _ _ _ _ _ _ _ _ _ _ _ _ _ _ _ _ _ _ _ _ _ _ _ _ _ _ _ _ _ _ _ _ _ _ _ _ _ _ _ _ _ _ _ _ _ _ _ _ _ _ _ _ _ _ _ _ _ _ _ _ _ _ _ _ _ _ _ _ _ _ _ _ _ _ _ _ _ _ _ _ _ _ _ _ _ _ _ _ _ _ _ _ _ _ _ _ _ _ _ _ _ _ _ _ _ _ _ _ _ _ _ _ _ _ _ _ _ _ _ _ _ _ _ _ _ _ _ _ _ _ _ _ _ _ _ _ _ _ _ _ _ _ _ _ _ _ _ _ _ _ _ _ _ _ _ _ _ _ _ _ _ _ _ _ _ _ _ _ _ _ _ _ _ _ _ _ _ _ _ _ _ _ _ _ _ _ _ _ _ _ _ _ _ _ _ _ _ _ _ _ _ _ _ _ _ _ _ _ _ _ _ _ _ _ _ _ _ _ _ _ _ _ _ _ _ _ _ _ _ _ _ _ _ _ _ _ _ _ _ _ _ _ _ _ _ _ _ _ _ _ _ _ _ _ _ _ _ _ _ _ _ _ _ _ _ _ _ _ _ _ _ _ _ _ _ _ _ _ _ _ _ _ _ _ _ _ _ _ _ _ _ _ _ _ _ _ _ _ _ _ _ _ _ _ _ _ _ _ _ _ _ _ _ _ _ _ _ _ _ _ _ _ _ _ _ _ _ _ _ _ _ _ _ _ _ _ _ _ _ _ _ _ _ _ _ _ _ _ _ _ _ _ hK hR hD
  | 7, _ =>
    have hj := hcall rfl
    obtain ⟨n, rfl⟩ : ∃ n : Nat, imm = n := ⟨imm.toNat, by omega⟩
    obtain ⟨n0, n1, n2, n3, hnx⟩ := len4 hx.next
    have hn : n < m.funs.length := by omega
    have hf : m.funs.getD ((n : Int)).toNat fn0 = m.funs[n] := by rw [List.getD_eq_getElem?_getD, Int.toNat_natCast, List.getElem?_eq_getElem hn]; rfl
    by_cases hbp : (b : Int) = m.funs[n].params
    · have e1 : stepI m.funs T ⟨nameOf 7, d, a, b, n⟩ x s = enterM m.funs T n d [n0, n1, n2, n3] (topM { x with next := zero4 } s) := by
        rw [flow_step (i := ⟨nameOf 7, d, a, b, n⟩) m.funs rfl]; unfold flowP
        rw [if_neg (show ¬ nameOf 7 = tickT by decide), if_neg (show ¬ nameOf 7 = printT by decide), if_neg (show ¬ nameOf 7 = jumpT by decide), if_neg (show ¬ nameOf 7 = ifT by decide), if_neg (show ¬ nameOf 7 = returnT by decide), hf, if_pos hbp, ← hnx]
        rfl
      rw [e1] at hP hok2
      exact sw_call H hT hnf hMs av d (by omega) a b n hn hbp n0 n1 n2 n3 hnx hx.n6 jt n17 hins hP hok2 _ _ _ _ _ _ _ _ _ _ _ _ _ _ _ _ _ _ _ _ _ _ _ _ _ _ _ _ _ _ _ _ _ _ _ _ _ _ _ _ _ _ _ _ _ _ _ _ _ _ _ _ _ _ _ _ _ _ _ _ _ _ _ _ _ _ _ _ _ _ _ _ _ _ _ _ _ _ _ _ _ _ _ _ _ _ _ _ _ _ _ _ _ _ _ _ _ _ _ _ _ _ _ _ _ _ _ _ _ _ _ _ _ _ _ _ _ _ _ _ _ _ _ _ _ _ _ _ _ _ _ _ _ _ _ _ _ _ _ _ _ _ _ _ _ _ _ _ _ _ _ _ _ _ _ _ _ _ _ _ _ _ _ _ _ _ _ _ _ _ _ _ _ _ _ _ _ _ _ _ _ _ _ _ _ _ _ _ _ _ _ _ _ _ _ _ _ _ _ _ _ _ _ _ _ _ _ _ _ _ _ _ _ _ _ _ _ _ _ _ _ _ _ _ _ _ _ _ _ _ _ _ _ _ _ _ _ _ _ _ _ _ _ _ _ _ _ _ _ _ _ _ _ _ _ _ _ _ _ _ _ _ _ _ _ _ _ _ _ _ _ _ _ _ _ _ _ _ _ _ _ _ _ _ _ _ _ _ _ _ _ _ _ _ _ _ _ _ _ _ _ _ _ _ _ _ _ _ _ _ _ _ _ _ _ _ _ _ _ _ _ _ _ _ _ _ _ _ _ _ _ _ _ _ _ _ _ _ _ _ _ _ _ _ _ _ _ _ _ _ _ _ _ _ _ _ _ _ _ _ _ _ _ _ hK hR hD
    · have e1 : stepI m.funs T ⟨nameOf 7, d, a, b, n⟩ x s = endM stuckT (topM { x with next := zero4 } s) := by
        rw [flow_step (i := ⟨nameOf 7, d, a, b, n⟩) m.funs rfl]; unfold flowP
        rw [if_neg (show ¬ nameOf 7 = tickT by decide), if_neg (show ¬ nameOf 7 = printT by decide), if_neg (show ¬ nameOf 7 = jumpT by decide), if_neg (show ¬ nameOf 7 = ifT by decide), if_neg (show ¬ nameOf 7 = returnT by decide), hf, if_neg hbp]
      rw [e1, over_none (by decide)] at hP
      exact sw_call_bad H hT hnf hMs av d a b n hn hbp jt n17 hins hP _ _ _ _ _ _ _ _ _ _ _ _ _ _ _ _ _ _ _ _ _ _ _ _ _ _ _ _ _ _ _ _ _ _ _ _ _ _ _ _ _ _ _ _ _ _ _ _ _ _ _ _ _ _ _ _ _ _ _ _ _ _ _ _ _ _ _ _ _ _ _ _ _ _ _ _ _ _ _ _ _ _ _ _ _ _ _ _ _ _ _ _ _ _ _ _ _ _ _ _ _ _ _ _ _ _ _ _ _ _ _ _ _ _ _ _ _ _ _ _ _ _ _ _ _ _ _ _ _ _ _ _ _ _ _ _ _ _ _ _ _ _ _ _ _ _ _ _ _ _ _ _ _ _ _ _ _ _ _ _ _ _ _ _ _ _ _ _ _ _ _ _ _ _ _ _ _ _ _ _ _ _ _ _ _ _ _ _ _ _ _ _ _ _ _ _ _ _ _ _ _ _ _ _ _ _ _ _ _ _ _ _ _ _ _ _ _ _ _ _ _ _ _ _ _ _ _ _ _ _ _ _ _ _ _ _ _ _ _ _ _ _ _ _ _ _ _ _ _ _ _ _ _ _ _ _ _ _ _ _ _ _ _ _ _ _ _ _ _ _ _ _ _ _ _ _ _ _ _ _ _ _ _ _ _ _ _ _ _ _ _ _ _ _ _ _ _ _ _ _ _ _ _ _ _ _ _ _ _ _ _ _ _ _ _ _ _ _ _ _ _ _ _ _ _ _ _ _ _ _ _ _ _ _ _ _ _ _ _ _ _ _ _ _ _ _ _ _ _ _ _ _ _ _ _ _ _ _ _ _ _ _ _ _ hK hR hD
  | 8, _ =>
    by_cases htk : s.ticks < T
    · have e1 : stepI m.funs T ⟨nameOf 8, d, a, b, imm⟩ x s = { s with ticks := s.ticks + 1 } := by
        rw [flow_step (i := ⟨nameOf 8, d, a, b, imm⟩) m.funs rfl]; unfold flowP
        rw [if_pos (show nameOf 8 = tickT from rfl)]; unfold tickM; rw [if_pos htk]
      rw [e1] at hP hok2
      exact sw_tick H hT hnf hMs av d a b imm htk jt n17 hins hP hok2 H.ov _ _ _ _ _ _ _ _ _ _ _ _ _ _ _ _ _ _ _ _ _ _ _ _ _ _ _ _ _ _ _ _ _ _ _ _ _ _ _ _ _ _ _ _ _ _ _ _ _ _ _ _ _ _ _ _ _ _ _ _ _ _ _ _ _ _ _ _ _ _ _ _ _ _ _ _ _ _ _ _ _ _ _ _ _ _ _ _ _ _ _ _ _ _ _ _ _ _ _ _ _ _ _ _ _ _ _ _ _ _ _ _ _ _ _ _ _ _ _ _ _ _ _ _ _ _ _ _ _ _ _ _ _ _ _ _ _ _ _ _ _ _ _ _ _ _ _ _ _ _ _ _ _ _ _ _ _ _ _ _ _ _ _ _ _ _ _ _ _ _ _ _ _ _ _ _ _ _ _ _ _ _ _ _ _ _ _ _ _ _ _ _ _ _ _ _ _ _ _ _ _ _ _ _ _ _ _ _ _ _ _ _ _ _ _ _ _ _ _ _ _ _ _ _ _ _ _ _ _ _ _ _ _ _ _ _ _ _ _ _ _ _ _ _ _ _ _ _ _ _ _ _ _ _ _ _ _ _ _ _ _ _ _ _ _ _ _ _ _ _ _ _ _ _ _ _ _ _ _ _ _ _ _ _ _ _ _ _ _ _ _ _ _ _ _ _ _ _ _ _ _ _ _ _ _ _ _ _ _ _ _ _ _ _ _ _ _ _ _ _ _ _ _ _ _ _ _ _ _ _ _ _ _ _ _ _ _ _ _ _ _ _ _ _ _ _ _ _ _ _ _ _ _ _ _ _ _ _ _ _ _ _ _ _ hK hR hD
    · have e1 : stepI m.funs T ⟨nameOf 8, d, a, b, imm⟩ x s = endM tiredT s := by
        rw [flow_step (i := ⟨nameOf 8, d, a, b, imm⟩) m.funs rfl]; unfold flowP
        rw [if_pos (show nameOf 8 = tickT from rfl)]; unfold tickM; rw [if_neg htk]
      rw [e1, over_none (by decide)] at hP
      exact sw_tired H hT hnf hMs av d a b imm htk jt n17 hins hP _ _ _ _ _ _ _ _ _ _ _ _ _ _ _ _ _ _ _ _ _ _ _ _ _ _ _ _ _ _ _ _ _ _ _ _ _ _ _ _ _ _ _ _ _ _ _ _ _ _ _ _ _ _ _ _ _ _ _ _ _ _ _ _ _ _ _ _ _ _ _ _ _ _ _ _ _ _ _ _ _ _ _ _ _ _ _ _ _ _ _ _ _ _ _ _ _ _ _ _ _ _ _ _ _ _ _ _ _ _ _ _ _ _ _ _ _ _ _ _ _ _ _ _ _ _ _ _ _ _ _ _ _ _ _ _ _ _ _ _ _ _ _ _ _ _ _ _ _ _ _ _ _ _ _ _ _ _ _ _ _ _ _ _ _ _ _ _ _ _ _ _ _ _ _ _ _ _ _ _ _ _ _ _ _ _ _ _ _ _ _ _ _ _ _ _ _ _ _ _ _ _ _ _ _ _ _ _ _ _ _ _ _ _ _ _ _ _ _ _ _ _ _ _ _ _ _ _ _ _ _ _ _ _ _ _ _ _ _ _ _ _ _ _ _ _ _ _ _ _ _ _ _ _ _ _ _ _ _ _ _ _ _ _ _ _ _ _ _ _ _ _ _ _ _ _ _ _ _ _ _ _ _ _ _ _ _ _ _ _ _ _ _ _ _ _ _ _ _ _ _ _ _ _ _ _ _ _ _ _ _ _ _ _ _ _ _ _ _ _ _ _ _ _ _ _ _ _ _ _ _ _ _ _ _ _ _ _ _ _ _ _ _ _ _ _ _ _ _ _ _ _ _ _ _ _ _ _ _ _ _ _ _ _ hK hR hD
  | 9, _ =>
    by_cases hl : 1000 ≤ s.out.length
    · have e1 : stepI m.funs T ⟨nameOf 9, d, a, b, imm⟩ x s = endM loudT s := by
        rw [flow_step (i := ⟨nameOf 9, d, a, b, imm⟩) m.funs rfl]; unfold flowP
        rw [if_neg (show ¬ nameOf 9 = tickT by decide), if_pos (show nameOf 9 = printT from rfl)]; unfold printM; rw [if_pos hl]
      rw [e1, over_none (by decide)] at hP
      exact sw_loud H hT hnf hMs av d a b imm hl jt n17 hins hP _ _ _ _ _ _ _ _ _ _ _ _ _ _ _ _ _ _ _ _ _ _ _ _ _ _ _ _ _ _ _ _ _ _ _ _ _ _ _ _ _ _ _ _ _ _ _ _ _ _ _ _ _ _ _ _ _ _ _ _ _ _ _ _ _ _ _ _ _ _ _ _ _ _ _ _ _ _ _ _ _ _ _ _ _ _ _ _ _ _ _ _ _ _ _ _ _ _ _ _ _ _ _ _ _ _ _ _ _ _ _ _ _ _ _ _ _ _ _ _ _ _ _ _ _ _ _ _ _ _ _ _ _ _ _ _ _ _ _ _ _ _ _ _ _ _ _ _ _ _ _ _ _ _ _ _ _ _ _ _ _ _ _ _ _ _ _ _ _ _ _ _ _ _ _ _ _ _ _ _ _ _ _ _ _ _ _ _ _ _ _ _ _ _ _ _ _ _ _ _ _ _ _ _ _ _ _ _ _ _ _ _ _ _ _ _ _ _ _ _ _ _ _ _ _ _ _ _ _ _ _ _ _ _ _ _ _ _ _ _ _ _ _ _ _ _ _ _ _ _ _ _ _ _ _ _ _ _ _ _ _ _ _ _ _ _ _ _ _ _ _ _ _ _ _ _ _ _ _ _ _ _ _ _ _ _ _ _ _ _ _ _ _ _ _ _ _ _ _ _ _ _ _ _ _ _ _ _ _ _ _ _ _ _ _ _ _ _ _ _ _ _ _ _ _ _ _ _ _ _ _ _ _ _ _ _ _ _ _ _ _ _ _ _ _ _ _ _ _ _ _ _ _ _ _ _ _ _ _ _ _ _ _ _ hK hR hD
    · have e1 : stepI m.funs T ⟨nameOf 9, d, a, b, imm⟩ x s = { s with out := s.out ++ [av] } := by
        rw [← hva]
        rw [flow_step (i := ⟨nameOf 9, d, a, b, imm⟩) m.funs rfl]; unfold flowP
        rw [if_neg (show ¬ nameOf 9 = tickT by decide), if_pos (show nameOf 9 = printT from rfl)]; unfold printM; rw [if_neg hl]
      rw [e1] at hP hok2
      exact sw_print H hT hnf hMs av d a b imm hl jt n17 hins hP hok2 H.ov _ _ _ _ _ _ _ _ _ _ _ _ _ _ _ _ _ _ _ _ _ _ _ _ _ _ _ _ _ _ _ _ _ _ _ _ _ _ _ _ _ _ _ _ _ _ _ _ _ _ _ _ _ _ _ _ _ _ _ _ _ _ _ _ _ _ _ _ _ _ _ _ _ _ _ _ _ _ _ _ _ _ _ _ _ _ _ _ _ _ _ _ _ _ _ _ _ _ _ _ _ _ _ _ _ _ _ _ _ _ _ _ _ _ _ _ _ _ _ _ _ _ _ _ _ _ _ _ _ _ _ _ _ _ _ _ _ _ _ _ _ _ _ _ _ _ _ _ _ _ _ _ _ _ _ _ _ _ _ _ _ _ _ _ _ _ _ _ _ _ _ _ _ _ _ _ _ _ _ _ _ _ _ _ _ _ _ _ _ _ _ _ _ _ _ _ _ _ _ _ _ _ _ _ _ _ _ _ _ _ _ _ _ _ _ _ _ _ _ _ _ _ _ _ _ _ _ _ _ _ _ _ _ _ _ _ _ _ _ _ _ _ _ _ _ _ _ _ _ _ _ _ _ _ _ _ _ _ _ _ _ _ _ _ _ _ _ _ _ _ _ _ _ _ _ _ _ _ _ _ _ _ _ _ _ _ _ _ _ _ _ _ _ _ _ _ _ _ _ _ _ _ _ _ _ _ _ _ _ _ _ _ _ _ _ _ _ _ _ _ _ _ _ _ _ _ _ _ _ _ _ _ _ _ _ _ _ _ _ _ _ _ _ _ _ _ _ _ _ _ _ _ _ _ _ _ _ _ _ _ _ _ _ _ hK hR hD
  | 10, _ =>
    have hj := hjump (.inl rfl)
    obtain ⟨n, rfl⟩ : ∃ n : Nat, imm = n := ⟨imm.toNat, by omega⟩
    have e1 : stepI m.funs T ⟨nameOf 10, d, a, b, n⟩ x s = topM { x with pc := n } s := by
      rw [flow_step (i := ⟨nameOf 10, d, a, b, n⟩) m.funs rfl]; unfold flowP
      rw [if_neg (show ¬ nameOf 10 = tickT by decide), if_neg (show ¬ nameOf 10 = printT by decide), if_pos (show nameOf 10 = jumpT from rfl)]
      rfl
    rw [e1] at hP hok2
    exact sw_jump H hT hnf hMs av d a b n jt n17 hins hP hok2 H.ov _ _ _ _ _ _ _ _ _ _ _ _ _ _ _ _ _ _ _ _ _ _ _ _ _ _ _ _ _ _ _ _ _ _ _ _ _ _ _ _ _ _ _ _ _ _ _ _ _ _ _ _ _ _ _ _ _ _ _ _ _ _ _ _ _ _ _ _ _ _ _ _ _ _ _ _ _ _ _ _ _ _ _ _ _ _ _ _ _ _ _ _ _ _ _ _ _ _ _ _ _ _ _ _ _ _ _ _ _ _ _ _ _ _ _ _ _ _ _ _ _ _ _ _ _ _ _ _ _ _ _ _ _ _ _ _ _ _ _ _ _ _ _ _ _ _ _ _ _ _ _ _ _ _ _ _ _ _ _ _ _ _ _ _ _ _ _ _ _ _ _ _ _ _ _ _ _ _ _ _ _ _ _ _ _ _ _ _ _ _ _ _ _ _ _ _ _ _ _ _ _ _ _ _ _ _ _ _ _ _ _ _ _ _ _ _ _ _ _ _ _ _ _ _ _ _ _ _ _ _ _ _ _ _ _ _ _ _ _ _ _ _ _ _ _ _ _ _ _ _ _ _ _ _ _ _ _ _ _ _ _ _ _ _ _ _ _ _ _ _ _ _ _ _ _ _ _ _ _ _ _ _ _ _ _ _ _ _ _ _ _ _ _ _ _ _ _ _ _ _ _ _ _ _ _ _ _ _ _ _ _ _ _ _ _ _ _ _ _ _ _ _ _ _ _ _ _ _ _ _ _ _ _ _ _ _ _ _ _ _ _ _ _ _ _ _ _ _ _ _ _ _ _ _ _ _ _ _ _ _ _ _ _ _ hK hR hD
  | 11, _ =>
    have hj := hjump (.inr rfl)
    obtain ⟨n, rfl⟩ : ∃ n : Nat, imm = n := ⟨imm.toNat, by omega⟩
    by_cases hz : av = 0
    · have e1 : stepI m.funs T ⟨nameOf 11, d, a, b, n⟩ x s = s := by
        rw [flow_step (i := ⟨nameOf 11, d, a, b, n⟩) m.funs rfl]; unfold flowP
        rw [if_neg (show ¬ nameOf 11 = tickT by decide), if_neg (show ¬ nameOf 11 = printT by decide), if_neg (show ¬ nameOf 11 = jumpT by decide), if_pos (show nameOf 11 = ifT from rfl)]
        rw [if_pos (show regM x (a : Int) = 0 from hva.trans hz)]
      rw [e1] at hP hok2
      exact sw_if_no H hT hnf hMs av d a b n (by simp [hz]) jt n17 hins hP hok2 H.ov _ _ _ _ _ _ _ _ _ _ _ _ _ _ _ _ _ _ _ _ _ _ _ _ _ _ _ _ _ _ _ _ _ _ _ _ _ _ _ _ _ _ _ _ _ _ _ _ _ _ _ _ _ _ _ _ _ _ _ _ _ _ _ _ _ _ _ _ _ _ _ _ _ _ _ _ _ _ _ _ _ _ _ _ _ _ _ _ _ _ _ _ _ _ _ _ _ _ _ _ _ _ _ _ _ _ _ _ _ _ _ _ _ _ _ _ _ _ _ _ _ _ _ _ _ _ _ _ _ _ _ _ _ _ _ _ _ _ _ _ _ _ _ _ _ _ _ _ _ _ _ _ _ _ _ _ _ _ _ _ _ _ _ _ _ _ _ _ _ _ _ _ _ _ _ _ _ _ _ _ _ _ _ _ _ _ _ _ _ _ _ _ _ _ _ _ _ _ _ _ _ _ _ _ _ _ _ _ _ _ _ _ _ _ _ _ _ _ _ _ _ _ _ _ _ _ _ _ _ _ _ _ _ _ _ _ _ _ _ _ _ _ _ _ _ _ _ _ _ _ _ _ _ _ _ _ _ _ _ _ _ _ _ _ _ _ _ _ _ _ _ _ _ _ _ _ _ _ _ _ _ _ _ _ _ _ _ _ _ _ _ _ _ _ _ _ _ _ _ _ _ _ _ _ _ _ _ _ _ _ _ _ _ _ _ _ _ _ _ _ _ _ _ _ _ _ _ _ _ _ _ _ _ _ _ _ _ _ _ _ _ _ _ _ _ _ _ _ _ _ _ _ _ _ _ _ _ _ _ _ _ _ _ _ hK hR hD
    · have e1 : stepI m.funs T ⟨nameOf 11, d, a, b, n⟩ x s = topM { x with pc := n } s := by
        rw [flow_step (i := ⟨nameOf 11, d, a, b, n⟩) m.funs rfl]; unfold flowP
        rw [if_neg (show ¬ nameOf 11 = tickT by decide), if_neg (show ¬ nameOf 11 = printT by decide), if_neg (show ¬ nameOf 11 = jumpT by decide), if_pos (show nameOf 11 = ifT from rfl)]
        rw [if_neg (show ¬ regM x (a : Int) = 0 from fun e => hz (hva.symm.trans e))]
        rfl
      rw [e1] at hP hok2
      exact sw_if_yes H hT hnf hMs av d a b n (by simpa using hz) jt n17 hins hP hok2 H.ov _ _ _ _ _ _ _ _ _ _ _ _ _ _ _ _ _ _ _ _ _ _ _ _ _ _ _ _ _ _ _ _ _ _ _ _ _ _ _ _ _ _ _ _ _ _ _ _ _ _ _ _ _ _ _ _ _ _ _ _ _ _ _ _ _ _ _ _ _ _ _ _ _ _ _ _ _ _ _ _ _ _ _ _ _ _ _ _ _ _ _ _ _ _ _ _ _ _ _ _ _ _ _ _ _ _ _ _ _ _ _ _ _ _ _ _ _ _ _ _ _ _ _ _ _ _ _ _ _ _ _ _ _ _ _ _ _ _ _ _ _ _ _ _ _ _ _ _ _ _ _ _ _ _ _ _ _ _ _ _ _ _ _ _ _ _ _ _ _ _ _ _ _ _ _ _ _ _ _ _ _ _ _ _ _ _ _ _ _ _ _ _ _ _ _ _ _ _ _ _ _ _ _ _ _ _ _ _ _ _ _ _ _ _ _ _ _ _ _ _ _ _ _ _ _ _ _ _ _ _ _ _ _ _ _ _ _ _ _ _ _ _ _ _ _ _ _ _ _ _ _ _ _ _ _ _ _ _ _ _ _ _ _ _ _ _ _ _ _ _ _ _ _ _ _ _ _ _ _ _ _ _ _ _ _ _ _ _ _ _ _ _ _ _ _ _ _ _ _ _ _ _ _ _ _ _ _ _ _ _ _ _ _ _ _ _ _ _ _ _ _ _ _ _ _ _ _ _ _ _ _ _ _ _ _ _ _ _ _ _ _ _ _ _ _ _ _ _ _ _ _ _ _ _ _ _ _ _ _ _ _ _ _ _ hK hR hD
  | 12, _ =>
    have e0 : stepI m.funs T ⟨nameOf 12, d, a, b, imm⟩ x s = backM av s := by
      rw [← hva]
      rw [flow_step (i := ⟨nameOf 12, d, a, b, imm⟩) m.funs rfl]; unfold flowP
      rw [if_neg (show ¬ nameOf 12 = tickT by decide), if_neg (show ¬ nameOf 12 = printT by decide), if_neg (show ¬ nameOf 12 = jumpT by decide), if_neg (show ¬ nameOf 12 = ifT by decide), if_pos (show nameOf 12 = returnT from rfl)]
    rcases List.eq_nil_or_concat cs with hcs | ⟨cs', y, hcs⟩
    · have e1 : stepI m.funs T ⟨nameOf 12, d, a, b, imm⟩ x s = { s with calls := [], how := doneT, val := av } := by
        rw [e0]; unfold backM; rw [H.cl, hcs]; rfl
      rw [e1] at hP
      rw [run_over (by rfl)] at hP
      exact sw_done H hT hnf hMs av d a b imm hcs jt n17 hins hP _ _ _ _ _ _ _ _ _ _ _ _ _ _ _ _ _ _ _ _ _ _ _ _ _ _ _ _ _ _ _ _ _ _ _ _ _ _ _ _ _ _ _ _ _ _ _ _ _ _ _ _ _ _ _ _ _ _ _ _ _ _ _ _ _ _ _ _ _ _ _ _ _ _ _ _ _ _ _ _ _ _ _ _ _ _ _ _ _ _ _ _ _ _ _ _ _ _ _ _ _ _ _ _ _ _ _ _ _ _ _ _ _ _ _ _ _ _ _ _ _ _ _ _ _ _ _ _ _ _ _ _ _ _ _ _ _ _ _ _ _ _ _ _ _ _ _ _ _ _ _ _ _ _ _ _ _ _ _ _ _ _ _ _ _ _ _ _ _ _ _ _ _ _ _ _ _ _ _ _ _ _ _ _ _ _ _ _ _ _ _ _ _ _ _ _ _ _ _ _ _ _ _ _ _ _ _ _ _ _ _ _ _ _ _ _ _ _ _ _ _ _ _ _ _ _ _ _ _ _ _ _ _ _ _ _ _ _ _ _ _ _ _ _ _ _ _ _ _ _ _ _ _ _ _ _ _ _ _ _ _ _ _ _ _ _ _ _ _ _ _ _ _ _ _ _ _ _ _ _ _ _ _ _ _ _ _ _ _ _ _ _ _ _ _ _ _ _ _ _ _ _ _ _ _ _ _ _ _ _ _ _ _ _ _ _ _ _ _ _ _ _ _ _ _ _ _ _ _ _ _ _ _ _ _ _ _ _ _ _ _ _ _ _ _ _ _ _ _ _ _ _ _ _ _ _ _ _ _ _ _ _ _ _ hK hR hD
    · try rw [List.concat_eq_append] at hcs
      subst hcs
      obtain ⟨ps', p1, hps⟩ := H.rf.pop' H.cl
      subst hps
      have e1 : stepI m.funs T ⟨nameOf 12, d, a, b, imm⟩ x s = topM { y with r := y.r.set x.d av } { s with calls := cs' ++ [y] } := by
        rw [e0]; unfold backM
        have e1 : s.calls.dropLast = cs' ++ [y] := by rw [H.cl]; simp
        have e2 : s.top = x := by unfold PMs.top; rw [H.cl]; simp
        rw [e1, e2, if_neg (by simp)]
        unfold topM
        simp
      have hy : FrOk m y := hMs.calls y (by rw [H.cl]; simp)
      rw [e1] at hP hok2
      exact sw_back H hT hnf hMs av hy.len hx.d (by have := hMs.deep; rw [H.cl] at this; simp at this; omega) d a b imm jt n17 hins hP hok2 H.ov _ _ _ _ _ _ _ _ _ _ _ _ _ _ _ _ _ _ _ _ _ _ _ _ _ _ _ _ _ _ _ _ _ _ _ _ _ _ _ _ _ _ _ _ _ _ _ _ _ _ _ _ _ _ _ _ _ _ _ _ _ _ _ _ _ _ _ _ _ _ _ _ _ _ _ _ _ _ _ _ _ _ _ _ _ _ _ _ _ _ _ _ _ _ _ _ _ _ _ _ _ _ _ _ _ _ _ _ _ _ _ _ _ _ _ _ _ _ _ _ _ _ _ _ _ _ _ _ _ _ _ _ _ _ _ _ _ _ _ _ _ _ _ _ _ _ _ _ _ _ _ _ _ _ _ _ _ _ _ _ _ _ _ _ _ _ _ _ _ _ _ _ _ _ _ _ _ _ _ _ _ _ _ _ _ _ _ _ _ _ _ _ _ _ _ _ _ _ _ _ _ _ _ _ _ _ _ _ _ _ _ _ _ _ _ _ _ _ _ _ _ _ _ _ _ _ _ _ _ _ _ _ _ _ _ _ _ _ _ _ _ _ _ _ _ _ _ _ _ _ _ _ _ _ _ _ _ _ _ _ _ _ _ _ _ _ _ _ _ _ _ _ _ _ _ _ _ _ _ _ _ _ _ _ _ _ _ _ _ _ _ _ _ _ _ _ _ _ _ _ _ _ _ _ _ _ _ _ _ _ _ _ _ _ _ _ _ _ _ _ _ _ _ _ _ _ _ _ _ _ _ _ _ _ _ _ _ _ _ _ _ _ _ _ _ _ _ _ _ _ _ _ _ _ _ _ _ _ _ _ _ _ _ _ hK hR hD
  | 13, _ =>
    have e1 : stepI m.funs T ⟨nameOf 13, d, a, b, imm⟩ x s = topM (putM x d (wrap64 (-av))) s := by
      rw [← hva]
      unfold stepI
      rw [if_neg (show ¬ flowB (nameOf 13) = true by decide), if_neg (show ¬ moveB (nameOf 13) = true by decide)]
      unfold sumP
      rw [if_pos (show nameOf 13 = negT from rfl)]
    rw [e1] at hP hok2
    exact sw_neg H hT hnf hMs av d (by omega) a b imm _ rfl jt n17 hins hP hok2 H.ov _ _ _ _ _ _ _ _ _ _ _ _ _ _ _ _ _ _ _ _ _ _ _ _ _ _ _ _ _ _ _ _ _ _ _ _ _ _ _ _ _ _ _ _ _ _ _ _ _ _ _ _ _ _ _ _ _ _ _ _ _ _ _ _ _ _ _ _ _ _ _ _ _ _ _ _ _ _ _ _ _ _ _ _ _ _ _ _ _ _ _ _ _ _ _ _ _ _ _ _ _ _ _ _ _ _ _ _ _ _ _ _ _ _ _ _ _ _ _ _ _ _ _ _ _ _ _ _ _ _ _ _ _ _ _ _ _ _ _ _ _ _ _ _ _ _ _ _ _ _ _ _ _ _ _ _ _ _ _ _ _ _ _ _ _ _ _ _ _ _ _ _ _ _ _ _ _ _ _ _ _ _ _ _ _ _ _ _ _ _ _ _ _ _ _ _ _ _ _ _ _ _ _ _ _ _ _ _ _ _ _ _ _ _ _ _ _ _ _ _ _ _ _ _ _ _ _ _ _ _ _ _ _ _ _ _ _ _ _ _ _ _ _ _ _ _ _ _ _ _ _ _ _ _ _ _ _ _ _ _ _ _ _ _ _ _ _ _ _ _ _ _ _ _ _ _ _ _ _ _ _ _ _ _ _ _ _ _ _ _ _ _ _ _ _ _ _ _ _ _ _ _ _ _ _ _ _ _ _ _ _ _ _ _ _ _ _ _ _ _ _ _ _ _ _ _ _ _ _ _ _ _ _ _ _ _ _ _ _ _ _ _ _ _ _ _ _ _ _ _ _ _ _ _ _ _ _ _ _ _ _ _ _ _ hK hR hD
  | 14, _ =>
    have e1 : stepI m.funs T ⟨nameOf 14, d, a, b, imm⟩ x s = topM (putM x d (bitV (av == 0))) s := by
      rw [← hva]
      unfold stepI
      rw [if_neg (show ¬ flowB (nameOf 14) = true by decide), if_neg (show ¬ moveB (nameOf 14) = true by decide)]
      unfold sumP
      rw [if_neg (show ¬ nameOf 14 = negT by decide), if_pos (show nameOf 14 = notT from rfl)]
    rw [e1] at hP hok2
    exact sw_not H hT hnf hMs av d (by omega) a b imm _ rfl jt n17 hins hP hok2 H.ov _ _ _ _ _ _ _ _ _ _ _ _ _ _ _ _ _ _ _ _ _ _ _ _ _ _ _ _ _ _ _ _ _ _ _ _ _ _ _ _ _ _ _ _ _ _ _ _ _ _ _ _ _ _ _ _ _ _ _ _ _ _ _ _ _ _ _ _ _ _ _ _ _ _ _ _ _ _ _ _ _ _ _ _ _ _ _ _ _ _ _ _ _ _ _ _ _ _ _ _ _ _ _ _ _ _ _ _ _ _ _ _ _ _ _ _ _ _ _ _ _ _ _ _ _ _ _ _ _ _ _ _ _ _ _ _ _ _ _ _ _ _ _ _ _ _ _ _ _ _ _ _ _ _ _ _ _ _ _ _ _ _ _ _ _ _ _ _ _ _ _ _ _ _ _ _ _ _ _ _ _ _ _ _ _ _ _ _ _ _ _ _ _ _ _ _ _ _ _ _ _ _ _ _ _ _ _ _ _ _ _ _ _ _ _ _ _ _ _ _ _ _ _ _ _ _ _ _ _ _ _ _ _ _ _ _ _ _ _ _ _ _ _ _ _ _ _ _ _ _ _ _ _ _ _ _ _ _ _ _ _ _ _ _ _ _ _ _ _ _ _ _ _ _ _ _ _ _ _ _ _ _ _ _ _ _ _ _ _ _ _ _ _ _ _ _ _ _ _ _ _ _ _ _ _ _ _ _ _ _ _ _ _ _ _ _ _ _ _ _ _ _ _ _ _ _ _ _ _ _ _ _ _ _ _ _ _ _ _ _ _ _ _ _ _ _ _ _ _ _ _ _ _ _ _ _ _ _ _ _ _ _ _ _ hK hR hD
  | j + 15, hk =>
    have hj : j < 14 := by omega
    have e1 := step_two (T := T) (s := s) (x := x) m.funs j hj d a b imm
    rw [hva] at e1
    have hn := name_not j hj
    have hne : ∀ k, k < 15 → ((mkB (nameOf (j + 15))).toList == nameOf k) = false := fun k hk => by rw [mkB_toList]; exact beq_eq_false_iff_ne.2 (hn k hk)
    rw [e1] at hP hok2
    exact sw_two H hT hnf hMs av hav (nameOf (j + 15)) j hj (find_two j hj) (hne 0 (by omega)) (hne 1 (by omega)) (hne 2 (by omega)) (hne 3 (by omega)) (hne 4 (by omega)) (hne 5 (by omega)) (hne 6 (by omega)) (hne 7 (by omega)) (hne 8 (by omega)) (hne 9 (by omega)) (hne 10 (by omega)) (hne 11 (by omega)) (hne 12 (by omega)) (hne 13 (by omega)) (hne 14 (by omega)) d (by omega) a b (by omega) imm _ rfl jt n17 hins hP hok2 H.ov _ _ _ _ _ _ _ _ _ _ _ _ _ _ _ _ _ _ _ _ _ _ _ _ _ _ _ _ _ _ _ _ _ _ _ _ _ _ _ _ _ _ _ _ _ _ _ _ _ _ _ _ _ _ _ _ _ _ _ _ _ _ _ _ _ _ _ _ _ _ _ _ _ _ _ _ _ _ _ _ _ _ _ _ _ _ _ _ _ _ _ _ _ _ _ _ _ _ _ _ _ _ _ _ _ _ _ _ _ _ _ _ _ _ _ _ _ _ _ _ _ _ _ _ _ _ _ _ _ _ _ _ _ _ _ _ _ _ _ _ _ _ _ _ _ _ _ _ _ _ _ _ _ _ _ _ _ _ _ _ _ _ _ _ _ _ _ _ _ _ _ _ _ _ _ _ _ _ _ _ _ _ _ _ _ _ _ _ _ _ _ _ _ _ _ _ _ _ _ _ _ _ _ _ _ _ _ _ _ _ _ _ _ _ _ _ _ _ _ _ _ _ _ _ _ _ _ _ _ _ _ _ _ _ _ _ _ _ _ _ _ _ _ _ _ _ _ _ _ _ _ _ _ _ _ _ _ _ _ _ _ _ _ _ _ _ _ _ _ _ _ _ _ _ _ _ _ _ _ _ _ _ _ _ _ _ _ _ _ _ _ _ _ _ _ _ _ _ _ _ _ _ _ _ _ _ _ _ _ _ _ _ _ _ _ _ _ _ _ _ _ _ _ _ _ _ _ _ _ _ _ _ _ _ _ _ _ _ _ _ _ _ _ _ _ _ _ _ _ _ _ _ _ _ _ _ _ _ _ _ _ _ _ _ hK hR hD
end
end Go.Proofs.YtgoifbkogboppaaDoor

namespace Go.Proofs.YtgoifbkogboppaaDoor
open Go.ChangeShapes Go.WideShapes Go.ChangeAt Go.RowKit Go.Joins Go.Deep

section
variable {H : Type} {enc : TypeId × Value → H} {W : World} {base : Nat} {sp : Nat → Bool} {hd : Bool}
theorem bytes_idL (s : ByteArray) : mkB s.toList = s := by
  rw [Lib.toList_data]; cases s; rfl
theorem tcInt : Tryd.prog.cellsOf 3 = 1 := by kernel_rfl
set_option maxRecDepth 100000 in
/-- The argument: numbers. -/
theorem open_nums {v : Value} {d : DataW H} {p : List MemPlace} {r : Reach} {b0 : Nat} (hv : Value.okWide Tryd.prog W r b0 26 v) (h : DataW.Trod enc Tryd.prog W base sp hd 26 v d p) :
    ∃ xs A c, v = .slice A xs.length c ∧ xs.length ≤ maxLen ∧ Row W A (intVs xs) := by
  obtain ⟨fuel, hf⟩ := h
  obtain ⟨a0, l0, c0, rfl⟩ := okWide_slice Tryd.underlying26 hv
  rw [show (Value.slice a0 l0 c0).cells.toList = [Value.slice a0 l0 c0] from rfl] at hf
  rcases open_ints Tryd.underlying26 Tryd.underlying3 tcInt hf with ⟨hc, _⟩ | ⟨a, len, cap, zs, hc, _, hlc, hcm, hz, _, hcell, _⟩
  · simp only [List.cons.injEq, and_true] at hc
    exact ⟨[], none, 0, hc, by simp, Row.nil _ _⟩
  · simp only [List.cons.injEq, and_true] at hc
    have hle : len ≤ zs.length := by rw [hz]; split <;> omega
    refine ⟨zs.take len, some a, cap, by rw [hc, List.length_take, Nat.min_eq_left hle], by rw [List.length_take]; omega, fun j u hj => ?_⟩
    have hjl : j < len := by
      have := (List.getElem?_eq_some_iff.1 hj).1
      simp [intVs] at this
      omega
    have hg := hcell j (by omega)
    have hs := World.cell?_spot (hcell 0 (by omega))
    obtain ⟨ab, ao, asp⟩ := a
    have hs' : asp = none := by simpa [Addr.add] using hs
    subst hs'
    refine ⟨ab, ao, rfl, ?_⟩
    have e2 : (⟨ab, ao, none⟩ : Addr).add j = ⟨ab, ao + j, none⟩ := by unfold Addr.add; split <;> simp_all
    rw [e2] at hg
    rw [hg]
    unfold intVs at hj
    rw [List.getElem?_map, List.getElem?_take, if_pos hjl] at hj
    rw [List.getD_eq_getElem?_getD]
    cases hq : zs[j]? with
    | none => rw [hq] at hj; cases hj
    | some z => rw [hq] at hj; simpa using hj
end
end Go.Proofs.YtgoifbkogboppaaDoor

namespace Go.Proofs.YtgoifbkogboppaaDoor
open Go.ChangeShapes Go.WideShapes Go.ChangeAt Go.RowKit Go.Joins Go.Deep

section
variable {H : Type} {enc : TypeId × Value → H} {W : World} {base : Nat} {sp : Nat → Bool} {hd : Bool}
/-- A row that holds something lies in the heap. -/
theorem row_there {w : World} {X : Option Addr} {l : List Int} (h : Row w X (intVs l)) (hne : l ≠ []) (a : Addr) (ha : X = some a) : a.block < w.heap.size := by
  cases l with
  | nil => exact absurd rfl hne
  | cons x xs =>
    obtain ⟨b, off, e, hc⟩ := h 0 _ rfl
    rw [ha] at e
    injection e with e
    subst e
    unfold World.cell? at hc
    cases hb : w.heap[b]? with
    | none => simp [hb] at hc
    | some o => exact (Array.getElem?_eq_some_iff.1 hb).1
set_option maxRecDepth 100000 in
/-- The argument: numbers, each within 64 bits. -/
theorem open_nums6 {v : Value} {d : DataW H} {p : List MemPlace} {r : Reach} {b0 : Nat} (hv : Value.okWide Tryd.prog W r b0 26 v) (h : DataW.Trod enc Tryd.prog W base sp hd 26 v d p) :
    ∃ xs A c, v = .slice A xs.length c ∧ xs.length ≤ maxLen ∧ Row W A (intVs xs) ∧ ∀ n ∈ xs, I64 n := by
  obtain ⟨xs, A, c, hv', hm, hr⟩ := open_nums hv h
  refine ⟨xs, A, c, hv', hm, hr, ?_⟩
  obtain ⟨fuel, hf⟩ := h
  subst hv'
  rw [show (Value.slice A xs.length c).cells.toList = [Value.slice A xs.length c] from rfl] at hf
  rcases open_ints Tryd.underlying26 Tryd.underlying3 tcInt hf with ⟨hc, _⟩ | ⟨a, len, cap, zs, hc, _, hlc, hcm, hz, _, hcell, hwf⟩
  · simp only [List.cons.injEq, and_true, Value.slice.injEq] at hc
    have : xs = [] := List.length_eq_zero_iff.1 hc.2.1
    subst this
    intro n hn; cases hn
  · simp only [List.cons.injEq, and_true, Value.slice.injEq] at hc
    obtain ⟨rfl, hlen, rfl⟩ := hc
    have hle : len ≤ zs.length := by rw [hz]; split <;> omega
    intro n hn
    obtain ⟨j, hj, rfl⟩ := List.mem_iff_getElem.1 hn
    have hg := hcell j (by omega)
    obtain ⟨b, off, e, hc⟩ := hr j (.int .i64 xs[j]) (by simp [intVs, hj])
    injection e with e
    subst e
    have e2 : (⟨b, off, none⟩ : Addr).add j = ⟨b, off + j, none⟩ := by unfold Addr.add; split <;> simp_all
    rw [e2, hc] at hg
    have hjz : j < zs.length := by omega
    have e3 : xs[j] = zs[j] := by
      injection hg with hg
      injection hg with _ hg
      rw [List.getD_eq_getElem?_getD, List.getElem?_eq_getElem hjz] at hg
      simpa using hg
    rw [e3]
    have := hwf _ (List.getElem_mem hjz)
    simp [Lit.wf] at this
    exact ⟨this.1, this.2⟩
end
end Go.Proofs.YtgoifbkogboppaaDoor
