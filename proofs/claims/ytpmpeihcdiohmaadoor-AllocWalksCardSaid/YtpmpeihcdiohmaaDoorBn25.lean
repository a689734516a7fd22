import Derived.Test.YtpmpeihcdiohmaaDoorBn21
set_option linter.unusedVariables false
set_option linter.unusedSimpArgs false
namespace Go.Proofs.YtpmpeihcdiohmaaDoor
open Go.RowKit

/-! the reference's walk of registers: its switch (printed by gen_aor.py) -/
section
variable {c : PCd} {c0 : Value} {X : Option Addr} {args : List Int} {xc : Nat} {Y : Option Addr} {ans : List Int} {yc : Nat} {T : Int} {w0 : World} {mb rB sB nb sn b0 rb q q2 : Nat} {F : Nat → Array Value → Prop} {s s2 : ASt} {vO vC : Value} {ts : List CC} {w : World} {K : Act → World → Prop} {Q0 : Exit → Act → World → Prop} {Q : Ending → World → Prop}
set_option maxHeartbeats 8000000 in
set_option maxRecDepth 1000000 in
theorem so_one (H : RoS w0 mb rB sB nb F s vO vC ts w) (h8 : s.r.length = 8) (hsl : s.slots.length = sn) (h4 : s.next.length = 4) (hT6 : T ≤ 60) (htk6 : 0 ≤ s.ticks ∧ s.ticks ≤ T) (hl0 : w0.heap.size ≤ w.heap.size) (kat kn16 k18 : Int) (nm : List UInt8) (d : Nat) (hd : d < 8) (a : Nat) (ha : a < 8) (b k : Int) (res : Int) (hres : oneV nm (s.r.getD a 0) = some res) (hins : w.heap[q2]? = some (.cells #[.string ⟨#[111, 110, 101]⟩, .int .i64 d, .int .i64 a, .int .i64 b, .int .i64 k, .string (mkB nm)] 60 (0, 0)))
    (x4 x6 x7 x8 x9 x20 x21 x22 x23 x24 x25 x26 x27 x28 x29 x30 x31 x32 x33 x34 x35 x36 x37 x38 x39 x40 x41 x42 x43 x44 x45 x46 x47 x48 x49 x50 x52 x53 x54 x55 x56 x57 x58 x59 x60 x61 x62 x63 x64 x65 x66 x67 x68 x69 x70 x71 x72 x73 x74 x75 x76 x77 x78 x79 x80 x81 x82 x83 x84 x85 x86 x87 x88 x89 x90 x91 x92 x93 x94 x95 x96 x97 x98 x99 x100 x101 x102 x103 x104 x105 x106 x107 x108 x109 x110 x111 x112 x113 x114 x115 x116 x117 x118 x119 x120 x121 x122 x123 x124 x125 x126 x127 x128 x129 x130 x131 x132 x133 x134 x135 x136 x137 x138 x139 x140 x141 x142 x143 x144 x145 x146 x147 x148 x149 x150 x151 x152 x153 x154 x155 x156 x157 x158 x159 x160 x161 x162 x163 x164 x165 x166 x167 x168 x169 x170 x171 x172 x173 x174 x175 x176 x177 x178 x179 x180 x181 x182 x183 x184 x185 x186 x187 x188 x189 x190 x191 x192 x193 x194 x195 x196 x197 x198 x199 x200 x201 x202 x203 x204 x205 x206 x207 x208 x209 x210 x211 x212 x213 x214 x215 x216 x217 x218 x219 x220 x221 x222 x223 x224 x225 x226 x227 x228 x229 x230 x231 x232 x233 x234 x235 x236 x237 x238 x239 x240 x241 x242 : Value)
    (hK : ∀ (nb' : Nat) (s' : ASt) (vO' vC' : Value) (ts' : List CC) (y20 y21 y52 y53 y54 y55 y56 y57 y58 y59 y60 y61 y62 y63 y64 y65 y66 y67 y68 y69 y70 y71 y72 y73 y74 y75 y76 y77 y78 y79 y80 y81 y82 y83 y84 y85 y86 y87 y88 y89 y90 y91 y92 y93 y94 y95 y96 y97 y98 y99 y100 y101 y102 y103 y104 y105 y106 y107 y108 y109 y110 y111 y112 y113 y114 y115 y116 y117 y118 y119 y120 y121 y122 y123 y124 y125 y126 y127 y128 y129 y130 y131 y132 y133 y134 y135 y136 y137 y138 y139 y140 y141 y142 y143 y144 y145 y146 y147 y148 y149 y150 y151 y152 y153 y154 y155 y156 y157 y158 y159 y160 y161 y162 y163 y164 y165 y166 y167 y168 y169 y170 y171 y172 y173 y174 y175 y176 y177 y178 y179 y180 y181 y182 y183 y184 y185 y186 y187 y188 y189 y190 y191 y192 y193 y194 y195 y196 y197 y198 y199 y200 y201 y202 y203 y204 y205 y206 y207 y208 y209 y210 y211 y212 : Value) (w' : World), insA T args ans ⟨kOne, d, a, b, k, nm⟩ s = some s' → RoS w0 mb rB sB nb' F s' vO' vC' ts' w' → K ⟨#[c0, .slice X args.length xc, .slice Y ans.length yc, .int .i64 T, x4, .pointer (some ⟨b0, 0, none⟩), x6, x7, x8, x9, .pointer (some ⟨rb, 0, none⟩), .slice (some ⟨rB, 0, none⟩) 8 8, .slice (some ⟨sB, 0, none⟩) sn sn, .slice (some ⟨nb', 0, none⟩) 4 4, .pointer (some ⟨mb, 0, none⟩), .int .i64 kat, .int .i64 kn16, .pointer (some ⟨q, 0, none⟩), .int .i64 k18, .pointer (some ⟨q2, 0, none⟩), y20, y21, x22, x23, x24, x25, x26, x27, x28, x29, x30, x31, x32, x33, x34, x35, x36, x37, x38, x39, x40, x41, x42, x43, x44, x45, x46, x47, x48, x49, x50, .string ⟨#[111, 110, 101]⟩, y52, y53, y54, y55, y56, y57, y58, y59, y60, y61, y62, y63, y64, y65, y66, y67, y68, y69, y70, y71, y72, y73, y74, y75, y76, y77, y78, y79, y80, y81, y82, y83, y84, y85, y86, y87, y88, y89, y90, y91, y92, y93, y94, y95, y96, y97, y98, y99, y100, y101, y102, y103, y104, y105, y106, y107, y108, y109, y110, y111, y112, y113, y114, y115, y116, y117, y118, y119, y120, y121, y122, y123, y124, y125, y126, y127, y128, y129, y130, y131, y132, y133, y134, y135, y136, y137, y138, y139, y140, y141, y142, y143, y144, y145, y146, y147, y148, y149, y150, y151, y152, y153, y154, y155, y156, y157, y158, y159, y160, y161, y162, y163, y164, y165, y166, y167, y168, y169, y170, y171, y172, y173, y174, y175, y176, y177, y178, y179, y180, y181, y182, y183, y184, y185, y186, y187, y188, y189, y190, y191, y192, y193, y194, y195, y196, y197, y198, y199, y200, y201, y202, y203, y204, y205, y206, y207, y208, y209, y210, y211, y212, x213, x214, x215, x216, x217, x218, x219, x220, x221, x222, x223, x224, x225, x226, x227, x228, x229, x230, x231, x232, x233, x234, x235, x236, x237, x238, x239, x240, x241, x242], []⟩ w')
    (hR : ∀ a w', bodyPost Tryd.prog Tryd.f11 Q .ret a w' → Q0 .ret a w')
    (hD : insA T args ans ⟨kOne, d, a, b, k, nm⟩ s = none → ∀ (AO : Option Addr) (cO : Nat) (AC : Option Addr) (cC : Nat) (w3 : World), RoAt w0 mb (rowsR rB sB nb s) F s hOver 0 (.slice AO s.out.length cO) (.slice AC s.calls.length cC) ts w3 → Q (.returned (.agg #[.string (mkB hOver), .int .i64 0, .slice AO s.out.length cO, .int .i64 s.ticks, .slice AC s.calls.length cC])) (((((w3.setCell ⟨rb, 0, none⟩ (.string (mkB hOver))).setCell ⟨rb, 1, none⟩ (.int .i64 0)).setCell ⟨rb, 2, none⟩ (.slice AO s.out.length cO)).setCell ⟨rb, 3, none⟩ (.int .i64 s.ticks)).setCell ⟨rb, 4, none⟩ (.slice AC s.calls.length cC))) :
    Code.wp Tryd.prog swO (Exit.then K Q0) ⟨#[c0, .slice X args.length xc, .slice Y ans.length yc, .int .i64 T, x4, .pointer (some ⟨b0, 0, none⟩), x6, x7, x8, x9, .pointer (some ⟨rb, 0, none⟩), .slice (some ⟨rB, 0, none⟩) 8 8, .slice (some ⟨sB, 0, none⟩) sn sn, .slice (some ⟨nb, 0, none⟩) 4 4, .pointer (some ⟨mb, 0, none⟩), .int .i64 kat, .int .i64 kn16, .pointer (some ⟨q, 0, none⟩), .int .i64 k18, .pointer (some ⟨q2, 0, none⟩), x20, x21, x22, x23, x24, x25, x26, x27, x28, x29, x30, x31, x32, x33, x34, x35, x36, x37, x38, x39, x40, x41, x42, x43, x44, x45, x46, x47, x48, x49, x50, .string ⟨#[111, 110, 101]⟩, x52, x53, x54, x55, x56, x57, x58, x59, x60, x61, x62, x63, x64, x65, x66, x67, x68, x69, x70, x71, x72, x73, x74, x75, x76, x77, x78, x79, x80, x81, x82, x83, x84, x85, x86, x87, x88, x89, x90, x91, x92, x93, x94, x95, x96, x97, x98, x99, x100, x101, x102, x103, x104, x105, x106, x107, x108, x109, x110, x111, x112, x113, x114, x115, x116, x117, x118, x119, x120, x121, x122, x123, x124, x125, x126, x127, x128, x129, x130, x131, x132, x133, x134, x135, x136, x137, x138, x139, x140, x141, x142, x143, x144, x145, x146, x147, x148, x149, x150, x151, x152, x153, x154, x155, x156, x157, x158, x159, x160, x161, x162, x163, x164, x165, x166, x167, x168, x169, x170, x171, x172, x173, x174, x175, x176, x177, x178, x179, x180, x181, x182, x183, x184, x185, x186, x187, x188, x189, x190, x191, x192, x193, x194, x195, x196, x197, x198, x199, x200, x201, x202, x203, x204, x205, x206, x207, x208, x209, x210, x211, x212, x213, x214, x215, x216, x217, x218, x219, x220, x221, x222, x223, x224, x225, x226, x227, x228, x229, x230, x231, x232, x233, x234, x235, x236, x237, x238, x239, x240, x241, x242], []⟩ w := by
  conv => arg 2; whnf
  obtain ⟨e0, e1, e2, e3, e4, e5⟩ := row6A hins
  have mR : (rB, s.r) ∈ rowsR rB sB nb s := by simp [rowsR]
  have mS : (sB, s.slots) ∈ rowsR rB sB nb s := by simp [rowsR]
  have mN : (nb, s.next) ∈ rowsR rB sB nb s := by simp [rowsR]
  have hd0 : (0 : Int) ≤ d := by omega
  have hd1 : (d : Int) < 8 := by omega
  have ha0 : (0 : Int) ≤ a := by omega
  have ha1 : (a : Int) < 8 := by omega
  have r1 : w.cell? ⟨rB, a, none⟩ = some (.int .i64 (s.r.getD a 0)) := H.cellR mR (j := a) (by show _ < s.r.length; omega)
  obtain ⟨ga, hga⟩ : ∃ g, s.r.getD a 0 = g := ⟨_, rfl⟩
  rw [hga] at r1
  rw [hga] at hres
  have r9 : w.cell? ⟨rB, d, none⟩ = some (.int .i64 (s.r.getD d 0)) := H.cellR mR (j := d) (by show _ < s.r.length; omega)
  obtain ⟨gd, hgd⟩ : ∃ g, s.r.getD d 0 = g := ⟨_, rfl⟩
  rw [hgd] at r9
  clear hgd
  have z1 : w.frozen? ⟨rB, d, none⟩ = false := H.frozenR mR d
  have HST := Lib.hid (fun n => (H.drewN n).setR (s' := { s with r := s.r.set d (res) }) (k := 0) (b := rB) (l := s.r) rfl d (res) rfl rfl rfl)
  have HGA := Lib.hid (And.intro hga hres)
  have HON : Hid (∀ w', Calls Tryd.prog 22 #[.string (mkB nm), .int .i64 ga] w' fun e w'' => e = .returned (.int .i64 res) ∧ w'' = w') := fun w' => OneOf_any (mkB nm) ga res (by rw [mkB_toList]; exact hres) w'
  clear hga hres e0 e3 e4
  have HH := Lib.hid H
  have HM := Lib.hid (And.intro mR (And.intro mS mN))
  clear H hins mR mS mN
  go_upto_region 20 with fail
  go_still_tail 12, (by kernel_rfl)
  still_call (HON.out _)
  repeat still_step
  refine wpStill_nil ?_
  change wpList _ _ _ _ _ w.drew
  go_wp2_with fail
  all_goals go_wp2_with fail
  all_goals
    refine hK nb ({ s with r := s.r.set d res }) (vO) (vC) (ts) _ _ _ _ _ _ _ _ _ _ _ _ _ _ _ _ _ _ _ _ _ _ _ _ _ _ _ _ _ _ _ _ _ _ _ _ _ _ _ _ _ _ _ _ _ _ _ _ _ _ _ _ _ _ _ _ _ _ _ _ _ _ _ _ _ _ _ _ _ _ _ _ _ _ _ _ _ _ _ _ _ _ _ _ _ _ _ _ _ _ _ _ _ _ _ _ _ _ _ _ _ _ _ _ _ _ _ _ _ _ _ _ _ _ _ _ _ _ _ _ _ _ _ _ _ _ _ _ _ _ _ _ _ _ _ _ _ _ _ _ _ _ _ _ _ _ _ _ _ _ _ _ _ _ _ _ _ _ _ _ _ _ _ _ ?_ ?_
    · show some { s with r := s.r.set d ((oneV nm (s.r.getD a 0)).getD 0) } = _; rw [HGA.out.1, HGA.out.2]; rfl
    · exact HST.out 1

set_option maxHeartbeats 8000000 in
set_option maxRecDepth 1000000 in
theorem so_two (H : RoS w0 mb rB sB nb F s vO vC ts w) (h8 : s.r.length = 8) (hsl : s.slots.length = sn) (h4 : s.next.length = 4) (hT6 : T ≤ 60) (htk6 : 0 ≤ s.ticks ∧ s.ticks ≤ T) (hl0 : w0.heap.size ≤ w.heap.size) (kat kn16 k18 : Int) (nm : List UInt8) (d : Nat) (hd : d < 8) (a : Nat) (ha : a < 8) (b : Nat) (hb : b < 8) (k : Int) (res : Int) (hI : I64 (s.r.getD a 0)) (hres : doV nm (s.r.getD a 0) (s.r.getD b 0) = some res) (hins : w.heap[q2]? = some (.cells #[.string ⟨#[116, 119, 111]⟩, .int .i64 d, .int .i64 a, .int .i64 b, .int .i64 k, .string (mkB nm)] 60 (0, 0)))
    (x4 x6 x7 x8 x9 x20 x21 x22 x23 x24 x25 x26 x27 x28 x29 x30 x31 x32 x33 x34 x35 x36 x37 x38 x39 x40 x41 x42 x43 x44 x45 x46 x47 x48 x49 x50 x52 x53 x54 x55 x56 x57 x58 x59 x60 x61 x62 x63 x64 x65 x66 x67 x68 x69 x70 x71 x72 x73 x74 x75 x76 x77 x78 x79 x80 x81 x82 x83 x84 x85 x86 x87 x88 x89 x90 x91 x92 x93 x94 x95 x96 x97 x98 x99 x100 x101 x102 x103 x104 x105 x106 x107 x108 x109 x110 x111 x112 x113 x114 x115 x116 x117 x118 x119 x120 x121 x122 x123 x124 x125 x126 x127 x128 x129 x130 x131 x132 x133 x134 x135 x136 x137 x138 x139 x140 x141 x142 x143 x144 x145 x146 x147 x148 x149 x150 x151 x152 x153 x154 x155 x156 x157 x158 x159 x160 x161 x162 x163 x164 x165 x166 x167 x168 x169 x170 x171 x172 x173 x174 x175 x176 x177 x178 x179 x180 x181 x182 x183 x184 x185 x186 x187 x188 x189 x190 x191 x192 x193 x194 x195 x196 x197 x198 x199 x200 x201 x202 x203 x204 x205 x206 x207 x208 x209 x210 x211 x212 x213 x214 x215 x216 x217 x218 x219 x220 x221 x222 x223 x224 x225 x226 x227 x228 x229 x230 x231 x232 x233 x234 x235 x236 x237 x238 x239 x240 x241 x242 : Value)
    (hK : ∀ (nb' : Nat) (s' : ASt) (vO' vC' : Value) (ts' : List CC) (y20 y21 y52 y53 y54 y55 y56 y57 y58 y59 y60 y61 y62 y63 y64 y65 y66 y67 y68 y69 y70 y71 y72 y73 y74 y75 y76 y77 y78 y79 y80 y81 y82 y83 y84 y85 y86 y87 y88 y89 y90 y91 y92 y93 y94 y95 y96 y97 y98 y99 y100 y101 y102 y103 y104 y105 y106 y107 y108 y109 y110 y111 y112 y113 y114 y115 y116 y117 y118 y119 y120 y121 y122 y123 y124 y125 y126 y127 y128 y129 y130 y131 y132 y133 y134 y135 y136 y137 y138 y139 y140 y141 y142 y143 y144 y145 y146 y147 y148 y149 y150 y151 y152 y153 y154 y155 y156 y157 y158 y159 y160 y161 y162 y163 y164 y165 y166 y167 y168 y169 y170 y171 y172 y173 y174 y175 y176 y177 y178 y179 y180 y181 y182 y183 y184 y185 y186 y187 y188 y189 y190 y191 y192 y193 y194 y195 y196 y197 y198 y199 y200 y201 y202 y203 y204 y205 y206 y207 y208 y209 y210 y211 y212 : Value) (w' : World), insA T args ans ⟨kTwo, d, a, b, k, nm⟩ s = some s' → RoS w0 mb rB sB nb' F s' vO' vC' ts' w' → K ⟨#[c0, .slice X args.length xc, .slice Y ans.length yc, .int .i64 T, x4, .pointer (some ⟨b0, 0, none⟩), x6, x7, x8, x9, .pointer (some ⟨rb, 0, none⟩), .slice (some ⟨rB, 0, none⟩) 8 8, .slice (some ⟨sB, 0, none⟩) sn sn, .slice (some ⟨nb', 0, none⟩) 4 4, .pointer (some ⟨mb, 0, none⟩), .int .i64 kat, .int .i64 kn16, .pointer (some ⟨q, 0, none⟩), .int .i64 k18, .pointer (some ⟨q2, 0, none⟩), y20, y21, x22, x23, x24, x25, x26, x27, x28, x29, x30, x31, x32, x33, x34, x35, x36, x37, x38, x39, x40, x41, x42, x43, x44, x45, x46, x47, x48, x49, x50, .string ⟨#[116, 119, 111]⟩, y52, y53, y54, y55, y56, y57, y58, y59, y60, y61, y62, y63, y64, y65, y66, y67, y68, y69, y70, y71, y72, y73, y74, y75, y76, y77, y78, y79, y80, y81, y82, y83, y84, y85, y86, y87, y88, y89, y90, y91, y92, y93, y94, y95, y96, y97, y98, y99, y100, y101, y102, y103, y104, y105, y106, y107, y108, y109, y110, y111, y112, y113, y114, y115, y116, y117, y118, y119, y120, y121, y122, y123, y124, y125, y126, y127, y128, y129, y130, y131, y132, y133, y134, y135, y136, y137, y138, y139, y140, y141, y142, y143, y144, y145, y146, y147, y148, y149, y150, y151, y152, y153, y154, y155, y156, y157, y158, y159, y160, y161, y162, y163, y164, y165, y166, y167, y168, y169, y170, y171, y172, y173, y174, y175, y176, y177, y178, y179, y180, y181, y182, y183, y184, y185, y186, y187, y188, y189, y190, y191, y192, y193, y194, y195, y196, y197, y198, y199, y200, y201, y202, y203, y204, y205, y206, y207, y208, y209, y210, y211, y212, x213, x214, x215, x216, x217, x218, x219, x220, x221, x222, x223, x224, x225, x226, x227, x228, x229, x230, x231, x232, x233, x234, x235, x236, x237, x238, x239, x240, x241, x242], []⟩ w')
    (hR : ∀ a w', bodyPost Tryd.prog Tryd.f11 Q .ret a w' → Q0 .ret a w')
    (hD : insA T args ans ⟨kTwo, d, a, b, k, nm⟩ s = none → ∀ (AO : Option Addr) (cO : Nat) (AC : Option Addr) (cC : Nat) (w3 : World), RoAt w0 mb (rowsR rB sB nb s) F s hOver 0 (.slice AO s.out.length cO) (.slice AC s.calls.length cC) ts w3 → Q (.returned (.agg #[.string (mkB hOver), .int .i64 0, .slice AO s.out.length cO, .int .i64 s.ticks, .slice AC s.calls.length cC])) (((((w3.setCell ⟨rb, 0, none⟩ (.string (mkB hOver))).setCell ⟨rb, 1, none⟩ (.int .i64 0)).setCell ⟨rb, 2, none⟩ (.slice AO s.out.length cO)).setCell ⟨rb, 3, none⟩ (.int .i64 s.ticks)).setCell ⟨rb, 4, none⟩ (.slice AC s.calls.length cC))) :
    Code.wp Tryd.prog swO (Exit.then K Q0) ⟨#[c0, .slice X args.length xc, .slice Y ans.length yc, .int .i64 T, x4, .pointer (some ⟨b0, 0, none⟩), x6, x7, x8, x9, .pointer (some ⟨rb, 0, none⟩), .slice (some ⟨rB, 0, none⟩) 8 8, .slice (some ⟨sB, 0, none⟩) sn sn, .slice (some ⟨nb, 0, none⟩) 4 4, .pointer (some ⟨mb, 0, none⟩), .int .i64 kat, .int .i64 kn16, .pointer (some ⟨q, 0, none⟩), .int .i64 k18, .pointer (some ⟨q2, 0, none⟩), x20, x21, x22, x23, x24, x25, x26, x27, x28, x29, x30, x31, x32, x33, x34, x35, x36, x37, x38, x39, x40, x41, x42, x43, x44, x45, x46, x47, x48, x49, x50, .string ⟨#[116, 119, 111]⟩, x52, x53, x54, x55, x56, x57, x58, x59, x60, x61, x62, x63, x64, x65, x66, x67, x68, x69, x70, x71, x72, x73, x74, x75, x76, x77, x78, x79, x80, x81, x82, x83, x84, x85, x86, x87, x88, x89, x90, x91, x92, x93, x94, x95, x96, x97, x98, x99, x100, x101, x102, x103, x104, x105, x106, x107, x108, x109, x110, x111, x112, x113, x114, x115, x116, x117, x118, x119, x120, x121, x122, x123, x124, x125, x126, x127, x128, x129, x130, x131, x132, x133, x134, x135, x136, x137, x138, x139, x140, x141, x142, x143, x144, x145, x146, x147, x148, x149, x150, x151, x152, x153, x154, x155, x156, x157, x158, x159, x160, x161, x162, x163, x164, x165, x166, x167, x168, x169, x170, x171, x172, x173, x174, x175, x176, x177, x178, x179, x180, x181, x182, x183, x184, x185, x186, x187, x188, x189, x190, x191, x192, x193, x194, x195, x196, x197, x198, x199, x200, x201, x202, x203, x204, x205, x206, x207, x208, x209, x210, x211, x212, x213, x214, x215, x216, x217, x218, x219, x220, x221, x222, x223, x224, x225, x226, x227, x228, x229, x230, x231, x232, x233, x234, x235, x236, x237, x238, x239, x240, x241, x242], []⟩ w := by
  conv => arg 2; whnf
  obtain ⟨e0, e1, e2, e3, e4, e5⟩ := row6A hins
  have mR : (rB, s.r) ∈ rowsR rB sB nb s := by simp [rowsR]
  have mS : (sB, s.slots) ∈ rowsR rB sB nb s := by simp [rowsR]
  have mN : (nb, s.next) ∈ rowsR rB sB nb s := by simp [rowsR]
  have hd0 : (0 : Int) ≤ d := by omega
  have hd1 : (d : Int) < 8 := by omega
  have ha0 : (0 : Int) ≤ a := by omega
  have ha1 : (a : Int) < 8 := by omega
  have hb0 : (0 : Int) ≤ b := by omega
  have hb1 : (b : Int) < 8 := by omega
  have r1 : w.cell? ⟨rB, a, none⟩ = some (.int .i64 (s.r.getD a 0)) := H.cellR mR (j := a) (by show _ < s.r.length; omega)
  obtain ⟨ga, hga⟩ : ∃ g, s.r.getD a 0 = g := ⟨_, rfl⟩
  rw [hga] at r1
  have r2 : w.cell? ⟨rB, b, none⟩ = some (.int .i64 (s.r.getD b 0)) := H.cellR mR (j := b) (by show _ < s.r.length; omega)
  obtain ⟨gb, hgb⟩ : ∃ g, s.r.getD b 0 = g := ⟨_, rfl⟩
  rw [hgb] at r2
  rw [hga] at hI
  rw [hga, hgb] at hres
  have r9 : w.cell? ⟨rB, d, none⟩ = some (.int .i64 (s.r.getD d 0)) := H.cellR mR (j := d) (by show _ < s.r.length; omega)
  obtain ⟨gd, hgd⟩ : ∃ g, s.r.getD d 0 = g := ⟨_, rfl⟩
  rw [hgd] at r9
  clear hgd
  have z1 : w.frozen? ⟨rB, d, none⟩ = false := H.frozenR mR d
  have HST := Lib.hid (fun n => (H.drewN n).setR (s' := { s with r := s.r.set d (res) }) (k := 0) (b := rB) (l := s.r) rfl d (res) rfl rfl rfl)
  have HGA := Lib.hid (And.intro hga (And.intro hgb hres))
  have HON : Hid (∀ w', Calls Tryd.prog 23 #[.string (mkB nm), .int .i64 ga, .int .i64 gb] w' fun e w'' => e = .returned (.int .i64 res) ∧ w'' = w') := fun w' => by
    have h1 := DoOf_any (mkB nm) ga gb hI w'
    rw [mkB_toList, doV_dofV _ _ _ _ hres] at h1
    exact h1
  clear hga hgb hres hI e0 e4
  have HH := Lib.hid H
  have HM := Lib.hid (And.intro mR (And.intro mS mN))
  clear H hins mR mS mN
  go_upto_region 22 with fail
  go_still_tail 17, (by kernel_rfl)
  still_call (HON.out _)
  repeat still_step
  refine wpStill_nil ?_
  change wpList _ _ _ _ _ w.drew
  go_wp2_with fail
  all_goals go_wp2_with fail
  all_goals
    refine hK nb ({ s with r := s.r.set d res }) (vO) (vC) (ts) _ _ _ _ _ _ _ _ _ _ _ _ _ _ _ _ _ _ _ _ _ _ _ _ _ _ _ _ _ _ _ _ _ _ _ _ _ _ _ _ _ _ _ _ _ _ _ _ _ _ _ _ _ _ _ _ _ _ _ _ _ _ _ _ _ _ _ _ _ _ _ _ _ _ _ _ _ _ _ _ _ _ _ _ _ _ _ _ _ _ _ _ _ _ _ _ _ _ _ _ _ _ _ _ _ _ _ _ _ _ _ _ _ _ _ _ _ _ _ _ _ _ _ _ _ _ _ _ _ _ _ _ _ _ _ _ _ _ _ _ _ _ _ _ _ _ _ _ _ _ _ _ _ _ _ _ _ _ _ _ _ _ _ _ ?_ ?_
    · show some { s with r := s.r.set d ((doV nm (s.r.getD a 0) (s.r.getD b 0)).getD 0) } = _; rw [HGA.out.1, HGA.out.2.1, HGA.out.2.2]; rfl
    · exact HST.out 1
end
end Go.Proofs.YtpmpeihcdiohmaaDoor
