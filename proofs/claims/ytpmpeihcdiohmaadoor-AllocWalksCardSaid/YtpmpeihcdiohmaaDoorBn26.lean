import Derived.Test.YtpmpeihcdiohmaaDoorBn21
import Derived.Test.YtpmpeihcdiohmaaDoorBn23
import Derived.Test.YtpmpeihcdiohmaaDoorBn24
import Derived.Test.YtpmpeihcdiohmaaDoorBn25
set_option linter.unusedVariables false
set_option linter.unusedSimpArgs false
namespace Go.Proofs.YtpmpeihcdiohmaaDoor
open Go.RowKit

/-! the reference's walk of registers: its switch (printed by gen_aor.py) -/
section
variable {c : PCd} {c0 : Value} {X : Option Addr} {args : List Int} {xc : Nat} {Y : Option Addr} {ans : List Int} {yc : Nat} {T : Int} {w0 : World} {mb rB sB nb sn b0 rb q q2 : Nat} {F : Nat → Array Value → Prop} {s s2 : ASt} {vO vC : Value} {ts : List CC} {w : World} {K : Act → World → Prop} {Q0 : Exit → Act → World → Prop} {Q : Ending → World → Prop}
set_option maxHeartbeats 8000000 in
set_option maxRecDepth 1000000 in
theorem so_call_no (H : RoS w0 mb rB sB nb F s vO vC ts w) (h8 : s.r.length = 8) (hsl : s.slots.length = sn) (h4 : s.next.length = 4) (hT6 : T ≤ 60) (htk6 : 0 ≤ s.ticks ∧ s.ticks ≤ T) (hl0 : w0.heap.size ≤ w.heap.size) (kat kn16 k18 : Int) (nm : List UInt8) (hrb : rb < w0.heap.size ∧ w0.heap[rb]? = some (.cells #[.string ⟨#[]⟩, .int .i64 0, .slice none 0 0, .int .i64 0, .slice none 0 0] 42 (0, 0))) (d a b k : Int) (hl : ans.length ≤ s.calls.length) (hins : w.heap[q2]? = some (.cells #[.string ⟨#[99, 97, 108, 108]⟩, .int .i64 d, .int .i64 a, .int .i64 b, .int .i64 k, .string (mkB nm)] 60 (0, 0)))
    (x4 x6 x7 x8 x9 x20 x21 x22 x23 x24 x25 x26 x27 x28 x29 x30 x31 x32 x33 x34 x35 x36 x37 x38 x39 x40 x41 x42 x43 x44 x45 x46 x47 x48 x49 x50 x52 x53 x54 x55 x56 x57 x58 x59 x60 x61 x62 x63 x64 x65 x66 x67 x68 x69 x70 x71 x72 x73 x74 x75 x76 x77 x78 x79 x80 x81 x82 x83 x84 x85 x86 x87 x88 x89 x90 x91 x92 x93 x94 x95 x96 x97 x98 x99 x100 x101 x102 x103 x104 x105 x106 x107 x108 x109 x110 x111 x112 x113 x114 x115 x116 x117 x118 x119 x120 x121 x122 x123 x124 x125 x126 x127 x128 x129 x130 x131 x132 x133 x134 x135 x136 x137 x138 x139 x140 x141 x142 x143 x144 x145 x146 x147 x148 x149 x150 x151 x152 x153 x154 x155 x156 x157 x158 x159 x160 x161 x162 x163 x164 x165 x166 x167 x168 x169 x170 x171 x172 x173 x174 x175 x176 x177 x178 x179 x180 x181 x182 x183 x184 x185 x186 x187 x188 x189 x190 x191 x192 x193 x194 x195 x196 x197 x198 x199 x200 x201 x202 x203 x204 x205 x206 x207 x208 x209 x210 x211 x212 x213 x214 x215 x216 x217 x218 x219 x220 x221 x222 x223 x224 x225 x226 x227 x228 x229 x230 x231 x232 x233 x234 x235 x236 x237 x238 x239 x240 x241 x242 : Value)
    (hK : ∀ (nb' : Nat) (s' : ASt) (vO' vC' : Value) (ts' : List CC) (y20 y21 y52 y53 y54 y55 y56 y57 y58 y59 y60 y61 y62 y63 y64 y65 y66 y67 y68 y69 y70 y71 y72 y73 y74 y75 y76 y77 y78 y79 y80 y81 y82 y83 y84 y85 y86 y87 y88 y89 y90 y91 y92 y93 y94 y95 y96 y97 y98 y99 y100 y101 y102 y103 y104 y105 y106 y107 y108 y109 y110 y111 y112 y113 y114 y115 y116 y117 y118 y119 y120 y121 y122 y123 y124 y125 y126 y127 y128 y129 y130 y131 y132 y133 y134 y135 y136 y137 y138 y139 y140 y141 y142 y143 y144 y145 y146 y147 y148 y149 y150 y151 y152 y153 y154 y155 y156 y157 y158 y159 y160 y161 y162 y163 y164 y165 y166 y167 y168 y169 y170 y171 y172 y173 y174 y175 y176 y177 y178 y179 y180 y181 y182 y183 y184 y185 y186 y187 y188 y189 y190 y191 y192 y193 y194 y195 y196 y197 y198 y199 y200 y201 y202 y203 y204 y205 y206 y207 y208 y209 y210 y211 y212 : Value) (w' : World), insA T args ans ⟨kCall, d, a, b, k, nm⟩ s = some s' → RoS w0 mb rB sB nb' F s' vO' vC' ts' w' → K ⟨#[c0, .slice X args.length xc, .slice Y ans.length yc, .int .i64 T, x4, .pointer (some ⟨b0, 0, none⟩), x6, x7, x8, x9, .pointer (some ⟨rb, 0, none⟩), .slice (some ⟨rB, 0, none⟩) 8 8, .slice (some ⟨sB, 0, none⟩) sn sn, .slice (some ⟨nb', 0, none⟩) 4 4, .pointer (some ⟨mb, 0, none⟩), .int .i64 kat, .int .i64 kn16, .pointer (some ⟨q, 0, none⟩), .int .i64 k18, .pointer (some ⟨q2, 0, none⟩), y20, y21, x22, x23, x24, x25, x26, x27, x28, x29, x30, x31, x32, x33, x34, x35, x36, x37, x38, x39, x40, x41, x42, x43, x44, x45, x46, x47, x48, x49, x50, .string ⟨#[99, 97, 108, 108]⟩, y52, y53, y54, y55, y56, y57, y58, y59, y60, y61, y62, y63, y64, y65, y66, y67, y68, y69, y70, y71, y72, y73, y74, y75, y76, y77, y78, y79, y80, y81, y82, y83, y84, y85, y86, y87, y88, y89, y90, y91, y92, y93, y94, y95, y96, y97, y98, y99, y100, y101, y102, y103, y104, y105, y106, y107, y108, y109, y110, y111, y112, y113, y114, y115, y116, y117, y118, y119, y120, y121, y122, y123, y124, y125, y126, y127, y128, y129, y130, y131, y132, y133, y134, y135, y136, y137, y138, y139, y140, y141, y142, y143, y144, y145, y146, y147, y148, y149, y150, y151, y152, y153, y154, y155, y156, y157, y158, y159, y160, y161, y162, y163, y164, y165, y166, y167, y168, y169, y170, y171, y172, y173, y174, y175, y176, y177, y178, y179, y180, y181, y182, y183, y184, y185, y186, y187, y188, y189, y190, y191, y192, y193, y194, y195, y196, y197, y198, y199, y200, y201, y202, y203, y204, y205, y206, y207, y208, y209, y210, y211, y212, x213, x214, x215, x216, x217, x218, x219, x220, x221, x222, x223, x224, x225, x226, x227, x228, x229, x230, x231, x232, x233, x234, x235, x236, x237, x238, x239, x240, x241, x242], []⟩ w')
    (hR : ∀ a w', bodyPost Tryd.prog Tryd.f11 Q .ret a w' → Q0 .ret a w')
    (hD : insA T args ans ⟨kCall, d, a, b, k, nm⟩ s = none → ∀ (AO : Option Addr) (cO : Nat) (AC : Option Addr) (cC : Nat) (w3 : World), RoAt w0 mb (rowsR rB sB nb s) F s hOver 0 (.slice AO s.out.length cO) (.slice AC s.calls.length cC) ts w3 → Q (.returned (.agg #[.string (mkB hOver), .int .i64 0, .slice AO s.out.length cO, .int .i64 s.ticks, .slice AC s.calls.length cC])) (((((w3.setCell ⟨rb, 0, none⟩ (.string (mkB hOver))).setCell ⟨rb, 1, none⟩ (.int .i64 0)).setCell ⟨rb, 2, none⟩ (.slice AO s.out.length cO)).setCell ⟨rb, 3, none⟩ (.int .i64 s.ticks)).setCell ⟨rb, 4, none⟩ (.slice AC s.calls.length cC))) :
    Code.wp Tryd.prog swO (Exit.then K Q0) ⟨#[c0, .slice X args.length xc, .slice Y ans.length yc, .int .i64 T, x4, .pointer (some ⟨b0, 0, none⟩), x6, x7, x8, x9, .pointer (some ⟨rb, 0, none⟩), .slice (some ⟨rB, 0, none⟩) 8 8, .slice (some ⟨sB, 0, none⟩) sn sn, .slice (some ⟨nb, 0, none⟩) 4 4, .pointer (some ⟨mb, 0, none⟩), .int .i64 kat, .int .i64 kn16, .pointer (some ⟨q, 0, none⟩), .int .i64 k18, .pointer (some ⟨q2, 0, none⟩), x20, x21, x22, x23, x24, x25, x26, x27, x28, x29, x30, x31, x32, x33, x34, x35, x36, x37, x38, x39, x40, x41, x42, x43, x44, x45, x46, x47, x48, x49, x50, .string ⟨#[99, 97, 108, 108]⟩, x52, x53, x54, x55, x56, x57, x58, x59, x60, x61, x62, x63, x64, x65, x66, x67, x68, x69, x70, x71, x72, x73, x74, x75, x76, x77, x78, x79, x80, x81, x82, x83, x84, x85, x86, x87, x88, x89, x90, x91, x92, x93, x94, x95, x96, x97, x98, x99, x100, x101, x102, x103, x104, x105, x106, x107, x108, x109, x110, x111, x112, x113, x114, x115, x116, x117, x118, x119, x120, x121, x122, x123, x124, x125, x126, x127, x128, x129, x130, x131, x132, x133, x134, x135, x136, x137, x138, x139, x140, x141, x142, x143, x144, x145, x146, x147, x148, x149, x150, x151, x152, x153, x154, x155, x156, x157, x158, x159, x160, x161, x162, x163, x164, x165, x166, x167, x168, x169, x170, x171, x172, x173, x174, x175, x176, x177, x178, x179, x180, x181, x182, x183, x184, x185, x186, x187, x188, x189, x190, x191, x192, x193, x194, x195, x196, x197, x198, x199, x200, x201, x202, x203, x204, x205, x206, x207, x208, x209, x210, x211, x212, x213, x214, x215, x216, x217, x218, x219, x220, x221, x222, x223, x224, x225, x226, x227, x228, x229, x230, x231, x232, x233, x234, x235, x236, x237, x238, x239, x240, x241, x242], []⟩ w := by
  conv => arg 2; whnf
  obtain ⟨e0, e1, e2, e3, e4, e5⟩ := row6A hins
  have mR : (rB, s.r) ∈ rowsR rB sB nb s := by simp [rowsR]
  have mS : (sB, s.slots) ∈ rowsR rB sB nb s := by simp [rowsR]
  have mN : (nb, s.next) ∈ rowsR rB sB nb s := by simp [rowsR]
  obtain ⟨AO, cO, rfl⟩ := own_slice H.out
  obtain ⟨AC, cC, rfl⟩ := own_slice H.calls
  obtain ⟨c0, c1, c2, c3, c4⟩ := H.cells
  have zz0 := H.frozen 0
  have hrbB := (H.bel.block rb hrb.1).trans hrb.2
  obtain ⟨w0a, w1a, w2a, w3a, w4a⟩ := row5A hrbB
  have y0 := row_frozen hrbB 0
  have y1 := row_frozen hrbB 1
  have y2 := row_frozen hrbB 2
  have y3 := row_frozen hrbB 3
  have y4 := row_frozen hrbB 4
  have hne1 : ¬ rb = mb := by have := H.lowM; omega
  have hne2 : ¬ mb = rb := by omega
  have HRB := Lib.hid hrbB
  clear hrbB
  have hl1 : (ans.length : Int) ≤ (s.calls.length : Int) := by omega
  have HH := Lib.hid H
  have HM := Lib.hid (And.intro mR (And.intro mS mN))
  clear H hins mR mS mN
  go_wp2_with fail
  have H3 := HH.out.set (s' := s) (h' := hOver) (v' := 0) (j := 0) (.string ⟨#[111, 118, 101, 114]⟩) (by unfold roL; simp <;> rfl) rfl rfl
  have hrF := (Below.heap_setCell w ⟨mb, 0, none⟩ (.string ⟨#[111, 118, 101, 114]⟩) rb hne1).trans HRB.out
  obtain ⟨wF, hwF⟩ : ∃ wF, w.setCell ⟨mb, 0, none⟩ (.string ⟨#[111, 118, 101, 114]⟩) = wF := ⟨_, rfl⟩
  rw [hwF] at H3 hrF ⊢
  obtain ⟨u0, u1, u2, u3, u4⟩ := row5A (set5A (v0 := .string ⟨#[111, 118, 101, 114]⟩) (v1 := .int .i64 0) (v2 := .slice AO s.out.length cO) (v3 := .int .i64 s.ticks) (v4 := .slice AC s.calls.length cC) hrF)
  refine bodyPost_ret (v := .agg #[.string ⟨#[111, 118, 101, 114]⟩, .int .i64 0, .slice AO s.out.length cO, .int .i64 s.ticks, .slice AC s.calls.length cC]) (by simp [results, Tryd.results11, go_sem, u0, u1, u2, u3, u4]; try rfl) rfl ?_
  exact hD (by show (if ans.length ≤ s.calls.length then none else some _) = _; rw [if_pos hl]) AO cO AC cC wF H3

set_option maxHeartbeats 8000000 in
set_option maxRecDepth 1000000 in
theorem so_call (H : RoS w0 mb rB sB nb F s vO vC ts w) (h8 : s.r.length = 8) (hsl : s.slots.length = sn) (h4 : s.next.length = 4) (hT6 : T ≤ 60) (htk6 : 0 ≤ s.ticks ∧ s.ticks ≤ T) (hl0 : w0.heap.size ≤ w.heap.size) (kat kn16 k18 : Int) (nm : List UInt8) (hY : Row w Y (intVs ans)) (han : ans.length ≤ 1000) (d : Nat) (hd : d < 8) (a b : Int) (k : Nat) (hk : k ≤ 4) (hl : s.calls.length < ans.length) (hins : w.heap[q2]? = some (.cells #[.string ⟨#[99, 97, 108, 108]⟩, .int .i64 d, .int .i64 a, .int .i64 b, .int .i64 k, .string (mkB nm)] 60 (0, 0)))
    (x4 x6 x7 x8 x9 x20 x21 x22 x23 x24 x25 x26 x27 x28 x29 x30 x31 x32 x33 x34 x35 x36 x37 x38 x39 x40 x41 x42 x43 x44 x45 x46 x47 x48 x49 x50 x52 x53 x54 x55 x56 x57 x58 x59 x60 x61 x62 x63 x64 x65 x66 x67 x68 x69 x70 x71 x72 x73 x74 x75 x76 x77 x78 x79 x80 x81 x82 x83 x84 x85 x86 x87 x88 x89 x90 x91 x92 x93 x94 x95 x96 x97 x98 x99 x100 x101 x102 x103 x104 x105 x106 x107 x108 x109 x110 x111 x112 x113 x114 x115 x116 x117 x118 x119 x120 x121 x122 x123 x124 x125 x126 x127 x128 x129 x130 x131 x132 x133 x134 x135 x136 x137 x138 x139 x140 x141 x142 x143 x144 x145 x146 x147 x148 x149 x150 x151 x152 x153 x154 x155 x156 x157 x158 x159 x160 x161 x162 x163 x164 x165 x166 x167 x168 x169 x170 x171 x172 x173 x174 x175 x176 x177 x178 x179 x180 x181 x182 x183 x184 x185 x186 x187 x188 x189 x190 x191 x192 x193 x194 x195 x196 x197 x198 x199 x200 x201 x202 x203 x204 x205 x206 x207 x208 x209 x210 x211 x212 x213 x214 x215 x216 x217 x218 x219 x220 x221 x222 x223 x224 x225 x226 x227 x228 x229 x230 x231 x232 x233 x234 x235 x236 x237 x238 x239 x240 x241 x242 : Value)
    (hK : ∀ (nb' : Nat) (s' : ASt) (vO' vC' : Value) (ts' : List CC) (y20 y21 y52 y53 y54 y55 y56 y57 y58 y59 y60 y61 y62 y63 y64 y65 y66 y67 y68 y69 y70 y71 y72 y73 y74 y75 y76 y77 y78 y79 y80 y81 y82 y83 y84 y85 y86 y87 y88 y89 y90 y91 y92 y93 y94 y95 y96 y97 y98 y99 y100 y101 y102 y103 y104 y105 y106 y107 y108 y109 y110 y111 y112 y113 y114 y115 y116 y117 y118 y119 y120 y121 y122 y123 y124 y125 y126 y127 y128 y129 y130 y131 y132 y133 y134 y135 y136 y137 y138 y139 y140 y141 y142 y143 y144 y145 y146 y147 y148 y149 y150 y151 y152 y153 y154 y155 y156 y157 y158 y159 y160 y161 y162 y163 y164 y165 y166 y167 y168 y169 y170 y171 y172 y173 y174 y175 y176 y177 y178 y179 y180 y181 y182 y183 y184 y185 y186 y187 y188 y189 y190 y191 y192 y193 y194 y195 y196 y197 y198 y199 y200 y201 y202 y203 y204 y205 y206 y207 y208 y209 y210 y211 y212 : Value) (w' : World), insA T args ans ⟨kCall, d, a, b, k, nm⟩ s = some s' → RoS w0 mb rB sB nb' F s' vO' vC' ts' w' → K ⟨#[c0, .slice X args.length xc, .slice Y ans.length yc, .int .i64 T, x4, .pointer (some ⟨b0, 0, none⟩), x6, x7, x8, x9, .pointer (some ⟨rb, 0, none⟩), .slice (some ⟨rB, 0, none⟩) 8 8, .slice (some ⟨sB, 0, none⟩) sn sn, .slice (some ⟨nb', 0, none⟩) 4 4, .pointer (some ⟨mb, 0, none⟩), .int .i64 kat, .int .i64 kn16, .pointer (some ⟨q, 0, none⟩), .int .i64 k18, .pointer (some ⟨q2, 0, none⟩), y20, y21, x22, x23, x24, x25, x26, x27, x28, x29, x30, x31, x32, x33, x34, x35, x36, x37, x38, x39, x40, x41, x42, x43, x44, x45, x46, x47, x48, x49, x50, .string ⟨#[99, 97, 108, 108]⟩, y52, y53, y54, y55, y56, y57, y58, y59, y60, y61, y62, y63, y64, y65, y66, y67, y68, y69, y70, y71, y72, y73, y74, y75, y76, y77, y78, y79, y80, y81, y82, y83, y84, y85, y86, y87, y88, y89, y90, y91, y92, y93, y94, y95, y96, y97, y98, y99, y100, y101, y102, y103, y104, y105, y106, y107, y108, y109, y110, y111, y112, y113, y114, y115, y116, y117, y118, y119, y120, y121, y122, y123, y124, y125, y126, y127, y128, y129, y130, y131, y132, y133, y134, y135, y136, y137, y138, y139, y140, y141, y142, y143, y144, y145, y146, y147, y148, y149, y150, y151, y152, y153, y154, y155, y156, y157, y158, y159, y160, y161, y162, y163, y164, y165, y166, y167, y168, y169, y170, y171, y172, y173, y174, y175, y176, y177, y178, y179, y180, y181, y182, y183, y184, y185, y186, y187, y188, y189, y190, y191, y192, y193, y194, y195, y196, y197, y198, y199, y200, y201, y202, y203, y204, y205, y206, y207, y208, y209, y210, y211, y212, x213, x214, x215, x216, x217, x218, x219, x220, x221, x222, x223, x224, x225, x226, x227, x228, x229, x230, x231, x232, x233, x234, x235, x236, x237, x238, x239, x240, x241, x242], []⟩ w')
    (hR : ∀ a w', bodyPost Tryd.prog Tryd.f11 Q .ret a w' → Q0 .ret a w')
    (hD : insA T args ans ⟨kCall, d, a, b, k, nm⟩ s = none → ∀ (AO : Option Addr) (cO : Nat) (AC : Option Addr) (cC : Nat) (w3 : World), RoAt w0 mb (rowsR rB sB nb s) F s hOver 0 (.slice AO s.out.length cO) (.slice AC s.calls.length cC) ts w3 → Q (.returned (.agg #[.string (mkB hOver), .int .i64 0, .slice AO s.out.length cO, .int .i64 s.ticks, .slice AC s.calls.length cC])) (((((w3.setCell ⟨rb, 0, none⟩ (.string (mkB hOver))).setCell ⟨rb, 1, none⟩ (.int .i64 0)).setCell ⟨rb, 2, none⟩ (.slice AO s.out.length cO)).setCell ⟨rb, 3, none⟩ (.int .i64 s.ticks)).setCell ⟨rb, 4, none⟩ (.slice AC s.calls.length cC))) :
    Code.wp Tryd.prog swO (Exit.then K Q0) ⟨#[c0, .slice X args.length xc, .slice Y ans.length yc, .int .i64 T, x4, .pointer (some ⟨b0, 0, none⟩), x6, x7, x8, x9, .pointer (some ⟨rb, 0, none⟩), .slice (some ⟨rB, 0, none⟩) 8 8, .slice (some ⟨sB, 0, none⟩) sn sn, .slice (some ⟨nb, 0, none⟩) 4 4, .pointer (some ⟨mb, 0, none⟩), .int .i64 kat, .int .i64 kn16, .pointer (some ⟨q, 0, none⟩), .int .i64 k18, .pointer (some ⟨q2, 0, none⟩), x20, x21, x22, x23, x24, x25, x26, x27, x28, x29, x30, x31, x32, x33, x34, x35, x36, x37, x38, x39, x40, x41, x42, x43, x44, x45, x46, x47, x48, x49, x50, .string ⟨#[99, 97, 108, 108]⟩, x52, x53, x54, x55, x56, x57, x58, x59, x60, x61, x62, x63, x64, x65, x66, x67, x68, x69, x70, x71, x72, x73, x74, x75, x76, x77, x78, x79, x80, x81, x82, x83, x84, x85, x86, x87, x88, x89, x90, x91, x92, x93, x94, x95, x96, x97, x98, x99, x100, x101, x102, x103, x104, x105, x106, x107, x108, x109, x110, x111, x112, x113, x114, x115, x116, x117, x118, x119, x120, x121, x122, x123, x124, x125, x126, x127, x128, x129, x130, x131, x132, x133, x134, x135, x136, x137, x138, x139, x140, x141, x142, x143, x144, x145, x146, x147, x148, x149, x150, x151, x152, x153, x154, x155, x156, x157, x158, x159, x160, x161, x162, x163, x164, x165, x166, x167, x168, x169, x170, x171, x172, x173, x174, x175, x176, x177, x178, x179, x180, x181, x182, x183, x184, x185, x186, x187, x188, x189, x190, x191, x192, x193, x194, x195, x196, x197, x198, x199, x200, x201, x202, x203, x204, x205, x206, x207, x208, x209, x210, x211, x212, x213, x214, x215, x216, x217, x218, x219, x220, x221, x222, x223, x224, x225, x226, x227, x228, x229, x230, x231, x232, x233, x234, x235, x236, x237, x238, x239, x240, x241, x242], []⟩ w := by
  conv => arg 2; whnf
  obtain ⟨e0, e1, e2, e3, e4, e5⟩ := row6A hins
  have mR : (rB, s.r) ∈ rowsR rB sB nb s := by simp [rowsR]
  have mS : (sB, s.slots) ∈ rowsR rB sB nb s := by simp [rowsR]
  have mN : (nb, s.next) ∈ rowsR rB sB nb s := by simp [rowsR]
  have hd0 : (0 : Int) ≤ d := by omega
  have hd1 : (d : Int) < 8 := by omega
  have hk0 : (0 : Int) ≤ k := by omega
  have hk1 : (k : Int) ≤ 4 := by omega
  obtain ⟨AO, cO, rfl⟩ := own_slice H.out
  obtain ⟨AC, cC, rfl⟩ := own_slice H.calls
  obtain ⟨c0, c1, c2, c3, c4⟩ := H.cells
  have hl1 : ¬ ((ans.length : Int) ≤ (s.calls.length : Int)) := by omega
  have hl2 : (s.calls.length : Int) < (ans.length : Int) := by omega
  have hl0 : (0 : Int) ≤ (s.calls.length : Int) := by omega
  obtain ⟨vv, hvv⟩ : ∃ z, ans[s.calls.length] = z := ⟨_, rfl⟩
  have HLEN : Hid ((s.next.take k).length = k) := show _ = _ by rw [List.length_take, h4]; omega
  have HVV : Hid (ans.getD s.calls.length 0 = vv) := show _ = _ by rw [List.getD_eq_getElem?_getD, List.getElem?_eq_getElem hl, hvv]; rfl
  have hrN := row_take (n := k) (H.rs _ mN)
  have HRN := Lib.hid hrN
  have HINS := Lib.hid hins
  obtain ⟨b5, off5, rfl, hy5⟩ := hY s.calls.length _ (intVs_get hl)
  rw [hvv] at hy5
  have HY5 := Lib.hid hy5
  have hmk4 : ∀ w : World, (Instr.makeSlice 25 (.int .i64 4) (.int .i64 4)).run Tryd.prog w = .ok (.slice (some ⟨w.heap.size, 0, none⟩) 4 4) (w.alloc (zrO 4)) := fun w => make_zr 4 (by omega) w
  have HLN := Lib.hid hl
  have H84 := Lib.hid (And.intro h8 h4)
  clear hrN hvv hy5 hY h8 h4 hl
  have HH := Lib.hid H
  have HM := Lib.hid (And.intro mR (And.intro mS mN))
  clear H hins mR mS mN
  go_upto_region 49 with (at_builtin; refine wpList_append_intsO rfl (.tmp 189) (.tmp 193) rfl (s.next.take k) rfl (some ⟨nb, 0, none⟩) 4 (by rw [HLEN.out]; rfl) HRN.out (by rw [HLEN.out]; omega) ?_; intro A1 cA w1 ho1 hr1 hb1; rw [HLEN.out] at ho1 ⊢; have HO1 := Lib.hid ho1; have HR1 := Lib.hid hr1; have HB1 := Lib.hid hb1; clear ho1 hr1 hb1)
  obtain ⟨q4, hq4⟩ : ∃ q4, w1.heap.size = q4 := ⟨_, rfl⟩
  obtain ⟨w2, hw2⟩ : ∃ w2, w1.alloc (zrO 4) = w2 := ⟨_, rfl⟩
  rw [hw2, hq4]
  have hb2 : Below w.heap.size w w2 := by rw [← hw2]; exact grow_trans HB1.out (grow_alloc (grow_refl _) _)
  have H2 : RoS w0 mb rB sB q4 F { s with next := next0 } (.slice AO s.out.length cO) (.slice AC s.calls.length cC) ts w2 := by rw [← hw2, ← hq4]; exact (HH.out.below HB1.out).newR (s' := { s with next := next0 }) (k := 2) (by simp [rowsR]) 4 rfl rfl rfl
  have hq2 := (hb2.block q2 (Array.getElem?_eq_some_iff.1 HINS.out).1).trans HINS.out
  have mR : (rB, s.r) ∈ rowsR rB sB q4 { s with next := next0 } := by simp [rowsR]
  have r9 : w2.cell? ⟨rB, d, none⟩ = some (.int .i64 (s.r.getD d 0)) := H2.cellR mR (j := d) (by have := H84.out.1; show _ < s.r.length; omega)
  have z1 : w2.frozen? ⟨rB, d, none⟩ = false := H2.frozenR mR d
  obtain ⟨f0, f1, f2, f3, f4, f5⟩ := row6A hq2
  have hy6 := Keeps.of_below hb2 _ _ HY5.out
  have h3 := (H2.drewN 1).setR (s' := { s with next := next0, r := s.r.set d vv }) (k := 0) (b := rB) (l := s.r) rfl d vv rfl rfl rfl
  have HB2 := Lib.hid hb2
  have HW21 : Hid (∀ j, j < w1.heap.size → w2.heap[j]? = w1.heap[j]?) := fun j hj => by rw [← hw2]; exact old_block _ _ hj
  have HM2 := Lib.hid (And.intro mR (And.intro hq4 (H2.neR mR)))
  have HQ2 := Lib.hid hq2
  have h32 : RoS w0 mb rB sB q4 F { s with next := next0, r := s.r.set d vv } (.slice AO s.out.length cO) (.slice AC s.calls.length cC) ts ((w2.drewN 1).setCell ⟨rB, d, none⟩ (.int .i64 vv)) := h3
  have HH3 := Lib.hid h32
  have HNR : Hid (q2 ≠ rB) := fun e => by rw [e, H2.rs _ mR] at hq2; injection hq2 with hq2; injection hq2 with _ hq2 _; exact absurd hq2 (by decide)
  clear h3 h32 hb2 hq2 mR H2 hw2 hq4 c0 c1 c2 c3 c4 e0 e1 e2 e3 e4 e5 hmk4
  go_still_tail 8, (by kernel_rfl)
  change wpList _ _ _ _ _ w2.drew
  go_upto_region 50 with fail
  obtain ⟨w3, hw3⟩ : ∃ w3, (w2.drewN 1).setCell ⟨rB, d, none⟩ (.int .i64 vv) = w3 := ⟨_, rfl⟩
  have h3 := HH3.out
  rw [hw3] at h3
  change Code.wp _ _ _ _ ((w2.drewN 1).setCell ⟨rB, d, none⟩ (.int .i64 vv))
  rw [hw3]
  have hq3 : w3.heap[q2]? = some (.cells #[.string ⟨#[99, 97, 108, 108]⟩, .int .i64 d, .int .i64 a, .int .i64 b, .int .i64 k, .string (mkB nm)] 60 (0, 0)) := by rw [← hw3]; exact (Below.heap_setCell _ _ _ _ HNR.out).trans HQ2.out
  obtain ⟨c0, c1, c2, c3, c4⟩ := h3.cells
  obtain ⟨f0, f1, f2, f3, f4, f5⟩ := row6A hq3
  have z4 := h3.frozen 4
  have hr3 : Row w3 A1 (intVs (s.next.take k)) := row_by HR1.out (fun hl9 a9 ha9 => by
    have h9 := own_lt HO1.out (k := a9.block) (by rw [ha9]; rfl)
    have h10 := HH.out.ltR (p := (rB, s.r)) HM.out.1
    have hw9 := hw3
    rw [← hw9]
    refine (Below.heap_setCell _ _ _ _ (by simp only at h10 ⊢; omega)).trans ?_
    show w2.heap[_]? = _
    exact HW21.out _ h9.2)
  have HFAR : Hid (FarR ⟨(nm, s.next.take k), A1, cA⟩ w0.heap.size mb ((rowsR rB sB q4 { s with next := next0, r := s.r.set d vv }).map (·.1)) (.slice AO s.out.length cO) (.slice AC s.calls.length cC)) := show FarR _ _ _ _ _ _ from fun hl9 a9 ha9 => by
    have h9 := own_lt HO1.out (k := a9.block) (by rw [show A1 = some a9 from ha9]; rfl)
    have h10 := HH.out.ltR (p := (rB, s.r)) HM.out.1
    have h11 := HH.out.ltR (p := (sB, s.slots)) HM.out.2.1
    have h12 := HH.out.ltM
    have h13 := HM2.out.2.1
    have h14 := HH.out.bel.size
    simp only at h10 h11
    refine ⟨by omega, fun hm => ?_, fun e => ?_, fun e => ?_, by omega⟩
    · simp only [rowsR, List.map_cons, List.map_nil, List.mem_cons, List.not_mem_nil, or_false] at hm
      omega
    · have := (own_lt HH.out.out e).2; omega
    · have := (own_lt HH.out.calls e).2; omega
  obtain ⟨i0, hi, hz0, hz1, hz2⟩ := info_parts toldInfo
  have HR3 := Lib.hid hr3
  have HX3 := Lib.hid h3
  have hsz3 := h3.bel.size
  have hcl3 := HLN.out
  have hcl4 : s.calls.length + 1 ≤ 1000 := by omega
  clear hr3 h3 hcl3 hq3 hw3
  go_wp2_with (at_builtin; go_loud (refine wpList_append_lies _ rfl (.tmp 205) (.tmp 210) 40 rfl w0.heap.size 74 i0 _ 2 40 Tryd.underlying40 hi hz0 hz1 hz2 rfl (by decide) _ s.calls.length (ts.flatMap CC.cells) rfl (World.ownsRow.alloc HX3.out.calls _) ⟨w3.heap.size, 0, none⟩ 1 1 [.string (mkB nm), .slice A1 k cA] rfl rfl (World.news_of_block (heap_alloc_new w3 _)) (fun u hu => by simp at hu; rcases hu with rfl | rfl <;> rfl) (by decide) (by unfold maxLen; omega) (by omega) (by simp; omega) _ rfl ?_; intro g cap w9 hown hgrow hat hlt9; obtain ⟨j1, j2⟩ := HX3.out.putC (o := .cells #[.string (mkB nm), .slice A1 k cA] 74) (t := ⟨(nm, s.next.take k), A1, cA⟩) (by rw [CC.cells, HLEN.out]; exact hown) hgrow (hat.imp id fun e => e.trans (by simp)) HR3.out HFAR.out; have o1 : w9.cell? ⟨mb, 4, none⟩ = some (.slice AC s.calls.length cC) := (World.cell?_of_block j1).trans HX3.out.cells.2.2.2.2; have z5 := row_frozen (j1.trans HX3.out.blk) 4; have H9 := Lib.hid j2; clear j1 j2 hown hgrow hat))
  refine hK q4 ({ s with r := s.r.set d vv, next := next0, calls := s.calls ++ [(nm, s.next.take k)] }) (.slice AO s.out.length cO) (.slice (some ⟨g, 0, none⟩) (s.calls.length + 1) cap) (ts ++ [⟨(nm, s.next.take k), A1, cA⟩]) _ _ _ _ _ _ _ _ _ _ _ _ _ _ _ _ _ _ _ _ _ _ _ _ _ _ _ _ _ _ _ _ _ _ _ _ _ _ _ _ _ _ _ _ _ _ _ _ _ _ _ _ _ _ _ _ _ _ _ _ _ _ _ _ _ _ _ _ _ _ _ _ _ _ _ _ _ _ _ _ _ _ _ _ _ _ _ _ _ _ _ _ _ _ _ _ _ _ _ _ _ _ _ _ _ _ _ _ _ _ _ _ _ _ _ _ _ _ _ _ _ _ _ _ _ _ _ _ _ _ _ _ _ _ _ _ _ _ _ _ _ _ _ _ _ _ _ _ _ _ _ _ _ _ _ _ _ _ _ _ _ _ _ _ ?_ ?_
  · show (if ans.length ≤ s.calls.length then none else some _) = _; rw [if_neg (by have := HLN.out; omega), HVV.out]; rfl
  · exact H9.out
end
end Go.Proofs.YtpmpeihcdiohmaaDoor

namespace Go.Proofs.YtpmpeihcdiohmaaDoor
open Go.RowKit

/-! the reference's walk of registers: any instruction (printed by gen_aor.py) -/
section
variable {c : PCd} {c0 : Value} {X : Option Addr} {args : List Int} {xc : Nat} {Y : Option Addr} {ans : List Int} {yc : Nat} {T : Int} {w0 : World} {mb rB sB nb sn b0 rb q q2 : Nat} {F : Nat → Array Value → Prop} {s s2 : ASt} {vO vC : Value} {ts : List CC} {w : World} {K : Act → World → Prop} {Q0 : Exit → Act → World → Prop} {Q : Ending → World → Prop}

set_option maxHeartbeats 8000000 in
set_option maxRecDepth 1000000 in
theorem so_any (H : RoS w0 mb rB sB nb F s vO vC ts w) (hok : AOk c T ans s) (hT6 : T ≤ 60) (hpa : (args.length : Int) = c.params) (han : ans.length ≤ 1000) (hX : Row w X (intVs args)) (hY : Row w Y (intVs ans)) (hsn : c.slots = (sn : Int)) (hrb : rb < w0.heap.size ∧ w0.heap[rb]? = some (.cells #[.string ⟨#[]⟩, .int .i64 0, .slice none 0 0, .int .i64 0, .slice none 0 0] 42 (0, 0))) (x : PLow) (hf : LowF c x) (kat kn16 k18 : Int) (hins : w.heap[q2]? = some (.cells #[.string (mkB x.kind), .int .i64 x.d, .int .i64 x.a, .int .i64 x.b, .int .i64 x.num, .string (mkB x.name)] 60 (0, 0)))
    (x4 x6 x7 x8 x9 x20 x21 x22 x23 x24 x25 x26 x27 x28 x29 x30 x31 x32 x33 x34 x35 x36 x37 x38 x39 x40 x41 x42 x43 x44 x45 x46 x47 x48 x49 x50 x52 x53 x54 x55 x56 x57 x58 x59 x60 x61 x62 x63 x64 x65 x66 x67 x68 x69 x70 x71 x72 x73 x74 x75 x76 x77 x78 x79 x80 x81 x82 x83 x84 x85 x86 x87 x88 x89 x90 x91 x92 x93 x94 x95 x96 x97 x98 x99 x100 x101 x102 x103 x104 x105 x106 x107 x108 x109 x110 x111 x112 x113 x114 x115 x116 x117 x118 x119 x120 x121 x122 x123 x124 x125 x126 x127 x128 x129 x130 x131 x132 x133 x134 x135 x136 x137 x138 x139 x140 x141 x142 x143 x144 x145 x146 x147 x148 x149 x150 x151 x152 x153 x154 x155 x156 x157 x158 x159 x160 x161 x162 x163 x164 x165 x166 x167 x168 x169 x170 x171 x172 x173 x174 x175 x176 x177 x178 x179 x180 x181 x182 x183 x184 x185 x186 x187 x188 x189 x190 x191 x192 x193 x194 x195 x196 x197 x198 x199 x200 x201 x202 x203 x204 x205 x206 x207 x208 x209 x210 x211 x212 x213 x214 x215 x216 x217 x218 x219 x220 x221 x222 x223 x224 x225 x226 x227 x228 x229 x230 x231 x232 x233 x234 x235 x236 x237 x238 x239 x240 x241 x242 : Value)
    (hK : ∀ (nb' : Nat) (s' : ASt) (vO' vC' : Value) (ts' : List CC) (y20 y21 y52 y53 y54 y55 y56 y57 y58 y59 y60 y61 y62 y63 y64 y65 y66 y67 y68 y69 y70 y71 y72 y73 y74 y75 y76 y77 y78 y79 y80 y81 y82 y83 y84 y85 y86 y87 y88 y89 y90 y91 y92 y93 y94 y95 y96 y97 y98 y99 y100 y101 y102 y103 y104 y105 y106 y107 y108 y109 y110 y111 y112 y113 y114 y115 y116 y117 y118 y119 y120 y121 y122 y123 y124 y125 y126 y127 y128 y129 y130 y131 y132 y133 y134 y135 y136 y137 y138 y139 y140 y141 y142 y143 y144 y145 y146 y147 y148 y149 y150 y151 y152 y153 y154 y155 y156 y157 y158 y159 y160 y161 y162 y163 y164 y165 y166 y167 y168 y169 y170 y171 y172 y173 y174 y175 y176 y177 y178 y179 y180 y181 y182 y183 y184 y185 y186 y187 y188 y189 y190 y191 y192 y193 y194 y195 y196 y197 y198 y199 y200 y201 y202 y203 y204 y205 y206 y207 y208 y209 y210 y211 y212 : Value) (w' : World), insA T args ans x s = some s' → RoS w0 mb rB sB nb' F s' vO' vC' ts' w' → K ⟨#[c0, .slice X args.length xc, .slice Y ans.length yc, .int .i64 T, x4, .pointer (some ⟨b0, 0, none⟩), x6, x7, x8, x9, .pointer (some ⟨rb, 0, none⟩), .slice (some ⟨rB, 0, none⟩) 8 8, .slice (some ⟨sB, 0, none⟩) sn sn, .slice (some ⟨nb', 0, none⟩) 4 4, .pointer (some ⟨mb, 0, none⟩), .int .i64 kat, .int .i64 kn16, .pointer (some ⟨q, 0, none⟩), .int .i64 k18, .pointer (some ⟨q2, 0, none⟩), y20, y21, x22, x23, x24, x25, x26, x27, x28, x29, x30, x31, x32, x33, x34, x35, x36, x37, x38, x39, x40, x41, x42, x43, x44, x45, x46, x47, x48, x49, x50, .string (mkB x.kind), y52, y53, y54, y55, y56, y57, y58, y59, y60, y61, y62, y63, y64, y65, y66, y67, y68, y69, y70, y71, y72, y73, y74, y75, y76, y77, y78, y79, y80, y81, y82, y83, y84, y85, y86, y87, y88, y89, y90, y91, y92, y93, y94, y95, y96, y97, y98, y99, y100, y101, y102, y103, y104, y105, y106, y107, y108, y109, y110, y111, y112, y113, y114, y115, y116, y117, y118, y119, y120, y121, y122, y123, y124, y125, y126, y127, y128, y129, y130, y131, y132, y133, y134, y135, y136, y137, y138, y139, y140, y141, y142, y143, y144, y145, y146, y147, y148, y149, y150, y151, y152, y153, y154, y155, y156, y157, y158, y159, y160, y161, y162, y163, y164, y165, y166, y167, y168, y169, y170, y171, y172, y173, y174, y175, y176, y177, y178, y179, y180, y181, y182, y183, y184, y185, y186, y187, y188, y189, y190, y191, y192, y193, y194, y195, y196, y197, y198, y199, y200, y201, y202, y203, y204, y205, y206, y207, y208, y209, y210, y211, y212, x213, x214, x215, x216, x217, x218, x219, x220, x221, x222, x223, x224, x225, x226, x227, x228, x229, x230, x231, x232, x233, x234, x235, x236, x237, x238, x239, x240, x241, x242], []⟩ w')
    (hR : ∀ a w', bodyPost Tryd.prog Tryd.f11 Q .ret a w' → Q0 .ret a w')
    (hD : insA T args ans x s = none → ∀ (AO : Option Addr) (cO : Nat) (AC : Option Addr) (cC : Nat) (w3 : World), RoAt w0 mb (rowsR rB sB nb s) F s hOver 0 (.slice AO s.out.length cO) (.slice AC s.calls.length cC) ts w3 → Q (.returned (.agg #[.string (mkB hOver), .int .i64 0, .slice AO s.out.length cO, .int .i64 s.ticks, .slice AC s.calls.length cC])) (((((w3.setCell ⟨rb, 0, none⟩ (.string (mkB hOver))).setCell ⟨rb, 1, none⟩ (.int .i64 0)).setCell ⟨rb, 2, none⟩ (.slice AO s.out.length cO)).setCell ⟨rb, 3, none⟩ (.int .i64 s.ticks)).setCell ⟨rb, 4, none⟩ (.slice AC s.calls.length cC))) :
    Code.wp Tryd.prog swO (Exit.then K Q0) ⟨#[c0, .slice X args.length xc, .slice Y ans.length yc, .int .i64 T, x4, .pointer (some ⟨b0, 0, none⟩), x6, x7, x8, x9, .pointer (some ⟨rb, 0, none⟩), .slice (some ⟨rB, 0, none⟩) 8 8, .slice (some ⟨sB, 0, none⟩) sn sn, .slice (some ⟨nb, 0, none⟩) 4 4, .pointer (some ⟨mb, 0, none⟩), .int .i64 kat, .int .i64 kn16, .pointer (some ⟨q, 0, none⟩), .int .i64 k18, .pointer (some ⟨q2, 0, none⟩), x20, x21, x22, x23, x24, x25, x26, x27, x28, x29, x30, x31, x32, x33, x34, x35, x36, x37, x38, x39, x40, x41, x42, x43, x44, x45, x46, x47, x48, x49, x50, .string (mkB x.kind), x52, x53, x54, x55, x56, x57, x58, x59, x60, x61, x62, x63, x64, x65, x66, x67, x68, x69, x70, x71, x72, x73, x74, x75, x76, x77, x78, x79, x80, x81, x82, x83, x84, x85, x86, x87, x88, x89, x90, x91, x92, x93, x94, x95, x96, x97, x98, x99, x100, x101, x102, x103, x104, x105, x106, x107, x108, x109, x110, x111, x112, x113, x114, x115, x116, x117, x118, x119, x120, x121, x122, x123, x124, x125, x126, x127, x128, x129, x130, x131, x132, x133, x134, x135, x136, x137, x138, x139, x140, x141, x142, x143, x144, x145, x146, x147, x148, x149, x150, x151, x152, x153, x154, x155, x156, x157, x158, x159, x160, x161, x162, x163, x164, x165, x166, x167, x168, x169, x170, x171, x172, x173, x174, x175, x176, x177, x178, x179, x180, x181, x182, x183, x184, x185, x186, x187, x188, x189, x190, x191, x192, x193, x194, x195, x196, x197, x198, x199, x200, x201, x202, x203, x204, x205, x206, x207, x208, x209, x210, x211, x212, x213, x214, x215, x216, x217, x218, x219, x220, x221, x222, x223, x224, x225, x226, x227, x228, x229, x230, x231, x232, x233, x234, x235, x236, x237, x238, x239, x240, x241, x242], []⟩ w := by
  have h8 := hok.r8
  have h4 := hok.n4
  have hsl : s.slots.length = sn := by rw [hok.sl, hsn]; rfl
  have htk := hok.ticks
  have hl0 := H.bel.size
  obtain ⟨kd, d, a, b, n, nm⟩ := x
  rcases kind_cases hf.kind with ⟨e, hk⟩ | ⟨e, hk⟩ | ⟨e, hk⟩ | ⟨e, hk⟩ | ⟨e, hk⟩ | ⟨e, hk⟩ | ⟨e, hk⟩ | ⟨e, hk⟩ | ⟨e, hk⟩ | ⟨e, hk⟩ | ⟨e, hk⟩
  · have e : kd = kParam := e
    subst e
    have hd8 := hf.d (by rw [show kindN _ = _ from hk]; decide)
    simp only at hd8
    obtain ⟨d, rfl⟩ : ∃ z : Nat, d = z := ⟨d.toNat, by have := hd8; omega⟩
    have hn := hf.param hk
    simp only at hn
    obtain ⟨n, rfl⟩ : ∃ z : Nat, n = z := ⟨n.toNat, by have := hn; omega⟩
    exact so_param H h8 hsl h4 hT6 htk hl0 kat kn16 k18 nm hX d (by omega) a b n (by omega) hins _ _ _ _ _ _ _ _ _ _ _ _ _ _ _ _ _ _ _ _ _ _ _ _ _ _ _ _ _ _ _ _ _ _ _ _ _ _ _ _ _ _ _ _ _ _ _ _ _ _ _ _ _ _ _ _ _ _ _ _ _ _ _ _ _ _ _ _ _ _ _ _ _ _ _ _ _ _ _ _ _ _ _ _ _ _ _ _ _ _ _ _ _ _ _ _ _ _ _ _ _ _ _ _ _ _ _ _ _ _ _ _ _ _ _ _ _ _ _ _ _ _ _ _ _ _ _ _ _ _ _ _ _ _ _ _ _ _ _ _ _ _ _ _ _ _ _ _ _ _ _ _ _ _ _ _ _ _ _ _ _ _ _ _ _ _ _ _ _ _ _ _ _ _ _ _ _ _ _ _ _ _ _ _ _ _ _ _ _ _ _ _ _ _ _ _ _ _ _ _ _ _ _ _ _ _ _ _ _ _ _ _ _ _ _ _ _ _ _ _ _ _ _ _ _ _ _ hK hR hD
  · have e : kd = kConst := e
    subst e
    have hd8 := hf.d (by rw [show kindN _ = _ from hk]; decide)
    simp only at hd8
    obtain ⟨d, rfl⟩ : ∃ z : Nat, d = z := ⟨d.toNat, by have := hd8; omega⟩
    exact so_const H h8 hsl h4 hT6 htk hl0 kat kn16 k18 nm d (by omega) a b n hins _ _ _ _ _ _ _ _ _ _ _ _ _ _ _ _ _ _ _ _ _ _ _ _ _ _ _ _ _ _ _ _ _ _ _ _ _ _ _ _ _ _ _ _ _ _ _ _ _ _ _ _ _ _ _ _ _ _ _ _ _ _ _ _ _ _ _ _ _ _ _ _ _ _ _ _ _ _ _ _ _ _ _ _ _ _ _ _ _ _ _ _ _ _ _ _ _ _ _ _ _ _ _ _ _ _ _ _ _ _ _ _ _ _ _ _ _ _ _ _ _ _ _ _ _ _ _ _ _ _ _ _ _ _ _ _ _ _ _ _ _ _ _ _ _ _ _ _ _ _ _ _ _ _ _ _ _ _ _ _ _ _ _ _ _ _ _ _ _ _ _ _ _ _ _ _ _ _ _ _ _ _ _ _ _ _ _ _ _ _ _ _ _ _ _ _ _ _ _ _ _ _ _ _ _ _ _ _ _ _ _ _ _ _ _ _ _ _ _ _ _ _ _ _ _ _ _ hK hR hD
  · have e : kd = kLoad := e
    subst e
    have hd8 := hf.d (by rw [show kindN _ = _ from hk]; decide)
    simp only at hd8
    obtain ⟨d, rfl⟩ : ∃ z : Nat, d = z := ⟨d.toNat, by have := hd8; omega⟩
    have hn := hf.slot (by rw [show kindN _ = _ from hk]; decide)
    simp only at hn
    obtain ⟨n, rfl⟩ : ∃ z : Nat, n = z := ⟨n.toNat, by have := hn; omega⟩
    exact so_load H h8 hsl h4 hT6 htk hl0 kat kn16 k18 nm d (by omega) a b n (by omega) hins _ _ _ _ _ _ _ _ _ _ _ _ _ _ _ _ _ _ _ _ _ _ _ _ _ _ _ _ _ _ _ _ _ _ _ _ _ _ _ _ _ _ _ _ _ _ _ _ _ _ _ _ _ _ _ _ _ _ _ _ _ _ _ _ _ _ _ _ _ _ _ _ _ _ _ _ _ _ _ _ _ _ _ _ _ _ _ _ _ _ _ _ _ _ _ _ _ _ _ _ _ _ _ _ _ _ _ _ _ _ _ _ _ _ _ _ _ _ _ _ _ _ _ _ _ _ _ _ _ _ _ _ _ _ _ _ _ _ _ _ _ _ _ _ _ _ _ _ _ _ _ _ _ _ _ _ _ _ _ _ _ _ _ _ _ _ _ _ _ _ _ _ _ _ _ _ _ _ _ _ _ _ _ _ _ _ _ _ _ _ _ _ _ _ _ _ _ _ _ _ _ _ _ _ _ _ _ _ _ _ _ _ _ _ _ _ _ _ _ _ _ _ _ _ _ _ _ hK hR hD
  · have e : kd = kOne := e
    subst e
    have hd8 := hf.d (by rw [show kindN _ = _ from hk]; decide)
    simp only at hd8
    obtain ⟨d, rfl⟩ : ∃ z : Nat, d = z := ⟨d.toNat, by have := hd8; omega⟩
    have ha8 := hf.a (by rw [show kindN _ = _ from hk]; decide)
    simp only at ha8
    obtain ⟨a, rfl⟩ : ∃ z : Nat, a = z := ⟨a.toNat, by have := ha8; omega⟩
    obtain ⟨res, hres⟩ := Option.isSome_iff_exists.1 (hf.one hk (s.r.getD a 0))
    exact so_one H h8 hsl h4 hT6 htk hl0 kat kn16 k18 nm d (by omega) a (by omega) b n res hres hins _ _ _ _ _ _ _ _ _ _ _ _ _ _ _ _ _ _ _ _ _ _ _ _ _ _ _ _ _ _ _ _ _ _ _ _ _ _ _ _ _ _ _ _ _ _ _ _ _ _ _ _ _ _ _ _ _ _ _ _ _ _ _ _ _ _ _ _ _ _ _ _ _ _ _ _ _ _ _ _ _ _ _ _ _ _ _ _ _ _ _ _ _ _ _ _ _ _ _ _ _ _ _ _ _ _ _ _ _ _ _ _ _ _ _ _ _ _ _ _ _ _ _ _ _ _ _ _ _ _ _ _ _ _ _ _ _ _ _ _ _ _ _ _ _ _ _ _ _ _ _ _ _ _ _ _ _ _ _ _ _ _ _ _ _ _ _ _ _ _ _ _ _ _ _ _ _ _ _ _ _ _ _ _ _ _ _ _ _ _ _ _ _ _ _ _ _ _ _ _ _ _ _ _ _ _ _ _ _ _ _ _ _ _ _ _ _ _ _ _ _ _ _ _ _ _ _ hK hR hD
  · have e : kd = kTwo := e
    subst e
    have hd8 := hf.d (by rw [show kindN _ = _ from hk]; decide)
    simp only at hd8
    obtain ⟨d, rfl⟩ : ∃ z : Nat, d = z := ⟨d.toNat, by have := hd8; omega⟩
    have ha8 := hf.a (by rw [show kindN _ = _ from hk]; decide)
    simp only at ha8
    obtain ⟨a, rfl⟩ : ∃ z : Nat, a = z := ⟨a.toNat, by have := ha8; omega⟩
    have hb8 := hf.b hk
    simp only at hb8
    obtain ⟨b, rfl⟩ : ∃ z : Nat, b = z := ⟨b.toNat, by have := hb8; omega⟩
    obtain ⟨res, hres⟩ := Option.isSome_iff_exists.1 (hf.two hk (s.r.getD a 0) (s.r.getD b 0))
    exact so_two H h8 hsl h4 hT6 htk hl0 kat kn16 k18 nm d (by omega) a (by omega) b (by omega) n res (getDA_I64 hok.r6 a) hres hins _ _ _ _ _ _ _ _ _ _ _ _ _ _ _ _ _ _ _ _ _ _ _ _ _ _ _ _ _ _ _ _ _ _ _ _ _ _ _ _ _ _ _ _ _ _ _ _ _ _ _ _ _ _ _ _ _ _ _ _ _ _ _ _ _ _ _ _ _ _ _ _ _ _ _ _ _ _ _ _ _ _ _ _ _ _ _ _ _ _ _ _ _ _ _ _ _ _ _ _ _ _ _ _ _ _ _ _ _ _ _ _ _ _ _ _ _ _ _ _ _ _ _ _ _ _ _ _ _ _ _ _ _ _ _ _ _ _ _ _ _ _ _ _ _ _ _ _ _ _ _ _ _ _ _ _ _ _ _ _ _ _ _ _ _ _ _ _ _ _ _ _ _ _ _ _ _ _ _ _ _ _ _ _ _ _ _ _ _ _ _ _ _ _ _ _ _ _ _ _ _ _ _ _ _ _ _ _ _ _ _ _ _ _ _ _ _ _ _ _ _ _ _ _ _ _ _ hK hR hD
  · have e : kd = kMove := e
    subst e
    have hd8 := hf.d (by rw [show kindN _ = _ from hk]; decide)
    simp only at hd8
    obtain ⟨d, rfl⟩ : ∃ z : Nat, d = z := ⟨d.toNat, by have := hd8; omega⟩
    have ha8 := hf.a (by rw [show kindN _ = _ from hk]; decide)
    simp only at ha8
    obtain ⟨a, rfl⟩ : ∃ z : Nat, a = z := ⟨a.toNat, by have := ha8; omega⟩
    exact so_move H h8 hsl h4 hT6 htk hl0 kat kn16 k18 nm d (by omega) a (by omega) b n hins _ _ _ _ _ _ _ _ _ _ _ _ _ _ _ _ _ _ _ _ _ _ _ _ _ _ _ _ _ _ _ _ _ _ _ _ _ _ _ _ _ _ _ _ _ _ _ _ _ _ _ _ _ _ _ _ _ _ _ _ _ _ _ _ _ _ _ _ _ _ _ _ _ _ _ _ _ _ _ _ _ _ _ _ _ _ _ _ _ _ _ _ _ _ _ _ _ _ _ _ _ _ _ _ _ _ _ _ _ _ _ _ _ _ _ _ _ _ _ _ _ _ _ _ _ _ _ _ _ _ _ _ _ _ _ _ _ _ _ _ _ _ _ _ _ _ _ _ _ _ _ _ _ _ _ _ _ _ _ _ _ _ _ _ _ _ _ _ _ _ _ _ _ _ _ _ _ _ _ _ _ _ _ _ _ _ _ _ _ _ _ _ _ _ _ _ _ _ _ _ _ _ _ _ _ _ _ _ _ _ _ _ _ _ _ _ _ _ _ _ _ _ _ _ _ _ _ hK hR hD
  · have e : kd = kStore := e
    subst e
    have ha8 := hf.a (by rw [show kindN _ = _ from hk]; decide)
    simp only at ha8
    obtain ⟨a, rfl⟩ : ∃ z : Nat, a = z := ⟨a.toNat, by have := ha8; omega⟩
    have hn := hf.slot (by rw [show kindN _ = _ from hk]; decide)
    simp only at hn
    obtain ⟨n, rfl⟩ : ∃ z : Nat, n = z := ⟨n.toNat, by have := hn; omega⟩
    exact so_store H h8 hsl h4 hT6 htk hl0 kat kn16 k18 nm d a (by omega) b n (by omega) hins _ _ _ _ _ _ _ _ _ _ _ _ _ _ _ _ _ _ _ _ _ _ _ _ _ _ _ _ _ _ _ _ _ _ _ _ _ _ _ _ _ _ _ _ _ _ _ _ _ _ _ _ _ _ _ _ _ _ _ _ _ _ _ _ _ _ _ _ _ _ _ _ _ _ _ _ _ _ _ _ _ _ _ _ _ _ _ _ _ _ _ _ _ _ _ _ _ _ _ _ _ _ _ _ _ _ _ _ _ _ _ _ _ _ _ _ _ _ _ _ _ _ _ _ _ _ _ _ _ _ _ _ _ _ _ _ _ _ _ _ _ _ _ _ _ _ _ _ _ _ _ _ _ _ _ _ _ _ _ _ _ _ _ _ _ _ _ _ _ _ _ _ _ _ _ _ _ _ _ _ _ _ _ _ _ _ _ _ _ _ _ _ _ _ _ _ _ _ _ _ _ _ _ _ _ _ _ _ _ _ _ _ _ _ _ _ _ _ _ _ _ _ _ _ _ _ _ hK hR hD
  · have e : kd = kArg := e
    subst e
    have ha8 := hf.a (by rw [show kindN _ = _ from hk]; decide)
    simp only at ha8
    obtain ⟨a, rfl⟩ : ∃ z : Nat, a = z := ⟨a.toNat, by have := ha8; omega⟩
    have hn := hf.arg hk
    simp only at hn
    obtain ⟨n, rfl⟩ : ∃ z : Nat, n = z := ⟨n.toNat, by have := hn; omega⟩
    exact so_arg H h8 hsl h4 hT6 htk hl0 kat kn16 k18 nm d a (by omega) b n (by omega) hins _ _ _ _ _ _ _ _ _ _ _ _ _ _ _ _ _ _ _ _ _ _ _ _ _ _ _ _ _ _ _ _ _ _ _ _ _ _ _ _ _ _ _ _ _ _ _ _ _ _ _ _ _ _ _ _ _ _ _ _ _ _ _ _ _ _ _ _ _ _ _ _ _ _ _ _ _ _ _ _ _ _ _ _ _ _ _ _ _ _ _ _ _ _ _ _ _ _ _ _ _ _ _ _ _ _ _ _ _ _ _ _ _ _ _ _ _ _ _ _ _ _ _ _ _ _ _ _ _ _ _ _ _ _ _ _ _ _ _ _ _ _ _ _ _ _ _ _ _ _ _ _ _ _ _ _ _ _ _ _ _ _ _ _ _ _ _ _ _ _ _ _ _ _ _ _ _ _ _ _ _ _ _ _ _ _ _ _ _ _ _ _ _ _ _ _ _ _ _ _ _ _ _ _ _ _ _ _ _ _ _ _ _ _ _ _ _ _ _ _ _ _ _ _ _ _ _ hK hR hD
  · have e : kd = kCall := e
    subst e
    have hd8 := hf.d (by rw [show kindN _ = _ from hk]; decide)
    simp only at hd8
    obtain ⟨d, rfl⟩ : ∃ z : Nat, d = z := ⟨d.toNat, by have := hd8; omega⟩
    have hn := hf.call hk
    simp only at hn
    obtain ⟨n, rfl⟩ : ∃ z : Nat, n = z := ⟨n.toNat, by have := hn; omega⟩
    by_cases hl : ans.length ≤ s.calls.length
    · exact so_call_no H h8 hsl h4 hT6 htk hl0 kat kn16 k18 nm hrb d a b n hl hins _ _ _ _ _ _ _ _ _ _ _ _ _ _ _ _ _ _ _ _ _ _ _ _ _ _ _ _ _ _ _ _ _ _ _ _ _ _ _ _ _ _ _ _ _ _ _ _ _ _ _ _ _ _ _ _ _ _ _ _ _ _ _ _ _ _ _ _ _ _ _ _ _ _ _ _ _ _ _ _ _ _ _ _ _ _ _ _ _ _ _ _ _ _ _ _ _ _ _ _ _ _ _ _ _ _ _ _ _ _ _ _ _ _ _ _ _ _ _ _ _ _ _ _ _ _ _ _ _ _ _ _ _ _ _ _ _ _ _ _ _ _ _ _ _ _ _ _ _ _ _ _ _ _ _ _ _ _ _ _ _ _ _ _ _ _ _ _ _ _ _ _ _ _ _ _ _ _ _ _ _ _ _ _ _ _ _ _ _ _ _ _ _ _ _ _ _ _ _ _ _ _ _ _ _ _ _ _ _ _ _ _ _ _ _ _ _ _ _ _ _ _ _ _ _ _ _ hK hR hD
    · exact so_call H h8 hsl h4 hT6 htk hl0 kat kn16 k18 nm hY han d (by omega) a b n (by omega) (by omega) hins _ _ _ _ _ _ _ _ _ _ _ _ _ _ _ _ _ _ _ _ _ _ _ _ _ _ _ _ _ _ _ _ _ _ _ _ _ _ _ _ _ _ _ _ _ _ _ _ _ _ _ _ _ _ _ _ _ _ _ _ _ _ _ _ _ _ _ _ _ _ _ _ _ _ _ _ _ _ _ _ _ _ _ _ _ _ _ _ _ _ _ _ _ _ _ _ _ _ _ _ _ _ _ _ _ _ _ _ _ _ _ _ _ _ _ _ _ _ _ _ _ _ _ _ _ _ _ _ _ _ _ _ _ _ _ _ _ _ _ _ _ _ _ _ _ _ _ _ _ _ _ _ _ _ _ _ _ _ _ _ _ _ _ _ _ _ _ _ _ _ _ _ _ _ _ _ _ _ _ _ _ _ _ _ _ _ _ _ _ _ _ _ _ _ _ _ _ _ _ _ _ _ _ _ _ _ _ _ _ _ _ _ _ _ _ _ _ _ _ _ _ _ _ _ _ _ _ hK hR hD
  · have e : kd = kTick := e
    subst e
    by_cases ht : T ≤ s.ticks
    · exact so_tick_no H h8 hsl h4 hT6 htk hl0 kat kn16 k18 nm hrb d a b n ht hins _ _ _ _ _ _ _ _ _ _ _ _ _ _ _ _ _ _ _ _ _ _ _ _ _ _ _ _ _ _ _ _ _ _ _ _ _ _ _ _ _ _ _ _ _ _ _ _ _ _ _ _ _ _ _ _ _ _ _ _ _ _ _ _ _ _ _ _ _ _ _ _ _ _ _ _ _ _ _ _ _ _ _ _ _ _ _ _ _ _ _ _ _ _ _ _ _ _ _ _ _ _ _ _ _ _ _ _ _ _ _ _ _ _ _ _ _ _ _ _ _ _ _ _ _ _ _ _ _ _ _ _ _ _ _ _ _ _ _ _ _ _ _ _ _ _ _ _ _ _ _ _ _ _ _ _ _ _ _ _ _ _ _ _ _ _ _ _ _ _ _ _ _ _ _ _ _ _ _ _ _ _ _ _ _ _ _ _ _ _ _ _ _ _ _ _ _ _ _ _ _ _ _ _ _ _ _ _ _ _ _ _ _ _ _ _ _ _ _ _ _ _ _ _ _ _ _ hK hR hD
    · exact so_tick H h8 hsl h4 hT6 htk hl0 kat kn16 k18 nm d a b n ht hins _ _ _ _ _ _ _ _ _ _ _ _ _ _ _ _ _ _ _ _ _ _ _ _ _ _ _ _ _ _ _ _ _ _ _ _ _ _ _ _ _ _ _ _ _ _ _ _ _ _ _ _ _ _ _ _ _ _ _ _ _ _ _ _ _ _ _ _ _ _ _ _ _ _ _ _ _ _ _ _ _ _ _ _ _ _ _ _ _ _ _ _ _ _ _ _ _ _ _ _ _ _ _ _ _ _ _ _ _ _ _ _ _ _ _ _ _ _ _ _ _ _ _ _ _ _ _ _ _ _ _ _ _ _ _ _ _ _ _ _ _ _ _ _ _ _ _ _ _ _ _ _ _ _ _ _ _ _ _ _ _ _ _ _ _ _ _ _ _ _ _ _ _ _ _ _ _ _ _ _ _ _ _ _ _ _ _ _ _ _ _ _ _ _ _ _ _ _ _ _ _ _ _ _ _ _ _ _ _ _ _ _ _ _ _ _ _ _ _ _ _ _ _ _ _ _ _ hK hR hD
  · have e : kd = kPrint := e
    subst e
    have ha8 := hf.a (by rw [show kindN _ = _ from hk]; decide)
    simp only at ha8
    obtain ⟨a, rfl⟩ : ∃ z : Nat, a = z := ⟨a.toNat, by have := ha8; omega⟩
    by_cases hl : 1000 ≤ s.out.length
    · exact so_print_no H h8 hsl h4 hT6 htk hl0 kat kn16 k18 nm hrb d a b n hl hins _ _ _ _ _ _ _ _ _ _ _ _ _ _ _ _ _ _ _ _ _ _ _ _ _ _ _ _ _ _ _ _ _ _ _ _ _ _ _ _ _ _ _ _ _ _ _ _ _ _ _ _ _ _ _ _ _ _ _ _ _ _ _ _ _ _ _ _ _ _ _ _ _ _ _ _ _ _ _ _ _ _ _ _ _ _ _ _ _ _ _ _ _ _ _ _ _ _ _ _ _ _ _ _ _ _ _ _ _ _ _ _ _ _ _ _ _ _ _ _ _ _ _ _ _ _ _ _ _ _ _ _ _ _ _ _ _ _ _ _ _ _ _ _ _ _ _ _ _ _ _ _ _ _ _ _ _ _ _ _ _ _ _ _ _ _ _ _ _ _ _ _ _ _ _ _ _ _ _ _ _ _ _ _ _ _ _ _ _ _ _ _ _ _ _ _ _ _ _ _ _ _ _ _ _ _ _ _ _ _ _ _ _ _ _ _ _ _ _ _ _ _ _ _ _ _ _ hK hR hD
    · exact so_print H h8 hsl h4 hT6 htk hl0 kat kn16 k18 nm d a (by omega) b n hl hins _ _ _ _ _ _ _ _ _ _ _ _ _ _ _ _ _ _ _ _ _ _ _ _ _ _ _ _ _ _ _ _ _ _ _ _ _ _ _ _ _ _ _ _ _ _ _ _ _ _ _ _ _ _ _ _ _ _ _ _ _ _ _ _ _ _ _ _ _ _ _ _ _ _ _ _ _ _ _ _ _ _ _ _ _ _ _ _ _ _ _ _ _ _ _ _ _ _ _ _ _ _ _ _ _ _ _ _ _ _ _ _ _ _ _ _ _ _ _ _ _ _ _ _ _ _ _ _ _ _ _ _ _ _ _ _ _ _ _ _ _ _ _ _ _ _ _ _ _ _ _ _ _ _ _ _ _ _ _ _ _ _ _ _ _ _ _ _ _ _ _ _ _ _ _ _ _ _ _ _ _ _ _ _ _ _ _ _ _ _ _ _ _ _ _ _ _ _ _ _ _ _ _ _ _ _ _ _ _ _ _ _ _ _ _ _ _ _ _ _ _ _ _ _ _ _ _ hK hR hD
end
end Go.Proofs.YtpmpeihcdiohmaaDoor
