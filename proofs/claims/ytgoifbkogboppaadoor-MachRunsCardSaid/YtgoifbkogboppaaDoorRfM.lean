import Derived.Test.YtgoifbkogboppaaDoorRfR
import Derived.Test.YtgoifbkogboppaaDoorBn5
import Derived.Test.YtgoifbkogboppaaDoorBn18
import Derived.Deep.CutRange
import Derived.Deep.DeepCutAuto
import Derived.Deep.AppendLies
import Derived.Deep.RegionHeld3
import Derived.Deep.RegionLaw
import Derived.BigRegion
import Derived.BigQuiet
import Derived.Deep.QuietTactic
import Derived.StillTailTactics
set_option linter.unusedVariables false
set_option linter.unusedSimpArgs false
namespace Go.Proofs.YtgoifbkogboppaaDoor
open Go.RowKit

/-! the reference's machine (printed by gen_rfm.py) -/
theorem rf_done2 {m : PImg} {k : Nat} {args : List Int} {T most mb : Nat} {s : PMs} {A : Option Addr} {c : Nat} {u : Value} {fbs : List (Nat × Nat)} {w0 w : World} (h : RfAt mb s (.slice A s.out.length c) u fbs w) (hP : (machP m k args T most).map endO = some (endO s) ∨ (machP m k args T most = none ∧ s.how = longT)) (hb : Below w0.heap.size w0 w) (hm : w0.heap.size + 2 = mb) :
    RfPost m k args T most w0 (.returned (.agg #[.string (mkB s.how), .int .i64 s.val, .slice A s.out.length c, .int .i64 (s.ticks : Nat)])) ((((w.setCell ⟨w0.heap.size + 1, 0, none⟩ (.string (mkB s.how))).setCell ⟨w0.heap.size + 1, 1, none⟩ (.int .i64 s.val)).setCell ⟨w0.heap.size + 1, 2, none⟩ (.slice A s.out.length c)).setCell ⟨w0.heap.size + 1, 3, none⟩ (.int .i64 (s.ticks : Nat))) := by
  have hown := own_same h.out (w' := ((((w.setCell ⟨w0.heap.size + 1, 0, none⟩ (.string (mkB s.how))).setCell ⟨w0.heap.size + 1, 1, none⟩ (.int .i64 s.val)).setCell ⟨w0.heap.size + 1, 2, none⟩ (.slice A s.out.length c)).setCell ⟨w0.heap.size + 1, 3, none⟩ (.int .i64 (s.ticks : Nat)))) fun k hk => far4m k (by have := (own_lt h.out hk).1; omega)
  obtain ⟨A7, c7, he7, hle7, hr7⟩ := owns_rowM hown
  injection he7 with he7 _ he8
  subst he7; subst he8
  refine ⟨A, c, endO s, rfl, ?_, hr7, hle7, below4m hb (by omega)⟩
  rcases hP with e | ⟨e, e2⟩
  · cases hm2 : machP m k args T most with
    | none => rw [hm2] at e; cases e
    | some s' => rw [hm2] at e; injection e with e; exact e.symm
  · rw [e]; exact e2
set_option maxHeartbeats 64000000 in
set_option maxRecDepth 100000 in
theorem MachOf_any (m : PImg) (hg : GoodI m) (A B : Option Addr) (cf cw : Nat) (h64 : ∀ n ∈ m.words, 0 ≤ n ∧ n < 18446744073709551616) (k0 : Nat) (hk0 : k0 < m.funs.length) (args : List Int) (hl4 : args.length ≤ 4) (h6 : ∀ n ∈ args, I64 n) (X : Option Addr) (xc T most : Nat) (hT : T ≤ 5000) (hmost : most ≤ 1000000) (w : World) (hA : Row w A (m.funs.flatMap fnL)) (hB : Row w B (u64Vs m.words)) (hX : Row w X (intVs args)) :
    Calls Tryd.prog 9 #[.agg #[.slice A m.funs.length cf, .slice B m.words.length cw], .int .i64 k0, .slice X args.length xc, .int .i64 T, .int .i64 most] w (RfPost m k0 args T most w) := by
  obtain ⟨mb, hmb⟩ : ∃ mb, w.heap.size + 2 = mb := ⟨_, rfl⟩
  obtain ⟨wA, hwA⟩ : ∃ wA, (((w.alloc (.cells #[.slice A m.funs.length cf, .slice B m.words.length cw] 25)).alloc (.cells #[.string ⟨#[]⟩, .int .i64 0, .slice none 0 0, .int .i64 0] 35)).alloc (.cells #[.string ⟨#[]⟩, .int .i64 0, .slice none 0 0, .int .i64 0] 35)).alloc (.cells #[.int .i64 0, .int .i64 0, .int .i64 0, .int .i64 0] 60) = wA := ⟨_, rfl⟩
  have hbA : Below w.heap.size w wA := by rw [← hwA]; exact grow_alloc (grow_alloc (grow_alloc (grow_alloc (grow_refl _) _) _) _) _
  have hzA : wA.heap.size = mb + 2 := by rw [← hwA, ← hmb]; simp
  have hm0 : wA.heap[w.heap.size]? = some (.cells #[.slice A m.funs.length cf, .slice B m.words.length cw] 25 (0, 0)) := by rw [← hwA]; exact (old_block _ _ (by simp <;> omega)).trans ((old_block _ _ (by simp <;> omega)).trans ((old_block _ _ (by simp)).trans (heap_alloc_new w _)))
  have hm1 : wA.heap[w.heap.size + 1]? = some (.cells #[.string ⟨#[]⟩, .int .i64 0, .slice none 0 0, .int .i64 0] 35 (0, 0)) := by rw [← hwA]; exact (old_block _ _ (by simp <;> omega)).trans ((old_block _ _ (by simp)).trans (new_block _ _ (by simp)))
  have hm2 : wA.heap[mb]? = some (.cells #[.string ⟨#[]⟩, .int .i64 0, .slice none 0 0, .int .i64 0] 35 (0, 0)) := by rw [← hwA, ← hmb]; exact (old_block _ _ (by simp)).trans (new_block _ _ (by simp))
  have hm3 : wA.heap[mb + 1]? = some (.cells (intVs (args4 (args.take 0))).toArray 60 (0, 0)) := by rw [← hwA, ← hmb]; exact new_block _ _ (by simp)
  have HX : Hid (∀ w', Below mb wA w' → (w'.cell? ⟨w.heap.size, 0, none⟩ = some (.slice A m.funs.length cf) ∧ w'.cell? ⟨w.heap.size, 1, none⟩ = some (.slice B m.words.length cw)) ∧ w'.heap[w.heap.size + 1]? = some (.cells #[.string ⟨#[]⟩, .int .i64 0, .slice none 0 0, .int .i64 0] 35 (0, 0)) ∧ Row w' A (m.funs.flatMap fnL) ∧ Row w' B (u64Vs m.words) ∧ Row w' X (intVs args) ∧ Below w.heap.size w w') := fun w' hb =>
    have hb2 : Below w.heap.size w w' := hbA.trans (hb.mono (by omega))
    ⟨row2m ((hb.block _ (by omega)).trans hm0), (hb.block _ (by omega)).trans hm1, hA.keep (Keeps.of_below hb2), hB.keep (Keeps.of_below hb2), hX.keep (Keeps.of_below hb2), hb2⟩
  have HRF : Hid (∀ w', (∀ k, k ≠ mb + 1 → w'.heap[k]? = wA.heap[k]?) → RfAt mb Ms0 (.slice none 0 0) (.slice none 0 0) [] w') := fun w' hs =>
    ⟨(hs mb (by omega)).trans hm2, World.ownsRow_nil _ _ _ _, World.ownsRow_nil _ _ _ _, rfl, fun k h1 => absurd h1 (by simp), by simp, by simp, fun p hp => by cases hp⟩
  obtain ⟨P, hP⟩ : ∃ P, machP m k0 args T most = P := ⟨_, rfl⟩
  have hP2 : P = runN m T most (enterM m.funs T k0 0 (args4 args) Ms0) := by rw [← hP]; rfl
  have HP := Lib.hid hP
  have HP2 := Lib.hid hP2
  have HOK0 := Lib.hid (start_ok (T := T) hg hk0 h6)
  have HGI := Lib.hid hg
  have H6 := Lib.hid h6
  have HW64 := Lib.hid h64
  have HWA := Lib.hid hwA
  have HM3 := Lib.hid hm3
  have HK0 := Lib.hid hk0
  have hnw8 := hg.nw
  have hnf8 := hg.nf
  have hmb2 : w.heap.size + 1 + 1 = mb := by omega
  have hmb3 : w.heap.size + 1 + 1 + 1 = mb + 1 := by omega
  obtain ⟨Q, hQ⟩ : ∃ Q, RfPost m k0 args T most w = Q := ⟨_, rfl⟩
  have HQ := Lib.hid hQ
  rw [hQ]
  have HLOW : Hid (LowAt m A cf B cw mb w.heap.size (w.heap.size + 1) wA) := show LowAt _ _ _ _ _ _ _ _ _ from by
    obtain ⟨g1, g2, g3, g4, -, -⟩ := HX.out wA (Below.refl _ _)
    refine ⟨g2, g1, g3, g4, ⟨fun a e => ?_, fun a e => ?_⟩, by omega, by omega⟩
    · obtain ⟨b, off, e2, h0, -, -, -⟩ := fn_cells hA hk0
      rw [e] at e2
      injection e2 with e2
      have := World.block_lt_of_cell? w _ h0
      rw [e2]; simp only at this ⊢; omega
    · have hw1 : 0 < m.words.length := by have := fn_ok (hg.funs k0 hk0); omega
      obtain ⟨b, off, e2, h0⟩ := hB 0 _ (u64_get hw1)
      rw [e] at e2
      injection e2 with e2
      have := World.block_lt_of_cell? w _ h0
      rw [e2]; simp only at this ⊢; omega
  clear hA hB hX hbA hm0 hm1 hm2 hm3 hP hP2 hg h6 h64 hwA hk0 hQ
  go_enter Tryd.func9, Tryd.ntmps9
  go_upto_region 5 with fail
  change Code.wp _ _ _ _ ((((w.alloc (.cells #[.slice A m.funs.length cf, .slice B m.words.length cw] 25)).alloc (.cells #[.string ⟨#[]⟩, .int .i64 0, .slice none 0 0, .int .i64 0] 35)).alloc (.cells #[.string ⟨#[]⟩, .int .i64 0, .slice none 0 0, .int .i64 0] 35)).alloc (.cells #[.int .i64 0, .int .i64 0, .int .i64 0, .int .i64 0] 60))
  rw [HWA.out]
  go_wp2_with fail
  go_loopw [15] (fun i wr => ∃ j : Nat, j ≤ args.length ∧ i = .int .i64 j ∧ wr.heap[mb + 1]? = some (.cells (intVs (args4 (args.take j))).toArray 60 (0, 0)) ∧ (∀ k, k ≠ mb + 1 → wr.heap[k]? = wA.heap[k]?) ∧ Below mb wA wr) (fun i _ => args.length - (intOf i).toNat)
  case atStart => exact ⟨0, Nat.zero_le _, rfl, HM3.out, fun _ _ => rfl, Below.refl _ _⟩
  case round =>
    obtain ⟨j, hj, rfl, hnx, hoth, hbel⟩ := hrel
    by_cases hlt : j < args.length
    · have hlt' : (j : Int) < (args.length : Int) := by omega
      have hj4 : (j : Int) < 4 := by omega
      have hj0 : (0 : Int) ≤ j := by omega
      obtain ⟨b, off, rfl, c0⟩ := (HX.out wr hbel).2.2.2.2.1 j _ (intVs_get hlt)
      have z0 := row_frozen hnx j
      obtain ⟨x0, hx0⟩ : ∃ x0, (args4 (args.take j)).getD j 0 = x0 := ⟨_, rfl⟩
      have d0 : wr.cell? ⟨mb + 1, j, none⟩ = some (.int .i64 x0) := by
        rw [cell_of_row _ _ j _ _ _ hnx, List.getElem?_toArray, intVs_get (by rw [args4_len]; omega), ← hx0, List.getD_eq_getElem?_getD, List.getElem?_eq_getElem (by rw [args4_len]; omega)]; rfl
      have hset : (wr.setCell ⟨mb + 1, j, none⟩ (.int .i64 args[j])).heap[mb + 1]? = some (.cells (intVs (args4 (args.take (j + 1)))).toArray 60 (0, 0)) := row_set (j := j) _ hnx (by rw [args4_step hl4 hlt, intVs_set]; simp)
      have hoth2 : ∀ k, k ≠ mb + 1 → (wr.setCell ⟨mb + 1, j, none⟩ (.int .i64 args[j])).heap[k]? = wA.heap[k]? := fun k hk => (Below.heap_setCell _ _ _ _ hk).trans (hoth k hk)
      have hbel2 : Below mb wA (wr.setCell ⟨mb + 1, j, none⟩ (.int .i64 args[j])) := hbel.trans ((Below.refl mb wr).setCell (p := ⟨mb + 1, j, none⟩) (by simp) _)
      have HR := Lib.hid (And.intro hset (And.intro hoth2 hbel2))
      clear hnx hoth hbel hset hoth2 hbel2 hx0
      go_wp2_with fail
      go_roundw
      case rel => exact ⟨j + 1, by omega, by go_num, HR.out⟩
      case measure => simp [intOf]; omega
    · have hj' : j = args.length := by omega
      subst hj'
      rw [List.take_length] at hnx
      have hHead : HeadAt m mb T (most - 0) P (.slice none 0 0) (.int .i64 k0) (.int .i64 0) wr := ⟨Ms0, .slice none 0 0, [], args4 args, HRF.out wr hoth, args4_len args, args4_I64 H6.out, hnx, rfl, .inr ⟨k0, 0, HK0.out, by omega, rfl, rfl, Nat.zero_le _, by simp [Ms0], HOK0.out, HP2.out⟩⟩
      have HHD := Lib.hid hHead
      have HBE := Lib.hid hbel
      clear hnx hoth hbel hHead hlt
      go_wp2_with fail
      go_loopw [12, 13, 16, 17, 18, 19, 20, 21, 22, 23] (fun u e t n _ _ _ _ _ _ wr2 => ∃ k : Nat, k ≤ most ∧ n = .int .i64 k ∧ HeadAt m mb T (most - k) P u e t wr2 ∧ Below mb wA wr2) (fun _ _ _ n _ _ _ _ _ _ _ => most + 1 - (intOf n).toNat)
      case atStart => exact ⟨0, Nat.zero_le _, rfl, HHD.out, HBE.out⟩
      case round =>
        clear HHD HBE HOK0 HP2 HM3 HRF
        obtain ⟨k, hk, rfl, hhead, hbel⟩ := hrel
        have hkm' : (k : Int) ≤ (most : Int) := by omega
        obtain ⟨ez, jt, rfl, rfl, hhd⟩ := hhead.ints
        have HHB := Lib.hid hhd
        have HBE := Lib.hid hbel
        have HKM := Lib.hid hk
        clear hhead hhd hbel hk
        go_upto_block 3 with fail
        refine wp_block ?_
        change Code.wp Tryd.prog bodyZ _ _ _
        refine round_any (Q := Q) HLOW.out HGI.out HW64.out hT hmost k HKM.out ez jt HHB.out HBE.out _ _ _ _ _ _ _ _ _ _ _ _ _ _ _ _ _ _ _ _ _ _ _ _ _ _ _ _ _ _ _ _ _ _ _ _ _ _ _ _ _ _ _ _ _ _ _ _ _ _ _ _ _ _ _ _ _ _ _ _ _ _ _ _ _ _ _ _ _ _ _ _ _ _ _ _ _ _ _ _ _ _ _ _ _ _ _ _ _ _ _ _ _ _ _ _ _ _ _ _ _ _ _ _ _ _ _ _ _ _ _ _ _ _ _ _ _ _ _ _ _ _ _ _ _ _ _ _ _ _ _ _ _ _ _ _ _ _ _ _ _ _ _ _ _ _ _ _ _ _ _ _ _ _ _ _ _ _ _ _ _ _ _ _ _ _ _ _ _ _ _ _ _ _ _ _ _ _ _ _ _ _ _ _ _ _ _ _ _ _ _ _ _ _ _ _ _ _ _ _ _ _ _ _ _ _ _ _ _ _ _ _ _ _ _ _ _ _ _ _ _ _ _ _ _ _ _ _ _ _ _ _ _ _ _ _ _ _ _ _ _ _ _ _ _ _ _ _ _ _ _ _ _ _ _ _ _ _ _ _ _ _ _ _ _ _ _ _ _ _ _ _ _ _ _ _ _ _ _ _ _ _ _ _ _ _ _ _ _ _ _ _ _ _ _ _ _ _ _ _ _ _ _ _ _ _ _ _ _ _ _ _ _ _ _ _ _ _ _ _ _ _ _ _ _ _ _ _ _ _ _ _ _ _ _ _ _ _ _ _ _ _ _ _ _ _ _ _ _ _ _ _ _ _ _ _ _ _ _ _ _ _ _ _ _ _ _ ?_ ?_ ?_ ?_ ?_
        · intro y12 y13 y16 y18 y19 y20 y21 y22 y23 y38 y39 y40 y41 y42 y43 y44 y45 y46 y47 y48 y49 y50 y51 y52 y53 y54 y55 y56 y57 y58 y59 y60 y61 y62 y63 y64 y65 y66 y67 y68 y69 y70 y71 y72 y73 y74 y75 y76 y77 y78 y79 y80 y81 y82 y83 y84 y85 y86 y87 y88 y89 y90 y91 y92 y93 y94 y95 y96 y97 y98 y99 y100 y101 y102 y103 y104 y105 y106 y107 y108 y109 y110 y111 y112 y113 y114 y115 y116 y117 y118 y119 y120 y121 y122 y123 y124 y125 y126 y127 y128 y129 y130 y131 y132 y133 y134 y135 y136 y137 y138 y139 y140 y141 y142 y143 y144 y145 y146 y147 y148 y149 y150 y151 y152 y153 y154 y155 y156 y157 y158 y159 y160 y161 y162 y163 y164 y165 y166 y167 y168 y169 y170 y171 y172 y173 y174 y175 y176 y177 y178 y179 y180 y181 y182 y183 y184 y185 y186 y187 y188 y189 y190 y191 y192 y193 y194 y195 y196 y197 y198 y199 y200 y201 y202 y203 y204 y205 y206 y207 y208 y209 y210 y211 y212 y213 y214 y215 y216 y217 y218 y219 y220 y221 y222 y223 y224 y225 y226 y227 y228 y229 y230 y231 y232 y233 y234 y235 y236 y237 y238 y239 y240 y241 y242 y243 y244 y245 y246 y247 y248 y249 y250 y251 y252 y253 y254 y255 y256 y257 y258 y259 y260 y261 y262 y263 y264 y265 y266 y267 y268 y269 y270 y271 y272 y273 y274 y275 y276 y277 y278 y279 y280 y281 y282 y283 y284 y285 y286 y287 y288 y289 y290 y291 y292 y293 y294 y295 y296 y297 y298 y299 y300 y301 y302 y303 y304 y305 y306 y307 y308 y309 y310 y311 y312 y313 y314 y315 y316 y317 y318 y319 y320 y321 y322 y323 y324 y325 y326 y327 y328 y329 y330 y331 y332 y333 y334 y335 y336 y337 y338 y339 y340 y341 y342 y343 y344 y345 y346 y347 y348 y349 y350 y351 y352 y353 y354 y355 y356 y357 y358 y359 y360 y361 y362 y363 y364 y365 y366 y367 y368 y369 y370 y371 y372 y373 y374 w' hkm hh hb
          have HH2 := Lib.hid hh
          have HB2 := Lib.hid hb
          clear hh hb
          go_wp2_with fail
          go_roundw
          case rel => exact ⟨k + 1, by omega, by go_num, HH2.out, HB2.out⟩
          case measure => simp [intOf]; omega
        · intro y12 y13 y16 y18 y19 y20 y21 y22 y23 y38 y39 y40 y41 y42 y43 y44 y45 y46 y47 y48 y49 y50 y51 y52 y53 y54 y55 y56 y57 y58 y59 y60 y61 y62 y63 y64 y65 y66 y67 y68 y69 y70 y71 y72 y73 y74 y75 y76 y77 y78 y79 y80 y81 y82 y83 y84 y85 y86 y87 y88 y89 y90 y91 y92 y93 y94 y95 y96 y97 y98 y99 y100 y101 y102 y103 y104 y105 y106 y107 y108 y109 y110 y111 y112 y113 y114 y115 y116 y117 y118 y119 y120 y121 y122 y123 y124 y125 y126 y127 y128 y129 y130 y131 y132 y133 y134 y135 y136 y137 y138 y139 y140 y141 y142 y143 y144 y145 y146 y147 y148 y149 y150 y151 y152 y153 y154 y155 y156 y157 y158 y159 y160 y161 y162 y163 y164 y165 y166 y167 y168 y169 y170 y171 y172 y173 y174 y175 y176 y177 y178 y179 y180 y181 y182 y183 y184 y185 y186 y187 y188 y189 y190 y191 y192 y193 y194 y195 y196 y197 y198 y199 y200 y201 y202 y203 y204 y205 y206 y207 y208 y209 y210 y211 y212 y213 y214 y215 y216 y217 y218 y219 y220 y221 y222 y223 y224 y225 y226 y227 y228 y229 y230 y231 y232 y233 y234 y235 y236 y237 y238 y239 y240 y241 y242 y243 y244 y245 y246 y247 y248 y249 y250 y251 y252 y253 y254 y255 y256 y257 y258 y259 y260 y261 y262 y263 y264 y265 y266 y267 y268 y269 y270 y271 y272 y273 y274 y275 y276 y277 y278 y279 y280 y281 y282 y283 y284 y285 y286 y287 y288 y289 y290 y291 y292 y293 y294 y295 y296 y297 y298 y299 y300 y301 y302 y303 y304 y305 y306 y307 y308 y309 y310 y311 y312 y313 y314 y315 y316 y317 y318 y319 y320 y321 y322 y323 y324 y325 y326 y327 y328 y329 y330 y331 y332 y333 y334 y335 y336 y337 y338 y339 y340 y341 y342 y343 y344 y345 y346 y347 y348 y349 y350 y351 y352 y353 y354 y355 y356 y357 y358 y359 y360 y361 y362 y363 y364 y365 y366 y367 y368 y369 y370 y371 y372 y373 y374 s3 A3 c3 f3 w' hr ho hp hb
          obtain ⟨c0, c1, c2, c3'⟩ := row4m hr.blk
          rw [how_nil ho] at c0
          have z0 := row_frozen hr.blk 0
          obtain ⟨-, hrb, -, -, -, hbw⟩ := HX.out w' hb
          obtain ⟨r0, r1, r2, r3⟩ := row4e hrb
          have y0 := row_frozen hrb 0
          have y1 := row_frozen hrb 1
          have y2 := row_frozen hrb 2
          have y3 := row_frozen hrb 3
          have hne1 : w.heap.size + 1 ≠ mb := by omega
          have hne2 : mb ≠ w.heap.size + 1 := by omega
          have HR3 := Lib.hid hr
          have HP3 := Lib.hid hp
          have HB3 := Lib.hid hb
          have HRB := Lib.hid hrb
          clear hr ho hp hb hrb hbw
          go_wp2_with fail
          have hk9 : (w'.setCell ⟨mb, 0, none⟩ (.string ⟨#[115, 116, 117, 99, 107]⟩)).heap[w.heap.size + 1]? = some (.cells #[.string ⟨#[]⟩, .int .i64 0, .slice none 0 0, .int .i64 0] 35 (0, 0)) := (Below.heap_setCell _ _ _ _ hne1).trans HRB.out
          obtain ⟨u0, u1, u2, u3⟩ := row4e (set4m (v0 := .string ⟨#[115, 116, 117, 99, 107]⟩) (v1 := .int .i64 s3.val) (v2 := .slice A3 s3.out.length c3) (v3 := .int .i64 (s3.ticks : Nat)) hk9)
          refine bodyPost_ret (v := .agg #[.string ⟨#[115, 116, 117, 99, 107]⟩, .int .i64 s3.val, .slice A3 s3.out.length c3, .int .i64 (s3.ticks : Nat)]) (by simp [results, Tryd.results9, go_sem, u0, u1, u2, u3]; try rfl) rfl ?_
          rw [← HQ.out]
          exact rf_done2 (s := endM stuckT s3) (HR3.out.store (.string ⟨#[115, 116, 117, 99, 107]⟩) (by unfold ocL Go.Proofs.YtgoifbkogboppaaDoor.endM; simp <;> rfl) rfl rfl) (.inl (by rw [HP.out]; exact HP3.out)) (HX.out _ (HB3.out.trans ((Below.refl mb w').setCell (p := ⟨mb, 0, none⟩) (Nat.le_refl _) _))).2.2.2.2.2 hmb
        · exact fun a w' h => h
        · intro s3 A3 c3 u3 f3 w3 hr hp hb
          rw [← HQ.out]
          exact rf_done2 hr (.inl (by rw [HP.out]; exact hp)) (HX.out w3 hb).2.2.2.2.2 hmb
        · intro s3 A3 c3 u3 f3 w3 hr hl hp hb
          rw [← HQ.out]
          exact rf_done2 hr (.inr ⟨by rw [HP.out]; exact hp, hl⟩) (HX.out w3 hb).2.2.2.2.2 hmb
end Go.Proofs.YtgoifbkogboppaaDoor
