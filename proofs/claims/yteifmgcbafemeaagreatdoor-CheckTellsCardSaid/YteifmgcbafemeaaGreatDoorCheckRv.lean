import Derived.Test.YteifmgcbafemeaaGreatDoorCheckVC
import Derived.Test.YteifmgcbafemeaaGreatDoorCheckLw
import Derived.Test.YteifmgcbafemeaaGreatDoorCheckT
import Derived.Test.YteifmgcbafemeaaGreatDoorCheckBd
import Derived.Test.YteifmgcbafemeaaGreatDoorCheckR
namespace Go.Proofs.YteifmgcbafemeaaGreatDoor
open Go.RowKit

/-! the document's variables and calls -/
theorem append_none2 {P : Program} (w : World) (t ty e : TypeId) (i : TypeInfo) (ht : P.underlying t = some (.slice e)) (hi : P.info? e = some i) (A : Option Addr) (n c : Nat) (hle : n ≤ c) (X : Option Addr) (d : Nat) :
    (Builtin.append_ #[t, t] ty #[.slice A n c, .slice X 0 d]).run P w = .ok (.slice A n c) w := by
  cases A <;> cases X <;> simp [Builtin.append_, run_underlying ht, sizeOf, typeInfo, hi, Builtin.lenOf, Builtin.firstCells, loadCells, loadCellsFrom, hle, storeCells]
set_option maxRecDepth 100000 in
theorem wpList_append_strs {w : World} {ops : Array Oper} {rest : List Oper} {o : Oper} {a : Act} {Q : Exit → Act → World → Prop} (hgd : o.guard = none) (s x : Operand)
    (ho : o.op = .call { callee := .builtin .append, args := #[s, x], argTypes := #[35, 35] }) (base : Nat) (v : Value) (xs ys : List Nm) (hs : a.eval s = v)
    (hown : w.ownsRow base 9 1 v xs.length (strVs xs)) (X : Option Addr) (c : Nat) (hx : a.eval x = .slice X ys.length c) (hrow : Row w X (strVs ys)) (hn : xs.length + ys.length ≤ 100000) (hbase : base ≤ w.heap.size)
    (h : ∀ A' n' c' w', w'.ownsRow base 9 1 (.slice A' n' c') (xs ++ ys).length (strVs (xs ++ ys)) → w.grownBy w' v.ownBlock → ((Value.slice A' n' c').ownBlock = v.ownBlock ∨ (Value.slice A' n' c').ownBlock = some w.heap.size) →
      wpList Tryz.prog ops Q rest (a.put o.dst (.slice A' n' c')) w') :
    wpList Tryz.prog ops Q (o :: rest) a w := by
  obtain ⟨i0, hi, hz0, hz1, hz2⟩ := info_parts strInfo2
  cases ys with
  | nil =>
    obtain ⟨A, d, rfl, -, hcap⟩ := owns_Row hown
    refine wpList_plain hgd fun K hK => ?_
    unfold Oper.wp execOp
    simp only [ho, resolve, invoke, builtin, Sem.run_bind, Sem.run_pure, Result.andThen_ok, List.map_toArray, List.map_cons, List.map_nil, hs, hx, List.length_nil, append_none2 w _ o.type _ i0 Tryz.underlying35 hi A xs.length d hcap X c]
    exact hK _ _ (h A xs.length d w (by rw [List.append_nil]; exact hown) ⟨rfl, rfl, rfl, Nat.le_refl _, fun _ _ _ => rfl⟩ (.inl rfl))
  | cons y ys =>
    obtain ⟨b, off, rfl, -⟩ := hrow 0 _ rfl
    refine wpList_append_own_at _ hgd s x 35 ho base 9 i0 _ 1 16 Tryz.underlying35 hi hz0 hz1 hz2 rfl (by decide) v xs.length (strVs xs) hs hown ⟨b, off, none⟩ (y :: ys).length c (strVs (y :: ys)) hx (by simp [strVs]) (fun j u hj => ?_) (fun u hu => ?_) (by unfold maxLen; omega) (by omega) hbase (fun v' w' g1 g2 _ g4 => ?_)
    · obtain ⟨b2, off2, e, hc⟩ := hrow j u hj
      injection e with e
      injection e with e1 e2 _
      subst e1; subst e2
      have hadd : (⟨b, off, none⟩ : Addr).add j = ⟨b, off + j, none⟩ := by unfold Addr.add; split <;> simp_all
      rw [hadd]; exact hc
    · simp only [strVs, List.mem_map] at hu
      obtain ⟨z, _, rfl⟩ := hu
      rfl
    · have e : strVs xs ++ strVs (y :: ys) = strVs (xs ++ y :: ys) := by simp [strVs]
      rw [e, ← List.length_append] at g1
      obtain ⟨A', c', rfl⟩ := owns_slice g1
      exact h A' _ c' w' g1 g2 g4

theorem own_two' {w0 w1 w2 : World} {e : TypeId} {v1 v2 : Value} {n m : Nat} {xs ys : List Value} (h1 : w1.ownsRow w0.heap.size e 1 v1 n xs) (h2 : w2.ownsRow w1.heap.size e 1 v2 m ys) : v2.ownBlock = none ∨ v1.ownBlock ≠ v2.ownBlock := by
  cases hv : v2.ownBlock with
  | none => exact .inl rfl
  | some k =>
    refine .inr fun q => ?_
    have a1 := (h1.lt _ q).2
    have a2 := (h2.lt _ hv).1
    omega
mutual
def allVT : PStmt → List Nm
  | ⟨kind, name, _, th, el⟩ => (if kind = sVar then [name] else []) ++ allV th ++ allV el
def allV : List PStmt → List Nm
  | [] => []
  | s :: ss => allVT s ++ allV ss
end
theorem allVT_eq (s : PStmt) : allVT s = (if s.kind = sVar then [s.name] else []) ++ allV s.th ++ allV s.el := by cases s; rw [allVT]
theorem allV_nil : allV [] = [] := by rw [allV]
theorem allV_cons (s : PStmt) (ss : List PStmt) : allV (s :: ss) = allVT s ++ allV ss := by rw [allV]
theorem allV_step {ss : List PStmt} {k : Nat} (h : k < ss.length) : allV (ss.drop k) = allVT ss[k] ++ allV (ss.drop (k + 1)) := by rw [List.drop_eq_getElem_cons h, allV_cons]
theorem walkV_of : ∀ (ss : List PStmt), (∀ s ∈ ss, ∀ xs, walkT stepV s xs = xs ++ allVT s) → ∀ xs, walkS stepV ss xs = xs ++ allV ss := by
  intro ss
  induction ss with
  | nil => intro _ xs; rw [walkS_nil, allV_nil, List.append_nil]
  | cons s ss ih =>
    intro h xs
    rw [walkS_cons, h s (by simp), ih (fun x hx => h x (by simp [hx])), allV_cons, List.append_assoc]
theorem walkT_all : ∀ (s : PStmt) (xs : List Nm), walkT stepV s xs = xs ++ allVT s := by
  intro s
  induction s using PStmt.ind with
  | h s iht ihl =>
    intro xs
    rw [walkT_eq, walkV_of _ iht, walkV_of _ ihl, allVT_eq]
    unfold stepV
    split <;> simp
theorem varsP_all (f : PFun) : varsP f = f.params ++ allV f.body := walkV_of f.body (fun s _ => walkT_all s) f.params
theorem allV_len (ss : List PStmt) : (allV ss).length ≤ cntS ss := by
  have h := walkB_len stepV_ok ss []
  rw [walkV_of ss (fun s _ => walkT_all s)] at h
  simpa using h
def VarsIn (ss : List PStmt) : Prop := ∀ (S : Nat → Prop) (A : Option Addr) (c : Nat) (w : World), RdS w S ss A → (allV ss).length ≤ 1000 →
  Calls Tryz.prog 32 #[.slice A ss.length c] w fun e w' => ∃ v, e = .returned v ∧ w'.ownsRow w.heap.size 9 1 v (allV ss).length (strVs (allV ss)) ∧ Below w.heap.size w w'
set_option maxHeartbeats 4000000 in
set_option maxRecDepth 100000 in
theorem varsIn_list (ss : List PStmt) (hlen : ss.length ≤ 30) (hq : ∀ s ∈ ss, VarsIn s.th ∧ VarsIn s.el) : VarsIn ss := by
  intro S A c w hr hn
  have HR := Lib.hid hr
  have HQ := Lib.hid hq
  have HN := Lib.hid hn
  clear hr hq hn
  go_enter Tryz.func32, Tryz.ntmps32
  go_wp2_with fail
  go_loopw [3, 4, 5, 6] (fun v i _ _ wr => ∃ (k : Nat) (l : List Nm), k ≤ ss.length ∧ i = .int .i64 k ∧ l ++ allV (ss.drop k) = allV ss ∧ wr.ownsRow w.heap.size 9 1 v l.length (strVs l) ∧ Below w.heap.size w wr) (fun _ i _ _ _ => ss.length - (intOf i).toNat)
  case atStart => exact ⟨0, [], Nat.zero_le _, rfl, by simp, World.ownsRow_nil _ _ _ _, Below.refl _ _⟩
  case round =>
    obtain ⟨k, l, hk, rfl, hl, hown, hbel⟩ := hrel
    obtain ⟨A1, c1, rfl⟩ := owns_slice hown
    have HL := Lib.hid hl
    have HO := Lib.hid hown
    have HB := Lib.hid hbel
    clear hl hown hbel
    by_cases hlt : k < ss.length
    · obtain ⟨b', off, X, x, T, t, L, l', rfl, -, hcells, -, -, hT, hL⟩ := HR.out.at hlt
      have hlt' : (k : Int) < (ss.length : Int) := by omega
      have hst := allV_step hlt
      have hqs := HQ.out ss[k] (List.getElem_mem hlt)
      obtain ⟨s, hs⟩ : ∃ s, ss[k] = s := ⟨_, rfl⟩
      rw [hs] at hcells hT hL hst hqs
      have hlen1 : l.length + ((if s.kind = sVar then [s.name] else []).length + (allV s.th).length + (allV s.el).length) + (allV (ss.drop (k + 1))).length ≤ 1000 := by
        have := congrArg List.length HL.out
        rw [hst, allVT_eq] at this
        simp only [List.length_append] at this
        have := HN.out
        omega
      have HTC : Hid (∀ w', Below w.heap.size w w' → Calls Tryz.prog 32 #[.slice T s.th.length t] w' fun e w'' => ∃ v, e = .returned v ∧ w''.ownsRow w'.heap.size 9 1 v (allV s.th).length (strVs (allV s.th)) ∧ Below w'.heap.size w' w'') := fun w' hb =>
        hqs.1 S T t w' (hT.keep ((Keeps.of_below hb).in S) (fun _ h => h)) (by omega)
      have HLC : Hid (∀ w', Below w.heap.size w w' → Calls Tryz.prog 32 #[.slice L s.el.length l'] w' fun e w'' => ∃ v, e = .returned v ∧ w''.ownsRow w'.heap.size 9 1 v (allV s.el).length (strVs (allV s.el)) ∧ Below w'.heap.size w' w'') := fun w' hb =>
        hqs.2 S L l' w' (hL.keep ((Keeps.of_below hb).in S) (fun _ h => h)) (by omega)
      have HCE : Hid (∀ w', Below w.heap.size w w' → _) := fun w' hb => cells_stmt (hcells.keep fun a v _ hv => Keeps.of_below hb a v hv)
      obtain ⟨d0, d1, d2, d3, d4, d5, d6, d7⟩ := HCE.out _ HB.out
      have HST := Lib.hid hst
      obtain ⟨l1, hl1⟩ : ∃ l1, l ++ (if s.kind = sVar then [s.name] else []) = l1 := ⟨_, rfl⟩
      have hlen2 : l1.length + (allV s.th).length + (allV s.el).length ≤ 1000 := by rw [← hl1, List.length_append]; omega
      have HL1 := Lib.hid hl1
      have hl0 : l.length ≤ 1000 := by omega
      have hth1 : (allV s.th).length ≤ 1000 := by omega
      obtain ⟨kv, t0⟩ : ∃ kv, ((mkB s.kind).toList == [118, 97, 114]) = kv := ⟨_, rfl⟩
      have hbz := HB.out.size
      clear hcells hT hL hqs hs hst hl1 hlen1
      go_upto_if 18 with fail
      have HKV := Lib.hid t0
      clear t0
      go_cut [3] (fun v wx => ∃ A2 n2 c2, v = .slice A2 n2 c2 ∧ wx.ownsRow w.heap.size 9 1 (.slice A2 n2 c2) l1.length (strVs l1) ∧ Below w.heap.size w wx)
      case first =>
        cases kv
        · have hk : s.kind ≠ sVar := by have := HKV.out; rw [mkB_toList] at this; exact beq_eq_false_iff_ne.1 this
          have e : l1 = l := by rw [← HL1.out, if_neg hk, List.append_nil]
          have HE := Lib.hid e
          clear e hk
          go_wp2_with fail
          go_meet
          rw [HE.out]
          exact ⟨A1, _, c1, rfl, HO.out, HB.out⟩
        · have hk : s.kind = sVar := by have := HKV.out; rw [mkB_toList] at this; exact beq_iff_eq.1 this
          have e : l ++ [s.name] = l1 := by rw [← HL1.out, if_pos hk]
          have HE := Lib.hid e
          have HRW : Hid (Row (wr.alloc (.cells #[.string (mkB s.name)] 9)) (some ⟨wr.heap.size, 0, none⟩) (strVs [s.name])) := Row.new wr (strVs [s.name]).toArray 9
          clear e hk
          go_wp2_with (at_builtin; refine wpList_append_strs rfl _ _ rfl w.heap.size _ l [s.name] rfl (HO.out.alloc _) (some ⟨wr.heap.size, 0, none⟩) 1 rfl HRW.out (by simp; omega) (by simp; omega) ?_)
          intro A' n' c' w' g1 g2 g3
          have hb := Below.grown (HB.out.alloc hbz (.cells #[.string (mkB s.name)] 9)) g2 (by simp; omega) (fun k hk => (HO.out.lt k hk).1)
          have hle : l.length + 1 = l1.length := by rw [← HE.out]; simp
          rw [HE.out] at g1
          have g1 : w'.ownsRow w.heap.size 9 1 (.slice A' n' c') l1.length (strVs l1) := hle ▸ g1
          clear hle
          have HG := Lib.hid g1
          have HBB := Lib.hid hb
          clear g1 g2 g3 hb
          go_wp2_with fail
          go_meet
          exact ⟨_, _, _, rfl, HG.out, HBB.out⟩
      case rest =>
        obtain ⟨A2, n2, c2, rfl, ho2, hb2⟩ := hcut
        have HO2 := Lib.hid ho2
        have HB2 := Lib.hid hb2
        obtain ⟨e0, e1, e2, e3, e4, e5, e6, e7⟩ := HCE.out _ hb2
        clear ho2 hb2 d0 d1 d2 d3 d4 d5 d6 d7
        go_wp2_with (first
          | (go_at_call 32; (with_reducible refine (HTC.out _ HB2.out).mono ?_); rintro y w3 ⟨v3, rfl, ho3, hb3⟩; obtain ⟨A3, c3, rfl, hr3, -⟩ := owns_Row ho3; have HR3 := Lib.hid hr3; have HO3 := Lib.hid (ownsRow_below HO2.out hb3); have HB3 := Lib.hid (grow_trans HB2.out hb3); obtain ⟨f0, f1, f2, f3, f4, f5, f6, f7⟩ := HCE.out _ HB3.out; clear ho3 hb3 hr3)
          | (go_at_call 32; (with_reducible refine (HLC.out _ HB3.out).mono ?_); rintro y w4 ⟨v4, rfl, ho4, hb4⟩; have hne4 := own_two' HO3.out ho4; obtain ⟨A4, c4, rfl, hr4, -⟩ := owns_Row ho4; have HR4 := Lib.hid (HR3.out.keep (Keeps.of_below hb4)); have HO4 := Lib.hid (ownsRow_below HO3.out hb4); have HV4 := Lib.hid ho4; have HNE4 := Lib.hid hne4; have HB4 := Lib.hid (grow_trans HB3.out hb4); have hz4 := HB4.out.size; clear ho4 hb4 hr4 hne4)
          | (at_builtin; refine wpList_append_strs rfl _ _ rfl w.heap.size _ l1 (allV s.th) rfl HO4.out _ _ rfl HR4.out (by omega) hz4 ?_; intro A5 n5 c5 w5 g1 g2 g3; have HO5 := Lib.hid g1; have HB5 := Lib.hid (Below.grown HB4.out g2 hz4 (fun k hk => (HO4.out.lt k hk).1)); have HV5 := Lib.hid (HV4.out.kept g2 (by rcases HNE4.out with q | q; exact .inl q; exact .inr (fun e => q e.symm))); have HR5 := Lib.hid (show Row w5 A4 (strVs (allV s.el)) by obtain ⟨A6, c6, q, q2, -⟩ := owns_Row HV5.out; injection q with q _ _; rw [q]; exact q2); have hz5 := HB5.out.size; clear g1 g2 g3)
          | (at_builtin; refine wpList_append_strs rfl _ _ rfl w.heap.size _ (l1 ++ allV s.th) (allV s.el) rfl HO5.out _ _ rfl HR5.out (by rw [List.length_append]; omega) hz5 ?_; intro A7 n7 c7 w7 g1 g2 g3; have HO7 := Lib.hid g1; have HB7 := Lib.hid (Below.grown HB5.out g2 hz5 (fun k hk => (HO5.out.lt k hk).1)); clear g1 g2 g3))
        go_roundw
        case rel => exact ⟨k + 1, (l1 ++ allV s.th) ++ allV s.el, by omega, by go_num, by rw [← HL.out, HST.out, allVT_eq, ← HL1.out]; simp only [List.append_assoc], HO7.out, HB7.out⟩
        case measure => simp [intOf]; omega
    · have hk' : k = ss.length := by omega
      subst hk'
      have hl := HL.out
      rw [List.drop_length, allV_nil, List.append_nil] at hl
      have HL2 := Lib.hid hl
      clear hl
      go_wp2_with fail
      go_ret
      exact ⟨_, rfl, HL2.out ▸ HO.out, HB.out⟩
theorem varsIn_any (ss : List PStmt) (hlen : ss.length ≤ 30) (h : ∀ s ∈ ss, SmS s) : VarsIn ss := by
  have each : ∀ s : PStmt, SmS s → VarsIn s.th ∧ VarsIn s.el := by
    intro s
    induction s using PStmt.ind with
    | h s iht ihl =>
      intro hsm
      exact ⟨varsIn_list s.th hsm.lenT (fun k hk => iht k hk (hsm.kidT k hk)), varsIn_list s.el hsm.lenL (fun k hk => ihl k hk (hsm.kidL k hk))⟩
  exact varsIn_list ss hlen (fun s hs => each s (h s hs))
def rfunO (f : PFun) (P : Option Addr) (p : Nat) (B : Option Addr) (c : Nat) : Obj := .cells #[.string (mkB f.name), .slice P f.params.length p, .slice B f.body.length c] 43
set_option maxHeartbeats 2000000 in
set_option maxRecDepth 100000 in
theorem VarsOf_any (f : PFun) (hsm : SmF f) (hz : szS f.body 0 < 1000) (S : Nat → Prop) (P : Option Addr) (p : Nat) (B : Option Addr) (c : Nat) (w : World) (hp : RdT w S f.params P) (hB : RdS w S f.body B) :
    Calls Tryz.prog 13 #[funV f P p B c] w (RetT (varsP f) w) := by
  have h8 := hsm.params
  have hn := allV_len f.body
  have hn2 := cntB_le hz
  have hb0 : Below w.heap.size w (w.alloc (rfunO f P p B c)) := grow_alloc (grow_refl _) _
  have HB0 := Lib.hid hb0
  have HBK := Lib.hid (heap_alloc_new w (rfunO f P p B c))
  have HRW : Hid (∀ w', Below w.heap.size w w' → Row w' P (strVs f.params)) := fun w' hb => rdT_row (hp.keep ((Keeps.of_below hb).in S) (fun _ h => h))
  have HVI : Hid (∀ w', Below w.heap.size w w' → Calls Tryz.prog 32 #[.slice B f.body.length c] w' fun e w'' => ∃ v, e = .returned v ∧ w''.ownsRow w'.heap.size 9 1 v (allV f.body).length (strVs (allV f.body)) ∧ Below w'.heap.size w' w'') := fun w' hb =>
    varsIn_any f.body hsm.body hsm.stmts S B c w' (hB.keep ((Keeps.of_below hb).in S) (fun _ h => h)) (by omega)
  have HE := Lib.hid (varsP_all f)
  have HN0 : Hid ((w.alloc (rfunO f P p B c)).ownsRow (w.heap.size + 1) 9 1 (.slice none 0 0) ([] : List Nm).length (strVs [])) := World.ownsRow_nil _ _ _ _
  have hlv : (allV f.body).length ≤ 1000 := by omega
  clear hp hB hb0 hn hn2 hsm
  unfold funV
  unfold rfunO at *
  go_enter Tryz.func13, Tryz.ntmps13
  go_wp2_with (first
    | (at_builtin; refine wpList_append_strs rfl _ _ rfl (w.heap.size + 1) _ [] f.params rfl HN0.out _ _ rfl (HRW.out _ HB0.out) (by simp; omega) (by simp) ?_; intro A1 n1 c1 w1 g1 g2 g3; have HO1 := Lib.hid (show w1.ownsRow (w.heap.size + 1) 9 1 (.slice A1 n1 c1) f.params.length (strVs f.params) from g1); have hz4 : w.heap.size + 1 ≤ w1.heap.size := (by have := g2.size; simp at this; exact this); have hb1 := Below.grown HB0.out g2 (by simp) (fun k hk => by cases hk); have HB1 := Lib.hid hb1; have HK1 : Hid (w1.heap[w.heap.size]? = _) := (g2.block _ (by simp) (fun q => by cases q)).trans HBK.out; obtain ⟨d0, d1, d2⟩ := row3 HK1.out; clear g1 g2 g3 hb1)
    | (go_at_call 32; (with_reducible refine (HVI.out _ HB1.out).mono ?_); rintro y w2 ⟨v2, rfl, ho2, hb2⟩; obtain ⟨A2, c2, rfl, hr2, -⟩ := owns_Row ho2; have HR2 := Lib.hid hr2; have HO2 := Lib.hid (ownsRow_below HO1.out hb2); have HB2 := Lib.hid (grow_trans HB1.out hb2); have hz2 := HB2.out.size; have hz3 := hb2.size; clear ho2 hb2 hr2)
    | (at_builtin; (refine wpList_append_strs rfl _ _ rfl (w.heap.size + 1) _ f.params (allV f.body) rfl HO2.out _ _ rfl HR2.out (by omega) (by omega) ?_; intro A3 n3 c3 w3 g1 g2 g3; obtain ⟨A4, c4, e4, hr4, hc4⟩ := owns_Row g1; have HB3 := Lib.hid (Below.grown HB2.out g2 hz2 (fun k hk => by have := (HO2.out.lt k hk).1; omega)); have HR4 := Lib.hid hr4; have HC4 := Lib.hid hc4; have HE4 := Lib.hid e4; clear g1 g2 g3 hr4 hc4 e4)))
  go_ret
  refine ⟨A4, c4, ?_, ?_, ?_, HB3.out⟩
  · rw [HE.out]; exact congrArg Ending.returned HE4.out
  · rw [HE.out]; exact HR4.out
  · rw [HE.out]; exact HC4.out
end Go.Proofs.YteifmgcbafemeaaGreatDoor

namespace Go.Proofs.YteifmgcbafemeaaGreatDoor
open Go.RowKit

/-! the document's calls -/
def rexprB (e : PExpr) (A : Option Addr) (c : Nat) : Obj := .cells #[.string (mkB e.kind), .int .i64 e.num, .string (mkB e.name), .slice A e.kids.length c] 95
theorem allK_step {ks : List PExpr} {k : Nat} (h : k < ks.length) : allK (ks.drop k) = allE ks[k] ++ allK (ks.drop (k + 1)) := by rw [List.drop_eq_getElem_cons h, allK_cons]
def CallsIn (e : PExpr) : Prop := ∀ (S : Nat → Prop) (A : Option Addr) (c : Nat) (w : World), RdE w S e.kids A → (allE e).length ≤ 1000 →
  Calls Tryz.prog 58 #[exprV e A c] w fun r w' => ∃ v, r = .returned v ∧ w'.ownsRow w.heap.size 9 1 v (allE e).length (strVs (allE e)) ∧ Below w.heap.size w w'
set_option maxHeartbeats 4000000 in
set_option maxRecDepth 100000 in
theorem callsIn_any : ∀ e : PExpr, SmE e → CallsIn e := by
  intro e
  induction e using PExpr.ind with
  | h e ih =>
  intro hsm S A c w hr hn
  have h8 := hsm.len
  have hb0 : Below w.heap.size w (w.alloc (rexprB e A c)) := grow_alloc (grow_refl _) _
  have HB0 := Lib.hid hb0
  have HBK := Lib.hid (heap_alloc_new w (rexprB e A c))
  have IH : Hid (∀ (i : Nat) (hi : i < e.kids.length), CallsIn e.kids[i]) := fun i hi => ih _ (List.getElem_mem hi) (hsm.kid _ (List.getElem_mem hi))
  have HR := Lib.hid hr
  have HN := Lib.hid hn
  have HAE := Lib.hid (allE_eq e)
  clear ih hr hn hsm hb0
  unfold exprV
  unfold rexprB at *
  go_enter Tryz.func58, Tryz.ntmps58
  go_wp2_with fail
  go_loopw [3, 4, 5] (fun v i _ wr => ∃ (k : Nat) (l : List Nm), k ≤ e.kids.length ∧ i = .int .i64 k ∧ l ++ allK (e.kids.drop k) = allK e.kids ∧ wr.ownsRow (w.heap.size + 1) 9 1 v l.length (strVs l) ∧ Below (w.heap.size + 1) (w.alloc (.cells #[.string (mkB e.kind), .int .i64 e.num, .string (mkB e.name), .slice A e.kids.length c] 95)) wr) (fun _ i _ _ => e.kids.length - (intOf i).toNat)
  case atStart => exact ⟨0, [], Nat.zero_le _, rfl, by simp, World.ownsRow_nil _ _ _ _, Below.refl _ _⟩
  case round =>
    obtain ⟨k, l, hk, rfl, hl, hown, hbel⟩ := hrel
    obtain ⟨A1, c1, rfl⟩ := owns_slice hown
    have HX := Lib.hid ((hbel.block w.heap.size (by omega)).trans HBK.out)
    obtain ⟨d0, d1, d2, d3⟩ := row4 HX.out
    have HL := Lib.hid hl
    have HO := Lib.hid hown
    have HBL := Lib.hid hbel
    have HB := Lib.hid (HB0.out.trans (hbel.mono (Nat.le_succ _)))
    have hbz := hbel.size
    have hbz1 : w.heap.size + 1 ≤ wr.heap.size := by simp at hbz; exact hbz
    have hle : l.length + (allK (e.kids.drop k)).length ≤ 1000 := by
      have h1 := congrArg List.length hl
      have h2 := congrArg List.length HAE.out
      simp only [List.length_append] at h1 h2
      have := HN.out
      omega
    clear hl hown hbel hbz
    by_cases hlt : k < e.kids.length
    · obtain ⟨b', off, B, d, rfl, -, hcells, -, hkid⟩ := (HR.out.keep ((Keeps.of_below HB.out).in S) (fun _ h => h)).at hlt
      obtain ⟨c0, c1', c2, c3⟩ := cells_expr hcells
      have hlt' : (k : Int) < (e.kids.length : Int) := by omega
      have hst := allK_step hlt
      have hle2 : l.length + (allE e.kids[k]).length ≤ 1000 := by rw [hst, List.length_append] at hle; omega
      have hih := IH.out k hlt
      obtain ⟨x, hx⟩ : ∃ x, e.kids[k] = x := ⟨_, rfl⟩
      rw [hx] at hcells hkid c0 c1' c2 c3 hst hle2 hih
      have HC := Lib.hid (hih S B d wr hkid (by omega))
      have HST := Lib.hid hst
      unfold exprV at HC
      clear hcells hkid hih hx hst hle
      go_wp2_with (first
        | (go_at_call 58; (with_reducible refine HC.out.mono ?_); rintro y w2 ⟨v2, rfl, ho2, hb2⟩; obtain ⟨A2, c2', rfl, hr2, -⟩ := owns_Row ho2; have HR2 := Lib.hid hr2; have HO2 := Lib.hid (ownsRow_below HO.out hb2); have HB2 := Lib.hid (HBL.out.trans (hb2.mono hbz1)); have hz2 := hb2.size; clear ho2 hb2 hr2)
        | (at_builtin; (refine wpList_append_strs rfl _ _ rfl (w.heap.size + 1) _ l (allE x) rfl HO2.out _ _ rfl HR2.out (by omega) (by omega) ?_; intro A3 n3 c3' w3 g1 g2 g3; have HO3 := Lib.hid g1; have HB3 := Lib.hid (Below.grown HB2.out g2 (by omega) (fun k hk => (HO2.out.lt k hk).1)); clear g1 g2 g3)))
      go_roundw
      case rel => exact ⟨k + 1, l ++ allE x, by omega, by go_num, by rw [← HL.out, HST.out, List.append_assoc], HO3.out, HB3.out⟩
      case measure => simp [intOf]; omega
    · have hk' : k = e.kids.length := by omega
      subst hk'
      have hl := HL.out
      rw [List.drop_length, allK_nil, List.append_nil] at hl
      have HL2 := Lib.hid hl
      have hl1 : l.length ≤ 1000 := by omega
      clear hl hle
      by_cases hc : e.kind = xCall
      · have t0 : ((mkB e.kind).toList == [99, 97, 108, 108]) = true := by rw [mkB_toList, hc]; rfl
        have HF : Hid (allE e = l ++ [e.name]) := show _ = _ by rw [HAE.out, if_pos hc, HL2.out]
        have HRW : Hid (Row (wr.alloc (.cells #[.string (mkB e.name)] 9)) (some ⟨wr.heap.size, 0, none⟩) (strVs [e.name])) := Row.new wr (strVs [e.name]).toArray 9
        clear hc
        go_wp2_with (at_builtin; (refine wpList_append_strs rfl _ _ rfl (w.heap.size + 1) _ l [e.name] rfl (HO.out.alloc _) (some ⟨wr.heap.size, 0, none⟩) 1 rfl HRW.out (by simp; omega) (by simp; omega) ?_; intro A3 n3 c3' w3 g1 g2 g3; have HO3 := Lib.hid g1; have HB3 := Lib.hid (Below.grown (HBL.out.alloc hbz1 (.cells #[.string (mkB e.name)] 9)) g2 (by simp; omega) (fun k hk => (HO.out.lt k hk).1)); clear g1 g2 g3))
        go_ret
        refine ⟨_, rfl, ?_, HB0.out.trans (HB3.out.mono (Nat.le_succ _))⟩
        rw [HF.out]
        exact owned_mono HO3.out (Nat.le_succ _)
      · have t0 : ((mkB e.kind).toList == [99, 97, 108, 108]) = false := by rw [mkB_toList]; exact beq_eq_false_iff_ne.2 hc
        have HF : Hid (allE e = l) := show _ = _ by rw [HAE.out, if_neg hc, HL2.out, List.append_nil]
        clear hc
        go_wp2_with fail
        go_ret
        refine ⟨_, rfl, ?_, HB.out⟩
        rw [HF.out]
        exact owned_mono HO.out (Nat.le_succ _)
theorem allS_step {ss : List PStmt} {k : Nat} (h : k < ss.length) : allS (ss.drop k) = allT ss[k] ++ allS (ss.drop (k + 1)) := by rw [List.drop_eq_getElem_cons h, allS_cons]
def CallsOf (ss : List PStmt) : Prop := ∀ (S : Nat → Prop) (A : Option Addr) (c : Nat) (w : World), RdS w S ss A → (allS ss).length ≤ 1000 →
  Calls Tryz.prog 37 #[.slice A ss.length c] w fun e w' => ∃ v, e = .returned v ∧ w'.ownsRow w.heap.size 9 1 v (allS ss).length (strVs (allS ss)) ∧ Below w.heap.size w w'
set_option maxHeartbeats 4000000 in
set_option maxRecDepth 100000 in
theorem callsOf_list (ss : List PStmt) (hlen : ss.length ≤ 30) (hsm : ∀ s ∈ ss, SmE s.e) (hq : ∀ s ∈ ss, CallsOf s.th ∧ CallsOf s.el) : CallsOf ss := by
  intro S A c w hr hn
  have HR := Lib.hid hr
  have HQ := Lib.hid hq
  have HN := Lib.hid hn
  have HSM := Lib.hid hsm
  clear hr hq hn hsm
  go_enter Tryz.func37, Tryz.ntmps37
  go_wp2_with fail
  go_loopw [3, 4, 5, 6, 7] (fun v i _ _ _ wr => ∃ (k : Nat) (l : List Nm), k ≤ ss.length ∧ i = .int .i64 k ∧ l ++ allS (ss.drop k) = allS ss ∧ wr.ownsRow w.heap.size 9 1 v l.length (strVs l) ∧ Below w.heap.size w wr) (fun _ i _ _ _ _ => ss.length - (intOf i).toNat)
  case atStart => exact ⟨0, [], Nat.zero_le _, rfl, by simp, World.ownsRow_nil _ _ _ _, Below.refl _ _⟩
  case round =>
    obtain ⟨k, l, hk, rfl, hl, hown, hbel⟩ := hrel
    obtain ⟨A1, c1, rfl⟩ := owns_slice hown
    have HL := Lib.hid hl
    have HO := Lib.hid hown
    have HB := Lib.hid hbel
    clear hl hown hbel
    by_cases hlt : k < ss.length
    · obtain ⟨b', off, X, x, T, t, L, l', rfl, -, hcells, -, hX, hT, hL⟩ := HR.out.at hlt
      have hlt' : (k : Int) < (ss.length : Int) := by omega
      have hst := allS_step hlt
      have hqs := HQ.out ss[k] (List.getElem_mem hlt)
      have hse := HSM.out ss[k] (List.getElem_mem hlt)
      obtain ⟨s, hs⟩ : ∃ s, ss[k] = s := ⟨_, rfl⟩
      rw [hs] at hcells hX hT hL hst hqs hse
      have hlen1 : l.length + (allE s.e).length + (allS s.th).length + (allS s.el).length ≤ 1000 := by
        have := congrArg List.length HL.out
        rw [hst, allT_eq] at this
        simp only [List.length_append] at this
        have := HN.out
        omega
      have HXC : Hid (∀ w', Below w.heap.size w w' → Calls Tryz.prog 58 #[exprV s.e X x] w' fun e w'' => ∃ v, e = .returned v ∧ w''.ownsRow w'.heap.size 9 1 v (allE s.e).length (strVs (allE s.e)) ∧ Below w'.heap.size w' w'') := fun w' hb =>
        callsIn_any s.e hse S X x w' (hX.keep ((Keeps.of_below hb).in S) (fun _ h => h)) (by omega)
      have HTC : Hid (∀ w', Below w.heap.size w w' → Calls Tryz.prog 37 #[.slice T s.th.length t] w' fun e w'' => ∃ v, e = .returned v ∧ w''.ownsRow w'.heap.size 9 1 v (allS s.th).length (strVs (allS s.th)) ∧ Below w'.heap.size w' w'') := fun w' hb =>
        hqs.1 S T t w' (hT.keep ((Keeps.of_below hb).in S) (fun _ h => h)) (by omega)
      have HLC : Hid (∀ w', Below w.heap.size w w' → Calls Tryz.prog 37 #[.slice L s.el.length l'] w' fun e w'' => ∃ v, e = .returned v ∧ w''.ownsRow w'.heap.size 9 1 v (allS s.el).length (strVs (allS s.el)) ∧ Below w'.heap.size w' w'') := fun w' hb =>
        hqs.2 S L l' w' (hL.keep ((Keeps.of_below hb).in S) (fun _ h => h)) (by omega)
      have HCE : Hid (∀ w', Below w.heap.size w w' → _) := fun w' hb => cells_stmt (hcells.keep fun a v _ hv => Keeps.of_below hb a v hv)
      obtain ⟨d0, d1, d2, d3, d4, d5, d6, d7⟩ := HCE.out _ HB.out
      have HST := Lib.hid hst
      unfold exprV at HXC
      clear hcells hX hT hL hqs hse hs hst
      go_wp2_with (first
        | (go_at_call 58; (with_reducible refine (HXC.out _ HB.out).mono ?_); rintro y w2 ⟨v2, rfl, ho2, hb2⟩; have hne2 := own_two' HO.out ho2; obtain ⟨A2, c2, rfl, hr2, -⟩ := owns_Row ho2; have HR2 := Lib.hid hr2; have HV2 := Lib.hid ho2; have HN2 := Lib.hid hne2; have HO2 := Lib.hid (ownsRow_below HO.out hb2); have HB2 := Lib.hid (grow_trans HB.out hb2); obtain ⟨e0, e1, e2, e3, e4, e5, e6, e7⟩ := HCE.out _ HB2.out; clear ho2 hb2 hr2 hne2)
        | (go_at_call 37; (with_reducible refine (HTC.out _ HB2.out).mono ?_); rintro y w3 ⟨v3, rfl, ho3, hb3⟩; have hne3 := own_two' HO2.out ho3; obtain ⟨A3, c3, rfl, hr3, -⟩ := owns_Row ho3; have HR3 := Lib.hid hr3; have HV3 := Lib.hid ho3; have HN3 := Lib.hid hne3; have HO3 := Lib.hid (ownsRow_below HO2.out hb3); have HV23 := Lib.hid (ownsRow_below HV2.out hb3); have HB3 := Lib.hid (grow_trans HB2.out hb3); obtain ⟨f0, f1, f2, f3, f4, f5, f6, f7⟩ := HCE.out _ HB3.out; clear ho3 hb3 hr3 hne3)
        | (go_at_call 37; (with_reducible refine (HLC.out _ HB3.out).mono ?_); rintro y w4 ⟨v4, rfl, ho4, hb4⟩; have hne4 := own_two' HO3.out ho4; obtain ⟨A4, c4, rfl, hr4, -⟩ := owns_Row ho4; have HV4 := Lib.hid ho4; have HN4 := Lib.hid hne4; have HO4 := Lib.hid (ownsRow_below HO3.out hb4); have HR24 := Lib.hid (show Row w4 A2 (strVs (allE s.e)) by obtain ⟨A6, c6, q, q2, -⟩ := owns_Row (ownsRow_below HV23.out hb4); injection q with q _ _; rw [q]; exact q2); have HV34 := Lib.hid (ownsRow_below HV3.out hb4); have HB4 := Lib.hid (grow_trans HB3.out hb4); have hz4 := HB4.out.size; have hz34 := HB3.out.size; have hzz := hb4.size; clear ho4 hb4 hr4 hne4)
        | (at_builtin; (refine wpList_append_strs rfl _ _ rfl w.heap.size _ l (allE s.e) rfl HO4.out _ _ rfl HR24.out (by omega) hz4 ?_; intro A5 n5 c5 w5 g1 g2 g3; have HO5 := Lib.hid g1; have HB5 := Lib.hid (Below.grown HB4.out g2 hz4 (fun k hk => (HO4.out.lt k hk).1)); have HV35 := Lib.hid (HV34.out.kept g2 (by rcases HN3.out with q | q; exact .inl q; exact .inr (fun e => q e.symm))); have HV45 := Lib.hid (HV4.out.kept g2 (by rcases HN4.out with q | q; exact .inl q; exact .inr (fun e => q e.symm))); have hz5 := HB5.out.size; have HG5 := Lib.hid g3; have HR5 := Lib.hid (show Row w5 A3 (strVs (allS s.th)) by obtain ⟨A6, c6, q, q2, -⟩ := owns_Row HV35.out; injection q with q _ _; rw [q]; exact q2); have HN5 := Lib.hid (show (Value.slice A4 (allS s.el).length c4).ownBlock = none ∨ (Value.slice A5 n5 c5).ownBlock ≠ (Value.slice A4 (allS s.el).length c4).ownBlock by rcases HN4.out with q | q; exact .inl q; right; rcases HG5.out with e | e; (rw [e]; exact q); (rw [e]; intro q2; have := (HV4.out.lt _ q2.symm).2; omega)); clear g1 g2 g3))
        | (at_builtin; (refine wpList_append_strs rfl _ _ rfl w.heap.size _ (l ++ allE s.e) (allS s.th) rfl HO5.out _ _ rfl HR5.out (by rw [List.length_append]; omega) hz5 ?_; intro A7 n7 c7 w7 g1 g2 g3; have HO7 := Lib.hid g1; have HB7 := Lib.hid (Below.grown HB5.out g2 hz5 (fun k hk => (HO5.out.lt k hk).1)); have HV47 := Lib.hid (HV45.out.kept g2 (by rcases HN5.out with q | q; exact .inl q; exact .inr (fun e => q e.symm))); have hz7 := HB7.out.size; have HR7 := Lib.hid (show Row w7 A4 (strVs (allS s.el)) by obtain ⟨A6, c6, q, q2, -⟩ := owns_Row HV47.out; injection q with q _ _; rw [q]; exact q2); clear g1 g2 g3))
        | (at_builtin; (refine wpList_append_strs rfl _ _ rfl w.heap.size _ ((l ++ allE s.e) ++ allS s.th) (allS s.el) rfl HO7.out _ _ rfl HR7.out (by rw [List.length_append, List.length_append]; omega) hz7 ?_; intro A9 n9 c9 w9 g1 g2 g3; have HO9 := Lib.hid g1; have HB9 := Lib.hid (Below.grown HB7.out g2 hz7 (fun k hk => (HO7.out.lt k hk).1)); clear g1 g2 g3)))
      go_roundw
      case rel => exact ⟨k + 1, ((l ++ allE s.e) ++ allS s.th) ++ allS s.el, by omega, by go_num, by rw [← HL.out, HST.out, allT_eq]; simp only [List.append_assoc], HO9.out, HB9.out⟩
      case measure => simp [intOf]; omega
    · have hk' : k = ss.length := by omega
      subst hk'
      have hl := HL.out
      rw [List.drop_length, allS_nil, List.append_nil] at hl
      have HL2 := Lib.hid hl
      clear hl
      go_wp2_with fail
      go_ret
      exact ⟨_, rfl, HL2.out ▸ HO.out, HB.out⟩
theorem callsOf_any (ss : List PStmt) (hlen : ss.length ≤ 30) (h : ∀ s ∈ ss, SmS s) : CallsOf ss := by
  have each : ∀ s : PStmt, SmS s → CallsOf s.th ∧ CallsOf s.el := by
    intro s
    induction s using PStmt.ind with
    | h s iht ihl =>
      intro hsm
      exact ⟨callsOf_list s.th hsm.lenT (fun k hk => (hsm.kidT k hk).expr) (fun k hk => iht k hk (hsm.kidT k hk)), callsOf_list s.el hsm.lenL (fun k hk => (hsm.kidL k hk).expr) (fun k hk => ihl k hk (hsm.kidL k hk))⟩
  exact callsOf_list ss hlen (fun s hs => (h s hs).expr) (fun s hs => each s (h s hs))
theorem allK_len : ∀ (ks : List PExpr), (∀ k ∈ ks, (allE k).length ≤ cntE k) → (allK ks).length ≤ cntK ks := by
  intro ks
  induction ks with
  | nil => intro _; rw [allK_nil]; simp
  | cons k ks ih =>
    intro h
    have h1 := h k (by simp)
    have h2 := ih fun x hx => h x (by simp [hx])
    rw [allK_cons, cntK_cons, List.length_append]; omega
theorem allE_len : ∀ e : PExpr, (allE e).length ≤ cntE e := by
  intro e
  induction e using PExpr.ind with
  | h e ih =>
    have h1 := allK_len e.kids ih
    rw [allE_eq, cntE_eq, List.length_append]
    split <;> simp <;> omega
theorem allS_len' : ∀ (ss : List PStmt), (∀ s ∈ ss, (allT s).length ≤ cntT s) → (allS ss).length ≤ cntS ss := by
  intro ss
  induction ss with
  | nil => intro _; rw [allS_nil]; simp
  | cons k ks ih =>
    intro h
    have h1 := h k (by simp)
    have h2 := ih fun x hx => h x (by simp [hx])
    rw [allS_cons, cntS_cons, List.length_append]; omega
theorem allT_len : ∀ s : PStmt, (allT s).length ≤ cntT s := by
  intro s
  induction s using PStmt.ind with
  | h s iht ihl =>
    have h1 := allS_len' s.th iht
    have h2 := allS_len' s.el ihl
    have h3 := allE_len s.e
    rw [allT_eq, cntT_eq, List.length_append, List.length_append]; omega
theorem allS_len (ss : List PStmt) : (allS ss).length ≤ cntS ss := allS_len' ss fun s _ => allT_len s
def dedup (l : List Nm) : List Nm := l.foldl pushN []
theorem dedup_step {l : List Nm} {k : Nat} (h : k < l.length) : dedup (l.take (k + 1)) = pushN (dedup (l.take k)) l[k] := by
  unfold dedup
  rw [List.take_succ_eq_append_getElem h, List.foldl_append]; rfl
theorem dedup_len : ∀ (l xs : List Nm), (l.foldl pushN xs).length ≤ xs.length + l.length := by
  intro l
  induction l with
  | nil => intro xs; simp
  | cons x l ih =>
    intro xs
    have h1 := ih (pushN xs x)
    have h2 := pushN_len xs x
    simp only [List.foldl_cons, List.length_cons]; omega
set_option maxHeartbeats 4000000 in
set_option maxRecDepth 100000 in
theorem CallsOf_any (f : PFun) (hsm : SmF f) (hz : szS f.body 0 < 1000) (S : Nat → Prop) (P : Option Addr) (p : Nat) (B : Option Addr) (c : Nat) (w : World) (hB : RdS w S f.body B) :
    Calls Tryz.prog 15 #[funV f P p B c] w (RetT (callsP f) w) := by
  have hn := allS_len f.body
  have hn2 := cntB_le hz
  have hb0 : Below w.heap.size w (w.alloc (rfunO f P p B c)) := grow_alloc (grow_refl _) _
  have HB0 := Lib.hid hb0
  have HBK := Lib.hid (heap_alloc_new w (rfunO f P p B c))
  have HVI : Hid (∀ w', Below w.heap.size w w' → Calls Tryz.prog 37 #[.slice B f.body.length c] w' fun e w'' => ∃ v, e = .returned v ∧ w''.ownsRow w'.heap.size 9 1 v (allS f.body).length (strVs (allS f.body)) ∧ Below w'.heap.size w' w'') := fun w' hb =>
    callsOf_any f.body hsm.body hsm.stmts S B c w' (hB.keep ((Keeps.of_below hb).in S) (fun _ h => h)) (by omega)
  have HE : Hid (callsP f = dedup (allS f.body)) := show _ = _ from callsP_fold f
  obtain ⟨al, hal⟩ : ∃ al, allS f.body = al := ⟨_, rfl⟩
  rw [hal] at hn HVI HE
  have hlv : al.length ≤ 1000 := by omega
  clear hB hb0 hn hn2 hsm hal
  unfold funV
  unfold rfunO at *
  go_enter Tryz.func15, Tryz.ntmps15
  go_wp2_with (go_at_call 37; (with_reducible refine (HVI.out _ HB0.out).mono ?_); rintro y w2 ⟨v2, rfl, ho2, hb2⟩; obtain ⟨A2, c2, rfl, hr2, hcap2⟩ := owns_Row ho2; have HR2 := Lib.hid hr2; have HB2 := Lib.hid (grow_trans HB0.out hb2); clear ho2 hb2 hr2)
  go_loopw [4, 5] (fun v i wr => ∃ (k : Nat), k ≤ al.length ∧ i = .int .i64 k ∧ wr.ownsRow w2.heap.size 9 1 v (dedup (al.take k)).length (strVs (dedup (al.take k))) ∧ Below w2.heap.size w2 wr) (fun _ i _ => al.length - (intOf i).toNat)
  case atStart => exact ⟨0, Nat.zero_le _, rfl, World.ownsRow_nil _ _ _ _, Below.refl _ _⟩
  case round =>
    obtain ⟨k, hk, rfl, hown, hbel⟩ := hrel
    obtain ⟨A1, c1, rfl, hrow, -⟩ := owns_Row hown
    have hdl : (dedup (al.take k)).length ≤ 1000 := by have := dedup_len (al.take k) []; rw [List.length_take] at this; simp at this; unfold dedup; omega
    have HO := Lib.hid hown
    have HB := Lib.hid hbel
    have hbz := hbel.size
    have HRW := Lib.hid hrow
    clear hown hbel hrow
    by_cases hlt : k < al.length
    · obtain ⟨b, off, rfl, hc⟩ := (HR2.out.keep (Keeps.of_below HB.out)) k _ (strVs_get hlt)
      have hlt' : (k : Int) < (al.length : Int) := by omega
      have hst := dedup_step hlt
      obtain ⟨x, hx⟩ : ∃ x, al[k] = x := ⟨_, rfl⟩
      rw [hx] at hc hst
      obtain ⟨dl, hdl2⟩ : ∃ dl, dedup (al.take k) = dl := ⟨_, rfl⟩
      rw [hdl2] at hdl HO hst HRW
      rw [hdl2]
      have HIN := Lib.hid (isin_any dl x A1 c1 wr HRW.out (by omega))
      have HD2 := Lib.hid hdl2
      clear hx hdl2
      cases hcn : dl.contains x
      · rw [hcn] at HIN
        have HS : Hid (dedup (al.take (k + 1)) = dl ++ [x]) := show _ = _ by rw [hst]; unfold pushN; rw [hcn]; rfl
        have HNW : Hid (Row (wr.alloc (.cells #[.string (mkB x)] 9)) (some ⟨wr.heap.size, 0, none⟩) (strVs [x])) := Row.new wr (strVs [x]).toArray 9
        clear hcn hst
        go_wp2_with (first
          | (go_at_call 38; (with_reducible refine HIN.out.mono ?_); rintro y w3 ⟨rfl, rfl⟩)
          | (at_builtin; (refine wpList_append_strs rfl _ _ rfl w2.heap.size _ dl [x] rfl (HO.out.alloc _) (some ⟨_, 0, none⟩) 1 rfl HNW.out (by simp; omega) (by simp; omega) ?_; intro A3 n3 c3' w3 g1 g2 g3; have HO3 := Lib.hid g1; have HB3 := Lib.hid (Below.grown (HB.out.alloc hbz (.cells #[.string (mkB x)] 9)) g2 (by simp; omega) (fun k hk => (HO.out.lt k hk).1)); clear g1 g2 g3)))
        go_roundw
        case rel => exact ⟨k + 1, by omega, by go_num, by rw [HS.out]; exact HO3.out, HB3.out⟩
        case measure => simp [intOf]; omega
      · rw [hcn] at HIN
        have HS : Hid (dedup (al.take (k + 1)) = dl) := show _ = _ by rw [hst]; unfold pushN; rw [hcn]; rfl
        clear hcn hst
        go_wp2_with (go_at_call 38; (with_reducible refine HIN.out.mono ?_); rintro y w3 ⟨rfl, rfl⟩)
        go_roundw
        case rel => exact ⟨k + 1, by omega, by go_num, by rw [HS.out]; exact HO.out, HB.out⟩
        case measure => simp [intOf]; omega
    · have hk' : k = al.length := by omega
      subst hk'
      have HF : Hid (callsP f = dedup (al.take al.length)) := show _ = _ by rw [HE.out, List.take_length]
      obtain ⟨A4, c4, e4, hr4, hc4⟩ := owns_Row HO.out
      injection e4 with e5 _ e6
      subst e5; subst e6
      have HC4 := Lib.hid hc4
      clear hr4 hc4
      go_wp2_with fail
      go_ret
      refine ⟨A1, c1, ?_, ?_, ?_, grow_trans HB2.out HB.out⟩
      · rw [HE.out]; rfl
      · rw [HF.out]; exact HRW.out
      · rw [HF.out]; exact HC4.out
end Go.Proofs.YteifmgcbafemeaaGreatDoor
