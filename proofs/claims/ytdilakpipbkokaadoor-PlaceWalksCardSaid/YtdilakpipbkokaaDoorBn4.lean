import Derived.LaidEql
import Derived.Stop.Asserts
import Derived.RowKitTokens
import Derived.Test.YtdilakpipbkokaaDoorBn3
set_option linter.unusedVariables false
set_option linter.unusedSimpArgs false
namespace Go.Proofs.YtdilakpipbkokaaDoor
open Go.RowKit Go.Extern.Stop Go.Stop Go.Extern

theorem isTypeOf (v : Value) (w : World) : (Extern.ReflectliteType.typeOf #[.iface 148 v]).run Tryd.prog w = .ok (.iface 128 (.agg #[.pointer (some ⟨11, 148, none⟩)])) w := by kernel_rfl
theorem isComparable (w : World) : ((Extern.ReflectliteType.method fun t => do Rtype.noPackHeld "Comparable" t; pure (.bool (← typeInfo t).comparable)) #[.agg #[.pointer (some ⟨11, 148, none⟩)]]).run Tryd.prog w = .ok (.bool true) w := by kernel_rfl
theorem isMethodComparable (v : Value) (w : World) : (Go.method 281 128 v "Comparable").run Tryd.prog w = .ok (100, v) w := by kernel_rfl
theorem callTypeOf (v : Value) (w : World) : (callFunc 47 #[.iface 148 v]).run Tryd.prog w = .ok (.value (.iface 128 (.agg #[.pointer (some ⟨11, 148, none⟩)]))) w := by
  rw [@run_callFunc_extern Tryd.prog 47 _ Extern.ReflectliteType.typeOf Tryd.func47 (by kernel_rfl) (by kernel_rfl) (by kernel_rfl) (by kernel_rfl), isTypeOf]
  rfl
theorem callComparable (w : World) : (callFunc 100 #[.agg #[.pointer (some ⟨11, 148, none⟩)]]).run Tryd.prog w = .ok (.value (.bool true)) w := by
  rw [@run_callFunc_extern Tryd.prog 100 _ (Extern.ReflectliteType.method fun t => do Rtype.noPackHeld "Comparable" t; pure (.bool (← typeInfo t).comparable)) Tryd.func100 (by kernel_rfl) (by kernel_rfl) (by kernel_rfl) (by kernel_rfl), isComparable]
  rfl
theorem isComp : (Tryd.prog.info? 148).map (·.comparable) = some true := by kernel_rfl
theorem isSize : (Tryd.prog.info? 169).map (·.size) = some 1 := by kernel_rfl
theorem noIsE (v : Value) (xT : TypeId) (w : World) : (Instr.typeAssert (.iface 148 v) xT 139 true).run Tryd.prog w = .ok (.tuple #[.nilIface, .bool false]) w := run_typeAssert_lacksB Tryd.underlying139 (by kernel_rfl) (by kernel_rfl) v xT w
theorem noUnwrapE (v : Value) (xT : TypeId) (w : World) : (Instr.typeAssert (.iface 148 v) xT 135 true).run Tryd.prog w = .ok (.tuple #[.nilIface, .bool false]) w := run_typeAssert_lacksB Tryd.underlying135 (by kernel_rfl) (by kernel_rfl) v xT w
theorem noUnwrapsE (v : Value) (xT : TypeId) (w : World) : (Instr.typeAssert (.iface 148 v) xT 137 true).run Tryd.prog w = .ok (.tuple #[.nilIface, .bool false]) w := run_typeAssert_lacksB Tryd.underlying137 (by kernel_rfl) (by kernel_rfl) v xT w
theorem noIsF (v : Value) (xT : TypeId) (w : World) : (Instr.typeAssert (.iface 71 v) xT 139 true).run Tryd.prog w = .ok (.tuple #[.nilIface, .bool false]) w := run_typeAssert_lacksB Tryd.underlying139 (by kernel_rfl) (by kernel_rfl) v xT w
theorem hasUnwrapF (v : Value) (xT : TypeId) (w : World) : (Instr.typeAssert (.iface 71 v) xT 135 true).run Tryd.prog w = .ok (.tuple #[.iface 71 v, .bool true]) w := run_typeAssert_hasB Tryd.underlying135 (by kernel_rfl) v xT w
theorem methodUnwrapF (v : Value) (w : World) : (Go.method 281 71 v "Unwrap").run Tryd.prog w = .ok (94, v) w := by kernel_rfl

/-- A sentinel's value. -/
abbrev esV (a : Addr) : Value := .iface 148 (.pointer (some a))
abbrev ftV (a : Addr) : Value := .iface 71 (.pointer (some a))
/-- A block of plain cells. -/
def Plain (w : World) (a : Addr) : Prop := ∃ c t, w.heap[a.block]? = some (.cells c t (0, 0))

theorem is_same (a : Addr) (w : World) :
    Calls Tryd.prog 31 #[esV a, esV a] w fun e w' => e = .returned (.bool true) ∧ w' = w := by
  obtain ⟨i, hi, hcmp⟩ := Option.map_eq_some_iff.1 isComp
  obtain ⟨j, hj, hjs⟩ := Option.map_eq_some_iff.1 isSize
  have h8 := callTypeOf
  have h32 := callComparable
  have mR := isMethodComparable
  have heq := run_eql_iface_ptr_same (P := Tryd.prog) w a Tryd.underlying38 Tryd.underlying148 hi hcmp hj
  go_enter Tryd.func31, Tryd.ntmps31
  go_wp2
  refine wp_loop_rounds 1 ?_
  rw [rounds_succ]
  go_wp2
  go_ret
  exact ⟨rfl, rfl⟩

theorem is_other (a b : Addr) (w : World) (hne : a ≠ b) (ha0 : Plain w a) (hb0 : Plain w b) :
    Calls Tryd.prog 31 #[esV a, esV b] w fun e w' => e = .returned (.bool false) ∧ w' = w := by
  obtain ⟨ca, ta, ha⟩ := ha0
  obtain ⟨cb, tb, hb⟩ := hb0
  obtain ⟨i, hi, hcmp⟩ := Option.map_eq_some_iff.1 isComp
  obtain ⟨j, hj, hjs⟩ := Option.map_eq_some_iff.1 isSize
  have h8 := callTypeOf
  have h32 := callComparable
  have mR := isMethodComparable
  have nE := noIsE
  have uE := noUnwrapE
  have vE := noUnwrapsE
  have heq := run_eql_iface_ptr_other (P := Tryd.prog) w Tryd.underlying38 Tryd.underlying148 hi hcmp hj (by rw [hjs]; decide) hne ha hb
  clear ha hb hne
  go_enter Tryd.func31, Tryd.ntmps31
  go_wp2
  refine wp_loop_rounds 1 ?_
  rw [rounds_succ]
  go_wp2
  go_ret
  exact ⟨rfl, rfl⟩

theorem is_fault_same (fb fo : Nat) (b : Addr) (w : World) (h1 : w.cell? ⟨fb, fo + 1, none⟩ = some (esV b)) :
    Calls Tryd.prog 31 #[ftV ⟨fb, fo, none⟩, esV b] w fun e w' => e = .returned (.bool true) ∧ w' = w := by
  obtain ⟨i, hi, hcmp⟩ := Option.map_eq_some_iff.1 isComp
  obtain ⟨j, hj, hjs⟩ := Option.map_eq_some_iff.1 isSize
  have h8 := callTypeOf
  have h32 := callComparable
  have mR := isMethodComparable
  have nE := noIsE
  have uE := noUnwrapE
  have vE := noUnwrapsE
  have nW := noIsF
  have uW := hasUnwrapF
  have mU := methodUnwrapF
  have heq := run_eql_iface_ptr_same (P := Tryd.prog) w b Tryd.underlying38 Tryd.underlying148 hi hcmp hj
  have hty := run_eql_iface_types (P := Tryd.prog) 71 148 (.pointer (some ⟨fb, fo, none⟩)) (.pointer (some b)) Tryd.underlying38 (by decide) w
  go_enter Tryd.func31, Tryd.ntmps31
  go_wp2
  refine wp_loop_rounds 2 ?_
  rw [rounds_succ]
  go_wp2
  rw [rounds_succ]
  go_wp2
  go_ret
  exact ⟨rfl, rfl⟩

theorem is_fault_other (fb fo : Nat) (a b : Addr) (w : World) (h1 : w.cell? ⟨fb, fo + 1, none⟩ = some (esV a)) (hne : a ≠ b) (ha0 : Plain w a) (hb0 : Plain w b) :
    Calls Tryd.prog 31 #[ftV ⟨fb, fo, none⟩, esV b] w fun e w' => e = .returned (.bool false) ∧ w' = w := by
  obtain ⟨ca, ta, ha⟩ := ha0
  obtain ⟨cb, tb, hb⟩ := hb0
  obtain ⟨i, hi, hcmp⟩ := Option.map_eq_some_iff.1 isComp
  obtain ⟨j, hj, hjs⟩ := Option.map_eq_some_iff.1 isSize
  have h8 := callTypeOf
  have h32 := callComparable
  have mR := isMethodComparable
  have nE := noIsE
  have uE := noUnwrapE
  have vE := noUnwrapsE
  have nW := noIsF
  have uW := hasUnwrapF
  have mU := methodUnwrapF
  have heq := run_eql_iface_ptr_other (P := Tryd.prog) w Tryd.underlying38 Tryd.underlying148 hi hcmp hj (by rw [hjs]; decide) hne ha hb
  have hty := run_eql_iface_types (P := Tryd.prog) 71 148 (.pointer (some ⟨fb, fo, none⟩)) (.pointer (some b)) Tryd.underlying38 (by decide) w
  clear ha hb hne
  go_enter Tryd.func31, Tryd.ntmps31
  go_wp2
  refine wp_loop_rounds 2 ?_
  rw [rounds_succ]
  go_wp2
  rw [rounds_succ]
  go_wp2
  go_ret
  exact ⟨rfl, rfl⟩
end Go.Proofs.YtdilakpipbkokaaDoor

namespace Go.Proofs.YtdilakpipbkokaaDoor
open Go.RowKit Go.Extern.Stop Go.Stop Go.Extern

abbrev hdl (t : Nat) : Value := .pointer (some ⟨11, t, none⟩)
abbrev rtV (t : Nat) : Value := .iface 128 (.agg #[hdl t])
abbrev ptV (a : Addr) : Value := .agg #[hdl 89, .pointer (some a), .int .u64 150]

theorem valueOfPP (t : Addr) (w : World) : (ReflectliteValue.unpack (.iface 89 (.pointer (some t)))).run Tryd.prog w = .ok (ptV ⟨w.heap.size, 0, none⟩) (w.alloc (.cells #[.pointer (some t)] 89)) := by kernel_rfl
theorem callValueOfPP (t : Addr) (w : World) : (callFunc 43 #[.iface 89 (.pointer (some t))]).run Tryd.prog w = .ok (.value (ptV ⟨w.heap.size, 0, none⟩)) (w.alloc (.cells #[.pointer (some t)] 89)) := by
  rw [@run_callFunc_extern Tryd.prog 43 _ (fun args => ReflectliteValue.unpack (args.getD 0 (.tuple #[]))) Tryd.func43 (by kernel_rfl) (by kernel_rfl) (by kernel_rfl) (by kernel_rfl)]
  rw [show (#[Value.iface 89 (.pointer (some t))].getD 0 (Value.tuple #[])) = Value.iface 89 (.pointer (some t)) from rfl, valueOfPP]
  rfl
theorem typePP (a : Addr) (w : World) : (ReflectliteValue.methodAny (ReflectliteValue.valueError "reflectlite.Value.Type" 0) (fun t _ _ _ => ReflectliteType.toType t) #[ptV a]).run Tryd.prog w = .ok (rtV 89) w := by kernel_rfl
theorem callTypePP (a : Addr) (w : World) : (callFunc 44 #[ptV a]).run Tryd.prog w = .ok (.value (rtV 89)) w := by
  rw [@run_callFunc_extern Tryd.prog 44 _ (ReflectliteValue.methodAny (ReflectliteValue.valueError "reflectlite.Value.Type" 0) (fun t _ _ _ => ReflectliteType.toType t)) Tryd.func44 (by kernel_rfl) (by kernel_rfl) (by kernel_rfl) (by kernel_rfl), typePP]
  rfl
theorem methodKind (h : Value) (w : World) : (Go.method 281 128 (.agg #[h]) "Kind").run Tryd.prog w = .ok (90, h) w := by kernel_rfl
theorem kindPP (w : World) : ((ReflectliteType.abiMethod fun t => do pure (.int .u8 (← Rtype.kind t))) #[hdl 89]).run Tryd.prog w = .ok (.int .u8 22) w := by kernel_rfl
theorem kindP (w : World) : ((ReflectliteType.abiMethod fun t => do pure (.int .u8 (← Rtype.kind t))) #[hdl 71]).run Tryd.prog w = .ok (.int .u8 22) w := by kernel_rfl
theorem callKindPP (w : World) : (callFunc 90 #[hdl 89]).run Tryd.prog w = .ok (.value (.int .u8 22)) w := by
  rw [@run_callFunc_extern Tryd.prog 90 _ (ReflectliteType.abiMethod fun t => do pure (.int .u8 (← Rtype.kind t))) Tryd.func90 (by kernel_rfl) (by kernel_rfl) (by kernel_rfl) (by kernel_rfl), kindPP]
  rfl
theorem callKindP (w : World) : (callFunc 90 #[hdl 71]).run Tryd.prog w = .ok (.value (.int .u8 22)) w := by
  rw [@run_callFunc_extern Tryd.prog 90 _ (ReflectliteType.abiMethod fun t => do pure (.int .u8 (← Rtype.kind t))) Tryd.func90 (by kernel_rfl) (by kernel_rfl) (by kernel_rfl) (by kernel_rfl), kindP]
  rfl
theorem rlm (z : Sem Value) (f : TypeId → Addr → Nat → Nat → Sem Value) (v : Value) :
    ReflectliteValue.method z f #[v] = (do match ← ReflectliteValue.parts v with | none => z | some (t, a, fl) => f t a fl (fl % 32)) := rfl
theorem partsPP (a : Addr) (w : World) : (ReflectliteValue.parts (ptV a)).run Tryd.prog w = .ok (some (89, a, 150)) w := by kernel_rfl
theorem isNilPP (a p : Addr) (W : World) (ha : W.cell? a = some (.pointer (some p))) :
    (ReflectliteValue.method (ReflectliteValue.valueError "reflectlite.Value.IsNil" 0) ReflectliteValue.isNil #[ptV a]).run Tryd.prog W = .ok (.bool false) W := by
  rw [rlm]
  simp only [Sem.run_bind, partsPP, Result.andThen]
  simp [ReflectliteValue.isNil, loadVar, isAgg, underlying, Tryd.underlying89, ha, Result.andThen]
theorem callIsNilPP (a p : Addr) (W : World) (ha : W.cell? a = some (.pointer (some p))) : (callFunc 45 #[ptV a]).run Tryd.prog W = .ok (.value (.bool false)) W := by
  rw [@run_callFunc_extern Tryd.prog 45 _ (ReflectliteValue.method (ReflectliteValue.valueError "reflectlite.Value.IsNil" 0) ReflectliteValue.isNil) Tryd.func45 (by kernel_rfl) (by kernel_rfl) (by kernel_rfl) (by kernel_rfl), isNilPP a p W ha]
  rfl
theorem methodElem (h : Value) (w : World) : (Go.method 281 128 (.agg #[h]) "Elem").run Tryd.prog w = .ok (101, .agg #[h]) w := by kernel_rfl
theorem methodImplements (h : Value) (w : World) : (Go.method 281 128 (.agg #[h]) "Implements").run Tryd.prog w = .ok (102, .agg #[h]) w := by kernel_rfl
theorem methodAssignableTo (h : Value) (w : World) : (Go.method 281 128 (.agg #[h]) "AssignableTo").run Tryd.prog w = .ok (99, .agg #[h]) w := by kernel_rfl
theorem elemPP (w : World) : (ReflectliteType.method ReflectliteType.elem #[.agg #[hdl 89]]).run Tryd.prog w = .ok (rtV 71) w := by kernel_rfl
theorem callElemPP (w : World) : (callFunc 101 #[.agg #[hdl 89]]).run Tryd.prog w = .ok (.value (rtV 71)) w := by
  rw [@run_callFunc_extern Tryd.prog 101 _ (ReflectliteType.method ReflectliteType.elem) Tryd.func101 (by kernel_rfl) (by kernel_rfl) (by kernel_rfl) (by kernel_rfl), elemPP]
  rfl
theorem implementsP (w : World) : (ReflectliteType.relation "Implements" ReflectliteType.implements_ #[.agg #[hdl 71], rtV 38]).run Tryd.prog w = .ok (.bool true) w := by kernel_rfl
theorem callImplementsP (w : World) : (callFunc 102 #[.agg #[hdl 71], rtV 38]).run Tryd.prog w = .ok (.value (.bool true)) w := by
  rw [@run_callFunc_extern Tryd.prog 102 _ (ReflectliteType.relation "Implements" ReflectliteType.implements_) Tryd.func102 (by kernel_rfl) (by kernel_rfl) (by kernel_rfl) (by kernel_rfl), implementsP]
  rfl
theorem typeOfP (v : Value) (w : World) : (ReflectliteType.typeOf #[.iface 71 v]).run Tryd.prog w = .ok (rtV 71) w := by kernel_rfl
theorem callTypeOfP (v : Value) (w : World) : (callFunc 47 #[.iface 71 v]).run Tryd.prog w = .ok (.value (rtV 71)) w := by
  rw [@run_callFunc_extern Tryd.prog 47 _ Extern.ReflectliteType.typeOf Tryd.func47 (by kernel_rfl) (by kernel_rfl) (by kernel_rfl) (by kernel_rfl), typeOfP]
  rfl
theorem assignableP (w : World) : (ReflectliteType.relation "AssignableTo" ReflectliteType.assignableTo #[.agg #[hdl 71], rtV 71]).run Tryd.prog w = .ok (.bool true) w := by kernel_rfl
theorem assignableE (w : World) : (ReflectliteType.relation "AssignableTo" ReflectliteType.assignableTo #[.agg #[hdl 148], rtV 71]).run Tryd.prog w = .ok (.bool false) w := by kernel_rfl
theorem callAssignableP (w : World) : (callFunc 99 #[.agg #[hdl 71], rtV 71]).run Tryd.prog w = .ok (.value (.bool true)) w := by
  rw [@run_callFunc_extern Tryd.prog 99 _ (ReflectliteType.relation "AssignableTo" ReflectliteType.assignableTo) Tryd.func99 (by kernel_rfl) (by kernel_rfl) (by kernel_rfl) (by kernel_rfl), assignableP]
  rfl
theorem callAssignableE (w : World) : (callFunc 99 #[.agg #[hdl 148], rtV 71]).run Tryd.prog w = .ok (.value (.bool false)) w := by
  rw [@run_callFunc_extern Tryd.prog 99 _ (ReflectliteType.relation "AssignableTo" ReflectliteType.assignableTo) Tryd.func99 (by kernel_rfl) (by kernel_rfl) (by kernel_rfl) (by kernel_rfl), assignableE]
  rfl
theorem valueOfP (e : Addr) (w : World) : (ReflectliteValue.unpack (.iface 71 (.pointer (some e)))).run Tryd.prog w
    = .ok (.agg #[hdl 71, .pointer (some ⟨w.heap.size, 0, none⟩), .int .u64 150]) (w.alloc (.cells #[.pointer (some e)] 71)) := by kernel_rfl
theorem callValueOfP (e : Addr) (w : World) : (callFunc 43 #[.iface 71 (.pointer (some e))]).run Tryd.prog w
    = .ok (.value (.agg #[hdl 71, .pointer (some ⟨w.heap.size, 0, none⟩), .int .u64 150])) (w.alloc (.cells #[.pointer (some e)] 71)) := by
  rw [@run_callFunc_extern Tryd.prog 43 _ (fun args => ReflectliteValue.unpack (args.getD 0 (.tuple #[]))) Tryd.func43 (by kernel_rfl) (by kernel_rfl) (by kernel_rfl) (by kernel_rfl)]
  rw [show (#[Value.iface 71 (.pointer (some e))].getD 0 (Value.tuple #[])) = Value.iface 71 (.pointer (some e)) from rfl, valueOfP]
  rfl
theorem elemOfPP (w : World) : (Rtype.elem? 89).run Tryd.prog w = .ok (some 71) w := by kernel_rfl
theorem mkP (p : Addr) (w : World) : (ReflectliteValue.mk 71 p ReflectliteValue.flagAddr).run Tryd.prog w = .ok (.agg #[hdl 71, .pointer (some p), .int .u64 406]) w := by kernel_rfl
theorem elemVPP (a p : Addr) (W : World) (ha : W.cell? a = some (.pointer (some p))) :
    (ReflectliteValue.method (ReflectliteValue.valueError "reflectlite.Value.Elem" 0) ReflectliteValue.elem #[ptV a]).run Tryd.prog W = .ok (.agg #[hdl 71, .pointer (some p), .int .u64 406]) W := by
  rw [rlm]
  simp only [Sem.run_bind, partsPP, Result.andThen]
  simp [ReflectliteValue.elem, loadVar, isAgg, underlying, Tryd.underlying89, ha, Result.andThen, elemOfPP, mkP]
theorem callElemVPP (a p : Addr) (W : World) (ha : W.cell? a = some (.pointer (some p))) : (callFunc 67 #[ptV a]).run Tryd.prog W = .ok (.value (.agg #[hdl 71, .pointer (some p), .int .u64 406])) W := by
  rw [@run_callFunc_extern Tryd.prog 67 _ (ReflectliteValue.method (ReflectliteValue.valueError "reflectlite.Value.Elem" 0) ReflectliteValue.elem) Tryd.func67 (by kernel_rfl) (by kernel_rfl) (by kernel_rfl) (by kernel_rfl), elemVPP a p W ha]
  rfl
theorem rls (v x : Value) : ReflectliteValue.set #[v, x] = (do
    let (some (dst, a, fl), some (src, b, _)) := (← ReflectliteValue.parts v, ← ReflectliteValue.parts x)
      | unsupported (.noEntry "extern/(internal/reflectlite.Value).Set.zeroValue")
    if fl / ReflectliteValue.flagAddr % 2 == 0 then unsupported (.noEntry "extern/(internal/reflectlite.Value).Set.unaddressable")
    let val ← loadVar src b
    if ← Rtype.directlyAssignable dst src then storeVar dst a val
    else if ← Rtype.implements dst src then
      if (← Rtype.kind src) == 20 then
        match val with
        | .nilIface => unsupported (.noEntry "extern/reflectlite: a nil value of one interface type handed on as a value of another")
        | _ => storeVar dst a val
      else storeVar dst a (.iface src val)
    else panicString ("reflectlite.Set: value of type " ++ (← Rtype.spelt src) ++ " is not assignable to type " ++ (← Rtype.spelt dst))
    pure (.tuple #[])) := rfl
theorem partsPa (a : Addr) (w : World) : (ReflectliteValue.parts (.agg #[hdl 71, .pointer (some a), .int .u64 406])).run Tryd.prog w = .ok (some (71, a, 406)) w := by kernel_rfl
theorem partsP (a : Addr) (w : World) : (ReflectliteValue.parts (.agg #[hdl 71, .pointer (some a), .int .u64 150])).run Tryd.prog w = .ok (some (71, a, 150)) w := by kernel_rfl
theorem directP (w : World) : (Rtype.directlyAssignable 71 71).run Tryd.prog w = .ok true w := by kernel_rfl
theorem setP (ta b e : Addr) (old : Value) (W : World) (hb : W.cell? b = some (.pointer (some e))) (ht : W.cell? ta = some old) (hf : W.frozen? ta = false) :
    (ReflectliteValue.set #[.agg #[hdl 71, .pointer (some ta), .int .u64 406], .agg #[hdl 71, .pointer (some b), .int .u64 150]]).run Tryd.prog W = .ok (.tuple #[]) (W.setCell ta (.pointer (some e))) := by
  rw [rls]
  simp only [Sem.run_bind, partsPa, partsP, Result.andThen]
  simp [ReflectliteValue.flagAddr, loadVar, isAgg, underlying, Tryd.underlying71, hb, Result.andThen, directP, storeVar, Value.cells, storeCells, Addr.add]
  rw [run_store Tryd.prog W ta _ _ (by rfl)]
  simp [ht, hf]
theorem callSetP (ta b e : Addr) (old : Value) (W : World) (hb : W.cell? b = some (.pointer (some e))) (ht : W.cell? ta = some old) (hf : W.frozen? ta = false) :
    (callFunc 68 #[.agg #[hdl 71, .pointer (some ta), .int .u64 406], .agg #[hdl 71, .pointer (some b), .int .u64 150]]).run Tryd.prog W = .ok (.value (.tuple #[])) (W.setCell ta (.pointer (some e))) := by
  rw [@run_callFunc_extern Tryd.prog 68 _ ReflectliteValue.set Tryd.func68 (by kernel_rfl) (by kernel_rfl) (by kernel_rfl) (by kernel_rfl), setP ta b e old W hb ht hf]
  rfl
theorem noAsE (v : Value) (xT : TypeId) (w : World) : (Instr.typeAssert (.iface 148 v) xT 132 true).run Tryd.prog w = .ok (.tuple #[.nilIface, .bool false]) w := run_typeAssert_lacksB Tryd.underlying132 (by kernel_rfl) (by kernel_rfl) v xT w
end Go.Proofs.YtdilakpipbkokaaDoor

namespace Go.Proofs.YtdilakpipbkokaaDoor
open Go.RowKit Go.Extern.Stop Go.Stop Go.Extern

/-- What errors.As lays: a copy of the target's pointer, and reflectlite's Value of it twice. -/
def asW (t : Addr) (w : World) : World := ((w.alloc (.cells #[.pointer (some t)] 89)).alloc (.cells #[hdl 89, .pointer (some ⟨w.heap.size, 0, none⟩), .int .u64 150] 102)).alloc (.cells #[hdl 89, .pointer (some ⟨w.heap.size, 0, none⟩), .int .u64 150] 102)
theorem asW_size (t : Addr) (w : World) : (asW t w).heap.size = w.heap.size + 3 := by unfold asW; simp
theorem asW_old (t : Addr) (w : World) (a : Addr) (h : a.block < w.heap.size) : (asW t w).cell? a = w.cell? a := by
  unfold asW
  rw [World.cell?_alloc_lt _ _ a (by simp; omega), World.cell?_alloc_lt _ _ a (by simp; omega), World.cell?_alloc_lt _ _ a h]

set_option maxHeartbeats 4000000 in
theorem as_miss (a t : Addr) (w : World) (hg : w.cell? ⟨10, 0, none⟩ = some (rtV 38)) :
    Calls Tryd.prog 30 #[esV a, .iface 89 (.pointer (some t))] w fun ev w' => ev = .returned (.bool false) ∧ w' = asW t w := by
  have hlt : 10 < w.heap.size := World.block_lt_of_cell? w _ hg
  have c1 := callValueOfPP
  have c2 := callTypePP
  have m1 := methodKind
  have c3 := callKindPP
  have c4 := callKindP
  have m2 := methodElem
  have m3 := methodImplements
  have m4 := methodAssignableTo
  have c5 := callElemPP
  have c6 := callImplementsP
  have c7 := callTypeOf
  have c8 := callAssignableE
  have nA := noAsE
  have uE := noUnwrapE
  have vE := noUnwrapsE
  have n8 := callIsNilPP ⟨w.heap.size, 0, none⟩ t ((w.alloc (.cells #[.pointer (some t)] 89)).alloc (.cells #[hdl 89, .pointer (some ⟨w.heap.size, 0, none⟩), .int .u64 150] 102)) (by simp)
  have hg2 : ((w.alloc (.cells #[.pointer (some t)] 89)).alloc (.cells #[hdl 89, .pointer (some ⟨w.heap.size, 0, none⟩), .int .u64 150] 102)).cell? ⟨10, 0, none⟩ = some (rtV 38) := by
    rw [World.cell?_alloc_lt _ _ _ (by simp; omega), World.cell?_alloc_lt _ _ _ hlt]; exact hg
  clear hg
  go_enter Tryd.func30, Tryd.ntmps30
  go_wp2
  refine wp_loop_rounds 1 ?_
  rw [rounds_succ]
  go_wp2
  go_ret
  exact ⟨rfl, rfl⟩

set_option maxHeartbeats 4000000 in
theorem as_hit (e t : Addr) (old : Value) (w : World) (hg : w.cell? ⟨10, 0, none⟩ = some (rtV 38)) (ht0 : w.cell? t = some old) (hf0 : w.frozen? t = false) :
    Calls Tryd.prog 30 #[ftV e, .iface 89 (.pointer (some t))] w fun ev w' => ev = .returned (.bool true) ∧ w' = ((asW t w).alloc (.cells #[.pointer (some e)] 71)).setCell t (.pointer (some e)) := by
  have hlt : 10 < w.heap.size := World.block_lt_of_cell? w _ hg
  have htl := World.block_lt_of_cell? w _ ht0
  have c1 := callValueOfPP
  have c2 := callTypePP
  have m1 := methodKind
  have c3 := callKindPP
  have c4 := callKindP
  have m2 := methodElem
  have m3 := methodImplements
  have m4 := methodAssignableTo
  have c5 := callElemPP
  have c6 := callImplementsP
  have c7 := callTypeOfP
  have c8 := callAssignableP
  have c9 := callValueOfP
  have n8 := callIsNilPP ⟨w.heap.size, 0, none⟩ t ((w.alloc (.cells #[.pointer (some t)] 89)).alloc (.cells #[hdl 89, .pointer (some ⟨w.heap.size, 0, none⟩), .int .u64 150] 102)) (by simp)
  have hg2 : ((w.alloc (.cells #[.pointer (some t)] 89)).alloc (.cells #[hdl 89, .pointer (some ⟨w.heap.size, 0, none⟩), .int .u64 150] 102)).cell? ⟨10, 0, none⟩ = some (rtV 38) := by
    rw [World.cell?_alloc_lt _ _ _ (by simp; omega), World.cell?_alloc_lt _ _ _ hlt]; exact hg
  have el := callElemVPP ⟨w.heap.size, 0, none⟩ t (((w.alloc (.cells #[.pointer (some t)] 89)).alloc (.cells #[hdl 89, .pointer (some ⟨w.heap.size, 0, none⟩), .int .u64 150] 102)).alloc (.cells #[hdl 89, .pointer (some ⟨w.heap.size, 0, none⟩), .int .u64 150] 102)) (by rw [World.cell?_alloc_lt _ _ ⟨w.heap.size, 0, none⟩ (by simp; omega)]; simp)
  have st := callSetP t ⟨w.heap.size + 1 + 1 + 1, 0, none⟩ e old ((((w.alloc (.cells #[.pointer (some t)] 89)).alloc (.cells #[hdl 89, .pointer (some ⟨w.heap.size, 0, none⟩), .int .u64 150] 102)).alloc (.cells #[hdl 89, .pointer (some ⟨w.heap.size, 0, none⟩), .int .u64 150] 102)).alloc (.cells #[.pointer (some e)] 71))
    (by rw [World.cell?_alloc_at _ _ _ _ (by simp)]; rfl)
    (by rw [World.cell?_alloc_lt _ _ t (by simp; omega), World.cell?_alloc_lt _ _ t (by simp; omega), World.cell?_alloc_lt _ _ t (by simp; omega), World.cell?_alloc_lt _ _ t htl]; exact ht0)
    (by rw [World.frozen?_alloc_old _ _ t (by simp; omega), World.frozen?_alloc_old _ _ t (by simp; omega), World.frozen?_alloc_old _ _ t (by simp; omega), World.frozen?_alloc_old _ _ t (Nat.ne_of_lt htl)]; exact hf0)
  clear hg ht0 hf0
  go_enter Tryd.func30, Tryd.ntmps30
  go_wp2
  refine wp_loop_rounds 1 ?_
  rw [rounds_succ]
  go_wp2
  go_ret
  exact ⟨rfl, rfl⟩
end Go.Proofs.YtdilakpipbkokaaDoor

namespace Go.Proofs.YtdilakpipbkokaaDoor
open Go.RowKit

/-- The call returns v; what was there is as it was. -/
def Ret (v : Value) (w : World) : Ending → World → Prop := fun e w' => e = .returned v ∧ Below w.heap.size w w'
theorem mkB_len (l : List UInt8) : (mkB l).size = l.length := rfl
end Go.Proofs.YtdilakpipbkokaaDoor

namespace Go.Proofs.YtdilakpipbkokaaDoor
open Go.RowKit Go.Extern.Stop Go.Stop Go.Extern

/-- What the laid package variables give in a world: the ten sentinels, unlike; errors' own handle. -/
structure Laid (E : Nat → Addr) (w : World) : Prop where
  c0 : w.cell? ⟨3, 0, none⟩ = some (esV (E 0))
  c1 : w.cell? ⟨4, 0, none⟩ = some (esV (E 1))
  c2 : w.cell? ⟨1, 0, none⟩ = some (esV (E 2))
  c3 : w.cell? ⟨5, 0, none⟩ = some (esV (E 3))
  c4 : w.cell? ⟨6, 0, none⟩ = some (esV (E 4))
  c5 : w.cell? ⟨7, 0, none⟩ = some (esV (E 5))
  c6 : w.cell? ⟨8, 0, none⟩ = some (esV (E 6))
  c7 : w.cell? ⟨0, 0, none⟩ = some (esV (E 7))
  c8 : w.cell? ⟨2, 0, none⟩ = some (esV (E 8))
  c9 : w.cell? ⟨9, 0, none⟩ = some (esV (E 9))
  et : w.cell? ⟨10, 0, none⟩ = some (rtV 38)
  ne : ∀ i j, i < 10 → j < 10 → i ≠ j → E i ≠ E j
  plain : ∀ i, i < 10 → Plain w (E i)
theorem Plain.lt {w : World} {a : Addr} (h : Plain w a) : a.block < w.heap.size := by
  obtain ⟨c, t, h⟩ := h
  exact (Array.getElem?_eq_some_iff.1 h).1
theorem Plain.keep {w w' : World} {a : Addr} (h : Plain w a) (hb : Below w.heap.size w w') : Plain w' a := by
  have hlt := h.lt
  obtain ⟨c, t, h⟩ := h
  exact ⟨c, t, (hb.block _ hlt).trans h⟩
theorem Laid.keep {E : Nat → Addr} {w w' : World} (h : Laid E w) (hb : Below w.heap.size w w') : Laid E w' :=
  have k := Keeps.of_below hb
  ⟨k _ _ h.c0, k _ _ h.c1, k _ _ h.c2, k _ _ h.c3, k _ _ h.c4, k _ _ h.c5, k _ _ h.c6, k _ _ h.c7, k _ _ h.c8, k _ _ h.c9, k _ _ h.et, h.ne, fun i hi => (h.plain i hi).keep hb⟩

theorem Code_nil (w : World) : Calls Tryd.prog 20 #[.nilIface] w (Quiet (.tuple #[.int .i64 0, .int .i64 (-1)]) w) := by
  go_enter Tryd.func20, Tryd.ntmps20
  go_wp2_with fail
  go_ret2
  exact Quiet.same

theorem asW_below (t : Addr) (w : World) : Below w.heap.size w (asW t w) := by
  unfold asW
  exact (((Below.refl _ _).alloc (Nat.le_refl _) _).alloc (by simp) _).alloc (by simp; omega) _
def codeW (w : World) : World := asW ⟨w.heap.size, 0, none⟩ (w.alloc (.cells #[.pointer none] 71))
theorem codeW_below (w : World) : Below w.heap.size w (codeW w) := by
  unfold codeW
  have h1 := asW_below ⟨w.heap.size, 0, none⟩ (w.alloc (.cells #[.pointer none] 71))
  exact ((Below.refl _ _).alloc (Nat.le_refl _) _).trans (h1.mono (by simp))
theorem sents_get (E : Nat → Addr) (k : Nat) (h : k < 10) : [esV (E 0), esV (E 1), esV (E 2), esV (E 3), esV (E 4), esV (E 5), esV (E 6), esV (E 7), esV (E 8), esV (E 9)][k]? = some (esV (E k)) := by
  rcases (by omega : k = 0 ∨ k = 1 ∨ k = 2 ∨ k = 3 ∨ k = 4 ∨ k = 5 ∨ k = 6 ∨ k = 7 ∨ k = 8 ∨ k = 9) with rfl | rfl | rfl | rfl | rfl | rfl | rfl | rfl | rfl | rfl <;> rfl

theorem code_miss (a : Addr) (w : World) (hg : (w.alloc (.cells #[.pointer none] 71)).cell? ⟨10, 0, none⟩ = some (rtV 38)) :
    Calls Tryd.prog 30 #[esV a, .iface 89 (.pointer (some ⟨w.heap.size, 0, none⟩))] (w.alloc (.cells #[.pointer none] 71)) fun ev w' => ev = .returned (.bool false) ∧ w' = codeW w :=
  as_miss a ⟨w.heap.size, 0, none⟩ _ hg

set_option maxHeartbeats 1000000 in
theorem Code_es (E : Nat → Addr) (i : Nat) (hi : i < 10) (w : World) (h : Laid E w) :
    Calls Tryd.prog 20 #[esV (E i)] w (Ret (.tuple #[.int .i64 (i + 1), .int .i64 (-1)]) w) := by
  have h1 : Laid E (codeW w) := h.keep (codeW_below w)
  have hne := Lib.hid h.ne
  have hpl := Lib.hid h1.plain
  obtain ⟨c0, c1, c2, c3, c4, c5, c6, c7, c8, c9, -, -, -⟩ := h1
  have het : (w.alloc (.cells #[.pointer none] 71)).cell? ⟨10, 0, none⟩ = some (rtV 38) := Keeps.alloc w _ _ _ h.et
  go_enter Tryd.func20, Tryd.ntmps20
  go_wp2_with (first
    | (go_at_call 30; refine (code_miss _ _ (by exact het)).mono ?_; rintro e w' ⟨rfl, rfl⟩))
  clear het c0 c1 c2 c3 c4 c5 c6 c7 c8 c9
  go_loop [3, 28] (fun u v => ∃ k : Nat, k ≤ i ∧ v = .int .i64 k ∧ u = .int .i64 (-1)) (fun _ v => 10 - (intOf v).toNat)
  case atStart => exact ⟨0, Nat.zero_le _, rfl, rfl⟩
  case round =>
    obtain ⟨k, hk, rfl, rfl⟩ := hrel
    have hsl := sents_get E k (by omega)
    obtain ⟨b, off, hA, hc⟩ := Row.new (codeW w) #[esV (E 0), esV (E 1), esV (E 2), esV (E 3), esV (E 4), esV (E 5), esV (E 6), esV (E 7), esV (E 8), esV (E 9)] 38 k _ hsl
    simp only [Option.some.injEq, Addr.mk.injEq, and_true] at hA
    obtain ⟨rfl, rfl⟩ := hA
    rw [Nat.zero_add] at hc
    clear hsl
    by_cases hki : k = i
    · subst hki
      go_wp2_with (first
        | (go_at_call 31; refine (is_same _ _).mono ?_; rintro e w' ⟨rfl, rfl⟩))
      go_ret2
      exact ⟨rfl, (codeW_below w).alloc (codeW_below w).size _⟩
    · have hlt : k < i := by omega
      have hd : E i ≠ E k := hne.out _ _ hi (by omega) (fun e => hki e.symm)
      have HD := Lib.hid hd
      clear hd hki
      have HP := fun j hj => (hpl.out j hj).keep ((Below.refl _ _).alloc (Nat.le_refl _) (.cells #[esV (E 0), esV (E 1), esV (E 2), esV (E 3), esV (E 4), esV (E 5), esV (E 6), esV (E 7), esV (E 8), esV (E 9)] 38))
      have P1 := Lib.hid (HP i hi)
      have P2 := Lib.hid (HP k (by omega))
      clear HP
      go_wp2_with (first
        | (go_at_call 31; refine (is_other _ _ _ HD.out (by exact P1.out) (by exact P2.out)).mono ?_; rintro e w' ⟨rfl, rfl⟩))
      go_round
      case rel => exact ⟨k + 1, by omega, by go_num, rfl⟩
      case measure => simp [intOf]; omega

set_option maxHeartbeats 1000000 in
theorem Code_other (E : Nat → Addr) (x : Addr) (hx : ∀ i, i < 10 → x ≠ E i) (w : World) (h : Laid E w) (hp : Plain w x) :
    Calls Tryd.prog 20 #[esV x] w (Ret (.tuple #[.int .i64 (-1), .int .i64 (-1)]) w) := by
  have h1 : Laid E (codeW w) := h.keep (codeW_below w)
  have hne := Lib.hid hx
  clear hx
  have hpl := Lib.hid h1.plain
  have hpx := Lib.hid (hp.keep (codeW_below w))
  obtain ⟨c0, c1, c2, c3, c4, c5, c6, c7, c8, c9, -, -, -⟩ := h1
  have het : (w.alloc (.cells #[.pointer none] 71)).cell? ⟨10, 0, none⟩ = some (rtV 38) := Keeps.alloc w _ _ _ h.et
  go_enter Tryd.func20, Tryd.ntmps20
  go_wp2_with (first
    | (go_at_call 30; refine (code_miss _ _ (by exact het)).mono ?_; rintro e w' ⟨rfl, rfl⟩))
  clear het c0 c1 c2 c3 c4 c5 c6 c7 c8 c9
  go_loop [3, 28] (fun u v => ∃ k : Nat, k ≤ 10 ∧ v = .int .i64 k ∧ u = .int .i64 (-1)) (fun _ v => 10 - (intOf v).toNat)
  case atStart => exact ⟨0, Nat.zero_le _, rfl, rfl⟩
  case round =>
    obtain ⟨k, hk, rfl, rfl⟩ := hrel
    by_cases hlt : k < 10
    · have hsl := sents_get E k (by omega)
      obtain ⟨b, off, hA, hc⟩ := Row.new (codeW w) #[esV (E 0), esV (E 1), esV (E 2), esV (E 3), esV (E 4), esV (E 5), esV (E 6), esV (E 7), esV (E 8), esV (E 9)] 38 k _ hsl
      simp only [Option.some.injEq, Addr.mk.injEq, and_true] at hA
      obtain ⟨rfl, rfl⟩ := hA
      rw [Nat.zero_add] at hc
      clear hsl
      have HD := Lib.hid (hne.out k hlt)
      have P1 := Lib.hid (hpx.out.keep ((Below.refl _ _).alloc (Nat.le_refl _) (.cells #[esV (E 0), esV (E 1), esV (E 2), esV (E 3), esV (E 4), esV (E 5), esV (E 6), esV (E 7), esV (E 8), esV (E 9)] 38)))
      have P2 := Lib.hid ((hpl.out k hlt).keep ((Below.refl _ _).alloc (Nat.le_refl _) (.cells #[esV (E 0), esV (E 1), esV (E 2), esV (E 3), esV (E 4), esV (E 5), esV (E 6), esV (E 7), esV (E 8), esV (E 9)] 38)))
      go_wp2_with (first
        | (go_at_call 31; refine (is_other _ _ _ HD.out (by exact P1.out) (by exact P2.out)).mono ?_; rintro e w' ⟨rfl, rfl⟩))
      go_round
      case rel => exact ⟨k + 1, by omega, by go_num, rfl⟩
      case measure => simp [intOf]; omega
    · have hk' : k = 10 := by omega
      subst hk'
      go_wp2_with fail
      go_ret2
      exact ⟨rfl, (codeW_below w).alloc (codeW_below w).size _⟩

/-- The world behind errors.As of a Fault at fa. -/
def codeF (fa : Addr) (w : World) : World := ((asW ⟨w.heap.size, 0, none⟩ (w.alloc (.cells #[.pointer none] 71))).alloc (.cells #[.pointer (some fa)] 71)).setCell ⟨w.heap.size, 0, none⟩ (.pointer (some fa))
theorem codeF_below (fa : Addr) (w : World) : Below w.heap.size w (codeF fa w) := by
  unfold codeF
  have h1 := codeW_below w
  exact (h1.alloc h1.size _).setCell (Nat.le_refl _) _
theorem codeF_cell (fa : Addr) (w : World) : (codeF fa w).cell? ⟨w.heap.size, 0, none⟩ = some (.pointer (some fa)) := by
  unfold codeF
  have h : ((asW ⟨w.heap.size, 0, none⟩ (w.alloc (.cells #[.pointer none] 71))).alloc (.cells #[.pointer (some fa)] 71)).cell? ⟨w.heap.size, 0, none⟩ = some (.pointer none) := by
    rw [World.cell?_alloc_lt _ _ _ (by rw [asW_size]; simp; omega), asW_old _ _ _ (by simp)]
    simp
  exact World.cell?_setCell_same _ _ _ h
theorem code_hit (fa : Addr) (w : World) (hg : (w.alloc (.cells #[.pointer none] 71)).cell? ⟨10, 0, none⟩ = some (rtV 38)) :
    Calls Tryd.prog 30 #[ftV fa, .iface 89 (.pointer (some ⟨w.heap.size, 0, none⟩))] (w.alloc (.cells #[.pointer none] 71)) fun ev w' => ev = .returned (.bool true) ∧ w' = codeF fa w :=
  as_hit fa ⟨w.heap.size, 0, none⟩ (.pointer none) _ hg (by simp) (by simp)
set_option maxHeartbeats 1000000 in
theorem Code_ft (E : Nat → Addr) (i : Nat) (hi : i < 10) (fb fo : Nat) (n : Int) (w : World) (h : Laid E w) (h0 : w.cell? ⟨fb, fo, none⟩ = some (.int .i64 n)) (h1 : w.cell? ⟨fb, fo + 1, none⟩ = some (esV (E i))) :
    Calls Tryd.prog 20 #[ftV ⟨fb, fo, none⟩] w (Ret (.tuple #[.int .i64 (i + 1), .int .i64 n]) w) := by
  have hl : Laid E (codeF ⟨fb, fo, none⟩ w) := h.keep (codeF_below _ w)
  have kp := Keeps.of_below (codeF_below ⟨fb, fo, none⟩ w)
  have hne := Lib.hid h.ne
  have hpl := Lib.hid hl.plain
  have hf := codeF_cell ⟨fb, fo, none⟩ w
  have g0 := kp _ _ h0
  have g1 := Lib.hid (kp _ _ h1)
  clear kp h0 h1
  obtain ⟨c0, c1, c2, c3, c4, c5, c6, c7, c8, c9, -, -, -⟩ := hl
  have het : (w.alloc (.cells #[.pointer none] 71)).cell? ⟨10, 0, none⟩ = some (rtV 38) := Keeps.alloc w _ _ _ h.et
  go_enter Tryd.func20, Tryd.ntmps20
  go_wp2_with (first
    | (go_at_call 30; refine (code_hit _ _ (by exact het)).mono ?_; rintro e w' ⟨rfl, rfl⟩))
  clear het c0 c1 c2 c3 c4 c5 c6 c7 c8 c9 hf g0
  go_loop [3, 28] (fun u v => ∃ k : Nat, k ≤ i ∧ v = .int .i64 k ∧ u = .int .i64 n) (fun _ v => 10 - (intOf v).toNat)
  case atStart => exact ⟨0, Nat.zero_le _, rfl, rfl⟩
  case round =>
    obtain ⟨k, hk, rfl, rfl⟩ := hrel
    have hsl := sents_get E k (by omega)
    obtain ⟨b, off, hA, hc⟩ := Row.new (codeF ⟨fb, fo, none⟩ w) #[esV (E 0), esV (E 1), esV (E 2), esV (E 3), esV (E 4), esV (E 5), esV (E 6), esV (E 7), esV (E 8), esV (E 9)] 38 k _ hsl
    simp only [Option.some.injEq, Addr.mk.injEq, and_true] at hA
    obtain ⟨rfl, rfl⟩ := hA
    rw [Nat.zero_add] at hc
    clear hsl
    have G1 := Lib.hid (Keeps.alloc (codeF ⟨fb, fo, none⟩ w) (.cells #[esV (E 0), esV (E 1), esV (E 2), esV (E 3), esV (E 4), esV (E 5), esV (E 6), esV (E 7), esV (E 8), esV (E 9)] 38) _ _ g1.out)
    by_cases hki : k = i
    · subst hki
      go_wp2_with (first
        | (go_at_call 31; refine (is_fault_same _ _ _ _ (by exact G1.out)).mono ?_; rintro e w' ⟨rfl, rfl⟩))
      go_ret2
      exact ⟨rfl, (codeF_below _ w).alloc (codeF_below _ w).size _⟩
    · have hlt : k < i := by omega
      have hd : E i ≠ E k := hne.out _ _ hi (by omega) (fun e => hki e.symm)
      have HD := Lib.hid hd
      clear hd hki
      have HP := fun j hj => (hpl.out j hj).keep ((Below.refl _ _).alloc (Nat.le_refl _) (.cells #[esV (E 0), esV (E 1), esV (E 2), esV (E 3), esV (E 4), esV (E 5), esV (E 6), esV (E 7), esV (E 8), esV (E 9)] 38))
      have P1 := Lib.hid (HP i hi)
      have P2 := Lib.hid (HP k (by omega))
      clear HP
      go_wp2_with (first
        | (go_at_call 31; refine (is_fault_other _ _ (E i) _ _ (by exact G1.out) HD.out (by exact P1.out) (by exact P2.out)).mono ?_; rintro e w' ⟨rfl, rfl⟩))
      go_round
      case rel => exact ⟨k + 1, by omega, by go_num, rfl⟩
      case measure => simp [intOf]; omega
end Go.Proofs.YtdilakpipbkokaaDoor

namespace Go.Proofs.YtdilakpipbkokaaDoor
open Go.RowKit

/-- What an error value says: its number and its place. -/
def ErrIs (E : Nat → Addr) (w : World) (v : Value) (c a : Int) : Prop :=
  (v = .nilIface ∧ c = 0 ∧ a = -1) ∨ (∃ i : Nat, i < 10 ∧ v = esV (E i) ∧ c = i + 1 ∧ a = -1) ∨
  ∃ (i fb fo : Nat), i < 10 ∧ v = ftV ⟨fb, fo, none⟩ ∧ w.cell? ⟨fb, fo, none⟩ = some (.int .i64 a) ∧ w.cell? ⟨fb, fo + 1, none⟩ = some (esV (E i)) ∧ c = i + 1
theorem ErrIs.keep {E : Nat → Addr} {w w' : World} {v : Value} {c a : Int} (h : ErrIs E w v c a) (k : Keeps w w') : ErrIs E w' v c a := by
  rcases h with h | h | ⟨i, fb, fo, h1, h2, h3, h4, h5⟩
  · exact .inl h
  · exact .inr (.inl h)
  · exact .inr (.inr ⟨i, fb, fo, h1, h2, k _ _ h3, k _ _ h4, h5⟩)
theorem ErrIs.nil_ {E : Nat → Addr} {w : World} : ErrIs E w .nilIface 0 (-1) := .inl ⟨rfl, rfl, rfl⟩
theorem ErrIs.es {E : Nat → Addr} {w : World} {i : Nat} (h : i < 10) : ErrIs E w (esV (E i)) (i + 1) (-1) := .inr (.inl ⟨i, h, rfl, rfl, rfl⟩)
theorem Code_any (E : Nat → Addr) (w : World) (h : Laid E w) (v : Value) (c a : Int) (hv : ErrIs E w v c a) :
    Calls Tryd.prog 20 #[v] w (Ret (.tuple #[.int .i64 c, .int .i64 a]) w) := by
  rcases hv with ⟨rfl, rfl, rfl⟩ | ⟨i, hi, rfl, rfl, rfl⟩ | ⟨i, fb, fo, hi, rfl, h0, h1, rfl⟩
  · refine (Code_nil w).mono ?_
    rintro e w' ⟨rfl, n, rfl⟩
    exact ⟨rfl, below_drewN (Below.refl _ _) _⟩
  · exact Code_es E i hi w h
  · exact Code_ft E i hi fb fo a w h h0 h1

end Go.Proofs.YtdilakpipbkokaaDoor
