import Derived.Test.YtidhplpidkgkdaaDoorErrIs
namespace Go.Proofs.YtidhplpidkgkdaaDoor
open Go.RowKit Go.Extern.Stop Go.Stop Go.Extern

abbrev hdl (t : Nat) : Value := .pointer (some ⟨17, t, none⟩)
abbrev rtV (t : Nat) : Value := .iface 161 (.agg #[hdl t])
abbrev ptV (a : Addr) : Value := .agg #[hdl 120, .pointer (some a), .int .u64 150]

theorem valueOfPP (t : Addr) (w : World) : (ReflectliteValue.unpack (.iface 120 (.pointer (some t)))).run Tryd.prog w = .ok (ptV ⟨w.heap.size, 0, none⟩) (w.alloc (.cells #[.pointer (some t)] 120)) := by kernel_rfl
theorem callValueOfPP (t : Addr) (w : World) : (callFunc 87 #[.iface 120 (.pointer (some t))]).run Tryd.prog w = .ok (.value (ptV ⟨w.heap.size, 0, none⟩)) (w.alloc (.cells #[.pointer (some t)] 120)) := by
  rw [@run_callFunc_extern Tryd.prog 87 _ (fun args => ReflectliteValue.unpack (args.getD 0 (.tuple #[]))) Tryd.func87 (by kernel_rfl) (by kernel_rfl) (by kernel_rfl) (by kernel_rfl)]
  rw [show (#[Value.iface 120 (.pointer (some t))].getD 0 (Value.tuple #[])) = Value.iface 120 (.pointer (some t)) from rfl, valueOfPP]
  rfl
theorem typePP (a : Addr) (w : World) : (ReflectliteValue.methodAny (ReflectliteValue.valueError "reflectlite.Value.Type" 0) (fun t _ _ _ => ReflectliteType.toType t) #[ptV a]).run Tryd.prog w = .ok (rtV 120) w := by kernel_rfl
theorem callTypePP (a : Addr) (w : World) : (callFunc 88 #[ptV a]).run Tryd.prog w = .ok (.value (rtV 120)) w := by
  rw [@run_callFunc_extern Tryd.prog 88 _ (ReflectliteValue.methodAny (ReflectliteValue.valueError "reflectlite.Value.Type" 0) (fun t _ _ _ => ReflectliteType.toType t)) Tryd.func88 (by kernel_rfl) (by kernel_rfl) (by kernel_rfl) (by kernel_rfl), typePP]
  rfl
theorem methodKind (h : Value) (w : World) : (Go.method 333 161 (.agg #[h]) "Kind").run Tryd.prog w = .ok (152, h) w := by kernel_rfl
theorem kindPP (w : World) : ((ReflectliteType.abiMethod fun t => do pure (.int .u8 (← Rtype.kind t))) #[hdl 120]).run Tryd.prog w = .ok (.int .u8 22) w := by kernel_rfl
theorem kindP (w : World) : ((ReflectliteType.abiMethod fun t => do pure (.int .u8 (← Rtype.kind t))) #[hdl 72]).run Tryd.prog w = .ok (.int .u8 22) w := by kernel_rfl
theorem callKindPP (w : World) : (callFunc 152 #[hdl 120]).run Tryd.prog w = .ok (.value (.int .u8 22)) w := by
  rw [@run_callFunc_extern Tryd.prog 152 _ (ReflectliteType.abiMethod fun t => do pure (.int .u8 (← Rtype.kind t))) Tryd.func152 (by kernel_rfl) (by kernel_rfl) (by kernel_rfl) (by kernel_rfl), kindPP]
  rfl
theorem callKindP (w : World) : (callFunc 152 #[hdl 72]).run Tryd.prog w = .ok (.value (.int .u8 22)) w := by
  rw [@run_callFunc_extern Tryd.prog 152 _ (ReflectliteType.abiMethod fun t => do pure (.int .u8 (← Rtype.kind t))) Tryd.func152 (by kernel_rfl) (by kernel_rfl) (by kernel_rfl) (by kernel_rfl), kindP]
  rfl
theorem rlm (z : Sem Value) (f : TypeId → Addr → Nat → Nat → Sem Value) (v : Value) :
    ReflectliteValue.method z f #[v] = (do match ← ReflectliteValue.parts v with | none => z | some (t, a, fl) => f t a fl (fl % 32)) := rfl
theorem partsPP (a : Addr) (w : World) : (ReflectliteValue.parts (ptV a)).run Tryd.prog w = .ok (some (120, a, 150)) w := by kernel_rfl
theorem isNilPP (a p : Addr) (W : World) (ha : W.cell? a = some (.pointer (some p))) :
    (ReflectliteValue.method (ReflectliteValue.valueError "reflectlite.Value.IsNil" 0) ReflectliteValue.isNil #[ptV a]).run Tryd.prog W = .ok (.bool false) W := by
  rw [rlm]
  simp only [Sem.run_bind, partsPP, Result.andThen]
  simp [ReflectliteValue.isNil, loadVar, isAgg, underlying, Tryd.underlying120, ha, Result.andThen]
theorem callIsNilPP (a p : Addr) (W : World) (ha : W.cell? a = some (.pointer (some p))) : (callFunc 89 #[ptV a]).run Tryd.prog W = .ok (.value (.bool false)) W := by
  rw [@run_callFunc_extern Tryd.prog 89 _ (ReflectliteValue.method (ReflectliteValue.valueError "reflectlite.Value.IsNil" 0) ReflectliteValue.isNil) Tryd.func89 (by kernel_rfl) (by kernel_rfl) (by kernel_rfl) (by kernel_rfl), isNilPP a p W ha]
  rfl
theorem methodElem (h : Value) (w : World) : (Go.method 333 161 (.agg #[h]) "Elem").run Tryd.prog w = .ok (164, .agg #[h]) w := by kernel_rfl
theorem methodImplements (h : Value) (w : World) : (Go.method 333 161 (.agg #[h]) "Implements").run Tryd.prog w = .ok (165, .agg #[h]) w := by kernel_rfl
theorem methodAssignableTo (h : Value) (w : World) : (Go.method 333 161 (.agg #[h]) "AssignableTo").run Tryd.prog w = .ok (162, .agg #[h]) w := by kernel_rfl
theorem elemPP (w : World) : (ReflectliteType.method ReflectliteType.elem #[.agg #[hdl 120]]).run Tryd.prog w = .ok (rtV 72) w := by kernel_rfl
theorem callElemPP (w : World) : (callFunc 164 #[.agg #[hdl 120]]).run Tryd.prog w = .ok (.value (rtV 72)) w := by
  rw [@run_callFunc_extern Tryd.prog 164 _ (ReflectliteType.method ReflectliteType.elem) Tryd.func164 (by kernel_rfl) (by kernel_rfl) (by kernel_rfl) (by kernel_rfl), elemPP]
  rfl
theorem implementsP (w : World) : (ReflectliteType.relation "Implements" ReflectliteType.implements_ #[.agg #[hdl 72], rtV 31]).run Tryd.prog w = .ok (.bool true) w := by kernel_rfl
theorem callImplementsP (w : World) : (callFunc 165 #[.agg #[hdl 72], rtV 31]).run Tryd.prog w = .ok (.value (.bool true)) w := by
  rw [@run_callFunc_extern Tryd.prog 165 _ (ReflectliteType.relation "Implements" ReflectliteType.implements_) Tryd.func165 (by kernel_rfl) (by kernel_rfl) (by kernel_rfl) (by kernel_rfl), implementsP]
  rfl
theorem typeOfP (v : Value) (w : World) : (ReflectliteType.typeOf #[.iface 72 v]).run Tryd.prog w = .ok (rtV 72) w := by kernel_rfl
theorem callTypeOfP (v : Value) (w : World) : (callFunc 91 #[.iface 72 v]).run Tryd.prog w = .ok (.value (rtV 72)) w := by
  rw [@run_callFunc_extern Tryd.prog 91 _ Extern.ReflectliteType.typeOf Tryd.func91 (by kernel_rfl) (by kernel_rfl) (by kernel_rfl) (by kernel_rfl), typeOfP]
  rfl
theorem assignableP (w : World) : (ReflectliteType.relation "AssignableTo" ReflectliteType.assignableTo #[.agg #[hdl 72], rtV 72]).run Tryd.prog w = .ok (.bool true) w := by kernel_rfl
theorem assignableE (w : World) : (ReflectliteType.relation "AssignableTo" ReflectliteType.assignableTo #[.agg #[hdl 204], rtV 72]).run Tryd.prog w = .ok (.bool false) w := by kernel_rfl
theorem callAssignableP (w : World) : (callFunc 162 #[.agg #[hdl 72], rtV 72]).run Tryd.prog w = .ok (.value (.bool true)) w := by
  rw [@run_callFunc_extern Tryd.prog 162 _ (ReflectliteType.relation "AssignableTo" ReflectliteType.assignableTo) Tryd.func162 (by kernel_rfl) (by kernel_rfl) (by kernel_rfl) (by kernel_rfl), assignableP]
  rfl
theorem callAssignableE (w : World) : (callFunc 162 #[.agg #[hdl 204], rtV 72]).run Tryd.prog w = .ok (.value (.bool false)) w := by
  rw [@run_callFunc_extern Tryd.prog 162 _ (ReflectliteType.relation "AssignableTo" ReflectliteType.assignableTo) Tryd.func162 (by kernel_rfl) (by kernel_rfl) (by kernel_rfl) (by kernel_rfl), assignableE]
  rfl
theorem valueOfP (e : Addr) (w : World) : (ReflectliteValue.unpack (.iface 72 (.pointer (some e)))).run Tryd.prog w
    = .ok (.agg #[hdl 72, .pointer (some ⟨w.heap.size, 0, none⟩), .int .u64 150]) (w.alloc (.cells #[.pointer (some e)] 72)) := by kernel_rfl
theorem callValueOfP (e : Addr) (w : World) : (callFunc 87 #[.iface 72 (.pointer (some e))]).run Tryd.prog w
    = .ok (.value (.agg #[hdl 72, .pointer (some ⟨w.heap.size, 0, none⟩), .int .u64 150])) (w.alloc (.cells #[.pointer (some e)] 72)) := by
  rw [@run_callFunc_extern Tryd.prog 87 _ (fun args => ReflectliteValue.unpack (args.getD 0 (.tuple #[]))) Tryd.func87 (by kernel_rfl) (by kernel_rfl) (by kernel_rfl) (by kernel_rfl)]
  rw [show (#[Value.iface 72 (.pointer (some e))].getD 0 (Value.tuple #[])) = Value.iface 72 (.pointer (some e)) from rfl, valueOfP]
  rfl
theorem elemOfPP (w : World) : (Rtype.elem? 120).run Tryd.prog w = .ok (some 72) w := by kernel_rfl
theorem mkP (p : Addr) (w : World) : (ReflectliteValue.mk 72 p ReflectliteValue.flagAddr).run Tryd.prog w = .ok (.agg #[hdl 72, .pointer (some p), .int .u64 406]) w := by kernel_rfl
theorem elemVPP (a p : Addr) (W : World) (ha : W.cell? a = some (.pointer (some p))) :
    (ReflectliteValue.method (ReflectliteValue.valueError "reflectlite.Value.Elem" 0) ReflectliteValue.elem #[ptV a]).run Tryd.prog W = .ok (.agg #[hdl 72, .pointer (some p), .int .u64 406]) W := by
  rw [rlm]
  simp only [Sem.run_bind, partsPP, Result.andThen]
  simp [ReflectliteValue.elem, loadVar, isAgg, underlying, Tryd.underlying120, ha, Result.andThen, elemOfPP, mkP]
theorem callElemVPP (a p : Addr) (W : World) (ha : W.cell? a = some (.pointer (some p))) : (callFunc 105 #[ptV a]).run Tryd.prog W = .ok (.value (.agg #[hdl 72, .pointer (some p), .int .u64 406])) W := by
  rw [@run_callFunc_extern Tryd.prog 105 _ (ReflectliteValue.method (ReflectliteValue.valueError "reflectlite.Value.Elem" 0) ReflectliteValue.elem) Tryd.func105 (by kernel_rfl) (by kernel_rfl) (by kernel_rfl) (by kernel_rfl), elemVPP a p W ha]
  rfl
theorem rls (v x : Value) : ReflectliteValue.set #[v, x] = (do
    let (some (dst, a, fl), some (src, b, _)) := (← ReflectliteValue.parts v, ← ReflectliteValue.parts x)
      | unsupported (.noEntry "extern/(internal/reflectlite.Value).Set.zeroValue")
    if fl / ReflectliteValue.flagAddr % 2 == 0 then unsupported (.noEntry "extern/(internal/reflectlite.Value).Set.unaddressable")
    let val ← loadVar src b
    if ← Rtype.directlyAssignable dst src then storeVar dst a val
    else if ← Rtype.implements dst src then
      if (← Rtype.kind src) == 20 then
        match val with
        | .nilIface => unsupported (.noEntry "extern/reflectlite: a nil value of one interface type handed on as a value of another")
        | _ => storeVar dst a val
      else storeVar dst a (.iface src val)
    else panicString ("reflectlite.Set: value of type " ++ (← Rtype.spelt src) ++ " is not assignable to type " ++ (← Rtype.spelt dst))
    pure (.tuple #[])) := rfl
theorem partsPa (a : Addr) (w : World) : (ReflectliteValue.parts (.agg #[hdl 72, .pointer (some a), .int .u64 406])).run Tryd.prog w = .ok (some (72, a, 406)) w := by kernel_rfl
theorem partsP (a : Addr) (w : World) : (ReflectliteValue.parts (.agg #[hdl 72, .pointer (some a), .int .u64 150])).run Tryd.prog w = .ok (some (72, a, 150)) w := by kernel_rfl
theorem directP (w : World) : (Rtype.directlyAssignable 72 72).run Tryd.prog w = .ok true w := by kernel_rfl
theorem setP (ta b e : Addr) (old : Value) (W : World) (hb : W.cell? b = some (.pointer (some e))) (ht : W.cell? ta = some old) (hf : W.frozen? ta = false) :
    (ReflectliteValue.set #[.agg #[hdl 72, .pointer (some ta), .int .u64 406], .agg #[hdl 72, .pointer (some b), .int .u64 150]]).run Tryd.prog W = .ok (.tuple #[]) (W.setCell ta (.pointer (some e))) := by
  rw [rls]
  simp only [Sem.run_bind, partsPa, partsP, Result.andThen]
  simp [ReflectliteValue.flagAddr, loadVar, isAgg, underlying, Tryd.underlying72, hb, Result.andThen, directP, storeVar, Value.cells, storeCells, Addr.add]
  rw [run_store Tryd.prog W ta _ _ (by rfl)]
  simp [ht, hf]
theorem callSetP (ta b e : Addr) (old : Value) (W : World) (hb : W.cell? b = some (.pointer (some e))) (ht : W.cell? ta = some old) (hf : W.frozen? ta = false) :
    (callFunc 106 #[.agg #[hdl 72, .pointer (some ta), .int .u64 406], .agg #[hdl 72, .pointer (some b), .int .u64 150]]).run Tryd.prog W = .ok (.value (.tuple #[])) (W.setCell ta (.pointer (some e))) := by
  rw [@run_callFunc_extern Tryd.prog 106 _ ReflectliteValue.set Tryd.func106 (by kernel_rfl) (by kernel_rfl) (by kernel_rfl) (by kernel_rfl), setP ta b e old W hb ht hf]
  rfl
theorem noAsE (v : Value) (xT : TypeId) (w : World) : (Instr.typeAssert (.iface 204 v) xT 165 true).run Tryd.prog w = .ok (.tuple #[.nilIface, .bool false]) w := run_typeAssert_lacksB Tryd.underlying165 (by kernel_rfl) (by kernel_rfl) v xT w
end Go.Proofs.YtidhplpidkgkdaaDoor
