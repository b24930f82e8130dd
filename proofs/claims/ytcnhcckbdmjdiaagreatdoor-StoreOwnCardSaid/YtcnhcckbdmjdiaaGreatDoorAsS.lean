/- A part of the proof engine: rules for steps of the machine over frames and memory. Each under the conditions that its own statement names. -/
import Derived.Test.YtcnhcckbdmjdiaaGreatDoorSeatS
import Derived.WalkKit
import Derived.LaidEql
import Derived.Stop.Asserts
import Derived.RowKitTokens
set_option linter.all false
set_option linter.unusedSimpArgs false
set_option linter.unusedVariables false
namespace Go.Stet
open Go Go.Eng Go.Proofs
open Go.RowKit Go.Extern.Stop Go.Stop Go.Extern
theorem z_valueOf128 (t : Addr) (w : World) : (ReflectliteValue.unpack (.iface 136 (.pointer (some t)))).run Tryz.prog w
    = .ok (.agg #[.pointer (some ⟨7, 136, none⟩), .pointer (some ⟨w.heap.size, 0, none⟩), .int .u64 150]) (w.alloc (.cells #[.pointer (some t)] 136)) := by kernel_rfl
theorem z_type128 (a : Addr) (w : World) : (ReflectliteValue.methodAny (ReflectliteValue.valueError "reflectlite.Value.Type" 0) (fun t _ _ _ => ReflectliteType.toType t) #[.agg #[.pointer (some ⟨7, 136, none⟩), .pointer (some a), .int .u64 150]]).run Tryz.prog w
    = .ok (.iface 165 (.agg #[.pointer (some ⟨7, 136, none⟩)])) w := by kernel_rfl
theorem z_methodKind (h : Value) (w : World) : (Go.method 306 165 (.agg #[h]) "Kind").run Tryz.prog w = .ok (114, h) w := by kernel_rfl
theorem z_kind128 (w : World) : ((ReflectliteType.abiMethod fun t => (fun a : Nat => Value.int IntKind.u8 (a : Int)) <$> Rtype.kind t) #[.pointer (some ⟨7, 136, none⟩)]).run Tryz.prog w = .ok (.int .u8 22) w := by kernel_rfl
theorem z_kind24 (w : World) : ((ReflectliteType.abiMethod fun t => (fun a : Nat => Value.int IntKind.u8 (a : Int)) <$> Rtype.kind t) #[.pointer (some ⟨7, 31, none⟩)]).run Tryz.prog w = .ok (.int .u8 2) w := by kernel_rfl
theorem z_rlm (z : Sem Value) (f : TypeId → Addr → Nat → Nat → Sem Value) (v : Value) :
    ReflectliteValue.method z f #[v] = (do match ← ReflectliteValue.parts v with | none => z | some (t, a, fl) => f t a fl (fl % 32)) := rfl
theorem z_parts128 (a : Addr) (w : World) : (ReflectliteValue.parts (.agg #[.pointer (some ⟨7, 136, none⟩), .pointer (some a), .int .u64 150])).run Tryz.prog w = .ok (some (136, a, 150)) w := by kernel_rfl
theorem z_isNil128 (a p : Addr) (W : World) (ha : W.cell? a = some (.pointer (some p))) :
    (ReflectliteValue.method (ReflectliteValue.valueError "reflectlite.Value.IsNil" 0) ReflectliteValue.isNil #[.agg #[.pointer (some ⟨7, 136, none⟩), .pointer (some a), .int .u64 150]]).run Tryz.prog W = .ok (.bool false) W := by
  rw [z_rlm]
  simp only [Sem.run_bind, z_parts128, Result.andThen]
  simp [ReflectliteValue.isNil, loadVar, isAgg, underlying, Tryz.underlying136, ha, Result.andThen]
theorem z_methodElem (h : Value) (w : World) : (Go.method 306 165 (.agg #[h]) "Elem").run Tryz.prog w = .ok (131, .agg #[h]) w := by kernel_rfl
theorem z_methodImplements (h : Value) (w : World) : (Go.method 306 165 (.agg #[h]) "Implements").run Tryz.prog w = .ok (132, .agg #[h]) w := by kernel_rfl
theorem z_methodAssignableTo (h : Value) (w : World) : (Go.method 306 165 (.agg #[h]) "AssignableTo").run Tryz.prog w = .ok (129, .agg #[h]) w := by kernel_rfl
theorem z_methodUnwrap (h : Value) (w : World) : (Go.method 306 130 h "Unwrap").run Tryz.prog w = .ok (123, h) w := by kernel_rfl
theorem z_elem128 (w : World) : (ReflectliteType.method ReflectliteType.elem #[.agg #[.pointer (some ⟨7, 136, none⟩)]]).run Tryz.prog w = .ok (.iface 165 (.agg #[.pointer (some ⟨7, 31, none⟩)])) w := by kernel_rfl
theorem z_implements24 (w : World) : (ReflectliteType.relation "Implements" ReflectliteType.implements_ #[.agg #[.pointer (some ⟨7, 31, none⟩)], .iface 165 (.agg #[.pointer (some ⟨7, 90, none⟩)])]).run Tryz.prog w = .ok (.bool true) w := by kernel_rfl
theorem z_typeOf24 (v : Value) (w : World) : (ReflectliteType.typeOf #[.iface 31 v]).run Tryz.prog w = .ok (.iface 165 (.agg #[.pointer (some ⟨7, 31, none⟩)])) w := by kernel_rfl
theorem z_typeOf122 (v : Value) (w : World) : (ReflectliteType.typeOf #[.iface 130 v]).run Tryz.prog w = .ok (.iface 165 (.agg #[.pointer (some ⟨7, 130, none⟩)])) w := by kernel_rfl
theorem z_assignable24 (w : World) : (ReflectliteType.relation "AssignableTo" ReflectliteType.assignableTo #[.agg #[.pointer (some ⟨7, 31, none⟩)], .iface 165 (.agg #[.pointer (some ⟨7, 31, none⟩)])]).run Tryz.prog w = .ok (.bool true) w := by kernel_rfl
theorem z_assignable122 (w : World) : (ReflectliteType.relation "AssignableTo" ReflectliteType.assignableTo #[.agg #[.pointer (some ⟨7, 130, none⟩)], .iface 165 (.agg #[.pointer (some ⟨7, 31, none⟩)])]).run Tryz.prog w = .ok (.bool false) w := by kernel_rfl
theorem z_valueOf24 (e : Int) (w : World) : (ReflectliteValue.unpack (.iface 31 (.int .i64 e))).run Tryz.prog w
    = .ok (.agg #[.pointer (some ⟨7, 31, none⟩), .pointer (some ⟨w.heap.size, 0, none⟩), .int .u64 130]) (w.alloc (.cells #[.int .i64 e] 31)) := by kernel_rfl
theorem z_elemOf128 (w : World) : (Rtype.elem? 136).run Tryz.prog w = .ok (some 31) w := by kernel_rfl
theorem z_mk24 (p : Addr) (w : World) : (ReflectliteValue.mk 31 p ReflectliteValue.flagAddr).run Tryz.prog w = .ok (.agg #[.pointer (some ⟨7, 31, none⟩), .pointer (some p), .int .u64 386]) w := by kernel_rfl
theorem z_elemV128 (a p : Addr) (W : World) (ha : W.cell? a = some (.pointer (some p))) :
    (ReflectliteValue.method (ReflectliteValue.valueError "reflectlite.Value.Elem" 0) ReflectliteValue.elem #[.agg #[.pointer (some ⟨7, 136, none⟩), .pointer (some a), .int .u64 150]]).run Tryz.prog W
      = .ok (.agg #[.pointer (some ⟨7, 31, none⟩), .pointer (some p), .int .u64 386]) W := by
  rw [z_rlm]
  simp only [Sem.run_bind, z_parts128, Result.andThen]
  simp [ReflectliteValue.elem, loadVar, isAgg, underlying, Tryz.underlying136, ha, Result.andThen, z_elemOf128, z_mk24]
theorem z_rls (v x : Value) : ReflectliteValue.set #[v, x] = (do
    let (some (dst, a, fl), some (src, b, _)) := (← ReflectliteValue.parts v, ← ReflectliteValue.parts x)
      | unsupported (.noEntry "extern/(internal/reflectlite.Value).Set.zeroValue")
    if fl / ReflectliteValue.flagAddr % 2 == 0 then unsupported (.noEntry "extern/(internal/reflectlite.Value).Set.unaddressable")
    let val ← loadVar src b
    if ← Rtype.directlyAssignable dst src then storeVar dst a val
    else if ← Rtype.implements dst src then
      if (← Rtype.kind src) == 20 then
        match val with
        | .nilIface => unsupported (.noEntry "extern/reflectlite: a nil value of one interface type handed on as a value of another")
        | _ => storeVar dst a val
      else storeVar dst a (.iface src val)
    else panicString ("reflectlite.Set: value of type " ++ (← Rtype.spelt src) ++ " is not assignable to type " ++ (← Rtype.spelt dst))
    pure (.tuple #[])) := rfl
theorem z_parts24a (a : Addr) (w : World) : (ReflectliteValue.parts (.agg #[.pointer (some ⟨7, 31, none⟩), .pointer (some a), .int .u64 386])).run Tryz.prog w = .ok (some (31, a, 386)) w := by kernel_rfl
theorem z_parts24 (a : Addr) (w : World) : (ReflectliteValue.parts (.agg #[.pointer (some ⟨7, 31, none⟩), .pointer (some a), .int .u64 130])).run Tryz.prog w = .ok (some (31, a, 130)) w := by kernel_rfl
theorem z_direct24 (w : World) : (Rtype.directlyAssignable 31 31).run Tryz.prog w = .ok true w := by kernel_rfl
theorem z_set24 (ta b : Addr) (e : Int) (old : Value) (W : World) (hb : W.cell? b = some (.int .i64 e)) (ht : W.cell? ta = some old) (hf : W.frozen? ta = false) :
    (ReflectliteValue.set #[.agg #[.pointer (some ⟨7, 31, none⟩), .pointer (some ta), .int .u64 386], .agg #[.pointer (some ⟨7, 31, none⟩), .pointer (some b), .int .u64 130]]).run Tryz.prog W
      = .ok (.tuple #[]) (W.setCell ta (.int .i64 e)) := by
  rw [z_rls]
  simp only [Sem.run_bind, z_parts24a, z_parts24, Result.andThen]
  simp [ReflectliteValue.flagAddr, loadVar, isAgg, underlying, Tryz.underlying31, hb, Result.andThen, z_direct24, storeVar, Value.cells, storeCells, Addr.add]
  rw [run_store Tryz.prog W ta _ _ (by rfl)]
  simp [ht, hf]
theorem z_unwrap (b o : Nat) (e : Int) (w : World) (hp : w.cell? ⟨b, o + 1, none⟩ = some (.int .i64 e)) : Calls Tryz.prog 123 #[.pointer (some ⟨b, o, none⟩)] w fun ev w' => ev = .returned (.iface 31 (.int .i64 e)) ∧ w' = w := by
  go_enter Tryz.func123, Tryz.ntmps123
  go_wp2
  go_ret
  exact ⟨rfl, rfl⟩
theorem z_noAs (v : Value) (xT : TypeId) (w : World) : (Instr.typeAssert (.iface 130 v) xT 170 true).run Tryz.prog w = .ok (.tuple #[.nilIface, .bool false]) w := run_typeAssert_lacksB Tryz.underlying170 (by kernel_rfl) (by kernel_rfl) v xT w
theorem z_isUnwrap (v : Value) (xT : TypeId) (w : World) : (Instr.typeAssert (.iface 130 v) xT 173 true).run Tryz.prog w = .ok (.tuple #[.iface 130 v, .bool true]) w := run_typeAssert_hasB Tryz.underlying173 (by kernel_rfl) v xT w
end Go.Stet
