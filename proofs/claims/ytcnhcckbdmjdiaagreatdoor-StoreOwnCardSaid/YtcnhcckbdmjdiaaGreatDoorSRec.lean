/- The function that a commit defers: it takes over what a panic told. -/
import Derived.Test.YtcnhcckbdmjdiaaGreatDoorSeatS3
import Derived.Test.YtcnhcckbdmjdiaaGreatDoorEng18
import Derived.Test.YtcnhcckbdmjdiaaGreatDoorSpecS1
set_option linter.all false
set_option linter.unusedSimpArgs false
set_option linter.unusedVariables false
namespace Go.Stet
open Go Go.Eng Go.Proofs
theorem invoke_func (f : FuncId) (cap : Array Value) (hc : ∀ args w, (callFunc f args).run Tryz.prog w = .ok (.enter f args) w) (w : World) : (invoke (.fn (.func f) cap) #[]).run Tryz.prog w = .ok (.enter f cap) w := by
  simp [invoke, hc]
theorem R_typeAssert {P : Program} {ρ : Operand → Value} {w : World} {d : Option Nat} {ty : TypeId} {pos : String} {af : Array Edge} {g : Option (Nat × Bool)} {x : Operand} {t a : TypeId} {ok : Bool} {v u : Value} (hx : ρ x = v) (hk : ∀ w, (Instr.typeAssert v t a ok).run P w = .ok u w) :
    (execOp ρ ⟨d, .typeAssert x t a ok, ty, pos, af, g⟩).run P w = .ok (.value u) w := by
  simp [execOp, hx, hk]
theorem rec_ret {Γ : Ctx GG} {h : Hp} {L : List HProp} {w : World} {eb i : Nat} {e : Int} (hS : St Γ h L w) (hi : L[i]? = some (row eb [.int .i64 e] 31)) :
    CallsD Tryz.prog 26 [Value.pointer (some ⟨eb, 0, none⟩)].toArray .returning w fun en u' w' => (∃ v, en = .returned v) ∧ u' = .returning ∧ St Γ h L w' := by
  refine callsD_recover (vrec := .nilIface) Tryz.func26 rfl Tryz.ntmps26 (Nat.le_of_ble_eq_true rfl) rfl rfl (fun ρ w => by rfl) (fun c0 cs hm => by simp [recoverD, hm]) ?_
  refine WL.val1 (R_typeAssert (v := .nilIface) (u := .tuple #[.agg #[.int .i64 0], .bool false]) rfl (fun _ => by kernel_rfl)) ?_
  refine WL.val1 (R_move (v := .tuple #[.agg #[.int .i64 0], .bool false]) rfl) ?_
  refine WL.val1 (R_extract (vs := ([.agg #[.int .i64 0], .bool false] : List Value).toArray) (v := .agg #[.int .i64 0]) rfl rfl) ?_
  refine WL.val1 (R_extract (vs := ([.agg #[.int .i64 0], .bool false] : List Value).toArray) (v := .bool false) rfl rfl) ?_
  refine S_alloc hS Tryz.zeroValue63 ?_
  intro w1 hS1
  refine S_store (i := 0) (b := w.heap.size) (l := [.int .i64 0]) (l' := [.int .i64 0]) (vs := [.int .i64 0]) (v := .agg #[.int .i64 0]) hS1 rfl rfl rfl Tryz.sizeOf63 rfl rfl rfl (Nat.le_of_ble_eq_true rfl) rfl rfl ?_
  intro w2 hS2
  refine WL.val1 (R_assign (v := .bool false) rfl) ?_
  refine WL.nil ?_
  refine then_normal ?_
  refine WC.seq ?_
  refine WC.region ?_
  refine WL.val1 (R_move (v := .bool false) rfl) ?_
  refine WL.nil ?_
  refine then_normal ?_
  refine WC.condF rfl ?_
  refine WC.skip ?_
  exact ⟨_, gives0 rfl, hS2.pop⟩
theorem rec_pan {Γ : Ctx GG} {h : Hp} {L : List HProp} {w : World} {eb i : Nat} {e k : Int} (hS : St Γ h L w) (hi : L[i]? = some (row eb [.int .i64 e] 31)) :
    CallsD Tryz.prog 26 [Value.pointer (some ⟨eb, 0, none⟩)].toArray (.panicking [{ v := .iface 63 (.agg #[.int .i64 k]), recovered := false }]) w fun en u' w' => (∃ v, en = .returned v) ∧ u' = .panicking [{ v := .iface 63 (.agg #[.int .i64 k]), recovered := true }] ∧ St Γ h (L.set i (row eb [.int .i64 k] 31)) w' := by
  refine callsD_recover (vrec := .iface 63 (.agg #[.int .i64 k])) Tryz.func26 rfl Tryz.ntmps26 (Nat.le_of_ble_eq_true rfl) rfl rfl (fun ρ w => by rfl) (fun c0 cs hm => by simp [recoverD, hm]) ?_
  refine WL.val1 (R_typeAssert (v := .iface 63 (.agg #[.int .i64 k])) (u := .tuple #[.agg #[.int .i64 k], .bool true]) rfl (fun _ => by kernel_rfl)) ?_
  refine WL.val1 (R_move (v := .tuple #[.agg #[.int .i64 k], .bool true]) rfl) ?_
  refine WL.val1 (R_extract (vs := ([.agg #[.int .i64 k], .bool true] : List Value).toArray) (v := .agg #[.int .i64 k]) rfl rfl) ?_
  refine WL.val1 (R_extract (vs := ([.agg #[.int .i64 k], .bool true] : List Value).toArray) (v := .bool true) rfl rfl) ?_
  refine S_alloc hS Tryz.zeroValue63 ?_
  intro w1 hS1
  refine S_store (i := 0) (b := w.heap.size) (l := [.int .i64 0]) (l' := [.int .i64 k]) (vs := [.int .i64 k]) (v := .agg #[.int .i64 k]) hS1 rfl rfl rfl Tryz.sizeOf63 rfl rfl rfl (Nat.le_of_ble_eq_true rfl) rfl rfl ?_
  intro w2 hS2
  refine WL.val1 (R_assign (v := .bool true) rfl) ?_
  refine WL.nil ?_
  refine then_normal ?_
  refine WC.seq ?_
  refine WC.region ?_
  refine WL.val1 (R_move (v := .bool true) rfl) ?_
  refine WL.nil ?_
  refine then_normal ?_
  refine WC.condT rfl ?_
  refine WC.region ?_
  refine WL.val1 (R_fieldAddr (b := w.heap.size) (off := 0) (m := 0) rfl (fun _ => by kernel_rfl)) ?_
  refine WL.val1 (R_load (v := .int .i64 k) rfl (hS2.has (i := 0) rfl) (Tryz.isAgg31 _) rfl) ?_
  have hi2 : (row w.heap.size [.int .i64 k] 63 :: L)[i + 1]? = some (row eb [.int .i64 e] 31) := by simpa using hi
  refine S_store (i := i + 1) (b := eb) (l := [.int .i64 e]) (l' := [.int .i64 k]) (vs := [.int .i64 k]) (v := .int .i64 k) hS2 rfl rfl hi2 Tryz.sizeOf31 rfl rfl rfl (Nat.le_of_ble_eq_true rfl) rfl rfl ?_
  intro w3 hS3
  refine WL.nil ?_
  exact ⟨_, gives0 rfl, hS3.pop⟩
end Go.Stet
