/- What the layers compute, in plain Lean, and laws about that. Each under the conditions that its own statement names. -/
import Derived.Test.YtcnhcckbdmjdiaaGreatDoorAsS2
import Derived.Test.YtcnhcckbdmjdiaaGreatDoorEng8
set_option linter.all false
set_option linter.unusedSimpArgs false
set_option linter.unusedVariables false
namespace Go.Stet
open Go Go.Eng Go.Proofs
theorem as_M (b o : Nat) (e : Int) (tb : Nat) (old : Value) : MutC GG Tryz.prog 80 (fun h A => At h b (o + 1) [.int .i64 e] ∧ A = row tb [old] 31)
    [.iface 130 (.pointer (some ⟨b, o, none⟩)), .iface 136 (.pointer (some ⟨tb, 0, none⟩))] (fun _ A v => v = .bool true ∧ A = row tb [.int .i64 e] 31) := by
  rintro Γ h L w A ⟨hat, rfl⟩ hS
  have hb : w.heap[tb]? = some (.cells #[old] 31 (0, 0)) := hS.has (i := 0) rfl
  have hp : w.cell? ⟨b, o + 1, none⟩ = some (.int .i64 e) := by
    obtain ⟨arr, u, fz, h1, h2⟩ := hat
    rw [cell_row (hS.hin _ _ h1)]
    exact h2 0 _ rfl
  refine Ret.of (z_as b o e ⟨tb, 0, none⟩ old w hS.g.2 hp (by rw [cell_row hb]; rfl) (Lib.frozen_of_heap hb 0)) ?_
  rintro ev w' ⟨rfl, rfl⟩
  refine ⟨_, rfl, h, _, Hp.le_refl _, ⟨rfl, rfl⟩, ?_⟩
  have k := (((hS.alloc (.cells #[.pointer (some ⟨tb, 0, none⟩)] 136)).alloc (.cells #[.pointer (some ⟨7, 136, none⟩), .pointer (some ⟨w.heap.size, 0, none⟩), .int .u64 150] 150)).alloc (.cells #[.pointer (some ⟨7, 136, none⟩), .pointer (some ⟨w.heap.size, 0, none⟩), .int .u64 150] 150)).alloc (.cells #[.int .i64 e] 31)
  have k1 := k.has (i := 4) (b := tb) (o := .cells #[old] 31 (0, 0)) rfl
  have k2 := (k.setRow (i := 4) (b := tb) (l := [old]) (l' := [.int .i64 e]) (e := 31) rfl).pop.pop.pop.pop
  unfold asWorld
  rw [setCell_eq_setRow _ tb 0 _ _ _ _ k1]
  exact k2
end Go.Stet
