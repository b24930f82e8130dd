/- The library's contracts over this seat's translation. No condition beyond each one's own. -/
import Derived.Test.YtcnhcckbdmjdiaaGreatDoorSpec2
import Derived.Test.YtcnhcckbdmjdiaaGreatDoorShelfS
set_option linter.all false
set_option linter.unusedSimpArgs false
set_option linter.unusedVariables false
namespace Go.Stet
open Go Go.Eng Go.Proofs
/-- what holds in all worlds on the way: the library's table of powers reads as it is laid -/
abbrev GG : World → Prop := fun w => Lib.TabIs Tryz.prog w "internal/strconv.uint64pow10" .u64 Lib.pow10Tab ∧ w.cell? ⟨4, 0, none⟩ = some (.iface 165 (.agg #[.pointer (some ⟨7, 90, none⟩)]))
theorem ext_grown (w : World) (k : Nat) (os : Array Obj) : Ext w (Sort.grow (w.drewN k) os) :=
  ⟨rfl, rfl, rfl, by simp [Sort.grow, World.drewN], fun b hb _ => by
    show (w.heap ++ os)[b]? = _
    rw [Array.getElem?_append_left hb]⟩
theorem lib_Itoa (n : Int) (h0 : -9223372036854775808 ≤ n) (h1 : n ≤ 9223372036854775807) : PureC GG Tryz.prog 49 (fun _ => True) [.int .i64 n] (.string (B (Lib.itoa n))) := by
  intro Γ h L w _ hS
  refine Ret.of (Tryz.strconv_Itoa n h0 h1 w hS.g.1) ?_
  rintro e w' ⟨he, k, os, hw⟩
  subst hw
  exact ⟨_, he, rfl, hS.ext (ext_grown w k os)⟩
theorem lib_IndexByte (s : Str) (c : Int) : PureC GG Tryz.prog 57 (fun _ => True) [.string (B s), .int .u8 c] (.int .i64 (Lib.indexByte s c.toNat.toUInt8)) := by
  intro Γ h L w _ hS
  refine Ret.of (Tryz.strings_IndexByte (B s) c w) ?_
  rintro e w' ⟨he, hw⟩
  subst hw
  exact ⟨_, he, rfl, hS⟩
end Go.Stet
