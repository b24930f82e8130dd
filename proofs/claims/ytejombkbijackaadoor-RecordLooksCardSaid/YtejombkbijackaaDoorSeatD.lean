/- The library's contracts over this seat's translation. No condition beyond each one's own. -/
import Derived.Test.YtejombkbijackaaDoorSpec2
import Derived.Test.YtejombkbijackaaDoorShelfD
set_option linter.all false
set_option linter.unusedSimpArgs false
set_option linter.unusedVariables false
namespace Go.Stet
open Go Go.Eng Go.Proofs
/-- what holds in all worlds on the way: the library's table of powers reads as it is laid -/
abbrev GG : World → Prop := fun w => Lib.TabIs Tryd.prog w "internal/strconv.uint64pow10" .u64 Lib.pow10Tab ∧ w.cell? ⟨2, 0, none⟩ = some (.iface 148 (.agg #[.pointer (some ⟨5, 102, none⟩)]))
theorem ext_grown (w : World) (k : Nat) (os : Array Obj) : Ext w (Sort.grow (w.drewN k) os) :=
  ⟨rfl, rfl, rfl, by simp [Sort.grow, World.drewN], fun b hb _ => by
    show (w.heap ++ os)[b]? = _
    rw [Array.getElem?_append_left hb]⟩
theorem lib_Itoa (n : Int) (h0 : -9223372036854775808 ≤ n) (h1 : n ≤ 9223372036854775807) : PureC GG Tryd.prog 42 (fun _ => True) [.int .i64 n] (.string (B (Lib.itoa n))) := by
  intro Γ h L w _ hS
  refine Ret.of (Tryd.strconv_Itoa n h0 h1 w hS.g.1) ?_
  rintro e w' ⟨he, k, os, hw⟩
  subst hw
  exact ⟨_, he, rfl, hS.ext (ext_grown w k os)⟩
theorem lib_Compare (a b : Str) : PureC GG Tryd.prog 40 (fun _ => True) [.string (B a), .string (B b)] (.int .i64 (Lib.compareBytes a b)) := by
  intro Γ h L w _ hS
  refine Ret.of (Tryd.strings_Compare (B a) (B b) w) ?_
  rintro e w' ⟨he, hw⟩
  subst hw
  exact ⟨_, he, rfl, hS⟩
theorem lib_IndexByte (s : Str) (c : Int) : PureC GG Tryd.prog 58 (fun _ => True) [.string (B s), .int .u8 c] (.int .i64 (Lib.indexByte s c.toNat.toUInt8)) := by
  intro Γ h L w _ hS
  refine Ret.of (Tryd.strings_IndexByte (B s) c w) ?_
  rintro e w' ⟨he, hw⟩
  subst hw
  exact ⟨_, he, rfl, hS⟩
theorem lib_Contains (l : List Str) (l_a : Option Addr) (l_c : Nat) (x : Str) (hl : l.length ≤ 9223372036854775807) : PureC GG Tryd.prog 20 (fun h => Sl Rstr h l l_a l_c) [.slice l_a l.length l_c, .string (B x)] (.bool (decide (x ∈ l))) := by
  intro Γ h L w hs hS
  by_cases h0 : l = []
  · subst h0
    refine Ret.of (Tryd.slices_Contains_string_empty l_a l_c (B x) w) ?_
    rintro e w' ⟨he, hw⟩
    subst hw
    exact ⟨_, he, by simp, hS⟩
  · obtain ⟨y, ys, rfl⟩ : ∃ y ys, l = y :: ys := by cases l with | nil => exact absurd rfl h0 | cons y ys => exact ⟨y, ys, rfl⟩
    obtain ⟨b, o, cs, ha, _, _⟩ := hs.2 0 y rfl
    subst ha
    refine Ret.of (Tryd.slices_Contains_string b o (y :: ys).length l_c ((y :: ys).map B) (B x) w (by simp) hl fun j hj => ?_) ?_
    · have hj' : j < (y :: ys).length := by simpa using hj
      obtain ⟨z, hz⟩ := some_of_lt hj'
      obtain ⟨b', o', cs', ha', hr', arr, e, fz, hat1, hat2⟩ := hs.2 j z hz
      injection ha' with ha'
      injection ha' with hb' ho'
      subst hb'; subst ho'
      have : cs' = [.string (B z)] := hr'
      subst this
      have h3 := hat2 0 _ rfl
      have : (Rstr).n = 1 := rfl
      rw [this, Nat.mul_one, Nat.add_zero] at h3
      rw [cell_row (hS.hin _ _ hat1), h3, List.getD_eq_getElem?_getD, List.getElem?_map, hz]
      rfl
    · rintro e w' ⟨he, hw⟩
      subst hw
      refine ⟨_, he, ?_, hS⟩
      apply congrArg Value.bool
      rw [Bool.eq_iff_iff, decide_eq_true_eq, List.take_of_length_le (by simp), Lib.containsS_iff, List.mem_map]
      constructor
      · rintro ⟨z, hz, hB⟩
        rw [← B_inj hB]; exact hz
      · intro hx
        exact ⟨x, hx, rfl⟩
end Go.Stet
