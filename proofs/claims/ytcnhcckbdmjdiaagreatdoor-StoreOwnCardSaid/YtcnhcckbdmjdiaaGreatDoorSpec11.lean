/- What the layers compute, in plain Lean, and laws about that. Each under the conditions that its own statement names. -/
import Derived.Test.YtcnhcckbdmjdiaaGreatDoorSpec10
import Derived.KernelRfl
set_option linter.all false
set_option linter.unusedSimpArgs false
set_option linter.unusedVariables false
namespace Go.Stet
open Go Go.Eng
/-! ### the calls that the document fixes -/
def fx1 : Rec := ⟨[114], [⟨[97], false, []⟩, ⟨[98], true, [116]⟩], [⟨[99], [117]⟩]⟩
def fxs : Rec := ⟨[115], [], []⟩
def fs1 : Str := [53, 58, 115, 116, 101, 116, 49, 44, 51, 54, 58, 49, 58, 114, 44, 49, 55, 58, 49, 58, 97, 44, 49, 58, 45, 44, 49, 58, 98, 44, 50, 58, 43, 116, 44, 44, 56, 58, 49, 58, 99, 44, 49, 58, 117, 44, 44, 44]
def fm1 : List File := [⟨[98], [116]⟩, ⟨[99], [117]⟩]
theorem fx_enc : encS [fx1] = (fs1, 0) := by decide +kernel
theorem fx_enc0 : encS [] = (putS tag, 0) := by rw [encS, if_pos (by decide +kernel), recsS, List.map_nil, List.flatten_nil, List.append_nil]
theorem fx_tag : putS tag = [53, 58, 115, 116, 101, 116, 49, 44] := by decide +kernel
theorem fx_enc2 : encS [fx1, fx1] = ([], 5) := by decide +kernel
theorem fx_dec : decTake fs1 = ([fx1], 0) := by
  have h := enc_back (l := [fx1]) (s := fs1) (by rw [fx_enc]) (by rw [fx_enc]) (by decide)
  rw [decTake, h.1, if_neg (by decide), fx_enc, if_neg (by simp)]
theorem fx_dec0 : decTake [] = ([], 5) := by kernel_rfl
theorem fx_find : rfindS [fx1] [114] = (fx1, true) := by kernel_rfl
theorem fx_find2 : rfindS [fx1] [115] = (⟨[], [], []⟩, false) := by kernel_rfl
theorem fx_put : rputS [fx1] fxs = [fx1, fxs] := by kernel_rfl
theorem fx_put2 : rputS [fx1, fxs] fx1 = [fx1, fxs] := by kernel_rfl
theorem fx_same : sameS [fx1] [fx1] = true := sameS_refl _
theorem fx_fresh : freshS fx1 fm1 = true := by kernel_rfl
theorem fx_fresh1 : freshS fx1 (fm1.drop 1) = false := by kernel_rfl
theorem fx_fresh2 : freshS fx1 (fm1.take 1) = false := by kernel_rfl
theorem fx_look : rlookS fm1 [[97], [98], [97]] = [⟨[97], false, []⟩, ⟨[98], true, [116]⟩] := by kernel_rfl
theorem fx_sz : SzL [fx1] := by decide +kernel
end Go.Stet
