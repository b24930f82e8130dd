/- A part of the proof engine: rules for steps of the machine over frames and memory. Each under the conditions that its own statement names. -/
import Derived.Test.YtejombkbijackaaDoorSeatD2
import Derived.Test.YtejombkbijackaaDoorBldD
import Derived.Test.YtejombkbijackaaDoorEng15
import Derived.Test.YtejombkbijackaaDoorSpec12
import Derived.Test.YtejombkbijackaaDoorD2
set_option linter.all false
set_option linter.unusedSimpArgs false
set_option linter.unusedVariables false
namespace Go.Stet
open Go Go.Eng Go.Proofs
set_option maxHeartbeats 400000 in
theorem wire_Put (s : Str) (hs : s.length ≤ 1000000000) : PureC GG Tryd.prog 34 (fun _ => True) [.string (B (s))] (.string (B (putS s))) := by
  intro Γ h L w hpre hS
  have hd := digitsS_len s.length hs
  have hi := itoa_digits s.length
  have hi2 : (Lib.itoa s.length).length ≤ 10 := by rw [hi]; exact hd
  refine Ret.body Tryd.func34 rfl Tryd.ntmps34 (Nat.le_of_ble_eq_true rfl) ?_
  refine WC.seq ?_
  refine WC.region ?_
  refine WL.val1 (R_assign (v := .string (B (([] : Str)))) rfl) ?_
  refine WL.nil ?_
  refine then_normal ?_
  refine WC.seq ?_
  refine WC.region ?_
  refine WL.val1 (R_move (v := .string (B (s))) rfl) ?_
  refine WL.val1 (R_slen (a := s) rfl Tryd.underlying9) ?_
  refine S_callP (vs := [.int .i64 ((((s).length : Nat) : Int))]) hS Tryd.call42 rfl (lib_Itoa ((((s).length : Nat) : Int)) (by first | assumption | omega) (by first | assumption | omega)) trivial ?_
  intro w2 hS1
  refine WL.val1 (R_sadd (a := (Lib.itoa ((((s).length : Nat) : Int)))) (b := ([58] : Str)) rfl rfl (by (try simp only [List.length_append, List.length_cons, List.length_nil]); omega)) ?_
  refine WL.val1 (R_move (v := .string (B (s))) rfl) ?_
  refine WL.val1 (R_sadd (a := ((Lib.itoa ((((s).length : Nat) : Int))) ++ ([58] : Str))) (b := s) rfl rfl (by (try simp only [List.length_append, List.length_cons, List.length_nil]); omega)) ?_
  refine WL.val1 (R_sadd (a := (((Lib.itoa ((((s).length : Nat) : Int))) ++ ([58] : Str)) ++ s)) (b := ([44] : Str)) rfl rfl (by (try simp only [List.length_append, List.length_cons, List.length_nil]); omega)) ?_
  refine WL.val1 (R_assign (v := .string (B (((((Lib.itoa ((((s).length : Nat) : Int))) ++ ([58] : Str)) ++ s) ++ ([44] : Str))))) rfl) ?_
  refine WL.nil ?_
  refine then_normal ?_
  refine WC.ret ?_
  refine top_ret (.string (B (((((Lib.itoa ((((s).length : Nat) : Int))) ++ ([58] : Str)) ++ s) ++ ([44] : Str))))) (gives1 rfl rfl) ?_
  exact ⟨(by rw [hi]; rfl), hS1⟩
end Go.Stet
