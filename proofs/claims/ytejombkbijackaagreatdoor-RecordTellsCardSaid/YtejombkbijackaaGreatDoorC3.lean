/- Contracts of functions of the program, of the references and of the law: each says what the function returns, in plain Lean, and that it leaves all memory as it was; each under the conditions that its own statement names. -/
import Derived.Test.YtejombkbijackaaGreatDoorSeatZ2
import Derived.Test.YtejombkbijackaaGreatDoorBldZ
import Derived.Test.YtejombkbijackaaGreatDoorEng13
import Derived.Test.YtejombkbijackaaGreatDoorSpec11
import Derived.Test.YtejombkbijackaaGreatDoorC2
set_option linter.all false
set_option linter.unusedSimpArgs false
set_option linter.unusedVariables false
namespace Go.Stet
open Go Go.Eng Go.Proofs
set_option maxHeartbeats 400000 in
theorem ref01_Digits (n : Nat) (hn : n ≤ 1000000000) : PureC GG Tryz.prog 32 (fun _ => True) [.int .i64 (((n : Nat) : Int))] (.string (B (digitsS n))) := by
  induction n using Nat.strongRecOn with
  | _ n ih =>
  intro Γ h L w hpre hS
  have hd := digitsS_len (n / 10) (by omega)
  refine Ret.body Tryz.func32 rfl Tryz.ntmps32 (Nat.le_of_ble_eq_true rfl) ?_
  refine WC.seq ?_
  refine WC.region ?_
  refine WL.val1 (R_assign (v := .string (B (([] : Str)))) rfl) ?_
  refine WL.nil ?_
  refine then_normal ?_
  refine WC.seq ?_
  refine WC.region ?_
  refine WL.val1 (R_move (v := .int .i64 (((n : Nat) : Int))) rfl) ?_
  refine WL.val1 (R_rem_i (a := ((n : Nat) : Int)) (b := 10) rfl rfl (by omega) (by omega)) ?_
  refine WL.val1 (R_add_i (a := 48) (b := (((n : Nat) : Int) % 10)) rfl rfl (by omega)) ?_
  refine WL.val1 (R_conv_u8 (a := (48 + (((n : Nat) : Int) % 10))) rfl Tryz.underlying3 Tryz.underlying5 (by omega)) ?_
  refine S_buildSliceC (R := Rby) (m := 1) (vs := [(0, .int .u8 ((48 + (((n : Nat) : Int) % 10))))]) (cells := [.int .u8 ((48 + (((n : Nat) : Int) % 10)))]) (xs := [(UInt8.ofNat ((48 + (((n : Nat) : Int) % 10))).toNat)]) hS Tryz.underlying89 Tryz.sizeOf5 Tryz.zeroValue5 (by decide) (by decide) rfl (by kernel_rfl) (by exact (⟨[.int .u8 ((48 + (((n : Nat) : Int) % 10)))], _, rfl, (Rby_of (by omega)), rfl⟩ : Flat Rby _ [(UInt8.ofNat ((48 + (((n : Nat) : Int) % 10))).toNat)] _)) rfl ?_
  intro h3 b5 w2 hl4 hs6 hS1
  refine WL.val1 (R_b2s (l := [(UInt8.ofNat ((48 + (((n : Nat) : Int) % 10))).toNat)]) hS1 hs6 rfl Tryz.underlying89 Tryz.underlying5 Tryz.underlying9 (by simp)) ?_
  refine WL.val1 (R_assign (v := .string (B ([(UInt8.ofNat ((48 + (((n : Nat) : Int) % 10))).toNat)]))) rfl) ?_
  refine WL.nil ?_
  refine then_normal ?_
  refine WC.seq ?_
  refine WC.seq ?_
  refine WC.region ?_
  refine WL.val1 (R_move (v := .int .i64 (((n : Nat) : Int))) rfl) ?_
  refine WL.val1 (R_lss (a := ((n : Nat) : Int)) (b := 10) rfl rfl) ?_
  refine WL.nil ?_
  refine then_normal ?_
  refine WC.condP (((n : Nat) : Int) < 10) rfl (fun c0 => ?_) (fun c0 => ?_)
  · skip
    refine WC.seq ?_
    refine WC.region ?_
    refine WL.val1 (R_move (v := .string (B ([(UInt8.ofNat ((48 + (((n : Nat) : Int) % 10))).toNat)]))) rfl) ?_
    refine WL.val1 (R_assign (v := .string (B ([(UInt8.ofNat ((48 + (((n : Nat) : Int) % 10))).toNat)]))) rfl) ?_
    refine WL.nil ?_
    refine then_normal ?_
    refine WC.ret ?_
    refine then_ret ?_
    refine top_ret (.string (B ([(UInt8.ofNat ((48 + (((n : Nat) : Int) % 10))).toNat)]))) (gives1 rfl rfl) ?_
    exact ⟨(by apply congrArg Value.string; apply congrArg B; exact (digitsS_lo n _ (by omega) (by omega)).symm), (hS1.weaken_h hl4)⟩
  · skip
    refine WC.skip ?_
    refine then_normal ?_
    refine WC.seq ?_
    refine WC.region ?_
    refine WL.val1 (R_move (v := .int .i64 (((n : Nat) : Int))) rfl) ?_
    refine WL.val1 (R_quo_i (a := ((n : Nat) : Int)) (b := 10) rfl rfl (by omega) (by omega)) ?_
    refine S_callP (vs := [.int .i64 ((((n : Nat) : Int) / 10))]) hS1 Tryz.call32 rfl (ih ((n / 10)) (by omega) (by first | assumption | omega)) trivial ?_
    intro w8 hS7
    refine WL.val1 (R_move (v := .string (B ([(UInt8.ofNat ((48 + (((n : Nat) : Int) % 10))).toNat)]))) rfl) ?_
    refine WL.val1 (R_sadd (a := digitsS ((n / 10))) (b := [(UInt8.ofNat ((48 + (((n : Nat) : Int) % 10))).toNat)]) rfl rfl (by (try simp only [List.length_append, List.length_cons, List.length_nil]); omega)) ?_
    refine WL.val1 (R_assign (v := .string (B ((digitsS ((n / 10)) ++ [(UInt8.ofNat ((48 + (((n : Nat) : Int) % 10))).toNat)])))) rfl) ?_
    refine WL.nil ?_
    refine then_normal ?_
    refine WC.ret ?_
    refine top_ret (.string (B ((digitsS ((n / 10)) ++ [(UInt8.ofNat ((48 + (((n : Nat) : Int) % 10))).toNat)])))) (gives1 rfl rfl) ?_
    exact ⟨(by apply congrArg Value.string; apply congrArg B; exact (digitsS_hi n _ (by omega) (by omega)).symm), (hS7.weaken_h hl4)⟩
set_option maxHeartbeats 400000 in
theorem ref03_Put (s : Str) (hs : s.length ≤ 1000000000) : PureC GG Tryz.prog 16 (fun _ => True) [.string (B (s))] (.string (B (putS s))) := by
  intro Γ h L w hpre hS
  have hd := digitsS_len s.length hs
  refine Ret.body Tryz.func16 rfl Tryz.ntmps16 (Nat.le_of_ble_eq_true rfl) ?_
  refine WC.seq ?_
  refine WC.region ?_
  refine WL.val1 (R_assign (v := .string (B (([] : Str)))) rfl) ?_
  refine WL.nil ?_
  refine then_normal ?_
  refine WC.seq ?_
  refine WC.region ?_
  refine WL.val1 (R_move (v := .string (B (s))) rfl) ?_
  refine WL.val1 (R_slen (a := s) rfl Tryz.underlying9) ?_
  refine S_callP (vs := [.int .i64 ((((s).length : Nat) : Int))]) hS Tryz.call32 rfl (ref01_Digits ((s).length) (by first | assumption | omega)) trivial ?_
  intro w2 hS1
  refine WL.val1 (R_sadd (a := digitsS ((s).length)) (b := ([58] : Str)) rfl rfl (by (try simp only [List.length_append, List.length_cons, List.length_nil]); omega)) ?_
  refine WL.val1 (R_move (v := .string (B (s))) rfl) ?_
  refine WL.val1 (R_sadd (a := (digitsS ((s).length) ++ ([58] : Str))) (b := s) rfl rfl (by (try simp only [List.length_append, List.length_cons, List.length_nil]); omega)) ?_
  refine WL.val1 (R_sadd (a := ((digitsS ((s).length) ++ ([58] : Str)) ++ s)) (b := ([44] : Str)) rfl rfl (by (try simp only [List.length_append, List.length_cons, List.length_nil]); omega)) ?_
  refine WL.val1 (R_assign (v := .string (B ((((digitsS ((s).length) ++ ([58] : Str)) ++ s) ++ ([44] : Str))))) rfl) ?_
  refine WL.nil ?_
  refine then_normal ?_
  refine WC.ret ?_
  refine top_ret (.string (B ((((digitsS ((s).length) ++ ([58] : Str)) ++ s) ++ ([44] : Str))))) (gives1 rfl rfl) ?_
  exact ⟨(by rfl), hS1⟩
set_option maxHeartbeats 400000 in
theorem wire_Put (s : Str) (hs : s.length ≤ 1000000000) : PureC GG Tryz.prog 14 (fun _ => True) [.string (B (s))] (.string (B (putS s))) := by
  intro Γ h L w hpre hS
  have hd := digitsS_len s.length hs
  have hi := itoa_digits s.length
  have hi2 : (Lib.itoa s.length).length ≤ 10 := by rw [hi]; exact hd
  refine Ret.body Tryz.func14 rfl Tryz.ntmps14 (Nat.le_of_ble_eq_true rfl) ?_
  refine WC.seq ?_
  refine WC.region ?_
  refine WL.val1 (R_assign (v := .string (B (([] : Str)))) rfl) ?_
  refine WL.nil ?_
  refine then_normal ?_
  refine WC.seq ?_
  refine WC.region ?_
  refine WL.val1 (R_move (v := .string (B (s))) rfl) ?_
  refine WL.val1 (R_slen (a := s) rfl Tryz.underlying9) ?_
  refine S_callP (vs := [.int .i64 ((((s).length : Nat) : Int))]) hS Tryz.call30 rfl (lib_Itoa ((((s).length : Nat) : Int)) (by first | assumption | omega) (by first | assumption | omega)) trivial ?_
  intro w2 hS1
  refine WL.val1 (R_sadd (a := (Lib.itoa ((((s).length : Nat) : Int)))) (b := ([58] : Str)) rfl rfl (by (try simp only [List.length_append, List.length_cons, List.length_nil]); omega)) ?_
  refine WL.val1 (R_move (v := .string (B (s))) rfl) ?_
  refine WL.val1 (R_sadd (a := ((Lib.itoa ((((s).length : Nat) : Int))) ++ ([58] : Str))) (b := s) rfl rfl (by (try simp only [List.length_append, List.length_cons, List.length_nil]); omega)) ?_
  refine WL.val1 (R_sadd (a := (((Lib.itoa ((((s).length : Nat) : Int))) ++ ([58] : Str)) ++ s)) (b := ([44] : Str)) rfl rfl (by (try simp only [List.length_append, List.length_cons, List.length_nil]); omega)) ?_
  refine WL.val1 (R_assign (v := .string (B (((((Lib.itoa ((((s).length : Nat) : Int))) ++ ([58] : Str)) ++ s) ++ ([44] : Str))))) rfl) ?_
  refine WL.nil ?_
  refine then_normal ?_
  refine WC.ret ?_
  refine top_ret (.string (B (((((Lib.itoa ((((s).length : Nat) : Int))) ++ ([58] : Str)) ++ s) ++ ([44] : Str))))) (gives1 rfl rfl) ?_
  exact ⟨(by rw [hi]; rfl), hS1⟩
end Go.Stet
