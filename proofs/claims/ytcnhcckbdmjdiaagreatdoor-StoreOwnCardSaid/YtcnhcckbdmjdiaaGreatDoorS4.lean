/- What the layers compute, in plain Lean, and laws about that. Each under the conditions that its own statement names. -/
import Derived.Test.YtcnhcckbdmjdiaaGreatDoorSeatS3
import Derived.Test.YtcnhcckbdmjdiaaGreatDoorBldS
import Derived.Test.YtcnhcckbdmjdiaaGreatDoorEng18
import Derived.Test.YtcnhcckbdmjdiaaGreatDoorSpecS1
import Derived.Test.YtcnhcckbdmjdiaaGreatDoorS3
set_option linter.all false
set_option linter.unusedSimpArgs false
set_option linter.unusedVariables false
namespace Go.Stet
open Go Go.Eng Go.Proofs
set_option maxHeartbeats 400000 in
theorem bld_Write (t_b : Nat) (p : Value) (l : List UInt8) (l_a : Option Addr) (l_c : Nat) (s : Str) (hp : p = .pointer none ∨ p = .pointer (some ⟨t_b, 0, none⟩)) (hl : l.length + s.length ≤ 1000000000000) : MutL GG Tryz.prog 41 (fun _ => True) [.pointer (some ⟨t_b, 0, none⟩), .string (B (s))] (fun h => [row (t_b) [p, .slice (l_a) (l).length (l_c)] 88, grow 5 Rby h (l) (l_a) (l_c)]) (fun h A v => ∃ (a2 : Option Addr) (c2 : Nat), v = .tuple #[.int .i64 (((s.length : Nat) : Int)), .nilIface] ∧ A = [row (t_b) [.pointer (some ⟨t_b, 0, none⟩), .slice (a2) ((l ++ s)).length (c2)] 88, grow 5 Rby h ((l ++ s)) (a2) (c2)]) := by
  intro Γ h L w hpre hS
  refine Ret.body Tryz.func41 rfl Tryz.ntmps41 (Nat.le_of_ble_eq_true rfl) ?_
  have hS : St Γ h (row (t_b) [p, .slice (l_a) (l).length (l_c)] 88 :: grow 5 Rby h (l) (l_a) (l_c) :: L) w := hS
  refine WC.seq ?_
  refine WC.region ?_
  refine WL.val1 (R_assign (v := .int .i64 (0)) rfl) ?_
  refine WL.val1 (R_assign (v := .nilIface) rfl) ?_
  refine WL.nil ?_
  refine then_normal ?_
  refine WC.seq ?_
  refine WC.region ?_
  refine WL.val1 (R_move (v := .pointer (some ⟨t_b, 0, none⟩)) rfl) ?_
  have hS8 : St Γ h (row (t_b) [p, .slice (l_a) (l).length (l_c)] 88 :: emp :: grow 5 Rby h (l) (l_a) (l_c) :: L) w := hS.front (i := 0) rfl
  refine S_callL (vs := [.pointer (some ⟨t_b, 0, none⟩)]) (A := fun _ => [row (t_b) [p, .slice (l_a) (l).length (l_c)] 88]) (L := emp :: grow 5 Rby h (l) (l_a) (l_c) :: L) hS8 Tryz.call56 rfl (copyCheck_M t_b (p) (.slice (l_a) (l).length (l_c)) hp) trivial ?_
  intro h3 A4 v5 w2 hl6 hp7 hS1
  obtain rfl := hp7
  have hS1 : St Γ h3 (row (t_b) [.pointer (some ⟨t_b, 0, none⟩), .slice (l_a) (l).length (l_c)] 88 :: emp :: grow 5 Rby h (l) (l_a) (l_c) :: L) w2 := hS1
  have hS9 : St Γ h3 (row (t_b) [.pointer (some ⟨t_b, 0, none⟩), .slice (l_a) (l).length (l_c)] 88 :: grow 5 Rby h (l) (l_a) (l_c) :: L) w2 := St.back (L := row (t_b) [.pointer (some ⟨t_b, 0, none⟩), .slice (l_a) (l).length (l_c)] 88 :: grow 5 Rby h (l) (l_a) (l_c) :: L) (i := 0) hS1 rfl
  refine WL.nil ?_
  refine then_normal ?_
  refine WC.seq ?_
  refine WC.region ?_
  refine WL.val1 (R_move (v := .pointer (some ⟨t_b, 0, none⟩)) rfl) ?_
  refine WL.val1 (R_move (v := .pointer (some ⟨t_b, 0, none⟩)) rfl) ?_
  refine WL.val1 (R_nilCheck rfl) ?_
  refine WL.val1 (R_fieldAddr (b := t_b) (off := 0) (m := 1) rfl (fun _ => by kernel_rfl)) ?_
  refine WL.val1 (R_load (v := .slice (l_a) (l).length (l_c)) rfl (hS9.has (i := 0) rfl) (Tryz.isAgg86 _) rfl) ?_
  refine WL.val1 (R_move (v := .string (B (s))) rfl) ?_
  refine S_appendS (info := Tryz.t5) (xs := l) (ys := s) (a := l_a) (c := l_c) 1 Tryz.underlying86 Tryz.underlying9 (by kernel_rfl) rfl rfl rfl 1 rfl hS9 rfl hl6 rfl rfl (by (try simp only [List.length_append, List.length_cons, List.length_nil]); omega) (by (try simp only [List.length_append, List.length_cons, List.length_nil]); omega) ?_
  intro a10 c11 w12 hS13
  refine WL.val1 (R_nilCheck rfl) ?_
  refine WL.val1 (R_fieldAddr (b := t_b) (off := 0) (m := 1) rfl (fun _ => by kernel_rfl)) ?_
  refine S_store (i := 0) (b := t_b) (l := [.pointer (some ⟨t_b, 0, none⟩), .slice (l_a) (l).length (l_c)]) (l' := [.pointer (some ⟨t_b, 0, none⟩), .slice (a10) ((l ++ s)).length (c11)]) (vs := [.slice (a10) ((l ++ s)).length (c11)]) (v := .slice (a10) ((l ++ s)).length (c11)) hS13 rfl rfl rfl Tryz.sizeOf86 rfl rfl rfl (Nat.le_of_ble_eq_true rfl) rfl rfl ?_
  intro w15 hS14
  refine WL.nil ?_
  refine then_normal ?_
  refine WC.seq ?_
  refine WC.region ?_
  refine WL.val1 (R_move (v := .string (B (s))) rfl) ?_
  refine WL.val1 (R_slen (a := s) rfl Tryz.underlying9) ?_
  refine WL.val1 (R_assign (v := .int .i64 ((((s).length : Nat) : Int))) rfl) ?_
  refine WL.val1 (R_assign (v := .nilIface) rfl) ?_
  refine WL.nil ?_
  refine then_normal ?_
  refine WC.ret ?_
  refine top_ret (.tuple #[.int .i64 ((((s).length : Nat) : Int)), .nilIface]) (gives2 rfl rfl rfl) ?_
  exact ⟨h3, [row (t_b) [.pointer (some ⟨t_b, 0, none⟩), .slice (a10) ((l ++ s)).length (c11)] 88, grow 5 Rby h3 ((l ++ s)) (a10) (c11)], hl6, ⟨a10, c11, (by first | rfl | (simp; done)), (by first | rfl | (rw [e_]; done) | (rw [e_]; rfl))⟩, hS14⟩
end Go.Stet
